/-
  A part of the proof: the texts PX, QP, PY, L1, L6, L4, L7, L8 of this seat, joined.
-/
import Derived.Test.YtphjbeffckignaaGreatWalkH
namespace Am.Vt
open Go Am
set_option maxRecDepth 100000
set_option maxHeartbeats 4000000
set_option linter.unusedSimpArgs false
set_option linter.unusedVariables false
variable {j:Job} {v:Vat} {plan:List Stp} {t:Truth} {s:Sh} {S:List Sh}
theorem sumN_le2 {ys ms:Sh→Nat} (h:∀s,ys s≤ms s):∀{l:List Sh},sumN ys l≤sumN ms l
  | []=>Nat.le_refl _
  | s::l=>by
    have:=sumN_le2 h (l:=l)
    have:=h s
    unfold sumN at *
    simp only [List.map_cons,List.sum_cons];omega
theorem sumN_all {ys ms:Sh→Nat} (h:∀s,ys s≤ms s):∀{l:List Sh},sumN ys l=sumN ms l↔∀s∈l,ys s=ms s
  | []=>by simp [sumN]
  | s::l=>by
    have ih:=sumN_all h (l:=l)
    have h1:=h s
    have h2:=sumN_le2 h (l:=l)
    have e1:sumN ys (s::l)=ys s+sumN ys l:=by simp [sumN]
    have e2:sumN ms (s::l)=ms s+sumN ms l:=by simp [sumN]
    rw [e1,e2]
    constructor
    · intro e x hx
      rcases List.mem_cons.1 hx with rfl | hx
      · omega
      · exact ih.1 (by omega) x hx
    · intro e
      have:=e s (by simp)
      have:=ih.2 fun x hx=>e x (by simp [hx])
      omega
theorem sumN_none {ys:Sh→Nat}:∀{l:List Sh},sumN ys l=0↔∀s∈l,ys s=0
  | []=>by simp [sumN]
  | s::l=>by
    have ih:=sumN_none (ys:=ys) (l:=l)
    have e1:sumN ys (s::l)=ys s+sumN ys l:=by simp [sumN]
    rw [e1]
    constructor
    · intro e x hx
      rcases List.mem_cons.1 hx with rfl | hx
      · omega
      · exact ih.1 (by omega) x hx
    · intro e
      have:=e s (by simp)
      have:=ih.2 fun x hx=>e x (by simp [hx])
      omega
theorem b2n_le1 {b:Bool}:b2n b≤1:=by cases b<;>decide
theorem ofB_mem {i:Nat}:∀{l:List Stp} {b:Nat},(∃s∈l,s.piece=i)→∀{z:Stp},ofB (l++[z]) i b=ofB l i b
  | [],_,⟨s,hs,_⟩,_=>by simp at hs
  | s::l,b,⟨x,hx,hxi⟩,z=>by
    rw [List.cons_append]
    by_cases hs:s.piece=i
    · simp only [ofB,hs,if_true]
    · simp only [ofB,hs,if_false]
      refine ofB_mem ?_
      rcases List.mem_cons.1 hx with rfl | hx
      · exact absurd hxi hs
      · exact ⟨x,hx,hxi⟩
theorem ofB_last {i:Nat} {z:Stp}:∀{l:List Stp} {b:Nat},(∀s∈l,s.piece≠i)→ofB (l++[z]) i b=if z.piece=i then (b+sumT l,z.dips.toNat) else (0,0)
  | [],b,_=>by simp only [List.nil_append,ofB,sumT,List.map_nil,List.sum_nil,Nat.add_zero]
  | s::l,b,h=>by
    rw [List.cons_append]
    simp only [ofB,h s (by simp),if_false]
    rw [ofB_last (l:=l) fun x hx=>h x (by simp [hx])]
    simp only [sumT,List.map_cons,List.sum_cons,Nat.add_assoc]
theorem ofK_dips {j:Job} {s:Sh} {plan:List Stp}:∀{k:Nat},k≤plan.length→(ofK j s plan k).2=sumT (plan.take k)
  | 0,_=>rfl
  | k+1,h=>by
    have:=ofK_dips (j:=j) (s:=s) (plan:=plan) (k:=k) (by omega)
    rw [take_getD (by omega:k<plan.length) default]
    show (ofK j s plan k).2+_=_
    rw [this];simp [sumT]
theorem ofK_at (ht:totalB j plan=true) {i:Nat} (hi:i<j.pieces.length):∀{k:Nat},k≤plan.length→(ofK j s plan k).1.getD i default=sumS s (ofB (plan.take k) i 0).1 (ofB (plan.take k) i 0).2
  | 0,_=>by
    have:(ofK j s plan 0).1=List.replicate j.pieces.length 0:=rfl
    rw [this,getD_lt _ _ _ (by simpa using hi)]
    simp [ofB,sumS,sumI]
  | k+1,h=>by
    have ih:=ofK_at ht hi (k:=k) (by omega)
    obtain ⟨p1,p2,p3,p4⟩:=total_parts ht
    have hk:k<plan.length:=by omega
    obtain ⟨q1,q2,q3,q4⟩:=step_at p2 hk
    have hl:=ofK_len (j:=j) (s:=s) (plan:=plan) (k:=k)
    obtain ⟨z,hz⟩:∃z,z=plan.getD k default:=⟨_,rfl⟩
    rw [←hz] at q1 q2
    have hset:(ofK j s plan (k+1)).1=(ofK j s plan k).1.set z.piece.toNat (sumS s (ofK j s plan k).2 z.dips.toNat):=by rw [hz];rfl
    rw [hset,take_getD hk default,←hz]
    have hfr:∀x∈plan.take k,x.piece≠z.piece:=by
      rw [distinctB,List.all_eq_true] at p3
      have:=p3 k (List.mem_range.2 hk)
      rw [freshB,Bool.not_eq_true',List.any_eq_false] at this
      intro x hx
      have:=this x hx
      simpa [hz] using this
    by_cases hzi:z.piece=i
    · have hn:∀x∈plan.take k,x.piece≠i:=fun x hx=>by rw [←hzi];exact hfr x hx
      rw [ofB_last hn,if_pos hzi,←ofK_dips (j:=j) (s:=s) (by omega),Nat.zero_add]
      have:z.piece.toNat=i:=by omega
      rw [this,getD_lt _ _ _ (by rw [List.length_set,hl];exact hi),List.getElem_set_self]
    · have hne:z.piece.toNat≠i:=by omega
      have hg:((ofK j s plan k).1.set z.piece.toNat (sumS s (ofK j s plan k).2 z.dips.toNat)).getD i default=(ofK j s plan k).1.getD i default:=by
        simp only [List.getD_eq_getElem?_getD,List.getElem?_set_ne hne]
      rw [hg,ih]
      by_cases hin:∃x∈plan.take k,x.piece=i
      · rw [ofB_mem hin]
      · have hn:∀x∈plan.take k,x.piece≠i:=fun x hx e=>hin ⟨x,hx,e⟩
        rw [ofB_last hn,if_neg hzi,ofB_none hn]
theorem ofS_at (ht:totalB j plan=true) {i:Nat} (hi:i<j.pieces.length):(ofS j s plan).getD i default=sumS s (ofB plan i 0).1 (ofB plan i 0).2:=by
  have:=ofK_at (s:=s) ht hi (Nat.le_refl _)
  rwa [List.take_length] at this
theorem sumT_take {k:Nat} (hk:k<plan.length):sumT (plan.take k)+(plan.getD k default).dips.toNat≤sumT plan:=by
  have:sumT plan=sumT (plan.take (k+1))+sumT (plan.drop (k+1)):=by
    unfold sumT
    rw [←List.sum_append,←List.map_append,List.take_append_drop]
  rw [this,take_getD hk default]
  simp [sumT]
theorem ofB_le (ht:totalB j plan=true) {i:Nat}:(ofB plan i 0).1+(ofB plan i 0).2≤20:=by
  obtain ⟨p1,p2,p3,p4⟩:=total_parts ht
  have hs:=sumT_eq p2
  by_cases h:∃s∈plan,s.piece=i
  · obtain ⟨k,hk,h1,h2⟩:∃k,k<plan.length∧(plan.getD k default).piece=i∧∀m,m<k→(plan.getD m default).piece≠i:=by
      obtain ⟨s,hs,he⟩:=h
      obtain ⟨n,hn,rfl⟩:=List.getElem_of_mem hs
      have hex:∃k,k<plan.length∧(plan.getD k default).piece=i:=⟨n,hn,by rw [getD_lt _ _ _ hn];exact he⟩
      obtain ⟨k,⟨hk1,hk2⟩,hk3⟩:∃k,(k<plan.length∧(plan.getD k default).piece=i)∧∀m,m<k→¬(m<plan.length∧(plan.getD m default).piece=i):=by
        induction n using Nat.strongRecOn with
        | ind n ih=>
          by_cases hm:∃m,m<n∧m<plan.length∧(plan.getD m default).piece=i
          · obtain ⟨m,hm1,hm2,hm3⟩:=hm
            exact ih m hm1 hm2 (List.getElem_mem hm2) (by rw [getD_lt _ _ _ hm2] at hm3;exact hm3)
          · exact ⟨n,⟨hn,by rw [getD_lt _ _ _ hn];exact he⟩,fun m hm' h=>hm ⟨m,hm',h.1,h.2⟩⟩
      exact ⟨k,hk1,hk2,fun m hm h=>hk3 m hm ⟨by omega,h⟩⟩
    rw [ofB_at hk h1 h2,Nat.zero_add]
    have:=sumT_take (plan:=plan) hk
    simp only
    omega
  · rw [ofB_none fun s hs e=>h ⟨s,hs,e⟩];simp
theorem right_all (ht:totalB j plan=true) {i:Nat} (hi:i<j.pieces.length):rightB7 j plan i=(workL j).all (rightP j plan i):=by
  rw [rightB7,rightW,decide_eq_true (ofB_le ht),Bool.true_and]
  congr 1
  funext s
  show _=inR ((ofS j s plan).getD i default) _ _
  rw [ofS_at ht hi];rfl
theorem vd_one {a b:Nat}:vd a b=1↔a=b:=by
  unfold vd
  by_cases h:a=b
  · simp [h]
  · rw [if_neg h]
    split<;>simp [h]
end Am.Vt
namespace Am.Vt
open Go Am
set_option maxRecDepth 100000
set_option maxHeartbeats 4000000
set_option linter.unusedSimpArgs false
set_option linter.unusedVariables false
variable {g1 g2 g3 g4 g5 g gt gd:Bool × Bool} {j:Job} {v:Vat} {plan:List Stp} {t:Truth} {s:Sh} {S:List Sh}
structure Wb where
  n:Nat
  h:n<256
instance : Inhabited Wb:=⟨⟨0,by decide⟩⟩
instance : Row Wb:=⟨1,fun s=>[.int .u8 s.n],fun _=>rfl⟩
instance : Scal Wb:=⟨fun _=>rfl⟩
@[go_sem] theorem sz_wb : Row.sz Wb=1:=rfl
@[go_sem] theorem row_wb {s:Wb}:Row.row s=[.int .u8 s.n]:=rfl
def wordB (ws:List Wb) (a:Nat):Nat:=if ws=[] then 0 else (ws.getD (a % ws.length) default).n
theorem wordB_lt {ws:List Wb} {a:Nat}:wordB ws a<256:=by
  unfold wordB
  split
  · decide
  · exact (ws.getD (a % ws.length) default).h
theorem mword {g:Bool × Bool} {ws:List Wb} {a:Nat} (ha:a≤1000) {Q:V→Prop}:CallP tab 53 [.c (L g ws),.c (.int .i64 a)] Q↔Q (.c (.int .i64 (wordB ws a:Nat))):=CallP_of (by
  refine Val_X (fn:=f53) rfl ?_
  by_cases h:ws=[]
  · subst h
    simp only [go_sem,f53,wordB,List.length_nil]
  · have hl:=List.length_pos_iff.2 h
    have hz:¬((ws.length:Nat):Int)=0:=by omega
    obtain ⟨m,hm⟩:∃m,m=a % ws.length:=⟨_,rfl⟩
    have hml:m<ws.length:=by rw [hm];exact Nat.mod_lt _ hl
    have e1:(a:Int).tmod ((ws.length:Nat):Int)=(m:Int):=by rw [hm];rfl
    have hw:wordB ws a=(ws.getD m default).n:=by rw [wordB,if_neg h,hm]
    have hb:=(ws.getD m default).h
    have e2:IntKind.i64.wrap ((ws.getD m default).n:Int)=((ws.getD m default).n:Int):=wrapB (by omega) (by omega)
    simp only [go_sem,f53,hz,e1,hml,atI_nat,hw,e2])
def insAt (l:List Stp) (k:Nat) (z:Stp):List Stp:=l.take k++[z]++l.drop k
def planK (ws:List Wb):Nat→List Stp × Int
  | 0=>([],20)
  | i+1=>if wordB ws i % 5=4 then planK ws i else (insAt (planK ws i).1 (wordB ws i % ((planK ws i).1.length+1)) ⟨i,min (planK ws i).2 ((wordB ws i / 8 % 8:Nat):Int)⟩,(planK ws i).2-min (planK ws i).2 ((wordB ws i / 8 % 8:Nat):Int))
def planW (j:Job) (ws:List Wb):List Stp:=(planK ws j.pieces.length).1
def OL (out:List Stp) (c:C) (H:List Obj):Prop:=(out=[]∧c = .nils)∨(out≠[]∧∃o ver,c = .sl o ver 0 out.length∧getH H o = .arr false ver 2 (out.map Row.row))
theorem planK_left {ws:List Wb}:∀{i:Nat},0≤(planK ws i).2∧(planK ws i).2≤20∧(planK ws i).1.length≤i
  | 0=>by simp [planK]
  | i+1=>by
    have ih:=planK_left (ws:=ws) (i:=i)
    simp only [planK]
    split
    · omega
    · simp only [insAt,List.length_append,List.length_take,List.length_drop,List.length_singleton]
      omega
theorem mPlan (h6:j.pieces.length≤6) {ws:List Wb}:∃b:Bool,Val tab 38 [jobV g1 g2 g3 g4 g5 j,.c (L g ws)] (.c (L (b,false) (planW j ws))):=by
  suffices h:CallP tab 38 [jobV g1 g2 g3 g4 g5 j,.c (L g ws)] (fun r=>∃b:Bool,r = .c (L (b,false) (planW j ws))) by
    obtain ⟨r,hval,b,rfl⟩:=h
    exact ⟨b,hval⟩
  refine CallP_X (fn:=f38) rfl ?_
  simp only [go_sem,f38]
  refine RX_whileU (α:=Nat × C × List Obj) (fun y=>[(5,.c y.2.1),(6,.c (.int .i64 (planK ws y.1).2)),(7,.c (.int .i64 (y.1:Nat)))]) (fun y=>.cells (jobC g1 g2 g3 g4 g5 j)::y.2.2) (fun y=>y.1≤j.pieces.length∧OL (planK ws y.1).1 y.2.1 (.cells (jobC g1 g2 g3 g4 g5 j)::y.2.2)) (fun y=>j.pieces.length-y.1) (0,.nils,[]) ⟨Nat.zero_le _,.inl ⟨rfl,rfl⟩⟩ (by simp only [go_sem]<;>rfl) ?_
  rintro ⟨i,c,X⟩ ⟨hi,hO⟩
  simp only at hi hO
  by_cases hlt:i<j.pieces.length
  · have e4:IntKind.i64.wrap ((i:Int)+1)=((i+1:Nat):Int):=wrap_succ (n:=3000) (by omega) (by decide)
    have hw:=fun {Q:V→Prop}=>mword (g:=g) (ws:=ws) (a:=i) (by omega) (Q:=Q)
    have hwl:=wordB_lt (ws:=ws) (a:=i)
    obtain ⟨w,hwe⟩:∃w,w=wordB ws i:=⟨_,rfl⟩
    rw [←hwe] at hw hwl
    have z5:¬(5:Int)=0:=by decide
    have e5:(w:Int).tmod 5=((w % 5:Nat):Int):=rfl
    by_cases h4:w % 5=4
    · have h4':((w % 5:Nat):Int)=4:=by omega
      have hp:planK ws (i+1)=planK ws i:=by rw [planK,←hwe,if_pos h4]
      simp only [go_sem,hlt,hw,e5,h4',e4]
      exact ⟨(i+1,c,X),⟨by simp only;omega,by simp only;omega,by simp only [hp];exact hO⟩,⟨rfl,by simp only [hp],rfl⟩,rfl⟩
    · have h4':¬((w % 5:Nat):Int)=4:=by omega
      have hp:planK ws (i+1)=(insAt (planK ws i).1 (w % ((planK ws i).1.length+1)) ⟨i,min (planK ws i).2 ((w / 8 % 8:Nat):Int)⟩,(planK ws i).2-min (planK ws i).2 ((w / 8 % 8:Nat):Int)):=by rw [planK,←hwe,if_neg h4]
      have pl:=planK_left (ws:=ws) (i:=i)
      have w1:IntKind.i64.wrap ((w:Int).tdiv 8)=((w / 8:Nat):Int):=wrapB (n:=((w / 8:Nat):Int)) (by omega) (by omega)
      have w2:((w / 8:Nat):Int).tmod 8=((w / 8 % 8:Nat):Int):=rfl
      obtain ⟨d,hd⟩:∃d,d=min (planK ws i).2 ((w / 8 % 8:Nat):Int):=⟨_,rfl⟩
      have w3:IntKind.i64.wrap ((planK ws i).2-d)=(planK ws i).2-d:=wrapB (by omega) (by omega)
      rw [←hd] at hp
      have z8:¬(8:Int)=0:=by decide
      rcases hO with ⟨h0,rfl⟩ | ⟨h0,o,ver,rfl,ho⟩
      · rw [h0] at hp
        simp only [List.length_nil,Nat.zero_add,Nat.mod_one] at hp
        have w4:(w:Int).tmod 1=0:=by have:(w:Int).tmod 1=((w % 1:Nat):Int):=rfl;rw [this,Nat.mod_one];rfl
        simp only [go_sem,hlt,hw,e5,h4',e4,w1,w2,←hd,w3,w4]
        refine ⟨(i+1,.sl (X.length+2) 3 0 1,_),⟨by simp only;omega,by simp only;omega,?_⟩,⟨rfl,by simp only [hp],rfl⟩,rfl⟩
        simp only [hp]
        refine .inr ⟨by simp [insAt],X.length+2,3,by simp [insAt],?_⟩
        rw [show X.length+2=(X.length+1)+1 by omega]
        simp only [go_sem,insAt,List.take_nil,List.drop_nil]
      · obtain ⟨n,hn⟩:∃n,n=(planK ws i).1.length:=⟨_,rfl⟩
        obtain ⟨k,hk⟩:∃k,k=w % (n+1):=⟨_,rfl⟩
        have hkn:k≤n:=by rw [hk];have:=Nat.mod_lt w (show n+1>0 by omega);omega
        have w5:IntKind.i64.wrap ((n:Int)+1)=((n+1:Nat):Int):=wrap_succ (n:=3000) (by omega) (by decide)
        have w6:¬((n+1:Nat):Int)=0:=by omega
        have w7:(w:Int).tmod ((n+1:Nat):Int)=(k:Int):=by rw [hk];rfl
        have k0:(0:Int)≤k:=by omega
        rw [←hn,←hk] at hp
        have lo:=lt_of_getH (h:=.cells (jobC g1 g2 g3 g4 g5 j)::X) (o:=o) (by rw [ho];simp)
        have hoX:∀Y,getH (.cells (jobC g1 g2 g3 g4 g5 j)::(X++Y)) o = .arr false ver 2 ((planK ws i).1.map Row.row):=fun Y=>getH_keep (X:=Y) ho (by simp)
        have c1:k≤n∧2=2:=⟨hkn,rfl⟩
        have n6:n≤6:=by omega
        have hkl:k≤(planK ws i).1.length:=by omega
        have hkd:k+(n-k)≤(planK ws i).1.length:=by omega
        have hh:∀l:List Stp,headLen 2 (l.map (Row.row (α:=Stp)))=true:=fun l=>headLen_map (sz:=2) rfl
        have tl:((planK ws i).1.take k).length=k:=by rw [List.length_take];omega
        have htd:((planK ws i).1.drop k).take (n-k)=(planK ws i).1.drop k:=List.take_of_length_le (by rw [List.length_drop];omega)
        have dl:((planK ws i).1.drop k).length=n-k:=by rw [List.length_drop];omega
        have b1:k*16≤2^40:=by omega
        have b2:(k+1)*16≤2^40:=by omega
        have b3:(k+(1+(n-k)))*16≤2^40:=by omega
        simp only [List.length_cons] at lo
        have z0:¬o=X.length+1:=by omega
        have z1:¬X.length+1=o:=by omega
        have z2:¬o=X.length+2:=by omega
        have z3:¬X.length+2=o:=by omega
        have z4:¬o=X.length+3:=by omega
        have z5:¬X.length+3=o:=by omega
        have z6:¬o=X.length+4:=by omega
        have z7:¬X.length+4=o:=by omega
        have z8:¬o=X.length+5:=by omega
        have z9:¬X.length+5=o:=by omega
        simp only [go_sem,hlt,hw,e5,h4',e4,w1,w2,←hd,w3,←hn,w5,w6,w7,k0,hoX,c1,hkn,z0,z1,z2,z3,z4,z5,z6,z7,z8,z9,takeN_L hkl,hh,List.length_map,tl,b1,part_L hkd,htd,dl,b2,b3]
        have hil:(insAt (planK ws i).1 k ⟨i,d⟩).length=k+(1+(n-k)):=by simp only [insAt,List.length_append,List.length_singleton,tl,dl,Nat.add_assoc]
        refine ⟨(i+1,.sl (X.length+2) 3 0 (k+(1+(n-k))),_),⟨by simp only;omega,by simp only;omega,?_⟩,⟨rfl,by simp only [hp],rfl⟩,rfl⟩
        simp only [hp]
        refine .inr ⟨by simp [insAt],X.length+2,3,by rw [hil],?_⟩
        rw [show X.length+2=(X.length+1)+1 by omega]
        simp only [go_sem,insAt,List.map_append,List.append_assoc]
  · have:i=j.pieces.length:=by omega
    subst this
    rcases hO with ⟨h0,rfl⟩ | ⟨h0,o,ver,rfl,ho⟩
    · simp only [go_sem,hlt]
      exact ⟨true,by rw [planW,h0];rfl⟩
    · have hpt:=part_map (l:=(planK ws j.pieces.length).1) (n:=(planK ws j.pieces.length).1.length) rfl
      simp only [part,dropN] at hpt
      simp only [go_sem,hlt,ho,hpt]
      exact ⟨false,rfl⟩
theorem sumD_app {a b:List Stp}:sumD (a++b)=sumD a+sumD b:=by
  unfold sumD
  rw [List.map_append]
  show (_:List Int).foldl _ _=_
  rw [List.foldl_append,foldl_add];rfl
theorem ins_perm {l:List Stp} {k:Nat} {z:Stp}:(insAt l k z).Perm (z::l):=by
  unfold insAt
  rw [List.append_assoc]
  refine List.Perm.trans List.perm_append_comm ?_
  rw [List.append_assoc]
  refine List.Perm.cons z ?_
  refine List.Perm.trans List.perm_append_comm ?_
  rw [List.append_nil]
  refine List.Perm.trans List.perm_append_comm ?_
  rw [List.take_append_drop]
theorem ins_sum {l:List Stp} {k:Nat} {z:Stp}:sumD (insAt l k z)=sumD l+z.dips:=by
  have h:sumD l=sumD (l.take k)+sumD (l.drop k):=by rw [←sumD_app,List.take_append_drop]
  have h1:sumD [z]=z.dips:=by simp [sumD,sumI]
  rw [insAt,sumD_app,sumD_app,h1,h];omega
structure PlanOk (n:Nat) (l:List Stp) (left:Int):Prop where
  rng:∀s∈l,0≤s.piece∧s.piece<n∧0≤s.dips∧s.dips≤20
  dis:l.Pairwise fun a b=>a.piece≠b.piece
  sum:sumD l+left=20
  left:0≤left
theorem planK_ok {ws:List Wb}:∀{i:Nat},PlanOk i (planK ws i).1 (planK ws i).2
  | 0=>⟨fun s hs=>by simp [planK] at hs,by simp [planK],rfl,by simp [planK]⟩
  | i+1=>by
    have ih:=planK_ok (ws:=ws) (i:=i)
    have pl:=planK_left (ws:=ws) (i:=i)
    simp only [planK]
    split
    · exact ⟨fun s hs=>by have:=ih.rng s hs;omega,ih.dis,ih.sum,ih.left⟩
    · obtain ⟨d,hd⟩:∃d,d=min (planK ws i).2 ((wordB ws i / 8 % 8:Nat):Int):=⟨_,rfl⟩
      simp only [←hd]
      have hp:=ins_perm (l:=(planK ws i).1) (k:=wordB ws i % ((planK ws i).1.length+1)) (z:=⟨i,d⟩)
      refine ⟨fun s hs=>?_,?_,?_,by omega⟩
      · rcases List.mem_cons.1 (hp.mem_iff.1 hs) with rfl | hs
        · simp only;omega
        · have:=ih.rng s hs;omega
      · rw [hp.pairwise_iff (fun h=>Ne.symm h),List.pairwise_cons]
        exact ⟨fun s hs=>by have:=ih.rng s hs;simp only;omega,ih.dis⟩
      · rw [ins_sum]
        have:=ih.sum
        simp only;omega
theorem distinct_of {l:List Stp} (h:l.Pairwise fun a b=>a.piece≠b.piece):distinctB l=true:=by
  rw [distinctB,List.all_eq_true]
  intro k hk
  rw [List.mem_range] at hk
  rw [freshB,Bool.not_eq_true',List.any_eq_false]
  intro x hx
  obtain ⟨i,hi,rfl⟩:=List.mem_take_iff_getElem.1 hx
  rw [List.pairwise_iff_getElem] at h
  have:=h i k (by omega) hk (by omega)
  simpa [List.getD_eq_getElem?_getD,List.getElem?_eq_getElem hk] using this
theorem planOk_total {l:List Stp} {left:Int} (h:PlanOk j.pieces.length l left):totalB j l=true:=by
  have h1:l.all (stepOk j)=true:=by
    rw [List.all_eq_true]
    intro s hs
    have:=h.rng s hs
    simp only [stepOk,pieceOk,Bool.and_eq_true,inR_iff];omega
  have h2:=distinct_of h.dis
  have h3:l.length≤j.pieces.length:=plan_short h1 fun i hi=>by
    rw [distinctB,List.all_eq_true] at h2
    exact h2 i (List.mem_range.2 hi)
  have:=h.sum
  have:=h.left
  rw [totalB,planOkB,h1,h2,decide_eq_true h3,decide_eq_true (by omega)];rfl
theorem planW_total {ws:List Wb}:totalB j (planW j ws)=true:=planOk_total planK_ok
theorem planW_len {ws:List Wb}:(planW j ws).length≤j.pieces.length:=planK_left.2.2
theorem total_val (h:totalB j plan=true):totalD j plan=sumD plan:=by
  simp only [totalB,Bool.and_eq_true] at h
  rw [totalD,if_pos h.1]
end Am.Vt
namespace Am.Vt
open Go Am
set_option maxRecDepth 100000
set_option maxHeartbeats 4000000
set_option linter.unusedSimpArgs false
set_option linter.unusedVariables false
variable {j:Job} {v:Vat} {plan:List Stp} {t:Truth} {s:Sh} {S:List Sh}
theorem ref_isT (hj:j.Valid) {w:Nat}:IsT j.vat (pickT j w):=refTruths_isT hj.vat _ (pickT_mem hj)
theorem play_ref (h0:checkJob j=0) (ht:totalB j plan=true) {t:Truth} (hT:IsT j.vat t):PlayRP j plan t = .tup [.c (L (false,false) (ofS j (shadesT j t) plan)),.c (.int .i64 0)]:=by
  have hj:=jvalid_of h0
  have hd:dipOk j t=true:=by
    have:=hj.day
    have h1:inR j.day 0 j.vat.last=true:=by rw [inR_iff];omega
    rw [dipOk,hj.check,h1,listed_iff.2 hT];simp [inR]
  rw [PlayRP,if_neg (by rw [h0];simp),if_neg (by rw [ht,hd];decide),dip_ok hj hT]
theorem work_of (hj:j.Valid) {t:Truth} (h:t∈refTruths j.vat):shadesT j t∈workL j:=(mem_workL hj).2 ⟨t,(mem_refTruths hj.vat).1 h,rfl⟩
end Am.Vt
namespace Am.Vt
open Go Am
set_option maxRecDepth 100000
set_option maxHeartbeats 4000000
set_option linter.unusedSimpArgs false
set_option linter.unusedVariables false
variable {g1 g2 g3 g4 g5 g gt gd:Bool × Bool} {j:Job} {v:Vat} {plan:List Stp} {t:Truth} {s:Sh} {S:List Sh}
end Am.Vt
namespace Am.Vt
open Go Am
set_option maxRecDepth 100000
set_option maxHeartbeats 4000000
set_option linter.unusedSimpArgs false
set_option linter.unusedVariables false
variable {g1 g2 g3 g4 g5 g gt gd:Bool × Bool} {j:Job} {v:Vat} {plan:List Stp} {t:Truth} {s:Sh} {S:List Sh}
theorem judge_val {l:List Int} {ys ms:Sh→Nat} (h0:checkJob j=0) (hb:judgeOk j plan l=true):JudgeR j plan l ys ms = .tup [.c (.int .i64 (vd (sumN ys (workL j)) (sumN ms (workL j)))),.c (.int .i64 0)]:=by
  rw [JudgeR,if_neg]
  rw [askJ,if_neg (by rw [h0];simp),if_neg (by rw [hb];decide)];simp
theorem vd_two {a b:Nat}:vd a b=2↔a≠b∧a=0:=by
  unfold vd
  by_cases h:a=b
  · rw [if_pos h];simp [h]
  · rw [if_neg h]
    by_cases h0:a=0
    · rw [if_pos h0];simp only [h0,true_iff,and_true];omega
    · rw [if_neg h0];simp [h0]
end Am.Vt
namespace Am.Vt
open Go Am
set_option maxRecDepth 100000
set_option maxHeartbeats 4000000
set_option linter.unusedSimpArgs false
set_option linter.unusedVariables false
variable {g1 g2 g3 g4 g5 g gt gd:Bool × Bool} {j:Job} {v:Vat} {plan:List Stp} {t:Truth} {s:Sh} {S:List Sh}
end Am.Vt
namespace Am.Vt
open Go Am
set_option maxRecDepth 100000
set_option maxHeartbeats 4000000
set_option linter.unusedSimpArgs false
set_option linter.unusedVariables false
variable {g1 g2 g3 g4 g5 g gt gd:Bool × Bool} {j:Job} {v:Vat} {plan:List Stp} {t:Truth} {s:Sh} {S:List Sh}
end Am.Vt
namespace Am.Vt
open Go Am
set_option maxRecDepth 100000
set_option maxHeartbeats 4000000
set_option linter.unusedSimpArgs false
set_option linter.unusedVariables false
variable {g1 g2 g3 g4 g5 g gt gd:Bool × Bool} {j:Job} {v:Vat} {plan:List Stp} {t:Truth} {s:Sh} {S:List Sh}
theorem vd_range {a b:Nat}:1≤vd a b∧vd a b≤3:=by
  unfold vd
  split
  · decide
  · split<;>decide
theorem steady_vd {W:List Sh} {p:Sh→Bool} (hs:s∈W):steadyB (vd (sumN (fun s=>b2n (p s)) W) (sumN (fun _=>1) W)) (p s)=true:=by
  have h1:=vd_range (a:=sumN (fun s=>b2n (p s)) W) (b:=sumN (fun _=>1) W)
  have h2:vd (sumN (fun s=>b2n (p s)) W) (sumN (fun _=>1) W)=1→p s=true:=fun h=>by
    rw [vd_one,sumN_all fun s=>b2n_le1] at h
    have:=h s hs
    cases hp:p s with
    | true=>rfl
    | false=>rw [hp] at this;cases this
  have h3:vd (sumN (fun s=>b2n (p s)) W) (sumN (fun _=>1) W)=2→p s=false:=fun h=>by
    rw [vd_two,sumN_none] at h
    have:=h.2 s hs
    cases hp:p s with
    | false=>rfl
    | true=>rw [hp] at this;cases this
  generalize vd (sumN (fun s=>b2n (p s)) W) (sumN (fun _=>1) W)=u at *
  simp only [steadyB,Bool.and_eq_true,inR_iff,Bool.or_eq_true,decide_eq_true_eq,Bool.not_eq_true']
  refine ⟨h1,?_,?_⟩
  · by_cases h:u=1
    · exact .inr (h2 h)
    · exact .inl h
  · by_cases h:u=2
    · exact .inr (h3 h)
    · exact .inl h
theorem path_plan {most:Nat} (hm:most≤20):PlanOk j.pieces.length (planJ j most) (20-(frJ j most 0 0).dips)∧sumD (planJ j most)=(frJ j most 0 0).dips∧(planJ j most).length≤j.pieces.length:=by
  have hp:IsPath (gnJ j) j.pieces.length most 0 0 (frJ j most 0 0) (planJ j most):=path_ok (f:=und j.pieces.length 0) rfl
  have hb:=fromF_bd (g:=gnJ j) (n:=j.pieces.length) (most:=most) (f:=und j.pieces.length 0) (done:=0) (b:=0)
  have hrd:frJ j most 0 0=fromF (gnJ j) j.pieces.length most (und j.pieces.length 0) 0 0:=rfl
  rw [←hrd] at hb
  have hd:=hb.2.2.2.1 (Nat.zero_le _)
  have hl:=hp.len
  rw [und_0] at hl
  have hs:=hp.sum
  refine ⟨⟨fun s hs=>?_,hp.dis,by omega,by omega⟩,hs,hl⟩
  have:=hp.rng s hs
  omega
theorem best_right (hm:¬(frJ j 20 0 0).many<j.pieces.length) {i:Nat} (hi:i<j.pieces.length) (hs:s∈workL j):rightP j (planJ j 20) i s=true:=by
  have hb:=(fromF_bd (g:=gnJ j) (n:=j.pieces.length) (most:=20) (f:=und j.pieces.length 0) (done:=0) (b:=0)).2.1
  rw [und_0] at hb
  have hrd:frJ j 20 0 0=fromF (gnJ j) j.pieces.length 20 j.pieces.length 0 0:=by show fromF _ _ _ (und _ 0) 0 0=_;rw [und_0]
  rw [←hrd] at hb
  have hf:=(path_full (g:=gnJ j) (n:=j.pieces.length) (most:=20) (show (frJ j 20 0 0).many=(j.pieces.length:Nat) by omega)).1 i hi
  have ht:=planOk_total (path_plan (j:=j) (most:=20) (by omega)).1
  have hr:rightB7 j (planJ j 20) i=true:=hf
  rw [right_all ht hi,List.all_eq_true] at hr
  exact hr s hs
theorem PieceTruth_val {w:Int} {ws:List Wb} (hw0:0≤w) (hw1:w≤65535):Val tab 10 [jobV g1 g2 g3 g4 g5 j,.c (.int .u16 w),.c (L g ws)] (.c (.bool true)):=by
  refine Val_X (fn:=f10) rfl ?_
  have kt:=fun {Q:V→Prop}=>mready (j:=j) (g1:=g1) (g2:=g2) (g3:=g3) (g4:=g4) (g5:=g5) (Q:=Q)
  simp only [jobV] at kt
  cases ht:readyJ j with
  | false=>simp only [go_sem,f10,kt,ht,lawake7,disj_nil]
  | true=>
  obtain ⟨hf,hs,h6,hj,h0⟩:=readyJ_of ht
  obtain ⟨w,rfl⟩:∃n:Nat,w=n:=⟨w.toNat,by omega⟩
  have kJ:=fun {Q:V→Prop}=>mJob (j:=j) (g1:=g1) (g2:=g2) (g3:=g3) (g4:=g4) (g5:=g5) hs h6 (Q:=Q)
  have kP:=fun {Q:V→Prop}=>mpick (j:=j) (w:=w) (g1:=g1) (g2:=g2) (g3:=g3) (g4:=g4) (g5:=g5) hj (by omega) (Q:=Q)
  obtain ⟨bp,hpl⟩:=mPlan (j:=j) (g1:=g1) (g2:=g2) (g3:=g3) (g4:=g4) (g5:=g5) (g:=g) h6 (ws:=ws)
  have kW:=fun {Q:V→Prop}=>CallP_of hpl (Q:=Q)
  have hT:=ref_isT hj (w:=w)
  have hTl:=hT.dl
  have v1:=hj.vat.drift
  have v4:=hj.vat.last7
  have n4:=hj.pieces4
  have kT:=fun {gt:Bool × Bool} {Q:V→Prop}=>lTruth (gt:=gt) (t:=pickT j w) (by omega) (Q:=Q)
  have htot:=planW_total (j:=j) (ws:=ws)
  have hlen:=planW_len (j:=j) (ws:=ws)
  obtain ⟨p,hp⟩:∃p,p=planW j ws:=⟨_,rfl⟩
  rw [←hp] at htot hlen
  simp only [←hp] at kW
  have hpb:p.length<Big:=big_of (by omega)
  have kS:=fun {g:Bool × Bool} {Q:V→Prop}=>msteps (plan:=p) (g:=g) (by omega) (Q:=Q)
  have k1:=fun {g1 g2 g3 g4 g5 g gt:Bool × Bool} {Q:V→Prop}=>pPlay (j:=j) (plan:=p) (t:=pickT j w) (g:=g) (gt:=gt) (g1:=g1) (g2:=g2) (g3:=g3) (g4:=g4) (g5:=g5) hf hpb (Q:=Q)
  rw [play_ref h0 htot hT] at k1
  have hsW:=work_of hj (pickT_mem hj (w:=w))
  have hok:=workL_ok hj _ hsW
  obtain ⟨sh,hsh⟩:∃sh,sh=shadesT j (pickT j w):=⟨_,rfl⟩
  rw [←hsh] at k1 hsW hok
  have k2:=fun {i:Nat}=>fun (hi:i<j.pieces.length)=>fun {g1 g2 g3 g4 g5 g:Bool × Bool} {Q:V→Prop}=>(pRight (j:=j) (plan:=p) (i:=(i:Int)) (g:=g) (g1:=g1) (g2:=g2) (g3:=g3) (g4:=g4) (g5:=g5) hf hpb (Q:=Q)).trans (by rw [judge_val h0 (show judgeOk j p [(i:Int)]=true by simp only [judgeOk,htot,Bool.true_and,List.all_cons,List.all_nil,pieceOk,Bool.and_eq_true,inR_iff,and_true];omega)])
  have k3:=fun {i k:Nat}=>fun (hi:i<j.pieces.length∧k<j.pieces.length)=>fun {g1 g2 g3 g4 g5 g:Bool × Bool} {Q:V→Prop}=>(pMatch (j:=j) (plan:=p) (a:=(i:Int)) (b:=(k:Int)) (g:=g) (g1:=g1) (g2:=g2) (g3:=g3) (g4:=g4) (g5:=g5) hf hpb (Q:=Q)).trans (by rw [judge_val h0 (show judgeOk j p [(i:Int),(k:Int)]=true by simp only [judgeOk,htot,Bool.true_and,List.all_cons,List.all_nil,pieceOk,Bool.and_eq_true,inR_iff,and_true];omega)])
  have k4:=fun {g1 g2 g3 g4 g5:Bool × Bool} {Q:V→Prop}=>pBest (j:=j) (g1:=g1) (g2:=g2) (g3:=g3) (g4:=g4) (g5:=g5) hf (Q:=Q)
  have hol:=ofS_len (j:=j) (s:=sh) (plan:=p)
  simp only [jobV,truthG] at kJ kP kW kT k1 k2 k3 k4
  simp only [go_sem,f10,kt,ht,kJ,kP,kW,kT,kS,k1,hol,lawake7,disj_nil]
  refine RX_forC j.pieces.length (fun i=>[(11,.c (.int .i64 i))]) (fun _=>True) rfl trivial (by simp only [go_sem]<;>rfl) ?_
  intro i hi _
  by_cases hlt:i<j.pieces.length
  · have e4:IntKind.i64.wrap ((i:Int)+1)=((i+1:Nat):Int):=wrap_succ (n:=3000) (by omega) (by decide)
    have e7:IntKind.i64.wrap ((i:Int)+7)=((i+7:Nat):Int):=by rw [wrapB (by omega) (by omega)];omega
    have hl:0<j.pieces.length:=by omega
    have hz:¬((j.pieces.length:Nat):Int)=0:=by omega
    have hwd:=fun {Q:V→Prop}=>mword (g:=g) (ws:=ws) (a:=i+7) (by omega) (Q:=Q)
    obtain ⟨k,hk⟩:∃k,k=wordB ws (i+7) % j.pieces.length:=⟨_,rfl⟩
    have kl:k<j.pieces.length:=by rw [hk];exact Nat.mod_lt _ hl
    have mk:((wordB ws (i+7):Nat):Int).tmod (j.pieces.length:Nat)=(k:Int):=by rw [hk];rfl
    have m2:=fun {g1 g2 g3 g4 g5 g:Bool × Bool} {Q:V→Prop}=>k2 hlt (g:=g) (g1:=g1) (g2:=g2) (g3:=g3) (g4:=g4) (g5:=g5) (Q:=Q)
    have m3:=fun {g1 g2 g3 g4 g5 g:Bool × Bool} {Q:V→Prop}=>k3 ⟨hlt,kl⟩ (g:=g) (g1:=g1) (g2:=g2) (g3:=g3) (g4:=g4) (g5:=g5) (Q:=Q)
    have s1:=steady_vd (p:=fun s=>rightP j p i s) hsW
    have s2:=steady_vd (p:=fun s=>matchP j p i k s) hsW
    have b1:inR ((ofS j sh p).getD i default) (j.pieces.getD i default).lo (j.pieces.getD i default).hi=rightP j p i sh:=rfl
    have b2:nearB j ((ofS j sh p).getD i default) ((ofS j sh p).getD k default)=matchP j p i k sh:=rfl
    have kN:=fun {Q:V→Prop}=>qNear (g1:=g1) (g2:=g2) (g3:=g3) (g4:=g4) (g5:=g5) hj.eye (ofS_bd (j:=j) (plan:=p) hok (k:=i)) (ofS_bd (j:=j) (plan:=p) hok (k:=k)) (Q:=Q)
    rw [b2] at kN
    simp only [jobV] at kN
    have i1:(i:Int)<j.pieces.length:=by omega
    have k1':(k:Int)<j.pieces.length:=by omega
    generalize vd (sumN (fun s=>b2n (rightP j p i s)) (workL j)) (sumN (fun _=>1) (workL j))=u at *
    generalize vd (sumN (fun s=>b2n (matchP j p i k s)) (workL j)) (sumN (fun _=>1) (workL j))=u2 at *
    simp (maxSteps:=1000000) only [go_sem,hlt,hol,i1,k1',hz,e4,e7,hwd,mk,kJ,kS,m2,m3,atI_nat,rIn,b1,kN,msteady,s1,s2,disj_nil]
  · have:i=j.pieces.length:=by omega
    subst this
    clear k2 k3
    by_cases hm:(frJ j 20 0 0).many<j.pieces.length
    · have hB:BestR j = .tup [.c .nils,.c (.int .i64 0),.c (.int .i64 10)]:=by
        rw [BestR,if_neg,if_pos hm]
        rw [askJ,if_neg (by rw [h0];simp),if_neg (by decide)];simp
      rw [hB] at k4
      simp only [go_sem,hlt,hol,kJ,k4,lawake7]
    · have hB:BestR j = .tup [.c (L (false,false) (planJ j 20)),.c (.int .i64 (frJ j 20 0 0).dips),.c (.int .i64 0)]:=by
        rw [BestR,if_neg,if_neg hm]
        rw [askJ,if_neg (by rw [h0];simp),if_neg (by decide)];simp
      rw [hB] at k4
      obtain ⟨hpo,hsd,hpl4⟩:=path_plan (j:=j) (most:=20) (by omega)
      have htb:=planOk_total hpo
      have hbr:=fun {i:Nat} (hi:i<j.pieces.length)=>best_right (s:=sh) hm hi hsW
      obtain ⟨q,hq⟩:∃q,q=planJ j 20:=⟨_,rfl⟩
      rw [←hq] at hsd hpl4 htb k4
      simp only [←hq] at hbr
      have kB:=fun {g:Bool × Bool} {Q:V→Prop}=>mback (plan:=q) (g:=g) (by omega) (Q:=Q)
      have kTo:=fun {g:Bool × Bool} {Q:V→Prop}=>qTotal (j:=j) (plan:=q) (g:=g) (g1:=g1) (g2:=g2) (g3:=g3) (g4:=g4) (g5:=g5) (by omega) (by omega) (Q:=Q)
      rw [total_val htb,hsd] at kTo
      have k5:=fun {g1 g2 g3 g4 g5 g gt:Bool × Bool} {Q:V→Prop}=>pPlay (j:=j) (plan:=q) (t:=pickT j w) (g:=g) (gt:=gt) (g1:=g1) (g2:=g2) (g3:=g3) (g4:=g4) (g5:=g5) hf (big_of (by omega)) (Q:=Q)
      rw [play_ref h0 htb hT,←hsh] at k5
      simp only [jobV,truthG] at kTo k5
      have q4:¬(q.length:Int)>4:=by omega
      have b16:q.length*16≤2^40:=by omega
      have hol2:=ofS_len (j:=j) (s:=sh) (plan:=q)
      simp only [go_sem,hlt,hol,kJ,kT,k4,k5,kB,kTo,htb,q4,b16,hol2,lawake7,disj_nil]
      refine RX_forC j.pieces.length (fun i=>[(24,.c (.int .i64 i))]) (fun _=>True) rfl trivial (by simp only [go_sem]<;>rfl) ?_
      intro i hi _
      by_cases hlt:i<j.pieces.length
      · have e4:IntKind.i64.wrap ((i:Int)+1)=((i+1:Nat):Int):=wrap_succ (n:=3000) (by omega) (by decide)
        have b1:inR ((ofS j sh q).getD i default) (j.pieces.getD i default).lo (j.pieces.getD i default).hi=true:=hbr hlt
        have i1:(i:Int)<j.pieces.length:=by omega
        simp only [go_sem,hlt,hol2,i1,e4,atI_nat,rIn,b1]
      · have:i=j.pieces.length:=by omega
        subst this
        simp only [go_sem,hlt,hol2,lawake7]
end Am.Vt
