/-
  A part of the proof: the texts PX, QP, PY, L1, L6, L4, L7, L8, L9, L10 of this seat, joined.
-/
import Derived.Test.YtphjbeffckignaaGreatWalkH
namespace Am.Vt
open Go Am
set_option maxRecDepth 100000
set_option maxHeartbeats 4000000
set_option linter.unusedSimpArgs false
set_option linter.unusedVariables false
variable {j:Job} {v:Vat} {plan:List Stp} {t:Truth} {s:Sh} {S:List Sh}
theorem sumN_le2 {ys ms:Sh→Nat} (h:∀s,ys s≤ms s):∀{l:List Sh},sumN ys l≤sumN ms l
  | []=>Nat.le_refl _
  | s::l=>by
    have:=sumN_le2 h (l:=l)
    have:=h s
    unfold sumN at *
    simp only [List.map_cons,List.sum_cons];omega
theorem sumN_all {ys ms:Sh→Nat} (h:∀s,ys s≤ms s):∀{l:List Sh},sumN ys l=sumN ms l↔∀s∈l,ys s=ms s
  | []=>by simp [sumN]
  | s::l=>by
    have ih:=sumN_all h (l:=l)
    have h1:=h s
    have h2:=sumN_le2 h (l:=l)
    have e1:sumN ys (s::l)=ys s+sumN ys l:=by simp [sumN]
    have e2:sumN ms (s::l)=ms s+sumN ms l:=by simp [sumN]
    rw [e1,e2]
    constructor
    · intro e x hx
      rcases List.mem_cons.1 hx with rfl | hx
      · omega
      · exact ih.1 (by omega) x hx
    · intro e
      have:=e s (by simp)
      have:=ih.2 fun x hx=>e x (by simp [hx])
      omega
theorem sumN_none {ys:Sh→Nat}:∀{l:List Sh},sumN ys l=0↔∀s∈l,ys s=0
  | []=>by simp [sumN]
  | s::l=>by
    have ih:=sumN_none (ys:=ys) (l:=l)
    have e1:sumN ys (s::l)=ys s+sumN ys l:=by simp [sumN]
    rw [e1]
    constructor
    · intro e x hx
      rcases List.mem_cons.1 hx with rfl | hx
      · omega
      · exact ih.1 (by omega) x hx
    · intro e
      have:=e s (by simp)
      have:=ih.2 fun x hx=>e x (by simp [hx])
      omega
theorem b2n_le1 {b:Bool}:b2n b≤1:=by cases b<;>decide
theorem vd_one {a b:Nat}:vd a b=1↔a=b:=by
  unfold vd
  by_cases h:a=b
  · simp [h]
  · rw [if_neg h]
    split<;>simp [h]
end Am.Vt
namespace Am.Vt
open Go Am
set_option maxRecDepth 100000
set_option maxHeartbeats 4000000
set_option linter.unusedSimpArgs false
set_option linter.unusedVariables false
variable {g1 g2 g3 g4 g5 g gt gd:Bool × Bool} {j:Job} {v:Vat} {plan:List Stp} {t:Truth} {s:Sh} {S:List Sh}
structure Wb where
  n:Nat
  h:n<256
instance : Inhabited Wb:=⟨⟨0,by decide⟩⟩
instance : Row Wb:=⟨1,fun s=>[.int .u8 s.n],fun _=>rfl⟩
instance : Scal Wb:=⟨fun _=>rfl⟩
@[go_sem] theorem sz_wb : Row.sz Wb=1:=rfl
@[go_sem] theorem row_wb {s:Wb}:Row.row s=[.int .u8 s.n]:=rfl
def wordB (ws:List Wb) (a:Nat):Nat:=if ws=[] then 0 else (ws.getD (a % ws.length) default).n
theorem wordB_lt {ws:List Wb} {a:Nat}:wordB ws a<256:=by
  unfold wordB
  split
  · decide
  · exact (ws.getD (a % ws.length) default).h
theorem mword {g:Bool × Bool} {ws:List Wb} {a:Nat} (ha:a≤1000) {Q:V→Prop}:CallP tab 53 [.c (L g ws),.c (.int .i64 a)] Q↔Q (.c (.int .i64 (wordB ws a:Nat))):=CallP_of (by
  refine Val_X (fn:=f53) rfl ?_
  by_cases h:ws=[]
  · subst h
    simp only [go_sem,f53,wordB,List.length_nil]
  · have hl:=List.length_pos_iff.2 h
    have hz:¬((ws.length:Nat):Int)=0:=by omega
    obtain ⟨m,hm⟩:∃m,m=a % ws.length:=⟨_,rfl⟩
    have hml:m<ws.length:=by rw [hm];exact Nat.mod_lt _ hl
    have e1:(a:Int).tmod ((ws.length:Nat):Int)=(m:Int):=by rw [hm];rfl
    have hw:wordB ws a=(ws.getD m default).n:=by rw [wordB,if_neg h,hm]
    have hb:=(ws.getD m default).h
    have e2:IntKind.i64.wrap ((ws.getD m default).n:Int)=((ws.getD m default).n:Int):=wrapB (by omega) (by omega)
    simp only [go_sem,f53,hz,e1,hml,atI_nat,hw,e2])
def insAt (l:List Stp) (k:Nat) (z:Stp):List Stp:=l.take k++[z]++l.drop k
def planK (ws:List Wb):Nat→List Stp × Int
  | 0=>([],20)
  | i+1=>if wordB ws i % 5=4 then planK ws i else (insAt (planK ws i).1 (wordB ws i % ((planK ws i).1.length+1)) ⟨i,min (planK ws i).2 ((wordB ws i / 8 % 8:Nat):Int)⟩,(planK ws i).2-min (planK ws i).2 ((wordB ws i / 8 % 8:Nat):Int))
def planW (j:Job) (ws:List Wb):List Stp:=(planK ws j.pieces.length).1
def OL (out:List Stp) (c:C) (H:List Obj):Prop:=(out=[]∧c = .nils)∨(out≠[]∧∃o ver,c = .sl o ver 0 out.length∧getH H o = .arr false ver 2 (out.map Row.row))
theorem planK_left {ws:List Wb}:∀{i:Nat},0≤(planK ws i).2∧(planK ws i).2≤20∧(planK ws i).1.length≤i
  | 0=>by simp [planK]
  | i+1=>by
    have ih:=planK_left (ws:=ws) (i:=i)
    simp only [planK]
    split
    · omega
    · simp only [insAt,List.length_append,List.length_take,List.length_drop,List.length_singleton]
      omega
theorem mPlan (h6:j.pieces.length≤6) {ws:List Wb}:∃b:Bool,Val tab 38 [jobV g1 g2 g3 g4 g5 j,.c (L g ws)] (.c (L (b,false) (planW j ws))):=by
  suffices h:CallP tab 38 [jobV g1 g2 g3 g4 g5 j,.c (L g ws)] (fun r=>∃b:Bool,r = .c (L (b,false) (planW j ws))) by
    obtain ⟨r,hval,b,rfl⟩:=h
    exact ⟨b,hval⟩
  refine CallP_X (fn:=f38) rfl ?_
  simp only [go_sem,f38]
  refine RX_whileU (α:=Nat × C × List Obj) (fun y=>[(5,.c y.2.1),(6,.c (.int .i64 (planK ws y.1).2)),(7,.c (.int .i64 (y.1:Nat)))]) (fun y=>.cells (jobC g1 g2 g3 g4 g5 j)::y.2.2) (fun y=>y.1≤j.pieces.length∧OL (planK ws y.1).1 y.2.1 (.cells (jobC g1 g2 g3 g4 g5 j)::y.2.2)) (fun y=>j.pieces.length-y.1) (0,.nils,[]) ⟨Nat.zero_le _,.inl ⟨rfl,rfl⟩⟩ (by simp only [go_sem]<;>rfl) ?_
  rintro ⟨i,c,X⟩ ⟨hi,hO⟩
  simp only at hi hO
  by_cases hlt:i<j.pieces.length
  · have e4:IntKind.i64.wrap ((i:Int)+1)=((i+1:Nat):Int):=wrap_succ (n:=3000) (by omega) (by decide)
    have hw:=fun {Q:V→Prop}=>mword (g:=g) (ws:=ws) (a:=i) (by omega) (Q:=Q)
    have hwl:=wordB_lt (ws:=ws) (a:=i)
    obtain ⟨w,hwe⟩:∃w,w=wordB ws i:=⟨_,rfl⟩
    rw [←hwe] at hw hwl
    have z5:¬(5:Int)=0:=by decide
    have e5:(w:Int).tmod 5=((w % 5:Nat):Int):=rfl
    by_cases h4:w % 5=4
    · have h4':((w % 5:Nat):Int)=4:=by omega
      have hp:planK ws (i+1)=planK ws i:=by rw [planK,←hwe,if_pos h4]
      simp only [go_sem,hlt,hw,e5,h4',e4]
      exact ⟨(i+1,c,X),⟨by simp only;omega,by simp only;omega,by simp only [hp];exact hO⟩,⟨rfl,by simp only [hp],rfl⟩,rfl⟩
    · have h4':¬((w % 5:Nat):Int)=4:=by omega
      have hp:planK ws (i+1)=(insAt (planK ws i).1 (w % ((planK ws i).1.length+1)) ⟨i,min (planK ws i).2 ((w / 8 % 8:Nat):Int)⟩,(planK ws i).2-min (planK ws i).2 ((w / 8 % 8:Nat):Int)):=by rw [planK,←hwe,if_neg h4]
      have pl:=planK_left (ws:=ws) (i:=i)
      have w1:IntKind.i64.wrap ((w:Int).tdiv 8)=((w / 8:Nat):Int):=wrapB (n:=((w / 8:Nat):Int)) (by omega) (by omega)
      have w2:((w / 8:Nat):Int).tmod 8=((w / 8 % 8:Nat):Int):=rfl
      obtain ⟨d,hd⟩:∃d,d=min (planK ws i).2 ((w / 8 % 8:Nat):Int):=⟨_,rfl⟩
      have w3:IntKind.i64.wrap ((planK ws i).2-d)=(planK ws i).2-d:=wrapB (by omega) (by omega)
      rw [←hd] at hp
      have z8:¬(8:Int)=0:=by decide
      rcases hO with ⟨h0,rfl⟩ | ⟨h0,o,ver,rfl,ho⟩
      · rw [h0] at hp
        simp only [List.length_nil,Nat.zero_add,Nat.mod_one] at hp
        have w4:(w:Int).tmod 1=0:=by have:(w:Int).tmod 1=((w % 1:Nat):Int):=rfl;rw [this,Nat.mod_one];rfl
        simp only [go_sem,hlt,hw,e5,h4',e4,w1,w2,←hd,w3,w4]
        refine ⟨(i+1,.sl (X.length+2) 3 0 1,_),⟨by simp only;omega,by simp only;omega,?_⟩,⟨rfl,by simp only [hp],rfl⟩,rfl⟩
        simp only [hp]
        refine .inr ⟨by simp [insAt],X.length+2,3,by simp [insAt],?_⟩
        rw [show X.length+2=(X.length+1)+1 by omega]
        simp only [go_sem,insAt,List.take_nil,List.drop_nil]
      · obtain ⟨n,hn⟩:∃n,n=(planK ws i).1.length:=⟨_,rfl⟩
        obtain ⟨k,hk⟩:∃k,k=w % (n+1):=⟨_,rfl⟩
        have hkn:k≤n:=by rw [hk];have:=Nat.mod_lt w (show n+1>0 by omega);omega
        have w5:IntKind.i64.wrap ((n:Int)+1)=((n+1:Nat):Int):=wrap_succ (n:=3000) (by omega) (by decide)
        have w6:¬((n+1:Nat):Int)=0:=by omega
        have w7:(w:Int).tmod ((n+1:Nat):Int)=(k:Int):=by rw [hk];rfl
        have k0:(0:Int)≤k:=by omega
        rw [←hn,←hk] at hp
        have lo:=lt_of_getH (h:=.cells (jobC g1 g2 g3 g4 g5 j)::X) (o:=o) (by rw [ho];simp)
        have hoX:∀Y,getH (.cells (jobC g1 g2 g3 g4 g5 j)::(X++Y)) o = .arr false ver 2 ((planK ws i).1.map Row.row):=fun Y=>getH_keep (X:=Y) ho (by simp)
        have c1:k≤n∧2=2:=⟨hkn,rfl⟩
        have n6:n≤6:=by omega
        have hkl:k≤(planK ws i).1.length:=by omega
        have hkd:k+(n-k)≤(planK ws i).1.length:=by omega
        have hh:∀l:List Stp,headLen 2 (l.map (Row.row (α:=Stp)))=true:=fun l=>headLen_map (sz:=2) rfl
        have tl:((planK ws i).1.take k).length=k:=by rw [List.length_take];omega
        have htd:((planK ws i).1.drop k).take (n-k)=(planK ws i).1.drop k:=List.take_of_length_le (by rw [List.length_drop];omega)
        have dl:((planK ws i).1.drop k).length=n-k:=by rw [List.length_drop];omega
        have b1:k*16≤2^40:=by omega
        have b2:(k+1)*16≤2^40:=by omega
        have b3:(k+(1+(n-k)))*16≤2^40:=by omega
        simp only [List.length_cons] at lo
        have z0:¬o=X.length+1:=by omega
        have z1:¬X.length+1=o:=by omega
        have z2:¬o=X.length+2:=by omega
        have z3:¬X.length+2=o:=by omega
        have z4:¬o=X.length+3:=by omega
        have z5:¬X.length+3=o:=by omega
        have z6:¬o=X.length+4:=by omega
        have z7:¬X.length+4=o:=by omega
        have z8:¬o=X.length+5:=by omega
        have z9:¬X.length+5=o:=by omega
        simp only [go_sem,hlt,hw,e5,h4',e4,w1,w2,←hd,w3,←hn,w5,w6,w7,k0,hoX,c1,hkn,z0,z1,z2,z3,z4,z5,z6,z7,z8,z9,takeN_L hkl,hh,List.length_map,tl,b1,part_L hkd,htd,dl,b2,b3]
        have hil:(insAt (planK ws i).1 k ⟨i,d⟩).length=k+(1+(n-k)):=by simp only [insAt,List.length_append,List.length_singleton,tl,dl,Nat.add_assoc]
        refine ⟨(i+1,.sl (X.length+2) 3 0 (k+(1+(n-k))),_),⟨by simp only;omega,by simp only;omega,?_⟩,⟨rfl,by simp only [hp],rfl⟩,rfl⟩
        simp only [hp]
        refine .inr ⟨by simp [insAt],X.length+2,3,by rw [hil],?_⟩
        rw [show X.length+2=(X.length+1)+1 by omega]
        simp only [go_sem,insAt,List.map_append,List.append_assoc]
  · have:i=j.pieces.length:=by omega
    subst this
    rcases hO with ⟨h0,rfl⟩ | ⟨h0,o,ver,rfl,ho⟩
    · simp only [go_sem,hlt]
      exact ⟨true,by rw [planW,h0];rfl⟩
    · have hpt:=part_map (l:=(planK ws j.pieces.length).1) (n:=(planK ws j.pieces.length).1.length) rfl
      simp only [part,dropN] at hpt
      simp only [go_sem,hlt,ho,hpt]
      exact ⟨false,rfl⟩
theorem sumD_app {a b:List Stp}:sumD (a++b)=sumD a+sumD b:=by
  unfold sumD
  rw [List.map_append]
  show (_:List Int).foldl _ _=_
  rw [List.foldl_append,foldl_add];rfl
theorem ins_perm {l:List Stp} {k:Nat} {z:Stp}:(insAt l k z).Perm (z::l):=by
  unfold insAt
  rw [List.append_assoc]
  refine List.Perm.trans List.perm_append_comm ?_
  rw [List.append_assoc]
  refine List.Perm.cons z ?_
  refine List.Perm.trans List.perm_append_comm ?_
  rw [List.append_nil]
  refine List.Perm.trans List.perm_append_comm ?_
  rw [List.take_append_drop]
theorem ins_sum {l:List Stp} {k:Nat} {z:Stp}:sumD (insAt l k z)=sumD l+z.dips:=by
  have h:sumD l=sumD (l.take k)+sumD (l.drop k):=by rw [←sumD_app,List.take_append_drop]
  have h1:sumD [z]=z.dips:=by simp [sumD,sumI]
  rw [insAt,sumD_app,sumD_app,h1,h];omega
structure PlanOk (n:Nat) (l:List Stp) (left:Int):Prop where
  rng:∀s∈l,0≤s.piece∧s.piece<n∧0≤s.dips∧s.dips≤20
  dis:l.Pairwise fun a b=>a.piece≠b.piece
  sum:sumD l+left=20
  left:0≤left
theorem planK_ok {ws:List Wb}:∀{i:Nat},PlanOk i (planK ws i).1 (planK ws i).2
  | 0=>⟨fun s hs=>by simp [planK] at hs,by simp [planK],rfl,by simp [planK]⟩
  | i+1=>by
    have ih:=planK_ok (ws:=ws) (i:=i)
    have pl:=planK_left (ws:=ws) (i:=i)
    simp only [planK]
    split
    · exact ⟨fun s hs=>by have:=ih.rng s hs;omega,ih.dis,ih.sum,ih.left⟩
    · obtain ⟨d,hd⟩:∃d,d=min (planK ws i).2 ((wordB ws i / 8 % 8:Nat):Int):=⟨_,rfl⟩
      simp only [←hd]
      have hp:=ins_perm (l:=(planK ws i).1) (k:=wordB ws i % ((planK ws i).1.length+1)) (z:=⟨i,d⟩)
      refine ⟨fun s hs=>?_,?_,?_,by omega⟩
      · rcases List.mem_cons.1 (hp.mem_iff.1 hs) with rfl | hs
        · simp only;omega
        · have:=ih.rng s hs;omega
      · rw [hp.pairwise_iff (fun h=>Ne.symm h),List.pairwise_cons]
        exact ⟨fun s hs=>by have:=ih.rng s hs;simp only;omega,ih.dis⟩
      · rw [ins_sum]
        have:=ih.sum
        simp only;omega
theorem distinct_of {l:List Stp} (h:l.Pairwise fun a b=>a.piece≠b.piece):distinctB l=true:=by
  rw [distinctB,List.all_eq_true]
  intro k hk
  rw [List.mem_range] at hk
  rw [freshB,Bool.not_eq_true',List.any_eq_false]
  intro x hx
  obtain ⟨i,hi,rfl⟩:=List.mem_take_iff_getElem.1 hx
  rw [List.pairwise_iff_getElem] at h
  have:=h i k (by omega) hk (by omega)
  simpa [List.getD_eq_getElem?_getD,List.getElem?_eq_getElem hk] using this
theorem planOk_total {l:List Stp} {left:Int} (h:PlanOk j.pieces.length l left):totalB j l=true:=by
  have h1:l.all (stepOk j)=true:=by
    rw [List.all_eq_true]
    intro s hs
    have:=h.rng s hs
    simp only [stepOk,pieceOk,Bool.and_eq_true,inR_iff];omega
  have h2:=distinct_of h.dis
  have h3:l.length≤j.pieces.length:=plan_short h1 fun i hi=>by
    rw [distinctB,List.all_eq_true] at h2
    exact h2 i (List.mem_range.2 hi)
  have:=h.sum
  have:=h.left
  rw [totalB,planOkB,h1,h2,decide_eq_true h3,decide_eq_true (by omega)];rfl
theorem planW_total {ws:List Wb}:totalB j (planW j ws)=true:=planOk_total planK_ok
theorem planW_len {ws:List Wb}:(planW j ws).length≤j.pieces.length:=planK_left.2.2
end Am.Vt
namespace Am.Vt
open Go Am
set_option maxRecDepth 100000
set_option maxHeartbeats 4000000
set_option linter.unusedSimpArgs false
set_option linter.unusedVariables false
variable {j:Job} {v:Vat} {plan:List Stp} {t:Truth} {s:Sh} {S:List Sh}
end Am.Vt
namespace Am.Vt
open Go Am
set_option maxRecDepth 100000
set_option maxHeartbeats 4000000
set_option linter.unusedSimpArgs false
set_option linter.unusedVariables false
variable {g1 g2 g3 g4 g5 g gt gd:Bool × Bool} {j:Job} {v:Vat} {plan:List Stp} {t:Truth} {s:Sh} {S:List Sh}
end Am.Vt
namespace Am.Vt
open Go Am
set_option maxRecDepth 100000
set_option maxHeartbeats 4000000
set_option linter.unusedSimpArgs false
set_option linter.unusedVariables false
variable {g1 g2 g3 g4 g5 g gt gd:Bool × Bool} {j:Job} {v:Vat} {plan:List Stp} {t:Truth} {s:Sh} {S:List Sh}
theorem ofK_congr {j':Job} (h:j'.pieces.length=j.pieces.length):∀{k:Nat},ofK j' s plan k=ofK j s plan k
  | 0=>by simp only [ofK,h]
  | k+1=>by simp only [ofK,ofK_congr h (k:=k)]
theorem ofS_congr {j':Job} (h:j'.pieces.length=j.pieces.length):ofS j' s plan=ofS j s plan:=by unfold ofS;rw [ofK_congr h]
theorem total_congr {j':Job} (h:j'.pieces.length=j.pieces.length):totalB j' plan=totalB j plan:=by
  have e:stepOk j'=stepOk j:=by funext s;simp only [stepOk,pieceOk,h]
  simp only [totalB,planOkB,h,e]
theorem judge_val {l:List Int} {ys ms:Sh→Nat} (h0:checkJob j=0) (hb:judgeOk j plan l=true):JudgeR j plan l ys ms = .tup [.c (.int .i64 (vd (sumN ys (workL j)) (sumN ms (workL j)))),.c (.int .i64 0)]:=by
  rw [JudgeR,if_neg]
  rw [askJ,if_neg (by rw [h0];simp),if_neg (by rw [hb];decide)];simp
theorem vd_two {a b:Nat}:vd a b=2↔a≠b∧a=0:=by
  unfold vd
  by_cases h:a=b
  · rw [if_pos h];simp [h]
  · rw [if_neg h]
    by_cases h0:a=0
    · rw [if_pos h0];simp only [h0,true_iff,and_true];omega
    · rw [if_neg h0];simp [h0]
theorem sumN_pos {ms:Sh→Nat} (h:∀s,1≤ms s) {W:List Sh} (hW:W≠[]):1≤sumN ms W:=by
  cases W with
  | nil=>exact absurd rfl hW
  | cons s l=>
    have:=h s
    have e:sumN ms (s::l)=ms s+sumN ms l:=by simp [sumN]
    omega
end Am.Vt
namespace Am.Vt
open Go Am
set_option maxRecDepth 100000
set_option maxHeartbeats 4000000
set_option linter.unusedSimpArgs false
set_option linter.unusedVariables false
variable {g1 g2 g3 g4 g5 g gt gd:Bool × Bool} {j:Job} {v:Vat} {plan:List Stp} {t:Truth} {s:Sh} {S:List Sh}
end Am.Vt
namespace Am.Vt
open Go Am
set_option maxRecDepth 100000
set_option maxHeartbeats 4000000
set_option linter.unusedSimpArgs false
set_option linter.unusedVariables false
variable {g1 g2 g3 g4 g5 g gt gd:Bool × Bool} {j:Job} {v:Vat} {plan:List Stp} {t:Truth} {s:Sh} {S:List Sh}
def bestE (j:Job):Int:=if (frJ j 20 0 0).many<j.pieces.length then 10 else 0
theorem best_val (h0:checkJob j=0):∃c n,BestR j = .tup [.c c,.c (.int .i64 n),.c (.int .i64 (bestE j))]:=by
  have ha:askJ j true=0:=by rw [askJ,if_neg (by rw [h0];simp),if_neg (by decide)]
  rw [BestR,if_neg (by rw [ha];simp)]
  unfold bestE
  by_cases hm:(frJ j 20 0 0).many<j.pieces.length
  · rw [if_pos hm,if_pos hm];exact ⟨_,_,rfl⟩
  · rw [if_neg hm,if_neg hm];exact ⟨_,_,rfl⟩
theorem bestE_or : bestE j=10∨bestE j=0:=by unfold bestE;split<;>simp
end Am.Vt
namespace Am.Vt
open Go Am
set_option maxRecDepth 100000
set_option maxHeartbeats 4000000
set_option linter.unusedSimpArgs false
set_option linter.unusedVariables false
variable {g1 g2 g3 g4 g5 g gt gd:Bool × Bool} {j:Job} {v:Vat} {plan:List Stp} {t:Truth} {s:Sh} {S:List Sh}
theorem vd_range {a b:Nat}:1≤vd a b∧vd a b≤3:=by
  unfold vd
  split
  · decide
  · split<;>decide
end Am.Vt
namespace Am.Vt
open Go Am
set_option maxRecDepth 100000
set_option maxHeartbeats 4000000
set_option linter.unusedSimpArgs false
set_option linter.unusedVariables false
variable {g1 g2 g3 g4 g5 g gt gd:Bool × Bool} {j:Job} {v:Vat} {plan:List Stp} {t:Truth} {s:Sh} {S:List Sh}
theorem best_mono {j':Job} (hn:j'.pieces.length=j.pieces.length) (h:∀i b d,rightW j i b d=true→rightW j' i b d=true) (h0:bestE j=0):bestE j'=0∧(frJ j' 20 0 0).dips≤(frJ j 20 0 0).dips:=by
  have hm:=fromF_mono (g:=gnJ j) (g':=gnJ j') (n:=j.pieces.length) (most:=20) (fun i b d _=>h i b d) (f:=j.pieces.length) (done:=0) (b:=0)
  have e1:frJ j 20 0 0=fromF (gnJ j) j.pieces.length 20 j.pieces.length 0 0:=by show fromF _ _ _ (und _ 0) 0 0=_;rw [und_0]
  have e2:frJ j' 20 0 0=fromF (gnJ j') j.pieces.length 20 j.pieces.length 0 0:=by show fromF _ _ _ (und _ 0) 0 0=_;rw [und_0,hn]
  rw [←e1,←e2] at hm
  have hb1:=(fromF_bd (g:=gnJ j') (n:=j.pieces.length) (most:=20) (f:=j.pieces.length) (done:=0) (b:=0)).2.1
  have hb2:=(fromF_bd (g:=gnJ j) (n:=j.pieces.length) (most:=20) (f:=j.pieces.length) (done:=0) (b:=0)).2.1
  rw [←e2] at hb1
  rw [←e1] at hb2
  unfold geR at hm
  unfold bestE at h0 ⊢
  rw [hn]
  split at h0
  · cases h0
  · rw [if_neg (by omega)]
    exact ⟨rfl,by omega⟩
theorem best_ok (h0:checkJob j=0) (hb:bestE j=0):BestR j = .tup [.c (L (false,false) (planJ j 20)),.c (.int .i64 (frJ j 20 0 0).dips),.c (.int .i64 0)]:=by
  have ha:askJ j true=0:=by rw [askJ,if_neg (by rw [h0];simp),if_neg (by decide)]
  rw [BestR,if_neg (by rw [ha];simp)]
  unfold bestE at hb
  split at hb
  · cases hb
  · rename_i h;rw [if_neg h]
end Am.Vt
namespace Am.Vt
open Go Am
set_option maxRecDepth 100000
set_option maxHeartbeats 4000000
set_option linter.unusedSimpArgs false
set_option linter.unusedVariables false
variable {g1 g2 g3 g4 g5 g gt gd:Bool × Bool} {j:Job} {v:Vat} {plan:List Stp} {t:Truth} {s:Sh} {S:List Sh}
abbrev lookJ (j:Job) (m:Lk):Job:=⟨⟨j.vat.last,j.vat.band,j.vat.start,j.vat.blue,j.vat.gain,j.vat.take,j.vat.drift,j.vat.feeds,j.vat.dips,j.vat.looks++[m]⟩,j.day,j.pieces,j.eye,j.old⟩
theorem look_with {m:Lk}:(lookJ j m).vat=withL j.vat (j.vat.looks++[m]):=rfl
theorem look_mem (hj:j.Valid) {m:Lk} (hx:(lookJ j m).Valid) (ht:t∈truthsL (lookJ j m).vat []):t∈truthsL j.vat []:=by
  rw [mem_truths hx.vat,rightL_iff] at ht
  rw [mem_truths hj.vat,rightL_iff]
  refine ⟨isT_withL.1 ht.1,fun i hi=>?_⟩
  have hl:(lookJ j m).vat.looks.length=j.vat.looks.length+1:=by show (j.vat.looks++[m]).length=_;simp
  have:=ht.2 i (by omega)
  have e:(j.vat.looks++[m]).getD i default=j.vat.looks.getD i default:=by
    rw [List.getD_eq_getElem?_getD,List.getD_eq_getElem?_getD,List.getElem?_append_left hi]
  have er:rightB (lookJ j m).vat t i=rightB j.vat t i:=by
    unfold rightB rightAt
    rw [look_with,playL_withL]
    show (decide ((i:Int)∈([]:List Int))||rightK ((j.vat.looks++[m]).getD i default) (playL j.vat t))=_
    rw [e]
  rwa [er] at this
theorem look_shades {m:Lk}:shadesT (lookJ j m) t=shadesT j t:=by
  apply sh_ext
  show shadesL _ (stAt (withL j.vat (j.vat.looks++[m])) t _) 20=shadesL _ _ _
  rw [stAt_withL];rfl
theorem look_work (hj:j.Valid) {m:Lk} (hx:(lookJ j m).Valid):∀s∈workL (lookJ j m),s∈workL j:=by
  intro s hs
  obtain ⟨t,ht,rfl⟩:=(mem_workL hx).1 hs
  exact (mem_workL hj).2 ⟨t,look_mem hj hx ht,look_shades⟩
theorem vd_sub {W W':List Sh} (hs:∀s∈W',s∈W) (hW:W'≠[]) {ys ms:Sh→Nat} (h2:∀s,ys s≤ms s) (h3:∀s,1≤ms s):vd (sumN ys W) (sumN ms W)=3∨vd (sumN ys W') (sumN ms W')=vd (sumN ys W) (sumN ms W):=by
  have h1:=vd_range (a:=sumN ys W) (b:=sumN ms W)
  have hp:=sumN_pos h3 hW
  by_cases ha:vd (sumN ys W) (sumN ms W)=1
  · right
    rw [ha,vd_one,sumN_all h2]
    rw [vd_one,sumN_all h2] at ha
    exact fun s h=>ha s (hs s h)
  · by_cases hb:vd (sumN ys W) (sumN ms W)=2
    · right
      rw [hb,vd_two]
      rw [vd_two,sumN_none] at hb
      have:sumN ys W'=0:=sumN_none.2 fun s h=>hb.2 s (hs s h)
      omega
    · left;omega
theorem PieceLook_val {m:Lk} {ws:List Wb} {a:Int} (hlk:j.vat.looks.length≤1048576) (ha0:0≤a) (ha1:a≤255):Val tab 12 [jobV g1 g2 g3 g4 g5 j,.agg [.int .i64 m.day,.bool m.bal,.int .i64 m.n.lo,.int .i64 m.n.hi],.c (L g ws),.c (.int .u8 a)] (.c (.bool true)):=by
  refine Val_X (fn:=f12) rfl ?_
  have b1:j.vat.looks.length*32≤2^40:=by omega
  have b2:(j.vat.looks.length+1)*32≤2^40:=by omega
  have hsl:(j.vat.looks++[m]).length=j.vat.looks.length+1:=by simp
  have htk:(j.vat.looks++[m]).take (j.vat.looks.length+1)=j.vat.looks++[m]:=List.take_of_length_le (by omega)
  have hmp:j.vat.looks.map (Row.row (α:=Lk))++[[.int .i64 m.day,.bool m.bal,.int .i64 m.n.lo,.int .i64 m.n.hi]]=(j.vat.looks++[m]).map Row.row:=by rw [List.map_append];rfl
  have kt:=fun {Q:V→Prop}=>mready (j:=j) (g1:=g1) (g2:=g2) (g3:=g3) (g4:=g4) (g5:=g5) (Q:=Q)
  have kx:=fun {g4:Bool × Bool} {Q:V→Prop}=>mready (j:=lookJ j m) (g1:=g1) (g2:=g2) (g3:=g3) (g4:=g4) (g5:=g5) (Q:=Q)
  simp only [jobV] at kt kx
  cases ht:readyJ j with
  | false=>simp (maxSteps:=1000000) only [go_sem,f12,b1,b2,hmp,hsl,htk,List.drop_zero,Nat.le_refl,kt,ht,lawake7,disj_nil]
  | true=>
  cases htx:readyJ (lookJ j m) with
  | false=>simp (maxSteps:=1000000) only [go_sem,f12,b1,b2,hmp,hsl,htk,List.drop_zero,Nat.le_refl,kt,kx,ht,htx,lawake7,disj_nil]
  | true=>
  obtain ⟨hf,hs,h6,hj,h0⟩:=readyJ_of ht
  obtain ⟨hfx,hsx,h6x,hjx,h0x⟩:=readyJ_of htx
  by_cases h2:(j.pieces.length:Int)=0
  · simp (maxSteps:=1000000) only [go_sem,f12,b1,b2,hmp,hsl,htk,List.drop_zero,Nat.le_refl,kt,kx,ht,htx,h2,lawake7,disj_nil]
  obtain ⟨a,rfl⟩:∃n:Nat,a=n:=⟨a.toNat,by omega⟩
  have wa:IntKind.i64.wrap (a:Int)=(a:Int):=wrapB (by omega) (by omega)
  have hl:0<j.pieces.length:=by omega
  obtain ⟨k,hk⟩:∃k,k=a % j.pieces.length:=⟨_,rfl⟩
  have ma:(a:Int).tmod (j.pieces.length:Nat)=(k:Int):=by rw [hk];rfl
  have kl:k<j.pieces.length:=by rw [hk];exact Nat.mod_lt _ hl
  have kJ:=fun {Q:V→Prop}=>mJob (j:=j) (g1:=g1) (g2:=g2) (g3:=g3) (g4:=g4) (g5:=g5) hs h6 (Q:=Q)
  have kJx:=fun {g4:Bool × Bool} {Q:V→Prop}=>mJob (j:=lookJ j m) (g1:=g1) (g2:=g2) (g3:=g3) (g4:=g4) (g5:=g5) hsx h6x (Q:=Q)
  obtain ⟨bp,hpl⟩:=mPlan (j:=j) (g1:=g1) (g2:=g2) (g3:=g3) (g4:=g4) (g5:=g5) (g:=g) h6 (ws:=ws)
  have kW:=fun {Q:V→Prop}=>CallP_of hpl (Q:=Q)
  have htot:=planW_total (j:=j) (ws:=ws)
  have hlen:=planW_len (j:=j) (ws:=ws)
  obtain ⟨p,hp⟩:∃p,p=planW j ws:=⟨_,rfl⟩
  rw [←hp] at htot hlen
  simp only [←hp] at kW
  have hpb:p.length<Big:=big_of (by omega)
  have htx':totalB (lookJ j m) p=true:=(total_congr (j:=j) (j':=lookJ j m) rfl).trans htot
  have kS:=fun {g:Bool × Bool} {Q:V→Prop}=>msteps (plan:=p) (g:=g) (by omega) (Q:=Q)
  have ok1:judgeOk j p [(k:Int)]=true:=by
    simp only [judgeOk,htot,Bool.true_and,List.all_cons,List.all_nil,pieceOk,Bool.and_eq_true,inR_iff,and_true];omega
  have ok1x:judgeOk (lookJ j m) p [(k:Int)]=true:=by
    simp only [judgeOk,htx',Bool.true_and,List.all_cons,List.all_nil,pieceOk,Bool.and_eq_true,inR_iff,and_true];omega
  have m1:=fun {g1 g2 g3 g4 g5 g:Bool × Bool} {Q:V→Prop}=>(pRight (j:=j) (plan:=p) (i:=(k:Int)) (g:=g) (g1:=g1) (g2:=g2) (g3:=g3) (g4:=g4) (g5:=g5) hf hpb (Q:=Q)).trans (by rw [judge_val h0 ok1])
  have m2:=fun {g1 g2 g3 g4 g5 g:Bool × Bool} {Q:V→Prop}=>(pRight (j:=lookJ j m) (plan:=p) (i:=(k:Int)) (g:=g) (g1:=g1) (g2:=g2) (g3:=g3) (g4:=g4) (g5:=g5) hfx hpb (Q:=Q)).trans (by rw [judge_val h0x ok1x])
  have m3:=fun {g1 g2 g3 g4 g5 g:Bool × Bool} {Q:V→Prop}=>(pOld (j:=j) (plan:=p) (i:=(k:Int)) (g:=g) (g1:=g1) (g2:=g2) (g3:=g3) (g4:=g4) (g5:=g5) hf hpb (Q:=Q)).trans (by rw [judge_val h0 ok1])
  have m4:=fun {g1 g2 g3 g4 g5 g:Bool × Bool} {Q:V→Prop}=>(pOld (j:=lookJ j m) (plan:=p) (i:=(k:Int)) (g:=g) (g1:=g1) (g2:=g2) (g3:=g3) (g4:=g4) (g5:=g5) hfx hpb (Q:=Q)).trans (by rw [judge_val h0x ok1x])
  have m5:=fun {g1 g2 g3 g4 g5:Bool × Bool} {Q:V→Prop}=>pBest (j:=j) (g1:=g1) (g2:=g2) (g3:=g3) (g4:=g4) (g5:=g5) hf (Q:=Q)
  have m6:=fun {g1 g2 g3 g4 g5:Bool × Bool} {Q:V→Prop}=>pBest (j:=lookJ j m) (g1:=g1) (g2:=g2) (g3:=g3) (g4:=g4) (g5:=g5) hfx (Q:=Q)
  have hsub:=look_work hj hjx
  have hWx:=workL_ne hjx
  have hmono:∀i b d,rightW j i b d=true→rightW (lookJ j m) i b d=true:=fun i b d h=>by
    rw [rightW,Bool.and_eq_true,List.all_eq_true] at h ⊢
    exact ⟨h.1,fun s hs=>h.2 s (hsub s hs)⟩
  have eoS:∀s,ofS (lookJ j m) s p=ofS j s p:=fun s=>ofS_congr rfl
  have eR:(fun s=>b2n (rightP (lookJ j m) p k s))=fun s=>b2n (rightP j p k s):=by
    funext s
    show b2n (inR ((ofS (lookJ j m) s p).getD _ default) _ _)=b2n (inR ((ofS j s p).getD _ default) _ _)
    rw [eoS]
  have eO:oldN (lookJ j m) p k=oldN j p k:=by
    funext s
    show List.countP (fun y=>nearB (lookJ j m) ((ofS (lookJ j m) s p).getD _ default) y) (oldC (lookJ j m) ((ofS (lookJ j m) s p).getD _ default))=List.countP (fun y=>nearB j ((ofS j s p).getD _ default) y) (oldC j ((ofS j s p).getD _ default))
    rw [eoS];rfl
  rw [eR] at m2
  rw [eO] at m4
  have c1:=vd_sub hsub hWx (ys:=fun s=>b2n (rightP j p k s)) (ms:=fun _=>1) (fun s=>b2n_le1) (fun s=>Nat.le_refl _)
  have c2:=vd_sub hsub hWx (ys:=oldN j p k) (ms:=fun _=>3) (fun s=>oldN_le) (fun s=>by decide)
  obtain ⟨u1,u2,u3,u4,ub1,ub2,ub3⟩:∃(cb cx:C) (nb nx:Int),BestR j = .tup [.c cb,.c (.int .i64 nb),.c (.int .i64 (bestE j))]∧BestR (lookJ j m) = .tup [.c cx,.c (.int .i64 nx),.c (.int .i64 (bestE (lookJ j m)))]∧(bestE j=0→bestE (lookJ j m)=0∧nx≤nb):=by
    rcases bestE_or (j:=j) with hb | hb
    · obtain ⟨c,n,e⟩:=best_val h0
      obtain ⟨c',n',e'⟩:=best_val h0x
      exact ⟨c,c',n,n',e,e',fun h=>by rw [hb] at h;cases h⟩
    · obtain ⟨q1,q2⟩:=best_mono (j:=j) (j':=lookJ j m) rfl hmono hb
      have e1:=best_ok h0 hb
      have e2:=best_ok h0x q1
      exact ⟨_,_,_,_,by rw [e1,hb],by rw [e2,q1],fun _=>⟨q1,q2⟩⟩
  rw [ub1] at m5
  rw [ub2] at m6
  generalize vd (sumN (fun s=>b2n (rightP j p k s)) (workL j)) (sumN (fun _=>1) (workL j))=x1 at *
  generalize vd (sumN (fun s=>b2n (rightP j p k s)) (workL (lookJ j m))) (sumN (fun _=>1) (workL (lookJ j m)))=x2 at *
  generalize vd (sumN (oldN j p k) (workL j)) (sumN (fun _=>3) (workL j))=y1 at *
  generalize vd (sumN (oldN j p k) (workL (lookJ j m))) (sumN (fun _=>3) (workL (lookJ j m)))=y2 at *
  have hbE:(bestE j=0∧bestE (lookJ j m)=0∧u4≤u3)∨(¬bestE j=0):=by
    by_cases h:bestE j=0
    · exact .inl ⟨h,(ub3 h).1,(ub3 h).2⟩
    · exact .inr h
  clear ub1 ub2 ub3
  generalize bestE j=be at *
  generalize bestE (lookJ j m)=bx at *
  simp only [jobV] at kJ kJx kW m1 m2 m3 m4 m5 m6
  rcases c1 with rfl | rfl<;>rcases c2 with rfl | rfl<;>rcases hbE with ⟨rfl,rfl,q3⟩ | q3
  all_goals simp (maxSteps:=1000000) only [go_sem,f12,b1,b2,hmp,hsl,htk,List.drop_zero,Nat.le_refl,kt,kx,ht,htx,h2,wa,ma,kJ,kJx,kW,kS,m1,m2,m3,m4,m5,m6,q3,lawake7,disj_nil]
end Am.Vt
