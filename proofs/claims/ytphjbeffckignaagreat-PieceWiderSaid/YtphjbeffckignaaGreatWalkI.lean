/-
  A part of the proof: the texts PX, QP, PY, L1, L6, L4, L7, L8, L9 of this seat, joined.
-/
import Derived.Test.YtphjbeffckignaaGreatWalkH
namespace Am.Vt
open Go Am
set_option maxRecDepth 100000
set_option maxHeartbeats 4000000
set_option linter.unusedSimpArgs false
set_option linter.unusedVariables false
variable {j:Job} {v:Vat} {plan:List Stp} {t:Truth} {s:Sh} {S:List Sh}
theorem sumN_le2 {ys ms:Sh→Nat} (h:∀s,ys s≤ms s):∀{l:List Sh},sumN ys l≤sumN ms l
  | []=>Nat.le_refl _
  | s::l=>by
    have:=sumN_le2 h (l:=l)
    have:=h s
    unfold sumN at *
    simp only [List.map_cons,List.sum_cons];omega
theorem b2n_le1 {b:Bool}:b2n b≤1:=by cases b<;>decide
theorem vd_one {a b:Nat}:vd a b=1↔a=b:=by
  unfold vd
  by_cases h:a=b
  · simp [h]
  · rw [if_neg h]
    split<;>simp [h]
end Am.Vt
namespace Am.Vt
open Go Am
set_option maxRecDepth 100000
set_option maxHeartbeats 4000000
set_option linter.unusedSimpArgs false
set_option linter.unusedVariables false
variable {g1 g2 g3 g4 g5 g gt gd:Bool × Bool} {j:Job} {v:Vat} {plan:List Stp} {t:Truth} {s:Sh} {S:List Sh}
structure Wb where
  n:Nat
  h:n<256
instance : Inhabited Wb:=⟨⟨0,by decide⟩⟩
instance : Row Wb:=⟨1,fun s=>[.int .u8 s.n],fun _=>rfl⟩
instance : Scal Wb:=⟨fun _=>rfl⟩
@[go_sem] theorem sz_wb : Row.sz Wb=1:=rfl
@[go_sem] theorem row_wb {s:Wb}:Row.row s=[.int .u8 s.n]:=rfl
def wordB (ws:List Wb) (a:Nat):Nat:=if ws=[] then 0 else (ws.getD (a % ws.length) default).n
theorem wordB_lt {ws:List Wb} {a:Nat}:wordB ws a<256:=by
  unfold wordB
  split
  · decide
  · exact (ws.getD (a % ws.length) default).h
theorem mword {g:Bool × Bool} {ws:List Wb} {a:Nat} (ha:a≤1000) {Q:V→Prop}:CallP tab 53 [.c (L g ws),.c (.int .i64 a)] Q↔Q (.c (.int .i64 (wordB ws a:Nat))):=CallP_of (by
  refine Val_X (fn:=f53) rfl ?_
  by_cases h:ws=[]
  · subst h
    simp only [go_sem,f53,wordB,List.length_nil]
  · have hl:=List.length_pos_iff.2 h
    have hz:¬((ws.length:Nat):Int)=0:=by omega
    obtain ⟨m,hm⟩:∃m,m=a % ws.length:=⟨_,rfl⟩
    have hml:m<ws.length:=by rw [hm];exact Nat.mod_lt _ hl
    have e1:(a:Int).tmod ((ws.length:Nat):Int)=(m:Int):=by rw [hm];rfl
    have hw:wordB ws a=(ws.getD m default).n:=by rw [wordB,if_neg h,hm]
    have hb:=(ws.getD m default).h
    have e2:IntKind.i64.wrap ((ws.getD m default).n:Int)=((ws.getD m default).n:Int):=wrapB (by omega) (by omega)
    simp only [go_sem,f53,hz,e1,hml,atI_nat,hw,e2])
def insAt (l:List Stp) (k:Nat) (z:Stp):List Stp:=l.take k++[z]++l.drop k
def planK (ws:List Wb):Nat→List Stp × Int
  | 0=>([],20)
  | i+1=>if wordB ws i % 5=4 then planK ws i else (insAt (planK ws i).1 (wordB ws i % ((planK ws i).1.length+1)) ⟨i,min (planK ws i).2 ((wordB ws i / 8 % 8:Nat):Int)⟩,(planK ws i).2-min (planK ws i).2 ((wordB ws i / 8 % 8:Nat):Int))
def planW (j:Job) (ws:List Wb):List Stp:=(planK ws j.pieces.length).1
def OL (out:List Stp) (c:C) (H:List Obj):Prop:=(out=[]∧c = .nils)∨(out≠[]∧∃o ver,c = .sl o ver 0 out.length∧getH H o = .arr false ver 2 (out.map Row.row))
theorem planK_left {ws:List Wb}:∀{i:Nat},0≤(planK ws i).2∧(planK ws i).2≤20∧(planK ws i).1.length≤i
  | 0=>by simp [planK]
  | i+1=>by
    have ih:=planK_left (ws:=ws) (i:=i)
    simp only [planK]
    split
    · omega
    · simp only [insAt,List.length_append,List.length_take,List.length_drop,List.length_singleton]
      omega
theorem mPlan (h6:j.pieces.length≤6) {ws:List Wb}:∃b:Bool,Val tab 38 [jobV g1 g2 g3 g4 g5 j,.c (L g ws)] (.c (L (b,false) (planW j ws))):=by
  suffices h:CallP tab 38 [jobV g1 g2 g3 g4 g5 j,.c (L g ws)] (fun r=>∃b:Bool,r = .c (L (b,false) (planW j ws))) by
    obtain ⟨r,hval,b,rfl⟩:=h
    exact ⟨b,hval⟩
  refine CallP_X (fn:=f38) rfl ?_
  simp only [go_sem,f38]
  refine RX_whileU (α:=Nat × C × List Obj) (fun y=>[(5,.c y.2.1),(6,.c (.int .i64 (planK ws y.1).2)),(7,.c (.int .i64 (y.1:Nat)))]) (fun y=>.cells (jobC g1 g2 g3 g4 g5 j)::y.2.2) (fun y=>y.1≤j.pieces.length∧OL (planK ws y.1).1 y.2.1 (.cells (jobC g1 g2 g3 g4 g5 j)::y.2.2)) (fun y=>j.pieces.length-y.1) (0,.nils,[]) ⟨Nat.zero_le _,.inl ⟨rfl,rfl⟩⟩ (by simp only [go_sem]<;>rfl) ?_
  rintro ⟨i,c,X⟩ ⟨hi,hO⟩
  simp only at hi hO
  by_cases hlt:i<j.pieces.length
  · have e4:IntKind.i64.wrap ((i:Int)+1)=((i+1:Nat):Int):=wrap_succ (n:=3000) (by omega) (by decide)
    have hw:=fun {Q:V→Prop}=>mword (g:=g) (ws:=ws) (a:=i) (by omega) (Q:=Q)
    have hwl:=wordB_lt (ws:=ws) (a:=i)
    obtain ⟨w,hwe⟩:∃w,w=wordB ws i:=⟨_,rfl⟩
    rw [←hwe] at hw hwl
    have z5:¬(5:Int)=0:=by decide
    have e5:(w:Int).tmod 5=((w % 5:Nat):Int):=rfl
    by_cases h4:w % 5=4
    · have h4':((w % 5:Nat):Int)=4:=by omega
      have hp:planK ws (i+1)=planK ws i:=by rw [planK,←hwe,if_pos h4]
      simp only [go_sem,hlt,hw,e5,h4',e4]
      exact ⟨(i+1,c,X),⟨by simp only;omega,by simp only;omega,by simp only [hp];exact hO⟩,⟨rfl,by simp only [hp],rfl⟩,rfl⟩
    · have h4':¬((w % 5:Nat):Int)=4:=by omega
      have hp:planK ws (i+1)=(insAt (planK ws i).1 (w % ((planK ws i).1.length+1)) ⟨i,min (planK ws i).2 ((w / 8 % 8:Nat):Int)⟩,(planK ws i).2-min (planK ws i).2 ((w / 8 % 8:Nat):Int)):=by rw [planK,←hwe,if_neg h4]
      have pl:=planK_left (ws:=ws) (i:=i)
      have w1:IntKind.i64.wrap ((w:Int).tdiv 8)=((w / 8:Nat):Int):=wrapB (n:=((w / 8:Nat):Int)) (by omega) (by omega)
      have w2:((w / 8:Nat):Int).tmod 8=((w / 8 % 8:Nat):Int):=rfl
      obtain ⟨d,hd⟩:∃d,d=min (planK ws i).2 ((w / 8 % 8:Nat):Int):=⟨_,rfl⟩
      have w3:IntKind.i64.wrap ((planK ws i).2-d)=(planK ws i).2-d:=wrapB (by omega) (by omega)
      rw [←hd] at hp
      have z8:¬(8:Int)=0:=by decide
      rcases hO with ⟨h0,rfl⟩ | ⟨h0,o,ver,rfl,ho⟩
      · rw [h0] at hp
        simp only [List.length_nil,Nat.zero_add,Nat.mod_one] at hp
        have w4:(w:Int).tmod 1=0:=by have:(w:Int).tmod 1=((w % 1:Nat):Int):=rfl;rw [this,Nat.mod_one];rfl
        simp only [go_sem,hlt,hw,e5,h4',e4,w1,w2,←hd,w3,w4]
        refine ⟨(i+1,.sl (X.length+2) 3 0 1,_),⟨by simp only;omega,by simp only;omega,?_⟩,⟨rfl,by simp only [hp],rfl⟩,rfl⟩
        simp only [hp]
        refine .inr ⟨by simp [insAt],X.length+2,3,by simp [insAt],?_⟩
        rw [show X.length+2=(X.length+1)+1 by omega]
        simp only [go_sem,insAt,List.take_nil,List.drop_nil]
      · obtain ⟨n,hn⟩:∃n,n=(planK ws i).1.length:=⟨_,rfl⟩
        obtain ⟨k,hk⟩:∃k,k=w % (n+1):=⟨_,rfl⟩
        have hkn:k≤n:=by rw [hk];have:=Nat.mod_lt w (show n+1>0 by omega);omega
        have w5:IntKind.i64.wrap ((n:Int)+1)=((n+1:Nat):Int):=wrap_succ (n:=3000) (by omega) (by decide)
        have w6:¬((n+1:Nat):Int)=0:=by omega
        have w7:(w:Int).tmod ((n+1:Nat):Int)=(k:Int):=by rw [hk];rfl
        have k0:(0:Int)≤k:=by omega
        rw [←hn,←hk] at hp
        have lo:=lt_of_getH (h:=.cells (jobC g1 g2 g3 g4 g5 j)::X) (o:=o) (by rw [ho];simp)
        have hoX:∀Y,getH (.cells (jobC g1 g2 g3 g4 g5 j)::(X++Y)) o = .arr false ver 2 ((planK ws i).1.map Row.row):=fun Y=>getH_keep (X:=Y) ho (by simp)
        have c1:k≤n∧2=2:=⟨hkn,rfl⟩
        have n6:n≤6:=by omega
        have hkl:k≤(planK ws i).1.length:=by omega
        have hkd:k+(n-k)≤(planK ws i).1.length:=by omega
        have hh:∀l:List Stp,headLen 2 (l.map (Row.row (α:=Stp)))=true:=fun l=>headLen_map (sz:=2) rfl
        have tl:((planK ws i).1.take k).length=k:=by rw [List.length_take];omega
        have htd:((planK ws i).1.drop k).take (n-k)=(planK ws i).1.drop k:=List.take_of_length_le (by rw [List.length_drop];omega)
        have dl:((planK ws i).1.drop k).length=n-k:=by rw [List.length_drop];omega
        have b1:k*16≤2^40:=by omega
        have b2:(k+1)*16≤2^40:=by omega
        have b3:(k+(1+(n-k)))*16≤2^40:=by omega
        simp only [List.length_cons] at lo
        have z0:¬o=X.length+1:=by omega
        have z1:¬X.length+1=o:=by omega
        have z2:¬o=X.length+2:=by omega
        have z3:¬X.length+2=o:=by omega
        have z4:¬o=X.length+3:=by omega
        have z5:¬X.length+3=o:=by omega
        have z6:¬o=X.length+4:=by omega
        have z7:¬X.length+4=o:=by omega
        have z8:¬o=X.length+5:=by omega
        have z9:¬X.length+5=o:=by omega
        simp only [go_sem,hlt,hw,e5,h4',e4,w1,w2,←hd,w3,←hn,w5,w6,w7,k0,hoX,c1,hkn,z0,z1,z2,z3,z4,z5,z6,z7,z8,z9,takeN_L hkl,hh,List.length_map,tl,b1,part_L hkd,htd,dl,b2,b3]
        have hil:(insAt (planK ws i).1 k ⟨i,d⟩).length=k+(1+(n-k)):=by simp only [insAt,List.length_append,List.length_singleton,tl,dl,Nat.add_assoc]
        refine ⟨(i+1,.sl (X.length+2) 3 0 (k+(1+(n-k))),_),⟨by simp only;omega,by simp only;omega,?_⟩,⟨rfl,by simp only [hp],rfl⟩,rfl⟩
        simp only [hp]
        refine .inr ⟨by simp [insAt],X.length+2,3,by rw [hil],?_⟩
        rw [show X.length+2=(X.length+1)+1 by omega]
        simp only [go_sem,insAt,List.map_append,List.append_assoc]
  · have:i=j.pieces.length:=by omega
    subst this
    rcases hO with ⟨h0,rfl⟩ | ⟨h0,o,ver,rfl,ho⟩
    · simp only [go_sem,hlt]
      exact ⟨true,by rw [planW,h0];rfl⟩
    · have hpt:=part_map (l:=(planK ws j.pieces.length).1) (n:=(planK ws j.pieces.length).1.length) rfl
      simp only [part,dropN] at hpt
      simp only [go_sem,hlt,ho,hpt]
      exact ⟨false,rfl⟩
theorem sumD_app {a b:List Stp}:sumD (a++b)=sumD a+sumD b:=by
  unfold sumD
  rw [List.map_append]
  show (_:List Int).foldl _ _=_
  rw [List.foldl_append,foldl_add];rfl
theorem ins_perm {l:List Stp} {k:Nat} {z:Stp}:(insAt l k z).Perm (z::l):=by
  unfold insAt
  rw [List.append_assoc]
  refine List.Perm.trans List.perm_append_comm ?_
  rw [List.append_assoc]
  refine List.Perm.cons z ?_
  refine List.Perm.trans List.perm_append_comm ?_
  rw [List.append_nil]
  refine List.Perm.trans List.perm_append_comm ?_
  rw [List.take_append_drop]
theorem ins_sum {l:List Stp} {k:Nat} {z:Stp}:sumD (insAt l k z)=sumD l+z.dips:=by
  have h:sumD l=sumD (l.take k)+sumD (l.drop k):=by rw [←sumD_app,List.take_append_drop]
  have h1:sumD [z]=z.dips:=by simp [sumD,sumI]
  rw [insAt,sumD_app,sumD_app,h1,h];omega
structure PlanOk (n:Nat) (l:List Stp) (left:Int):Prop where
  rng:∀s∈l,0≤s.piece∧s.piece<n∧0≤s.dips∧s.dips≤20
  dis:l.Pairwise fun a b=>a.piece≠b.piece
  sum:sumD l+left=20
  left:0≤left
theorem planK_ok {ws:List Wb}:∀{i:Nat},PlanOk i (planK ws i).1 (planK ws i).2
  | 0=>⟨fun s hs=>by simp [planK] at hs,by simp [planK],rfl,by simp [planK]⟩
  | i+1=>by
    have ih:=planK_ok (ws:=ws) (i:=i)
    have pl:=planK_left (ws:=ws) (i:=i)
    simp only [planK]
    split
    · exact ⟨fun s hs=>by have:=ih.rng s hs;omega,ih.dis,ih.sum,ih.left⟩
    · obtain ⟨d,hd⟩:∃d,d=min (planK ws i).2 ((wordB ws i / 8 % 8:Nat):Int):=⟨_,rfl⟩
      simp only [←hd]
      have hp:=ins_perm (l:=(planK ws i).1) (k:=wordB ws i % ((planK ws i).1.length+1)) (z:=⟨i,d⟩)
      refine ⟨fun s hs=>?_,?_,?_,by omega⟩
      · rcases List.mem_cons.1 (hp.mem_iff.1 hs) with rfl | hs
        · simp only;omega
        · have:=ih.rng s hs;omega
      · rw [hp.pairwise_iff (fun h=>Ne.symm h),List.pairwise_cons]
        exact ⟨fun s hs=>by have:=ih.rng s hs;simp only;omega,ih.dis⟩
      · rw [ins_sum]
        have:=ih.sum
        simp only;omega
theorem distinct_of {l:List Stp} (h:l.Pairwise fun a b=>a.piece≠b.piece):distinctB l=true:=by
  rw [distinctB,List.all_eq_true]
  intro k hk
  rw [List.mem_range] at hk
  rw [freshB,Bool.not_eq_true',List.any_eq_false]
  intro x hx
  obtain ⟨i,hi,rfl⟩:=List.mem_take_iff_getElem.1 hx
  rw [List.pairwise_iff_getElem] at h
  have:=h i k (by omega) hk (by omega)
  simpa [List.getD_eq_getElem?_getD,List.getElem?_eq_getElem hk] using this
theorem planOk_total {l:List Stp} {left:Int} (h:PlanOk j.pieces.length l left):totalB j l=true:=by
  have h1:l.all (stepOk j)=true:=by
    rw [List.all_eq_true]
    intro s hs
    have:=h.rng s hs
    simp only [stepOk,pieceOk,Bool.and_eq_true,inR_iff];omega
  have h2:=distinct_of h.dis
  have h3:l.length≤j.pieces.length:=plan_short h1 fun i hi=>by
    rw [distinctB,List.all_eq_true] at h2
    exact h2 i (List.mem_range.2 hi)
  have:=h.sum
  have:=h.left
  rw [totalB,planOkB,h1,h2,decide_eq_true h3,decide_eq_true (by omega)];rfl
theorem planW_total {ws:List Wb}:totalB j (planW j ws)=true:=planOk_total planK_ok
theorem planW_len {ws:List Wb}:(planW j ws).length≤j.pieces.length:=planK_left.2.2
end Am.Vt
namespace Am.Vt
open Go Am
set_option maxRecDepth 100000
set_option maxHeartbeats 4000000
set_option linter.unusedSimpArgs false
set_option linter.unusedVariables false
variable {j:Job} {v:Vat} {plan:List Stp} {t:Truth} {s:Sh} {S:List Sh}
end Am.Vt
namespace Am.Vt
open Go Am
set_option maxRecDepth 100000
set_option maxHeartbeats 4000000
set_option linter.unusedSimpArgs false
set_option linter.unusedVariables false
variable {g1 g2 g3 g4 g5 g gt gd:Bool × Bool} {j:Job} {v:Vat} {plan:List Stp} {t:Truth} {s:Sh} {S:List Sh}
end Am.Vt
namespace Am.Vt
open Go Am
set_option maxRecDepth 100000
set_option maxHeartbeats 4000000
set_option linter.unusedSimpArgs false
set_option linter.unusedVariables false
variable {g1 g2 g3 g4 g5 g gt gd:Bool × Bool} {j:Job} {v:Vat} {plan:List Stp} {t:Truth} {s:Sh} {S:List Sh}
theorem check_of (hj:j.Valid):checkJob j=0:=by
  have h4:=hj.pieces4
  have ha:askE j.vat true=0:=by rw [askE,if_neg (by rw [hj.check];simp),if_neg (by decide),if_neg (by rw [hj.pos];decide)]
  have h1:inR j.day 0 j.vat.last=true:=by rw [inR_iff];exact hj.day
  have h2:inR j.eye 0 9999=true:=by rw [inR_iff];exact hj.eye
  have h3:shadeR j.old=true:=by have:=hj.old;simp only [shadeR,rgOf,Bool.and_eq_true,decide_eq_true_eq];omega
  have h5:j.pieces.all shadeR=true:=by
    rw [List.all_eq_true]
    intro r hr
    have:=hj.pcs r hr
    simp only [shadeR,rgOf,Bool.and_eq_true,decide_eq_true_eq];omega
  rw [checkJob,if_neg (by omega),if_neg (by rw [ha];simp),h1,h2,h3,h5];rfl
theorem ofK_congr {j':Job} (h:j'.pieces.length=j.pieces.length):∀{k:Nat},ofK j' s plan k=ofK j s plan k
  | 0=>by simp only [ofK,h]
  | k+1=>by simp only [ofK,ofK_congr h (k:=k)]
theorem ofS_congr {j':Job} (h:j'.pieces.length=j.pieces.length):ofS j' s plan=ofS j s plan:=by unfold ofS;rw [ofK_congr h]
theorem total_congr {j':Job} (h:j'.pieces.length=j.pieces.length):totalB j' plan=totalB j plan:=by
  have e:stepOk j'=stepOk j:=by funext s;simp only [stepOk,pieceOk,h]
  simp only [totalB,planOkB,h,e]
theorem judge_val {l:List Int} {ys ms:Sh→Nat} (h0:checkJob j=0) (hb:judgeOk j plan l=true):JudgeR j plan l ys ms = .tup [.c (.int .i64 (vd (sumN ys (workL j)) (sumN ms (workL j)))),.c (.int .i64 0)]:=by
  rw [JudgeR,if_neg]
  rw [askJ,if_neg (by rw [h0];simp),if_neg (by rw [hb];decide)];simp
theorem vd_two {a b:Nat}:vd a b=2↔a≠b∧a=0:=by
  unfold vd
  by_cases h:a=b
  · rw [if_pos h];simp [h]
  · rw [if_neg h]
    by_cases h0:a=0
    · rw [if_pos h0];simp only [h0,true_iff,and_true];omega
    · rw [if_neg h0];simp [h0]
theorem sumN_pos {ms:Sh→Nat} (h:∀s,1≤ms s) {W:List Sh} (hW:W≠[]):1≤sumN ms W:=by
  cases W with
  | nil=>exact absurd rfl hW
  | cons s l=>
    have:=h s
    have e:sumN ms (s::l)=ms s+sumN ms l:=by simp [sumN]
    omega
theorem vd_mono {W:List Sh} (hW:W≠[]) {ys ys' ms:Sh→Nat} (h1:∀s,ys s≤ys' s) (h2:∀s,ys' s≤ms s) (h3:∀s,1≤ms s):(vd (sumN ys W) (sumN ms W)=1→vd (sumN ys' W) (sumN ms W)=1)∧(vd (sumN ys' W) (sumN ms W)=2→vd (sumN ys W) (sumN ms W)=2):=by
  have a:=sumN_le2 h1 (l:=W)
  have b:=sumN_le2 h2 (l:=W)
  have c:=sumN_pos h3 hW
  rw [vd_one,vd_one,vd_two,vd_two]
  omega
theorem b2n_mono {a b:Bool} (h:a=true→b=true):b2n a≤b2n b:=by
  cases a<;>cases b<;>simp_all [b2n]
end Am.Vt
namespace Am.Vt
open Go Am
set_option maxRecDepth 100000
set_option maxHeartbeats 4000000
set_option linter.unusedSimpArgs false
set_option linter.unusedVariables false
variable {g1 g2 g3 g4 g5 g gt gd:Bool × Bool} {j:Job} {v:Vat} {plan:List Stp} {t:Truth} {s:Sh} {S:List Sh}
end Am.Vt
namespace Am.Vt
open Go Am
set_option maxRecDepth 100000
set_option maxHeartbeats 4000000
set_option linter.unusedSimpArgs false
set_option linter.unusedVariables false
variable {g1 g2 g3 g4 g5 g gt gd:Bool × Bool} {j:Job} {v:Vat} {plan:List Stp} {t:Truth} {s:Sh} {S:List Sh}
theorem mem_hope {i:Nat}:(i:Int)∈hopeL j↔i<j.pieces.length∧∀b d,rightW j i b d=false:=by
  have e:hopeL j=((List.range j.pieces.length).filter (hopeB j)).map Int.ofNat:=rfl
  rw [e]
  simp only [List.mem_map,List.mem_filter,List.mem_range]
  have key:hopeB j i=true↔∀b d,rightW j i b d=false:=by
    simp only [hopeB,noB,List.all_eq_true,List.mem_range,Bool.not_eq_true']
    constructor
    · intro h b d
      by_cases hbd:b+d≤20
      · exact h b (by omega) d (by omega)
      · rw [rightW,decide_eq_false hbd,Bool.false_and]
    · intro h b _ d _;exact h b d
  constructor
  · rintro ⟨a,⟨h1,h2⟩,h3⟩
    have:a=i:=Int.ofNat.inj h3
    subst this
    exact ⟨h1,key.1 h2⟩
  · rintro ⟨h1,h2⟩
    exact ⟨i,⟨h1,key.2 h2⟩,rfl⟩
theorem hope_nat : ∀x∈hopeL j,∃i:Nat,x=i:=by
  intro x hx
  have e:hopeL j=((List.range j.pieces.length).filter (hopeB j)).map Int.ofNat:=rfl
  rw [e,List.mem_map] at hx
  obtain ⟨a,_,rfl⟩:=hx
  exact ⟨a,rfl⟩
def bestE (j:Job):Int:=if (frJ j 20 0 0).many<j.pieces.length then 10 else 0
theorem best_val (h0:checkJob j=0):∃c n,BestR j = .tup [.c c,.c (.int .i64 n),.c (.int .i64 (bestE j))]:=by
  have ha:askJ j true=0:=by rw [askJ,if_neg (by rw [h0];simp),if_neg (by decide)]
  rw [BestR,if_neg (by rw [ha];simp)]
  unfold bestE
  by_cases hm:(frJ j 20 0 0).many<j.pieces.length
  · rw [if_pos hm,if_pos hm];exact ⟨_,_,rfl⟩
  · rw [if_neg hm,if_neg hm];exact ⟨_,_,rfl⟩
theorem bestE_or : bestE j=10∨bestE j=0:=by unfold bestE;split<;>simp
end Am.Vt
namespace Am.Vt
open Go Am
set_option maxRecDepth 100000
set_option maxHeartbeats 4000000
set_option linter.unusedSimpArgs false
set_option linter.unusedVariables false
variable {g1 g2 g3 g4 g5 g gt gd:Bool × Bool} {j:Job} {v:Vat} {plan:List Stp} {t:Truth} {s:Sh} {S:List Sh}
end Am.Vt
namespace Am.Vt
open Go Am
set_option maxRecDepth 100000
set_option maxHeartbeats 4000000
set_option linter.unusedSimpArgs false
set_option linter.unusedVariables false
variable {g1 g2 g3 g4 g5 g gt gd:Bool × Bool} {j:Job} {v:Vat} {plan:List Stp} {t:Truth} {s:Sh} {S:List Sh}
abbrev pcJ (j:Job) (k:Nat) (r:Rg):Job:=⟨j.vat,j.day,j.pieces.set k r,j.eye,j.old⟩
theorem pc_valid (hj:j.Valid) {k:Nat} {r:Rg} (h:0≤r.lo∧r.lo≤r.hi∧r.hi≤9999):(pcJ j k r).Valid:=⟨hj.vat,hj.check,hj.pos,by show (j.pieces.set k r).length≤4;rw [List.length_set];exact hj.pieces4,hj.day,hj.eye,hj.old,fun x hx=>by
  rcases List.mem_or_eq_of_mem_set hx with h' | h'
  · exact hj.pcs x h'
  · rw [h'];exact h⟩
theorem pc_right {k:Nat} {r:Rg} (hk:k<j.pieces.length) (h1:r.lo≤(j.pieces.getD k default).lo) (h2:(j.pieces.getD k default).hi≤r.hi) {i:Nat} {n:Int} (h:inR n (j.pieces.getD i default).lo (j.pieces.getD i default).hi=true):inR n ((pcJ j k r).pieces.getD i default).lo ((pcJ j k r).pieces.getD i default).hi=true:=by
  show inR n ((j.pieces.set k r).getD i default).lo ((j.pieces.set k r).getD i default).hi=true
  by_cases hik:i=k
  · subst hik
    have:(j.pieces.set i r).getD i default=r:=by rw [getD_lt _ _ _ (by rw [List.length_set];exact hk),List.getElem_set_self]
    rw [this]
    rw [inR_iff] at h ⊢
    omega
  · have:(j.pieces.set k r).getD i default=j.pieces.getD i default:=by simp only [List.getD_eq_getElem?_getD,List.getElem?_set_ne (Ne.symm hik)]
    rw [this];exact h
theorem pc_rightW {k:Nat} {r:Rg} (hk:k<j.pieces.length) (h1:r.lo≤(j.pieces.getD k default).lo) (h2:(j.pieces.getD k default).hi≤r.hi) {i b d:Nat} (h:rightW j i b d=true):rightW (pcJ j k r) i b d=true:=by
  rw [rightW,Bool.and_eq_true,List.all_eq_true] at h ⊢
  exact ⟨h.1,fun s hs=>pc_right hk h1 h2 (h.2 s hs)⟩
theorem best_mono {j':Job} (hn:j'.pieces.length=j.pieces.length) (h:∀i b d,rightW j i b d=true→rightW j' i b d=true) (h0:bestE j=0):bestE j'=0∧(frJ j' 20 0 0).dips≤(frJ j 20 0 0).dips:=by
  have hm:=fromF_mono (g:=gnJ j) (g':=gnJ j') (n:=j.pieces.length) (most:=20) (fun i b d _=>h i b d) (f:=j.pieces.length) (done:=0) (b:=0)
  have e1:frJ j 20 0 0=fromF (gnJ j) j.pieces.length 20 j.pieces.length 0 0:=by show fromF _ _ _ (und _ 0) 0 0=_;rw [und_0]
  have e2:frJ j' 20 0 0=fromF (gnJ j') j.pieces.length 20 j.pieces.length 0 0:=by show fromF _ _ _ (und _ 0) 0 0=_;rw [und_0,hn]
  rw [←e1,←e2] at hm
  have hb1:=(fromF_bd (g:=gnJ j') (n:=j.pieces.length) (most:=20) (f:=j.pieces.length) (done:=0) (b:=0)).2.1
  have hb2:=(fromF_bd (g:=gnJ j) (n:=j.pieces.length) (most:=20) (f:=j.pieces.length) (done:=0) (b:=0)).2.1
  rw [←e2] at hb1
  rw [←e1] at hb2
  unfold geR at hm
  unfold bestE at h0 ⊢
  rw [hn]
  split at h0
  · cases h0
  · rw [if_neg (by omega)]
    exact ⟨rfl,by omega⟩
theorem best_ok (h0:checkJob j=0) (hb:bestE j=0):BestR j = .tup [.c (L (false,false) (planJ j 20)),.c (.int .i64 (frJ j 20 0 0).dips),.c (.int .i64 0)]:=by
  have ha:askJ j true=0:=by rw [askJ,if_neg (by rw [h0];simp),if_neg (by decide)]
  rw [BestR,if_neg (by rw [ha];simp)]
  unfold bestE at hb
  split at hb
  · cases hb
  · rename_i h;rw [if_neg h]
theorem hope_val (h0:checkJob j=0):HopeR j = .tup [.c (L (false,false) (hopeL j)),.c (.int .i64 0)]:=by
  have ha:askJ j true=0:=by rw [askJ,if_neg (by rw [h0];simp),if_neg (by decide)]
  rw [HopeR,if_neg (by rw [ha];simp)]
theorem hopeL_le : (hopeL j).length≤j.pieces.length:=hopeK_len
theorem hope_mono {j':Job} (hn:j'.pieces.length=j.pieces.length) (h:∀i b d,rightW j i b d=true→rightW j' i b d=true):∀x∈hopeL j',x∈hopeL j:=by
  intro x hx
  obtain ⟨i,rfl⟩:=hope_nat x hx
  obtain ⟨h1,h2⟩:=mem_hope.1 hx
  refine mem_hope.2 ⟨by omega,fun b d=>?_⟩
  cases hr:rightW j i b d with
  | false=>rfl
  | true=>
    have:=h2 b d
    rw [h i b d hr] at this;cases this
theorem setNth_row {α:Type} [Row α] {x:α}:∀{w:List α} {y:Nat},setNth (w.map Row.row) y (Row.row x)=(w.set y x).map Row.row
  | [],_=>rfl
  | a::w,0=>rfl
  | a::w,y+1=>by
    simp only [List.map_cons,setNth,List.set_cons_succ,setNth_row (w:=w)]
theorem any_take {l:List Int} {y:Int} {d:Nat} (h:d<l.length):((l.take (d+1)).any fun x=>decide (x=y))=((l.take d).any (fun x=>decide (x=y))||decide (l.getD d default=y)):=by
  rw [take_getD h default,List.any_append];simp
theorem PieceWider_val {a b:Int} {ws:List Wb} (ha0:0≤a) (ha1:a≤255) (hb0:0≤b) (hb1:b≤255):Val tab 11 [jobV g1 g2 g3 g4 g5 j,.c (.int .u8 a),.c (.int .u8 b),.c (L g ws)] (.c (.bool true)):=by
  refine Val_X (fn:=f11) rfl ?_
  have kt:=fun {Q:V→Prop}=>mready (j:=j) (g1:=g1) (g2:=g2) (g3:=g3) (g4:=g4) (g5:=g5) (Q:=Q)
  simp only [jobV] at kt
  cases ht:readyJ j with
  | false=>simp only [go_sem,f11,kt,ht,lawake7,disj_nil]
  | true=>
  obtain ⟨hf,hs,h6,hj,h0⟩:=readyJ_of ht
  by_cases h2:(j.pieces.length:Int)=0
  · simp only [go_sem,f11,kt,ht,h2,lawake7,disj_nil]
  obtain ⟨a,rfl⟩:∃n:Nat,a=n:=⟨a.toNat,by omega⟩
  obtain ⟨b,rfl⟩:∃n:Nat,b=n:=⟨b.toNat,by omega⟩
  have wa:IntKind.i64.wrap (a:Int)=(a:Int):=wrapB (by omega) (by omega)
  have wb:IntKind.i64.wrap (b:Int)=(b:Int):=wrapB (by omega) (by omega)
  have hl:0<j.pieces.length:=by omega
  obtain ⟨k,hk⟩:∃k,k=a % j.pieces.length:=⟨_,rfl⟩
  have ma:(a:Int).tmod (j.pieces.length:Nat)=(k:Int):=by rw [hk];rfl
  have kl:k<j.pieces.length:=by rw [hk];exact Nat.mod_lt _ hl
  have m7:(b:Int).tmod 7=((b % 7:Nat):Int):=rfl
  have d7:IntKind.i64.wrap ((b:Int).tdiv 7)=((b / 7:Nat):Int):=wrapB (n:=((b / 7:Nat):Int)) (by omega) (by omega)
  have e7:((b / 7:Nat):Int).tmod 7=((b / 7 % 7:Nat):Int):=rfl
  obtain ⟨z,hz⟩:∃z,z=j.pieces.getD k default:=⟨_,rfl⟩
  have hzb:=hj.pcs z (by rw [hz];exact getD_mem kl)
  have w1:IntKind.i64.wrap (z.lo-((b % 7:Nat):Int))=z.lo-((b % 7:Nat):Int):=wrapB (by omega) (by omega)
  have w2:IntKind.i64.wrap (z.hi+((b / 7 % 7:Nat):Int))=z.hi+((b / 7 % 7:Nat):Int):=wrapB (by omega) (by omega)
  obtain ⟨r,hr⟩:∃r:Rg,r=⟨max 0 (z.lo-((b % 7:Nat):Int)),min 9999 (z.hi+((b / 7 % 7:Nat):Int))⟩:=⟨_,rfl⟩
  have r1:r.lo≤z.lo:=by rw [hr];simp only;omega
  have r2:z.hi≤r.hi:=by rw [hr];simp only;omega
  have r3:0≤r.lo∧r.lo≤r.hi∧r.hi≤9999:=by rw [hr];simp only;omega
  have r4:max 0 (z.lo-((b % 7:Nat):Int))=r.lo:=by rw [hr]
  have r5:min 9999 (z.hi+((b / 7 % 7:Nat):Int))=r.hi:=by rw [hr]
  have hjx:=pc_valid hj (k:=k) r3
  have h0x:=check_of hjx
  have hnx:(pcJ j k r).pieces.length=j.pieces.length:=List.length_set
  have hmono:∀i b d,rightW j i b d=true→rightW (pcJ j k r) i b d=true:=fun i b d h=>pc_rightW kl (by rw [←hz];exact r1) (by rw [←hz];exact r2) h
  have kJ:=fun {Q:V→Prop}=>mJob (j:=j) (g1:=g1) (g2:=g2) (g3:=g3) (g4:=g4) (g5:=g5) hs h6 (Q:=Q)
  have kJx:=fun {g5:Bool × Bool} {Q:V→Prop}=>mJob (j:=pcJ j k r) (g1:=g1) (g2:=g2) (g3:=g3) (g4:=g4) (g5:=g5) hs (by rw [hnx];exact h6) (Q:=Q)
  obtain ⟨bp,hpl⟩:=mPlan (j:=j) (g1:=g1) (g2:=g2) (g3:=g3) (g4:=g4) (g5:=g5) (g:=g) h6 (ws:=ws)
  have kW:=fun {Q:V→Prop}=>CallP_of hpl (Q:=Q)
  have htot:=planW_total (j:=j) (ws:=ws)
  have hlen:=planW_len (j:=j) (ws:=ws)
  obtain ⟨p,hp⟩:∃p,p=planW j ws:=⟨_,rfl⟩
  rw [←hp] at htot hlen
  simp only [←hp] at kW
  have hpb:p.length<Big:=big_of (by omega)
  have htx:totalB (pcJ j k r) p=true:=(total_congr (j:=j) hnx).trans htot
  have kS:=fun {g:Bool × Bool} {Q:V→Prop}=>msteps (plan:=p) (g:=g) (by omega) (Q:=Q)
  have ok1:judgeOk j p [(k:Int)]=true:=by
    simp only [judgeOk,htot,Bool.true_and,List.all_cons,List.all_nil,pieceOk,Bool.and_eq_true,inR_iff,and_true];omega
  have ok1x:judgeOk (pcJ j k r) p [(k:Int)]=true:=by
    simp only [judgeOk,htx,Bool.true_and,List.all_cons,List.all_nil,pieceOk,Bool.and_eq_true,inR_iff,and_true,hnx];omega
  have m1:=fun {g1 g2 g3 g4 g5 g:Bool × Bool} {Q:V→Prop}=>(pRight (j:=j) (plan:=p) (i:=(k:Int)) (g:=g) (g1:=g1) (g2:=g2) (g3:=g3) (g4:=g4) (g5:=g5) hf hpb (Q:=Q)).trans (by rw [judge_val h0 ok1])
  have m2:=fun {g1 g2 g3 g4 g5 g:Bool × Bool} {Q:V→Prop}=>(pRight (j:=pcJ j k r) (plan:=p) (i:=(k:Int)) (g:=g) (g1:=g1) (g2:=g2) (g3:=g3) (g4:=g4) (g5:=g5) hjx.fits hpb (Q:=Q)).trans (by rw [judge_val h0x ok1x])
  have m3:=fun {g1 g2 g3 g4 g5:Bool × Bool} {Q:V→Prop}=>pBest (j:=j) (g1:=g1) (g2:=g2) (g3:=g3) (g4:=g4) (g5:=g5) hf (Q:=Q)
  have m4:=fun {g1 g2 g3 g4 g5:Bool × Bool} {Q:V→Prop}=>pBest (j:=pcJ j k r) (g1:=g1) (g2:=g2) (g3:=g3) (g4:=g4) (g5:=g5) hjx.fits (Q:=Q)
  have m5:=fun {g1 g2 g3 g4 g5:Bool × Bool} {Q:V→Prop}=>pHopeless (j:=j) (g1:=g1) (g2:=g2) (g3:=g3) (g4:=g4) (g5:=g5) hf (Q:=Q)
  have m6:=fun {g1 g2 g3 g4 g5:Bool × Bool} {Q:V→Prop}=>pHopeless (j:=pcJ j k r) (g1:=g1) (g2:=g2) (g3:=g3) (g4:=g4) (g5:=g5) hjx.fits (Q:=Q)
  rw [hope_val h0] at m5
  rw [hope_val h0x] at m6
  have hW:=workL_ne hj
  have hWx:workL (pcJ j k r)=workL j:=rfl
  have eoS:∀s,ofS (pcJ j k r) s p=ofS j s p:=fun s=>ofS_congr hnx
  have c1:=(vd_mono hW (ys:=fun s=>b2n (rightP j p k s)) (ys':=fun s=>b2n (rightP (pcJ j k r) p k s)) (ms:=fun _=>1) (fun s=>b2n_mono fun h=>by
    have h':inR ((ofS j s p).getD k default) (j.pieces.getD k default).lo (j.pieces.getD k default).hi=true:=h
    have:=pc_right (k:=k) (r:=r) kl (by rw [←hz];exact r1) (by rw [←hz];exact r2) h'
    rw [←eoS] at this;exact this) (fun s=>b2n_le1) (fun s=>Nat.le_refl _)).1
  rw [hWx] at m2
  have hin:=hope_mono hnx hmono
  have hy1:(hopeL (pcJ j k r)).length≤1000:=by have:=hopeL_le (j:=pcJ j k r);rw [hnx] at this;omega
  have hl1:(hopeL j).length≤1000:=by have:=hopeL_le (j:=j);omega
  obtain ⟨u1,u2,u3,u4,ub1,ub2,ub3⟩:∃(cb cx:C) (nb nx:Int),BestR j = .tup [.c cb,.c (.int .i64 nb),.c (.int .i64 (bestE j))]∧BestR (pcJ j k r) = .tup [.c cx,.c (.int .i64 nx),.c (.int .i64 (bestE (pcJ j k r)))]∧(bestE j=0→bestE (pcJ j k r)=0∧nx≤nb):=by
    rcases bestE_or (j:=j) with hb | hb
    · obtain ⟨c,n,e⟩:=best_val h0
      obtain ⟨c',n',e'⟩:=best_val h0x
      exact ⟨c,c',n,n',e,e',fun h=>by rw [hb] at h;cases h⟩
    · obtain ⟨q1,q2⟩:=best_mono hnx hmono hb
      have e1:=best_ok h0 hb
      have e2:=best_ok h0x q1
      exact ⟨_,_,_,_,by rw [e1,hb],by rw [e2,q1],fun _=>⟨q1,q2⟩⟩
  rw [ub1] at m3
  rw [ub2] at m4
  generalize vd (sumN (fun s=>b2n (rightP j p k s)) (workL j)) (sumN (fun _=>1) (workL j))=x1 at *
  generalize vd (sumN (fun s=>b2n (rightP (pcJ j k r) p k s)) (workL j)) (sumN (fun _=>1) (workL j))=x2 at *
  have hx:(x1=1∧x2=1)∨(¬x1=1):=by omega
  have hbE:(bestE j=0∧bestE (pcJ j k r)=0∧¬u4>u3)∨(¬bestE j=0):=by
    by_cases h:bestE j=0
    · exact .inl ⟨h,(ub3 h).1,by have:=(ub3 h).2;omega⟩
    · exact .inr h
  clear ub1 ub2 ub3 c1
  generalize bestE j=be at *
  generalize bestE (pcJ j k r)=bx at *
  generalize hopeL j=l at *
  generalize hopeL (pcJ j k r)=y at *
  simp only [jobV] at kJ kJx kW m1 m2 m3 m4 m5 m6
  have pb:j.pieces.length*16≤2^40:=by omega
  have hn:=nth_lt' kl
  rw [←hz] at hn
  have z1:setNth (j.pieces.map (Row.row (α:=Rg))) k [.int .i64 r.lo,.int .i64 z.hi]=(j.pieces.set k ⟨r.lo,z.hi⟩).map Row.row:=setNth_row (x:=(⟨r.lo,z.hi⟩:Rg))
  have kl':k<(j.pieces.set k ⟨r.lo,z.hi⟩).length:=by rw [List.length_set];exact kl
  have z2:nth (j.pieces.set k ⟨r.lo,z.hi⟩) k=some ⟨r.lo,z.hi⟩:=by
    rw [nth_get,List.getElem?_eq_getElem kl',List.getElem_set_self]
  have z3:setNth ((j.pieces.set k ⟨r.lo,z.hi⟩).map (Row.row (α:=Rg))) k [.int .i64 r.lo,.int .i64 r.hi]=(j.pieces.set k r).map Row.row:=by
    have:=setNth_row (w:=j.pieces.set k ⟨r.lo,z.hi⟩) (y:=k) (x:=r)
    rw [List.set_set] at this
    exact this
  have hpt:=part_map (l:=j.pieces.set k r) (n:=j.pieces.length) List.length_set
  simp only [part,dropN] at hpt
  rcases hx with ⟨rfl,rfl⟩ | x3<;>rcases hbE with ⟨rfl,rfl,q3⟩ | q3
  all_goals first | simp (maxSteps:=1000000) only [go_sem,f11,kt,ht,h2,wa,wb,ma,m7,d7,e7,pb,kl,hn,w1,w2,r4,r5,z1,z2,z3,hpt,kW,kS,kJ,kJx,m1,m2,m3,m4,m5,m6,q3,x3,disj_nil] | simp (maxSteps:=1000000) only [go_sem,f11,kt,ht,h2,wa,wb,ma,m7,d7,e7,pb,kl,hn,w1,w2,r4,r5,z1,z2,z3,hpt,kW,kS,kJ,kJx,m1,m2,m3,m4,m5,m6,q3,disj_nil]
  all_goals
    refine RX_forC y.length (fun c=>[(27,.c (.int .i64 c))]) (fun _=>True) rfl trivial (by simp only [go_sem]<;>rfl) ?_
    intro c hc _
    by_cases hlt:c<y.length
    · have e4:IntKind.i64.wrap ((c:Int)+1)=((c+1:Nat):Int):=wrap_succ (n:=3000) (by omega) (by decide)
      have hm:=hin _ (getD_mem (d:=default) hlt)
      obtain ⟨yc,hyc⟩:∃yc,yc=y.getD c default:=⟨_,rfl⟩
      rw [←hyc] at hm
      have hat:atI y (c:Int)=yc:=by rw [atI_nat,hyc]
      have c1:(c:Int)<y.length:=by omega
      simp only [go_sem,hlt]
      refine RX_forC l.length (fun d=>[(28,.c (.bool ((l.take d).any fun x=>decide (x=yc)))),(29,.c (.int .i64 d))]) (fun _=>True) rfl trivial (by simp only [go_sem]<;>rfl) ?_
      intro d hd _
      by_cases hlt2:d<l.length
      · have e5:IntKind.i64.wrap ((d:Int)+1)=((d+1:Nat):Int):=wrap_succ (n:=3000) (by omega) (by decide)
        have ha:=any_take (y:=yc) hlt2
        have d1:(d:Int)<l.length:=by omega
        cases hb:(l.take d).any fun x=>decide (x=yc) with
        | true=>
          rw [hb,Bool.true_or] at ha
          simp only [go_sem,hlt2,ha,e5]
        | false=>
          rw [hb,Bool.false_or] at ha
          simp only [go_sem,hlt2,ha,hat,c1,d1,atI_nat,e5]
      · have:d=l.length:=by omega
        subst this
        have hany:(l.any fun x=>decide (x=yc))=true:=List.any_eq_true.2 ⟨yc,hm,by simp⟩
        simp only [go_sem,hlt2,List.take_length,hany,e4,hlt]
    · have:c=y.length:=by omega
      subst this
      simp only [go_sem,hlt,lawake7]
end Am.Vt
