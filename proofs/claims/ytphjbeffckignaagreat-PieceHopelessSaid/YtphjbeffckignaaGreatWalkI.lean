/-
  A part of the proof: the texts PX, QP, PY, L1, L6, L4, L7 of this seat, joined.
-/
import Derived.Test.YtphjbeffckignaaGreatWalkH
namespace Am.Vt
open Go Am
set_option maxRecDepth 100000
set_option maxHeartbeats 4000000
set_option linter.unusedSimpArgs false
set_option linter.unusedVariables false
variable {j:Job} {v:Vat} {plan:List Stp} {t:Truth} {s:Sh} {S:List Sh}
theorem sumN_le2 {ys ms:Sh→Nat} (h:∀s,ys s≤ms s):∀{l:List Sh},sumN ys l≤sumN ms l
  | []=>Nat.le_refl _
  | s::l=>by
    have:=sumN_le2 h (l:=l)
    have:=h s
    unfold sumN at *
    simp only [List.map_cons,List.sum_cons];omega
theorem sumN_all {ys ms:Sh→Nat} (h:∀s,ys s≤ms s):∀{l:List Sh},sumN ys l=sumN ms l↔∀s∈l,ys s=ms s
  | []=>by simp [sumN]
  | s::l=>by
    have ih:=sumN_all h (l:=l)
    have h1:=h s
    have h2:=sumN_le2 h (l:=l)
    have e1:sumN ys (s::l)=ys s+sumN ys l:=by simp [sumN]
    have e2:sumN ms (s::l)=ms s+sumN ms l:=by simp [sumN]
    rw [e1,e2]
    constructor
    · intro e x hx
      rcases List.mem_cons.1 hx with rfl | hx
      · omega
      · exact ih.1 (by omega) x hx
    · intro e
      have:=e s (by simp)
      have:=ih.2 fun x hx=>e x (by simp [hx])
      omega
theorem b2n_le1 {b:Bool}:b2n b≤1:=by cases b<;>decide
theorem ofB_mem {i:Nat}:∀{l:List Stp} {b:Nat},(∃s∈l,s.piece=i)→∀{z:Stp},ofB (l++[z]) i b=ofB l i b
  | [],_,⟨s,hs,_⟩,_=>by simp at hs
  | s::l,b,⟨x,hx,hxi⟩,z=>by
    rw [List.cons_append]
    by_cases hs:s.piece=i
    · simp only [ofB,hs,if_true]
    · simp only [ofB,hs,if_false]
      refine ofB_mem ?_
      rcases List.mem_cons.1 hx with rfl | hx
      · exact absurd hxi hs
      · exact ⟨x,hx,hxi⟩
theorem ofB_last {i:Nat} {z:Stp}:∀{l:List Stp} {b:Nat},(∀s∈l,s.piece≠i)→ofB (l++[z]) i b=if z.piece=i then (b+sumT l,z.dips.toNat) else (0,0)
  | [],b,_=>by simp only [List.nil_append,ofB,sumT,List.map_nil,List.sum_nil,Nat.add_zero]
  | s::l,b,h=>by
    rw [List.cons_append]
    simp only [ofB,h s (by simp),if_false]
    rw [ofB_last (l:=l) fun x hx=>h x (by simp [hx])]
    simp only [sumT,List.map_cons,List.sum_cons,Nat.add_assoc]
theorem ofK_dips {j:Job} {s:Sh} {plan:List Stp}:∀{k:Nat},k≤plan.length→(ofK j s plan k).2=sumT (plan.take k)
  | 0,_=>rfl
  | k+1,h=>by
    have:=ofK_dips (j:=j) (s:=s) (plan:=plan) (k:=k) (by omega)
    rw [take_getD (by omega:k<plan.length) default]
    show (ofK j s plan k).2+_=_
    rw [this];simp [sumT]
theorem ofK_at (ht:totalB j plan=true) {i:Nat} (hi:i<j.pieces.length):∀{k:Nat},k≤plan.length→(ofK j s plan k).1.getD i default=sumS s (ofB (plan.take k) i 0).1 (ofB (plan.take k) i 0).2
  | 0,_=>by
    have:(ofK j s plan 0).1=List.replicate j.pieces.length 0:=rfl
    rw [this,getD_lt _ _ _ (by simpa using hi)]
    simp [ofB,sumS,sumI]
  | k+1,h=>by
    have ih:=ofK_at ht hi (k:=k) (by omega)
    obtain ⟨p1,p2,p3,p4⟩:=total_parts ht
    have hk:k<plan.length:=by omega
    obtain ⟨q1,q2,q3,q4⟩:=step_at p2 hk
    have hl:=ofK_len (j:=j) (s:=s) (plan:=plan) (k:=k)
    obtain ⟨z,hz⟩:∃z,z=plan.getD k default:=⟨_,rfl⟩
    rw [←hz] at q1 q2
    have hset:(ofK j s plan (k+1)).1=(ofK j s plan k).1.set z.piece.toNat (sumS s (ofK j s plan k).2 z.dips.toNat):=by rw [hz];rfl
    rw [hset,take_getD hk default,←hz]
    have hfr:∀x∈plan.take k,x.piece≠z.piece:=by
      rw [distinctB,List.all_eq_true] at p3
      have:=p3 k (List.mem_range.2 hk)
      rw [freshB,Bool.not_eq_true',List.any_eq_false] at this
      intro x hx
      have:=this x hx
      simpa [hz] using this
    by_cases hzi:z.piece=i
    · have hn:∀x∈plan.take k,x.piece≠i:=fun x hx=>by rw [←hzi];exact hfr x hx
      rw [ofB_last hn,if_pos hzi,←ofK_dips (j:=j) (s:=s) (by omega),Nat.zero_add]
      have:z.piece.toNat=i:=by omega
      rw [this,getD_lt _ _ _ (by rw [List.length_set,hl];exact hi),List.getElem_set_self]
    · have hne:z.piece.toNat≠i:=by omega
      have hg:((ofK j s plan k).1.set z.piece.toNat (sumS s (ofK j s plan k).2 z.dips.toNat)).getD i default=(ofK j s plan k).1.getD i default:=by
        simp only [List.getD_eq_getElem?_getD,List.getElem?_set_ne hne]
      rw [hg,ih]
      by_cases hin:∃x∈plan.take k,x.piece=i
      · rw [ofB_mem hin]
      · have hn:∀x∈plan.take k,x.piece≠i:=fun x hx e=>hin ⟨x,hx,e⟩
        rw [ofB_last hn,if_neg hzi,ofB_none hn]
theorem ofS_at (ht:totalB j plan=true) {i:Nat} (hi:i<j.pieces.length):(ofS j s plan).getD i default=sumS s (ofB plan i 0).1 (ofB plan i 0).2:=by
  have:=ofK_at (s:=s) ht hi (Nat.le_refl _)
  rwa [List.take_length] at this
theorem vd_one {a b:Nat}:vd a b=1↔a=b:=by
  unfold vd
  by_cases h:a=b
  · simp [h]
  · rw [if_neg h]
    split<;>simp [h]
end Am.Vt
namespace Am.Vt
open Go Am
set_option maxRecDepth 100000
set_option maxHeartbeats 4000000
set_option linter.unusedSimpArgs false
set_option linter.unusedVariables false
variable {g1 g2 g3 g4 g5 g gt gd:Bool × Bool} {j:Job} {v:Vat} {plan:List Stp} {t:Truth} {s:Sh} {S:List Sh}
structure Wb where
  n:Nat
  h:n<256
instance : Inhabited Wb:=⟨⟨0,by decide⟩⟩
instance : Row Wb:=⟨1,fun s=>[.int .u8 s.n],fun _=>rfl⟩
instance : Scal Wb:=⟨fun _=>rfl⟩
@[go_sem] theorem sz_wb : Row.sz Wb=1:=rfl
@[go_sem] theorem row_wb {s:Wb}:Row.row s=[.int .u8 s.n]:=rfl
structure PlanOk (n:Nat) (l:List Stp) (left:Int):Prop where
  rng:∀s∈l,0≤s.piece∧s.piece<n∧0≤s.dips∧s.dips≤20
  dis:l.Pairwise fun a b=>a.piece≠b.piece
  sum:sumD l+left=20
  left:0≤left
theorem distinct_of {l:List Stp} (h:l.Pairwise fun a b=>a.piece≠b.piece):distinctB l=true:=by
  rw [distinctB,List.all_eq_true]
  intro k hk
  rw [List.mem_range] at hk
  rw [freshB,Bool.not_eq_true',List.any_eq_false]
  intro x hx
  obtain ⟨i,hi,rfl⟩:=List.mem_take_iff_getElem.1 hx
  rw [List.pairwise_iff_getElem] at h
  have:=h i k (by omega) hk (by omega)
  simpa [List.getD_eq_getElem?_getD,List.getElem?_eq_getElem hk] using this
end Am.Vt
namespace Am.Vt
open Go Am
set_option maxRecDepth 100000
set_option maxHeartbeats 4000000
set_option linter.unusedSimpArgs false
set_option linter.unusedVariables false
variable {j:Job} {v:Vat} {plan:List Stp} {t:Truth} {s:Sh} {S:List Sh}
abbrev two7 (a b:Nat) (i k:Nat):List Stp:=[⟨(i:Int),(a:Int)⟩,⟨(k:Int),(b:Int)⟩]
theorem two_total {a b i k:Nat} (h:a+b≤20) (hi:i<j.pieces.length) (hk:k<j.pieces.length) (hne:i≠k):totalB j (two7 a b i k)=true:=by
  have h1:(two7 a b i k).all (stepOk j)=true:=by
    simp only [List.all_cons,List.all_nil,stepOk,pieceOk,Bool.and_eq_true,inR_iff,and_true];omega
  have h2:distinctB (two7 a b i k)=true:=distinct_of (by simp;omega)
  have h3:(two7 a b i k).length≤j.pieces.length:=by simp;omega
  have h4:sumD (two7 a b i k)≤20:=by simp [sumD,sumI];omega
  rw [totalB,planOkB,h1,h2,decide_eq_true h3,decide_eq_true h4];rfl
theorem two_of {a b i k:Nat} (hne:i≠k):ofB (two7 a b i k) k 0=(a,b):=by
  have:¬(i:Int)=k:=by omega
  simp [ofB,this]
theorem two_at {a b i k:Nat} (h:a+b≤20) (hi:i<j.pieces.length) (hk:k<j.pieces.length) (hne:i≠k):(ofS j s (two7 a b i k)).getD k default=sumS s a b:=by
  rw [ofS_at (two_total h hi hk hne) hk,two_of hne]
end Am.Vt
namespace Am.Vt
open Go Am
set_option maxRecDepth 100000
set_option maxHeartbeats 4000000
set_option linter.unusedSimpArgs false
set_option linter.unusedVariables false
variable {g1 g2 g3 g4 g5 g gt gd:Bool × Bool} {j:Job} {v:Vat} {plan:List Stp} {t:Truth} {s:Sh} {S:List Sh}
end Am.Vt
namespace Am.Vt
open Go Am
set_option maxRecDepth 100000
set_option maxHeartbeats 4000000
set_option linter.unusedSimpArgs false
set_option linter.unusedVariables false
variable {g1 g2 g3 g4 g5 g gt gd:Bool × Bool} {j:Job} {v:Vat} {plan:List Stp} {t:Truth} {s:Sh} {S:List Sh}
theorem judge_val {l:List Int} {ys ms:Sh→Nat} (h0:checkJob j=0) (hb:judgeOk j plan l=true):JudgeR j plan l ys ms = .tup [.c (.int .i64 (vd (sumN ys (workL j)) (sumN ms (workL j)))),.c (.int .i64 0)]:=by
  rw [JudgeR,if_neg]
  rw [askJ,if_neg (by rw [h0];simp),if_neg (by rw [hb];decide)];simp
end Am.Vt
namespace Am.Vt
open Go Am
set_option maxRecDepth 100000
set_option maxHeartbeats 4000000
set_option linter.unusedSimpArgs false
set_option linter.unusedVariables false
variable {g1 g2 g3 g4 g5 g gt gd:Bool × Bool} {j:Job} {v:Vat} {plan:List Stp} {t:Truth} {s:Sh} {S:List Sh}
theorem lst2p {t:Bool} {a b c d:Int}:C.lst t [[.int .i64 a,.int .i64 b],[.int .i64 c,.int .i64 d]]=L (false,t) [(⟨a,b⟩:Stp),⟨c,d⟩]:=rfl
end Am.Vt
namespace Am.Vt
open Go Am
set_option maxRecDepth 100000
set_option maxHeartbeats 4000000
set_option linter.unusedSimpArgs false
set_option linter.unusedVariables false
variable {g1 g2 g3 g4 g5 g gt gd:Bool × Bool} {j:Job} {v:Vat} {plan:List Stp} {t:Truth} {s:Sh} {S:List Sh}
theorem mem_hope {i:Nat}:(i:Int)∈hopeL j↔i<j.pieces.length∧∀b d,rightW j i b d=false:=by
  have e:hopeL j=((List.range j.pieces.length).filter (hopeB j)).map Int.ofNat:=rfl
  rw [e]
  simp only [List.mem_map,List.mem_filter,List.mem_range]
  have key:hopeB j i=true↔∀b d,rightW j i b d=false:=by
    simp only [hopeB,noB,List.all_eq_true,List.mem_range,Bool.not_eq_true']
    constructor
    · intro h b d
      by_cases hbd:b+d≤20
      · exact h b (by omega) d (by omega)
      · rw [rightW,decide_eq_false hbd,Bool.false_and]
    · intro h b _ d _;exact h b d
  constructor
  · rintro ⟨a,⟨h1,h2⟩,h3⟩
    have:a=i:=Int.ofNat.inj h3
    subst this
    exact ⟨h1,key.1 h2⟩
  · rintro ⟨h1,h2⟩
    exact ⟨i,⟨h1,key.2 h2⟩,rfl⟩
theorem hope_nat : ∀x∈hopeL j,∃i:Nat,x=i:=by
  intro x hx
  have e:hopeL j=((List.range j.pieces.length).filter (hopeB j)).map Int.ofNat:=rfl
  rw [e,List.mem_map] at hx
  obtain ⟨a,_,rfl⟩:=hx
  exact ⟨a,rfl⟩
def bestE (j:Job):Int:=if (frJ j 20 0 0).many<j.pieces.length then 10 else 0
theorem best_val (h0:checkJob j=0):∃c n,BestR j = .tup [.c c,.c (.int .i64 n),.c (.int .i64 (bestE j))]:=by
  have ha:askJ j true=0:=by rw [askJ,if_neg (by rw [h0];simp),if_neg (by decide)]
  rw [BestR,if_neg (by rw [ha];simp)]
  unfold bestE
  by_cases hm:(frJ j 20 0 0).many<j.pieces.length
  · rw [if_pos hm,if_pos hm];exact ⟨_,_,rfl⟩
  · rw [if_neg hm,if_neg hm];exact ⟨_,_,rfl⟩
theorem hope_best (h:(hopeL j).length>0):bestE j=10:=by
  obtain ⟨x,hx⟩:=List.exists_mem_of_ne_nil _ (List.length_pos_iff.1 h)
  obtain ⟨i,rfl⟩:=hope_nat x hx
  obtain ⟨h1,h2⟩:=mem_hope.1 hx
  have hl:=fromF_less (g:=gnJ j) (n:=j.pieces.length) (most:=20) (h:=i) h2 (f:=und j.pieces.length 0) (done:=0) (b:=0) (Nat.le_refl _)
  have hu:=und_or (n:=j.pieces.length) (done:=0) h1 (by simp)
  rw [und_0] at hu
  have:(frJ j 20 0 0).many≤(und j.pieces.length (0 ||| 2^i):Nat):=hl
  rw [bestE,if_pos (by omega)]
theorem right_two (h0:checkJob j=0) {b d o k:Nat} (h:b+d≤20) (ho:o<j.pieces.length) (hk:k<j.pieces.length) (hne:o≠k):vd (sumN (fun s=>b2n (rightP j (two7 b d o k) k s)) (workL j)) (sumN (fun _=>1) (workL j))=1↔rightW j k b d=true:=by
  have ht:=two_total (j:=j) h ho hk hne
  rw [vd_one,sumN_all fun s=>b2n_le1]
  have e:∀s,rightP j (two7 b d o k) k s=rightS j s k b d:=fun s=>by
    show inR ((ofS j s (two7 b d o k)).getD k default) _ _=_
    rw [two_at h ho hk hne];rfl
  rw [rightW,decide_eq_true h,Bool.true_and,List.all_eq_true]
  constructor
  · intro hh s hs
    have:=hh s hs
    rw [e] at this
    cases hb:rightS j s k b d with
    | true=>rfl
    | false=>rw [hb] at this;cases this
  · intro hh s hs
    rw [e,hh s hs];rfl
theorem PieceHopeless_val {a b:Int} (ha0:0≤a) (ha1:a≤255) (hb0:0≤b) (hb1:b≤255):Val tab 13 [jobV g1 g2 g3 g4 g5 j,.c (.int .u8 a),.c (.int .u8 b)] (.c (.bool true)):=by
  refine Val_X (fn:=f13) rfl ?_
  have kt:=fun {Q:V→Prop}=>mready (j:=j) (g1:=g1) (g2:=g2) (g3:=g3) (g4:=g4) (g5:=g5) (Q:=Q)
  simp only [jobV] at kt
  cases ht:readyJ j with
  | false=>simp only [go_sem,f13,kt,ht,lawake7,disj_nil]
  | true=>
  obtain ⟨hf,hs,h6,hj,h0⟩:=readyJ_of ht
  by_cases h2:(j.pieces.length:Int)<2
  · simp only [go_sem,f13,kt,ht,h2,lawake7,disj_nil]
  obtain ⟨a,rfl⟩:∃n:Nat,a=n:=⟨a.toNat,by omega⟩
  obtain ⟨b,rfl⟩:∃n:Nat,b=n:=⟨b.toNat,by omega⟩
  have wa:IntKind.i64.wrap (a:Int)=(a:Int):=wrapB (by omega) (by omega)
  have wb:IntKind.i64.wrap (b:Int)=(b:Int):=wrapB (by omega) (by omega)
  have hl:0<j.pieces.length:=by omega
  have hz:¬((j.pieces.length:Nat):Int)=0:=by omega
  obtain ⟨k,hk⟩:∃k,k=a % j.pieces.length:=⟨_,rfl⟩
  obtain ⟨y,hy⟩:∃y,y=b % 21:=⟨_,rfl⟩
  have ma:(a:Int).tmod (j.pieces.length:Nat)=(k:Int):=by rw [hk];rfl
  have mb:(b:Int).tmod 21=(y:Int):=by rw [hy];rfl
  have kl:k<j.pieces.length:=by rw [hk];exact Nat.mod_lt _ hl
  have y20:y≤20:=by omega
  have kJ:=fun {Q:V→Prop}=>mJob (j:=j) (g1:=g1) (g2:=g2) (g3:=g3) (g4:=g4) (g5:=g5) hs h6 (Q:=Q)
  have k1:=fun {g1 g2 g3 g4 g5:Bool × Bool} {Q:V→Prop}=>pHopeless (j:=j) (g1:=g1) (g2:=g2) (g3:=g3) (g4:=g4) (g5:=g5) hf (Q:=Q)
  have k2:=fun {g1 g2 g3 g4 g5:Bool × Bool} {Q:V→Prop}=>pBest (j:=j) (g1:=g1) (g2:=g2) (g3:=g3) (g4:=g4) (g5:=g5) hf (Q:=Q)
  have k3:=fun {g1 g2 g3 g4 g5:Bool × Bool} {Q:V→Prop}=>pDips (j:=j) (i:=(k:Int)) (b:=(y:Int)) (g1:=g1) (g2:=g2) (g3:=g3) (g4:=g4) (g5:=g5) hf (Q:=Q)
  have hA:askJ j true=0:=by rw [askJ,if_neg (by rw [h0];simp),if_neg (by decide)]
  have hH:HopeR j = .tup [.c (L (false,false) (hopeL j)),.c (.int .i64 0)]:=by rw [HopeR,if_neg (by rw [hA];simp)]
  obtain ⟨bc,bn,hB⟩:=best_val h0
  have hD:DipsR j k y=match dipsO j k y with
      | some d=>.tup [.c (.int .i64 (d:Int)),.c (.int .i64 0)]
      | none=>.tup [.c (.int .i64 0),.c (.int .i64 10)]:=by
    have e:dipsOk j k y=true:=by simp only [dipsOk,pieceOk,Bool.and_eq_true,inR_iff];omega
    rw [DipsR,e,if_neg (by rw [hA];simp)]
    show (match dipsO j k y with | some d=>_ | none=>_)=_
    cases dipsO j k y<;>rfl
  rw [hH] at k1
  rw [hB] at k2
  have hcase:((((hopeL j).length:Nat):Int)>0∧bestE j=10)∨(¬(((hopeL j).length:Nat):Int)>0∧bestE j=bestE j):=by
    by_cases h:(hopeL j).length>0
    · exact .inl ⟨by omega,hope_best h⟩
    · exact .inr ⟨by omega,rfl⟩
  cases hd:dipsO j k y with
  | none=>
    rw [hd] at hD
    simp only at hD
    rw [hD] at k3
    simp only [jobV] at kJ k1 k2 k3
    rcases hcase with ⟨c1,c2⟩ | ⟨c1,_⟩
    · rw [c2] at k2
      simp only [go_sem,f13,kt,ht,h2,kJ,wa,wb,ma,mb,hz,k1,k2,k3,c1,lawake7,disj_nil]
    · simp only [go_sem,f13,kt,ht,h2,kJ,wa,wb,ma,mb,hz,k1,k2,k3,c1,lawake7,disj_nil]
  | some n=>
    rw [hd] at hD
    simp only at hD
    rw [hD] at k3
    have hfi:=hd
    rw [dipsO,List.find?_range_eq_some] at hfi
    obtain ⟨hn1,hn2,hn3⟩:=hfi
    have hn4:n<21-y:=List.mem_range.1 hn2
    have n0:¬(n:Int)<0:=by omega
    have wn:IntKind.i64.wrap ((y:Int)+n)=((y+n:Nat):Int):=by rw [wrapB (by omega) (by omega)];omega
    have wl:¬((y+n:Nat):Int)>20:=by omega
    have hnot:∀i:Nat,i<(hopeL j).length→¬(hopeL j).getD i default=(k:Int):=fun i hi e=>by
      have hm:=getD_mem (d:=default) hi
      rw [e,mem_hope] at hm
      rw [hm.2 y n] at hn1;cases hn1
    have hle:(hopeL j).length≤1000:=by have:=hopeK_len (j:=j) (k:=j.pieces.length);show (hopeK j j.pieces.length).length≤1000;omega
    obtain ⟨o,ho1,ho2,ho3,ho4⟩:∃o:Nat,o<j.pieces.length∧o≠k∧(k=0→o=1)∧(k≠0→o=0):=by
      by_cases hk0:k=0
      · exact ⟨1,by omega,by omega,fun _=>rfl,fun h=>absurd hk0 h⟩
      · exact ⟨0,by omega,by omega,fun h=>absurd h hk0,fun _=>rfl⟩
    have hok:∀m,y+m≤20→judgeOk j (two7 y m o k) [(k:Int)]=true:=fun m hm=>by
      simp only [judgeOk,two_total hm ho1 kl ho2,Bool.true_and,List.all_cons,List.all_nil,pieceOk,Bool.and_eq_true,inR_iff,and_true];omega
    have m1:=fun {g1 g2 g3 g4 g5 g:Bool × Bool} {Q:V→Prop}=>(pRight (j:=j) (plan:=two7 y n o k) (i:=(k:Int)) (g:=g) (g1:=g1) (g2:=g2) (g3:=g3) (g4:=g4) (g5:=g5) hf (big_of (by simp)) (Q:=Q)).trans (by rw [judge_val h0 (hok n (by omega)),(right_two h0 (by omega) ho1 kl ho2).2 hn1])
    have m2:=fun {g1 g2 g3 g4 g5 g:Bool × Bool} {Q:V→Prop}=>fun (hm:1≤n)=>(pRight (j:=j) (plan:=two7 y (n-1) o k) (i:=(k:Int)) (g:=g) (g1:=g1) (g2:=g2) (g3:=g3) (g4:=g4) (g5:=g5) hf (big_of (by simp)) (Q:=Q)).trans (by rw [judge_val h0 (hok (n-1) (by omega))])
    have hv:1≤n→¬vd (sumN (fun s=>b2n (rightP j (two7 y (n-1) o k) k s)) (workL j)) (sumN (fun _=>1) (workL j))=1:=fun hm e=>by
      rw [right_two h0 (by omega) ho1 kl ho2] at e
      have:=hn3 (n-1) (by omega)
      rw [e] at this;cases this
    generalize vd (sumN (fun s=>b2n (rightP j (two7 y (n-1) o k) k s)) (workL j)) (sumN (fun _=>1) (workL j))=u at *
    rcases hcase with ⟨c1,c2⟩ | ⟨c1,c2⟩ <;>
    · rw [c2] at k2
      simp only [jobV] at kJ k1 k2 k3 m1 m2
      simp only [go_sem,f13,kt,ht,h2,kJ,wa,wb,ma,mb,hz,k1,k2,k3,c1,n0,wn,wl,lawake7,disj_nil]
      refine RX_forC (hopeL j).length (fun i=>[(16,.c (.int .i64 i))]) (fun _=>True) rfl trivial (by simp only [go_sem]<;>rfl) ?_
      intro i hi _
      by_cases hlt:i<(hopeL j).length
      · have e4:IntKind.i64.wrap ((i:Int)+1)=((i+1:Nat):Int):=wrap_succ (n:=3000) (by omega) (by decide)
        have hne:=hnot i hlt
        simp only [go_sem,hlt,atI_nat,hne,e4]
      · have:i=(hopeL j).length:=by omega
        subst this
        have m2':=fun {g1 g2 g3 g4 g5 g:Bool × Bool} {Q:V→Prop}=>m2 (g:=g) (g1:=g1) (g2:=g2) (g3:=g3) (g4:=g4) (g5:=g5) (Q:=Q)
        clear m2
        by_cases hn0:n=0
        · have hnT:=eq_true (show (n:Int)=0 by omega)
          by_cases hk0:k=0
          · have ho:=ho3 hk0
            have hkT:=eq_true (show (k:Int)=0 by omega)
            subst ho
            simp only [two7,Int.natCast_one] at m1
            simp only [go_sem,hlt,hkT,hnT,kJ,lst2p,m1,lawake7,disj_nil]
          · have ho:=ho4 hk0
            have hkT:¬(k:Int)=0:=by omega
            subst ho
            simp only [two7,Int.natCast_zero] at m1
            simp only [go_sem,hlt,hkT,hnT,kJ,lst2p,m1,lawake7,disj_nil]
        · have hnT:¬(n:Int)=0:=by omega
          have hn1':1≤n:=by omega
          have hv':=hv hn1'
          have wm:IntKind.i64.wrap ((n:Int)-1)=((n-1:Nat):Int):=by rw [wrapB (by omega) (by omega)];omega
          have m3:=fun {g1 g2 g3 g4 g5 g:Bool × Bool} {Q:V→Prop}=>m2' (g:=g) (g1:=g1) (g2:=g2) (g3:=g3) (g4:=g4) (g5:=g5) (Q:=Q) hn1'
          clear m2'
          by_cases hk0:k=0
          · have ho:=ho3 hk0
            have hkT:=eq_true (show (k:Int)=0 by omega)
            subst ho
            simp only [two7,Int.natCast_one] at m1 m3
            simp only [go_sem,hlt,hkT,hnT,kJ,lst2p,m1,m3,wm,hv',lawake7,disj_nil]
          · have ho:=ho4 hk0
            have hkT:¬(k:Int)=0:=by omega
            subst ho
            simp only [two7,Int.natCast_zero] at m1 m3
            simp only [go_sem,hlt,hkT,hnT,kJ,lst2p,m1,m3,wm,hv',lawake7,disj_nil]
end Am.Vt
