/-
  A part of the proof: the texts L1, PX, L2 of this seat, joined.
-/
import Derived.Test.YtphjbeffckignaaGreatWalkH
namespace Am.Vt
open Go Am
set_option maxRecDepth 100000
set_option maxHeartbeats 4000000
set_option linter.unusedSimpArgs false
set_option linter.unusedVariables false
variable {g1 g2 g3 g4 g5 g gt gd:Bool × Bool} {j:Job} {v:Vat} {plan:List Stp} {t:Truth} {s:Sh} {S:List Sh}
end Am.Vt
namespace Am.Vt
open Go Am
set_option maxRecDepth 100000
set_option maxHeartbeats 4000000
set_option linter.unusedSimpArgs false
set_option linter.unusedVariables false
variable {j:Job} {v:Vat} {plan:List Stp} {t:Truth} {s:Sh} {S:List Sh}
abbrev dipR (j:Job):List Sh:=dipL j (refTruths j.vat)
theorem same_sets (hj:j.Valid) {s:Sh}:s∈dipR j↔s∈workL j:=by
  rw [mem_workL hj]
  simp only [dipR,dipL,List.mem_map,mem_refTruths hj.vat]
  constructor
  · rintro ⟨t,h,rfl⟩;exact ⟨t,h,rfl⟩
  · rintro ⟨t,h,rfl⟩;exact ⟨t,h,rfl⟩
theorem dipR_len (hj:j.Valid):(dipR j).length≤2000:=by simp only [dipR,dipL,List.length_map];exact refTruths_len hj.vat
theorem dipR_ok (hj:j.Valid):∀s∈dipR j,s.Ok:=fun s hs=>workL_ok hj s ((same_sets hj).1 hs)
theorem ofB_mem {i:Nat}:∀{l:List Stp} {b:Nat},(∃s∈l,s.piece=i)→∀{z:Stp},ofB (l++[z]) i b=ofB l i b
  | [],_,⟨s,hs,_⟩,_=>by simp at hs
  | s::l,b,⟨x,hx,hxi⟩,z=>by
    rw [List.cons_append]
    by_cases hs:s.piece=i
    · simp only [ofB,hs,if_true]
    · simp only [ofB,hs,if_false]
      refine ofB_mem ?_
      rcases List.mem_cons.1 hx with rfl | hx
      · exact absurd hxi hs
      · exact ⟨x,hx,hxi⟩
theorem ofB_last {i:Nat} {z:Stp}:∀{l:List Stp} {b:Nat},(∀s∈l,s.piece≠i)→ofB (l++[z]) i b=if z.piece=i then (b+sumT l,z.dips.toNat) else (0,0)
  | [],b,_=>by simp only [List.nil_append,ofB,sumT,List.map_nil,List.sum_nil,Nat.add_zero]
  | s::l,b,h=>by
    rw [List.cons_append]
    simp only [ofB,h s (by simp),if_false]
    rw [ofB_last (l:=l) fun x hx=>h x (by simp [hx])]
    simp only [sumT,List.map_cons,List.sum_cons,Nat.add_assoc]
theorem ofK_dips {j:Job} {s:Sh} {plan:List Stp}:∀{k:Nat},k≤plan.length→(ofK j s plan k).2=sumT (plan.take k)
  | 0,_=>rfl
  | k+1,h=>by
    have:=ofK_dips (j:=j) (s:=s) (plan:=plan) (k:=k) (by omega)
    rw [take_getD (by omega:k<plan.length) default]
    show (ofK j s plan k).2+_=_
    rw [this];simp [sumT]
theorem ofK_at (ht:totalB j plan=true) {i:Nat} (hi:i<j.pieces.length):∀{k:Nat},k≤plan.length→(ofK j s plan k).1.getD i default=sumS s (ofB (plan.take k) i 0).1 (ofB (plan.take k) i 0).2
  | 0,_=>by
    have:(ofK j s plan 0).1=List.replicate j.pieces.length 0:=rfl
    rw [this,getD_lt _ _ _ (by simpa using hi)]
    simp [ofB,sumS,sumI]
  | k+1,h=>by
    have ih:=ofK_at ht hi (k:=k) (by omega)
    obtain ⟨p1,p2,p3,p4⟩:=total_parts ht
    have hk:k<plan.length:=by omega
    obtain ⟨q1,q2,q3,q4⟩:=step_at p2 hk
    have hl:=ofK_len (j:=j) (s:=s) (plan:=plan) (k:=k)
    obtain ⟨z,hz⟩:∃z,z=plan.getD k default:=⟨_,rfl⟩
    rw [←hz] at q1 q2
    have hset:(ofK j s plan (k+1)).1=(ofK j s plan k).1.set z.piece.toNat (sumS s (ofK j s plan k).2 z.dips.toNat):=by rw [hz];rfl
    rw [hset,take_getD hk default,←hz]
    have hfr:∀x∈plan.take k,x.piece≠z.piece:=by
      rw [distinctB,List.all_eq_true] at p3
      have:=p3 k (List.mem_range.2 hk)
      rw [freshB,Bool.not_eq_true',List.any_eq_false] at this
      intro x hx
      have:=this x hx
      simpa [hz] using this
    by_cases hzi:z.piece=i
    · have hn:∀x∈plan.take k,x.piece≠i:=fun x hx=>by rw [←hzi];exact hfr x hx
      rw [ofB_last hn,if_pos hzi,←ofK_dips (j:=j) (s:=s) (by omega),Nat.zero_add]
      have:z.piece.toNat=i:=by omega
      rw [this,getD_lt _ _ _ (by rw [List.length_set,hl];exact hi),List.getElem_set_self]
    · have hne:z.piece.toNat≠i:=by omega
      have hg:((ofK j s plan k).1.set z.piece.toNat (sumS s (ofK j s plan k).2 z.dips.toNat)).getD i default=(ofK j s plan k).1.getD i default:=by
        simp only [List.getD_eq_getElem?_getD,List.getElem?_set_ne hne]
      rw [hg,ih]
      by_cases hin:∃x∈plan.take k,x.piece=i
      · rw [ofB_mem hin]
      · have hn:∀x∈plan.take k,x.piece≠i:=fun x hx e=>hin ⟨x,hx,e⟩
        rw [ofB_last hn,if_neg hzi,ofB_none hn]
theorem ofS_at (ht:totalB j plan=true) {i:Nat} (hi:i<j.pieces.length):(ofS j s plan).getD i default=sumS s (ofB plan i 0).1 (ofB plan i 0).2:=by
  have:=ofK_at (s:=s) ht hi (Nat.le_refl _)
  rwa [List.take_length] at this
theorem sumT_take {k:Nat} (hk:k<plan.length):sumT (plan.take k)+(plan.getD k default).dips.toNat≤sumT plan:=by
  have:sumT plan=sumT (plan.take (k+1))+sumT (plan.drop (k+1)):=by
    unfold sumT
    rw [←List.sum_append,←List.map_append,List.take_append_drop]
  rw [this,take_getD hk default]
  simp [sumT]
theorem ofB_le (ht:totalB j plan=true) {i:Nat}:(ofB plan i 0).1+(ofB plan i 0).2≤20:=by
  obtain ⟨p1,p2,p3,p4⟩:=total_parts ht
  have hs:=sumT_eq p2
  by_cases h:∃s∈plan,s.piece=i
  · obtain ⟨k,hk,h1,h2⟩:∃k,k<plan.length∧(plan.getD k default).piece=i∧∀m,m<k→(plan.getD m default).piece≠i:=by
      obtain ⟨s,hs,he⟩:=h
      obtain ⟨n,hn,rfl⟩:=List.getElem_of_mem hs
      have hex:∃k,k<plan.length∧(plan.getD k default).piece=i:=⟨n,hn,by rw [getD_lt _ _ _ hn];exact he⟩
      obtain ⟨k,⟨hk1,hk2⟩,hk3⟩:∃k,(k<plan.length∧(plan.getD k default).piece=i)∧∀m,m<k→¬(m<plan.length∧(plan.getD m default).piece=i):=by
        induction n using Nat.strongRecOn with
        | ind n ih=>
          by_cases hm:∃m,m<n∧m<plan.length∧(plan.getD m default).piece=i
          · obtain ⟨m,hm1,hm2,hm3⟩:=hm
            exact ih m hm1 hm2 (List.getElem_mem hm2) (by rw [getD_lt _ _ _ hm2] at hm3;exact hm3)
          · exact ⟨n,⟨hn,by rw [getD_lt _ _ _ hn];exact he⟩,fun m hm' h=>hm ⟨m,hm',h.1,h.2⟩⟩
      exact ⟨k,hk1,hk2,fun m hm h=>hk3 m hm ⟨by omega,h⟩⟩
    rw [ofB_at hk h1 h2,Nat.zero_add]
    have:=sumT_take (plan:=plan) hk
    simp only
    omega
  · rw [ofB_none fun s hs e=>h ⟨s,hs,e⟩];simp
theorem right_all (ht:totalB j plan=true) {i:Nat} (hi:i<j.pieces.length):rightB7 j plan i=(workL j).all (rightP j plan i):=by
  rw [rightB7,rightW,decide_eq_true (ofB_le ht),Bool.true_and]
  congr 1
  funext s
  show _=inR ((ofS j s plan).getD i default) _ _
  rw [ofS_at ht hi];rfl
theorem vd_one {a b:Nat}:vd a b=1↔a=b:=by
  unfold vd
  by_cases h:a=b
  · simp [h]
  · rw [if_neg h]
    split<;>simp [h]
theorem count_eq (hj:j.Valid) (ht:totalB j plan=true):((List.range j.pieces.length).countP fun (i:Nat)=>decide (vd ((dipR j).countP (rightP j plan i)) (dipR j).length=1))=countR j plan:=by
  unfold countR
  refine List.countP_congr fun i hi=>?_
  rw [List.mem_range] at hi
  rw [decide_eq_true_eq,vd_one,List.countP_eq_length,right_all ht hi,List.all_eq_true]
  exact ⟨fun h s hs=>h s ((same_sets hj).2 hs),fun h s hs=>h s ((same_sets hj).1 hs)⟩
end Am.Vt
namespace Am.Vt
open Go Am
set_option maxRecDepth 100000
set_option maxHeartbeats 4000000
set_option linter.unusedSimpArgs false
set_option linter.unusedVariables false
variable {g1 g2 g3 g4 g5 g gt gd:Bool × Bool} {j:Job} {v:Vat} {plan:List Stp} {t:Truth} {s:Sh} {S:List Sh}
theorem PieceProves_val {d m:Int}:Val tab 5 [jobV g1 g2 g3 g4 g5 j,.c (L g plan),.c (.int .i64 d),.c (.int .i64 m)] (.c (.bool true)):=by
  refine Val_X (fn:=f5) rfl ?_
  have kt:=fun {Q:V→Prop}=>mThin (j:=j) (g1:=g1) (g2:=g2) (g3:=g3) (g4:=g4) (g5:=g5) (Q:=Q)
  simp only [jobV] at kt
  cases ht:thinJ j with
  | false=>simp only [go_sem,f5,kt,ht,lawake7,disj_nil]
  | true=>
  obtain ⟨hf,hs,h6⟩:=thinJ_fits ht
  by_cases hp:(plan.length:Int)>6
  · simp only [go_sem,f5,kt,ht,hp,lawake7,disj_nil]
  have hpb:plan.length<Big:=big_of (by omega)
  have kJ:=fun {Q:V→Prop}=>mJob (j:=j) (g1:=g1) (g2:=g2) (g3:=g3) (g4:=g4) (g5:=g5) hs h6 (Q:=Q)
  have kS:=fun {Q:V→Prop}=>msteps (plan:=plan) (g:=g) (by omega) (Q:=Q)
  have k1:=fun {g1 g2 g3 g4 g5 g:Bool × Bool} {Q:V→Prop}=>pProvePlan (j:=j) (plan:=plan) (d:=d) (g:=g) (g1:=g1) (g2:=g2) (g3:=g3) (g4:=g4) (g5:=g5) hf hpb (Q:=Q)
  have k2:=fun {Q:V→Prop}=>mfault (j:=j) (g1:=g1) (g2:=g2) (g3:=g3) (g4:=g4) (g5:=g5) hf (Q:=Q)
  have k3:=fun {g1 g2 g3 g4 g5 g:Bool × Bool} {Q:V→Prop}=>pProveMost (j:=j) (plan:=plan) (d:=d) (m:=m) (g:=g) (g1:=g1) (g2:=g2) (g3:=g3) (g4:=g4) (g5:=g5) hf hpb (Q:=Q)
  have k4:=fun {Q:V→Prop}=>qTotal (j:=j) (plan:=plan) (g:=g) (g1:=g1) (g2:=g2) (g3:=g3) (g4:=g4) (g5:=g5) (by omega) (by omega) (Q:=Q)
  simp only [jobV] at kJ k1 k2 k3 k4
  cases hb:totalB j plan with
  | false=>
    rw [hb] at k1 k3 k4
    simp only [Bool.false_and,Bool.and_false] at k1 k3
    simp only [go_sem,f5,kt,ht,hp,kJ,kS,k1,k2,k3,k4,lawake7,disj_nil]
  | true=>
    rw [hb] at k1 k3 k4
    by_cases hd:totalD j plan≤d
    · rw [decide_eq_true hd] at k1 k3
      by_cases h0:checkJob j=0
      · have hj:=jvalid_of h0
        rw [decide_eq_true h0] at k1 k3
        simp only [Bool.true_and] at k1 k3
        have k5:=fun {Q:V→Prop}=>mall (g1:=g1) (g2:=g2) (g3:=g3) (g4:=g4) (g5:=g5) hj (Q:=Q)
        have k6:=fun {gd:Bool × Bool} {Q:V→Prop}=>qCount (gd:=gd) (g:=g) (S:=dipR j) (plan:=plan) (g1:=g1) (g2:=g2) (g3:=g3) (g4:=g4) (g5:=g5) (dipR_ok hj) (dipR_len hj) (by omega) hb (Q:=Q)
        rw [count_eq hj hb] at k6
        simp only [jobV] at k5 k6
        have hle:countR j plan≤j.pieces.length:=Nat.le_trans List.countP_le_length (by rw [List.length_range];exact Nat.le_refl _)
        have e1:(((j.pieces.length:Nat):Int)≤(countR j plan:Nat))↔((countR j plan:Nat):Int)=(j.pieces.length:Nat):=by omega
        simp only [go_sem,f5,kt,ht,hp,kJ,kS,k1,k2,k3,k4,k5,k6,h0,hd,e1,ge_iff_le,lawake7,disj_nil]
      · rw [decide_eq_false h0] at k1 k3
        simp only [Bool.false_and] at k1 k3
        simp only [go_sem,f5,kt,ht,hp,kJ,kS,k1,k2,k3,k4,h0,hd,lawake7,disj_nil]
    · rw [decide_eq_false hd] at k1 k3
      simp only [Bool.false_and,Bool.and_false] at k1 k3
      simp only [go_sem,f5,kt,ht,hp,kJ,kS,k1,k2,k3,k4,hd,lawake7,disj_nil]
end Am.Vt
