/-
  A part of the proof: the texts L1, PX, L2 of this seat, joined.
-/
import Derived.Test.YtphjbeffckignaaGreatWalkH
namespace Am.Vt
open Go Am
set_option maxRecDepth 100000
set_option maxHeartbeats 4000000
set_option linter.unusedSimpArgs false
set_option linter.unusedVariables false
variable {g1 g2 g3 g4 g5 g gt gd:Bool × Bool} {j:Job} {v:Vat} {plan:List Stp} {t:Truth} {s:Sh} {S:List Sh}
end Am.Vt
namespace Am.Vt
open Go Am
set_option maxRecDepth 100000
set_option maxHeartbeats 4000000
set_option linter.unusedSimpArgs false
set_option linter.unusedVariables false
variable {j:Job} {v:Vat} {plan:List Stp} {t:Truth} {s:Sh} {S:List Sh}
abbrev dipR (j:Job):List Sh:=dipL j (refTruths j.vat)
theorem same_sets (hj:j.Valid) {s:Sh}:s∈dipR j↔s∈workL j:=by
  rw [mem_workL hj]
  simp only [dipR,dipL,List.mem_map,mem_refTruths hj.vat]
  constructor
  · rintro ⟨t,h,rfl⟩;exact ⟨t,h,rfl⟩
  · rintro ⟨t,h,rfl⟩;exact ⟨t,h,rfl⟩
theorem dipR_len (hj:j.Valid):(dipR j).length≤2000:=by simp only [dipR,dipL,List.length_map];exact refTruths_len hj.vat
theorem dipR_ok (hj:j.Valid):∀s∈dipR j,s.Ok:=fun s hs=>workL_ok hj s ((same_sets hj).1 hs)
theorem rightA_eq (hj:j.Valid) {i b d:Nat}:rightA j (dipR j) i b d=rightW j i b d:=by
  unfold rightA rightW
  congr 1
  rw [Bool.eq_iff_iff,List.all_eq_true,List.all_eq_true]
  exact ⟨fun h s hs=>h s ((same_sets hj).2 hs),fun h s hs=>h s ((same_sets hj).1 hs)⟩
theorem dipsA_eq (hj:j.Valid) {i b:Nat}:dipsA j (dipR j) i b=match dipsO j i b with
    | some d=>(d:Int)
    | none=>-1:=by
  unfold dipsA dipsO
  simp only [rightA_eq hj]
  cases List.find? (fun d=>rightW j i b d) (List.range (21-b))<;>rfl
end Am.Vt
namespace Am.Vt
open Go Am
set_option maxRecDepth 100000
set_option maxHeartbeats 4000000
set_option linter.unusedSimpArgs false
set_option linter.unusedVariables false
variable {g1 g2 g3 g4 g5 g gt gd:Bool × Bool} {j:Job} {v:Vat} {plan:List Stp} {t:Truth} {s:Sh} {S:List Sh}
theorem PieceDips_val {i b:Int}:Val tab 4 [jobV g1 g2 g3 g4 g5 j,.c (.int .i64 i),.c (.int .i64 b)] (.c (.bool true)):=by
  refine Val_X (fn:=f4) rfl ?_
  have kt:=fun {Q:V→Prop}=>mThin (j:=j) (g1:=g1) (g2:=g2) (g3:=g3) (g4:=g4) (g5:=g5) (Q:=Q)
  simp only [jobV] at kt
  cases ht:thinJ j with
  | false=>simp only [go_sem,f4,kt,ht,lawake7,disj_nil]
  | true=>
  obtain ⟨hf,hs,h6⟩:=thinJ_fits ht
  have kJ:=fun {Q:V→Prop}=>mJob (j:=j) (g1:=g1) (g2:=g2) (g3:=g3) (g4:=g4) (g5:=g5) hs h6 (Q:=Q)
  have k1:=fun {g1 g2 g3 g4 g5:Bool × Bool} {Q:V→Prop}=>pDips (j:=j) (i:=i) (b:=b) (g1:=g1) (g2:=g2) (g3:=g3) (g4:=g4) (g5:=g5) hf (Q:=Q)
  have k2:=fun {Q:V→Prop}=>mfault (j:=j) (g1:=g1) (g2:=g2) (g3:=g3) (g4:=g4) (g5:=g5) hf (Q:=Q)
  have k3:=fun {Q:V→Prop}=>misPiece (j:=j) (n:=i) (g1:=g1) (g2:=g2) (g3:=g3) (g4:=g4) (g5:=g5) (by omega) (Q:=Q)
  simp only [jobV] at kJ k1 k2 k3
  by_cases h0:checkJob j=0
  · have hj:=jvalid_of h0
    have hA:dipsOk j i b=false→DipsR j i b = .tup [.c (.int .i64 0),.c (.int .i64 2)]:=fun h=>by
      have:askJ j (dipsOk j i b)=2:=by rw [askJ,if_neg (by rw [h0];simp),if_pos h]
      rw [DipsR,this,if_pos (by decide)]
    cases hp:pieceOk j i with
    | false=>
      rw [hA (by rw [dipsOk,hp];rfl)] at k1
      simp only [go_sem,f4,kt,ht,kJ,k1,k2,k3,h0,hp,lawake7,disj_nil]
    | true=>
      cases hb:inR b 0 20 with
      | false=>
        rw [hA (by rw [dipsOk,hp,hb];rfl)] at k1
        simp only [go_sem,f4,kt,ht,kJ,k1,k2,k3,h0,hp,hb,rIn,lawake7,disj_nil]
      | true=>
        have hok:dipsOk j i b=true:=by rw [dipsOk,hp,hb];rfl
        have hR:DipsR j i b=match dipsO j i.toNat b.toNat with
          | some d=>.tup [.c (.int .i64 (d:Int)),.c (.int .i64 0)]
          | none=>.tup [.c (.int .i64 0),.c (.int .i64 10)]:=by
          rw [DipsR,if_neg (by rw [askJ,hok,if_neg (by rw [h0];simp)];simp)]
          cases dipsO j i.toNat b.toNat<;>rfl
        have hp':=hp
        have hb':=hb
        rw [pieceOk,inR_iff] at hp'
        rw [inR_iff] at hb'
        obtain ⟨n,rfl⟩:∃n:Nat,i=n:=⟨i.toNat,by omega⟩
        obtain ⟨m,rfl⟩:∃n:Nat,b=n:=⟨b.toNat,by omega⟩
        rw [Int.toNat_natCast,Int.toNat_natCast] at hR
        have k4:=fun {Q:V→Prop}=>mall (g1:=g1) (g2:=g2) (g3:=g3) (g4:=g4) (g5:=g5) hj (Q:=Q)
        have k5:=fun {gd:Bool × Bool} {Q:V→Prop}=>qDips (j:=j) (gd:=gd) (S:=dipR j) (g1:=g1) (g2:=g2) (g3:=g3) (g4:=g4) (g5:=g5) (dipR_ok hj) (dipR_len hj) (i:=n) (b:=m) (by omega) (by omega) (Q:=Q)
        simp only [jobV] at k4 k5
        have hd:=dipsA_eq hj (i:=n) (b:=m)
        cases ho:dipsO j n m with
        | none=>
          rw [ho] at hR hd
          simp only at hR hd
          rw [hR] at k1
          rw [hd] at k5
          simp only [go_sem,f4,kt,ht,kJ,k1,k2,k3,k4,k5,h0,hp,hb,rIn,lawake7,disj_nil]
        | some d=>
          rw [ho] at hR hd
          simp only at hR hd
          rw [hR] at k1
          rw [hd] at k5
          have d0:¬(d:Int)<0:=by omega
          simp only [go_sem,f4,kt,ht,kJ,k1,k2,k3,k4,k5,h0,hp,hb,d0,rIn,lawake7,disj_nil]
  · have hR:DipsR j i b = .tup [.c (.int .i64 0),.c (.int .i64 (checkJob j))]:=by
      have:askJ j (dipsOk j i b)=checkJob j:=by rw [askJ,if_pos h0]
      rw [DipsR,this,if_pos h0]
    rw [hR] at k1
    simp only [go_sem,f4,kt,ht,kJ,k1,k2,k3,h0,lawake7,disj_nil]
end Am.Vt
