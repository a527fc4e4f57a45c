/-
  A part of the proof: the texts Y4, Y8 of this seat, joined.
-/
import Derived.Test.YtblekjhhceknaaaGreatWalkG
namespace Am.Vt
open Go Am
set_option maxRecDepth 100000
set_option maxHeartbeats 4000000
set_option linter.unusedSimpArgs false
set_option linter.unusedVariables false
variable {g1 g2 g3 g4 gt : Bool × Bool} {v : Vat} {t : Truth}
end Am.Vt

namespace Am.Vt
open Go Am
set_option maxRecDepth 100000
set_option maxHeartbeats 4000000
set_option linter.unusedSimpArgs false
set_option linter.unusedVariables false
variable {g1 g2 g3 g4 gt g : Bool × Bool} {v : Vat} {t : Truth} {l : List Int}
theorem leave_len (hv : v.Valid) : (leaveS v).length ≤ v.looks.length := (setsL_mem.1 (leave_ok hv).1).2.1
theorem VatLeaves_val : Val tab 8 [vatV g1 g2 g3 g4 v] (.c (.bool true)) := by
  refine Val_X (fn := f8) rfl ?_
  cases ht : thinB v with
  | false => simp only [go_sem, f8, lThin, ht, lawake, disj_nil]
  | true =>
  have hs := thin_small ht
  have hf := hs.fits
  have kV := fun {Q : V → Prop} => lVat (g1 := g1) (g2 := g2) (g3 := g3) (g4 := g4) hs (Q := Q)
  have k1 := fun {g1 g2 g3 g4 : Bool × Bool} {Q : V → Prop} => cFirst (g1 := g1) (g2 := g2) (g3 := g3) (g4 := g4) hf (Q := Q)
  obtain ⟨b, h2⟩ := vLeave (v := v) (g1 := (false, false)) (g2 := (false, false)) (g3 := (false, false)) (g4 := (false, false)) hf
  have k2 := fun {Q : V → Prop} => CallP_of h2 (Q := Q)
  have k4 := fun {g1 g2 g3 g4 : Bool × Bool} {Q : V → Prop} => lfault (g1 := g1) (g2 := g2) (g3 := g3) (g4 := g4) hf (Q := Q)
  simp only [vatV] at kV k1 k2 k4
  by_cases h0 : ¬ checkVat v = 0
  · have hR1 : FirstR v = .tup [.c (.int .i64 0), .c (.int .i64 (checkVat v))] := by rw [FirstR, if_pos h0]
    have hR2 : LeaveR b v = .tup [.c .nils, .c (.int .i64 (checkVat v))] := by rw [LeaveR, if_pos h0]
    rw [hR1] at k1
    rw [hR2] at k2
    simp only [go_sem, f8, lThin, ht, kV, k1, k2, k4, h0, lawake, disj_nil]
  have h0 := Decidable.not_not.1 h0
  have hv := valid_of h0
  have v5 := hv.looks5
  have hR2 : LeaveR b v = .tup [.c (L (b, false) (leaveS v)), .c (.int .i64 0)] := by rw [LeaveR, if_neg (by rw [h0]; simp)]
  rw [hR2] at k2
  have ll := leave_len hv
  have kA := fun {g1 g2 g3 g4 : Bool × Bool} {Q : V → Prop} => rAll (g1 := g1) (g2 := g2) (g3 := g3) (g4 := g4) hv (Q := Q)
  have kL := fun {g1 g2 g3 g4 g : Bool × Bool} {Q : V → Prop} => rLeave (g1 := g1) (g2 := g2) (g3 := g3) (g4 := g4) (g := g) hv (Q := Q)
  have kF := fun {g1 g2 g3 g4 g : Bool × Bool} {Q : V → Prop} => rFirst (g1 := g1) (g2 := g2) (g3 := g3) (g4 := g4) (g := g) hv (Q := Q)
  have kI := fun {g g' : Bool × Bool} {Q : V → Prop} => lints (g := g) (g' := g') (a := leaveS v) (b := leaveS v) (big_of (by omega)) (Q := Q)
  simp only [vatV] at kA kL kF
  cases ho : firstO v with
  | none =>
    have hR1 : FirstR v = .tup [.c (.int .i64 0), .c (.int .i64 7)] := by rw [FirstR, if_neg (by rw [h0]; simp), ho]
    have hI : firstI v = -1 := by rw [firstI, ho]
    rw [hR1] at k1
    rw [hI] at kF
    simp only [go_sem, f8, lThin, ht, kV, k1, k2, k4, kA, kL, kF, kI, h0, lawake, disj_nil]
  | some i =>
    have hR1 : FirstR v = .tup [.c (.int .i64 i), .c (.int .i64 0)] := by rw [FirstR, if_neg (by rw [h0]; simp), ho]
    have hI : firstI v = i := by rw [firstI, ho]
    have h1 : ((i : Nat) : Int) ≥ 0 := by omega
    rw [hR1] at k1
    rw [hI] at kF
    simp only [go_sem, f8, lThin, ht, kV, k1, k2, k4, kA, kL, kF, kI, h0, h1, lawake, disj_nil]
end Am.Vt

