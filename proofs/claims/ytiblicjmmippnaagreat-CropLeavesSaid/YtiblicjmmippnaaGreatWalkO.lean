/-
  A part of the proof: the texts F11 of this seat, joined.
-/
import Derived.Test.YtiblicjmmippnaaGreatWalkN
namespace Am.Cr
open Go Am
set_option maxRecDepth 100000
set_option maxHeartbeats 4000000
set_option linter.unusedSimpArgs false
set_option linter.unusedVariables false
variable {g1 g2 g3 g4 g5 : Bool × Bool} {f : Field}
theorem leave_len (hv : f.Valid) : (leaveS f).length ≤ f.looks.length := (setsL_mem.1 (leave_ok hv).1).2.1
theorem CropLeaves_val : Val tab 6 [fieldV g1 g2 g3 g4 g5 f] (.c (.bool true)) := by
  refine Val_X (fn := f6) rfl ?_
  by_cases ht : thinB f = true
  · have hs := thin_small ht
    have hW := hs.fits
    obtain ⟨b, hw⟩ := vLeave (f := f) (g1 := (false, false)) (g2 := (false, false)) (g3 := (false, false)) (g4 := (false, false)) (g5 := (false, false)) hW
    have k1 := fun {Q : V → Prop} => CallP_of (Q := Q) hw
    have k2 := fun {Q : V → Prop} => cFirst (f := f) (g1 := (false, false)) (g2 := (false, false)) (g3 := (false, false)) (g4 := (false, false)) (g5 := (false, false)) hW (Q := Q)
    by_cases h0 : checkField f = 0
    · have hv := valid_of h0
      have v5 := hv.looks5
      have hR : LeaveR b f = .tup [.c (L (b, false) (leaveS f)), .c (.int .i64 0)] := if_neg (by rw [h0]; simp)
      rw [hR] at k1
      have hl := leave_len hv
      have k3 := fun {g g' : Bool × Bool} {Q : V → Prop} => lints (g := g) (g' := g') (a := leaveS f) (b := leaveS f) (big_of (by omega)) (Q := Q)
      cases hf : firstO f with
      | none =>
        have hR2 : FirstR f = .tup [.c (.int .i64 0), .c (.int .i64 7)] := by rw [FirstR, if_neg (by rw [h0]; simp), hf]
        have hI : firstI f = -1 := by rw [firstI, hf]
        rw [hR2] at k2
        simp only [go_sem, f6, lThin, ht, lField hs, k1, k2, k3, lfault hW, h0, rAll hv, rLeave hv, rFirst hv, hI, ge_iff_le, lawake]
      | some i =>
        have hR2 : FirstR f = .tup [.c (.int .i64 i), .c (.int .i64 0)] := by rw [FirstR, if_neg (by rw [h0]; simp), hf]
        have hI : firstI f = i := by rw [firstI, hf]
        have hi : (0 : Int) ≤ i := by omega
        rw [hR2] at k2
        simp only [go_sem, f6, lThin, ht, lField hs, k1, k2, k3, lfault hW, h0, rAll hv, rLeave hv, rFirst hv, hI, ge_iff_le, hi, lawake]
    · have hR : LeaveR b f = .tup [.c .nils, .c (.int .i64 (checkField f))] := if_pos h0
      have hR2 : FirstR f = .tup [.c (.int .i64 0), .c (.int .i64 (checkField f))] := if_pos h0
      rw [hR] at k1
      rw [hR2] at k2
      simp only [go_sem, f6, lThin, ht, lField hs, k1, k2, lfault hW, h0, lawake]
  · simp only [go_sem, f6, lThin, ht, lawake]
end Am.Cr
