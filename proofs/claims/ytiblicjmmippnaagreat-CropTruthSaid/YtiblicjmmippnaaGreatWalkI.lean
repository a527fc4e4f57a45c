/-
  A part of the proof: the texts F6 of this seat, joined.
-/
import Derived.Test.YtiblicjmmippnaaGreatWalkH
namespace Am.Cr
open Go Am
set_option maxRecDepth 100000
set_option maxHeartbeats 4000000
set_option linter.unusedSimpArgs false
set_option linter.unusedVariables false
variable {g1 g2 g3 g4 g5 : Bool × Bool} {f : Field}
theorem askE_val (hv : f.Valid) (h0 : checkField f = 0) (b : Bool) : (askE f b = 2 ∧ b = false) ∨ (askE f b = 11 ∧ b = true ∧ refTruths f = []) ∨ (askE f b = 0 ∧ b = true ∧ refTruths f ≠ []) := by
  rw [askE_ref hv h0]
  cases b with
  | false => simp
  | true => by_cases h : refTruths f = [] <;> simp [h]
end Am.Cr
