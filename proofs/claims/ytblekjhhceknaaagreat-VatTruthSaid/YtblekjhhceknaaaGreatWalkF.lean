/-
  A part of the proof: the texts W9, W10, W11, W12 of this seat, joined.
-/
import Derived.Test.YtblekjhhceknaaaGreatWalkE
namespace Am.Vt
open Go Am
set_option maxRecDepth 100000
set_option maxHeartbeats 4000000
set_option linter.unusedSimpArgs false
set_option linter.unusedVariables false
variable {g1 g2 g3 g4 gt ga gb : Bool × Bool} {v : Vat} {t : Truth}
end Am.Vt

namespace Am.Vt
open Go Am
set_option maxRecDepth 100000
set_option maxHeartbeats 4000000
set_option linter.unusedSimpArgs false
set_option linter.unusedVariables false
variable {g1 g2 g3 g4 gt ga gb : Bool × Bool} {v : Vat} {t : Truth}
end Am.Vt

namespace Am.Vt
open Go Am
set_option maxRecDepth 100000
set_option maxHeartbeats 4000000
set_option linter.unusedSimpArgs false
set_option linter.unusedVariables false
variable {g1 g2 g3 g4 gt ga gb : Bool × Bool} {v : Vat} {t : Truth}
/-- all that was reached is in the rooms, and follows from what was reached before -/
structure ReachOk (room : Nat → Rg) (d : Nat) (now : Rg) (l : List Rg) : Prop where
  le : ∀ i, i < l.length → (l.getD i default).lo ≤ (l.getD i default).hi
  rm : ∀ i, i < l.length → (room (d + i)).lo ≤ (l.getD i default).lo ∧ (l.getD i default).hi ≤ (room (d + i)).hi
  st : ∀ i, i < l.length → (l.getD i default) = nextR (room (d + i)) (if i = 0 then now else l.getD (i - 1) default)
end Am.Vt

namespace Am.Vt
open Go Am
set_option maxRecDepth 100000
set_option maxHeartbeats 4000000
set_option linter.unusedSimpArgs false
set_option linter.unusedVariables false
variable {g1 g2 g3 g4 gt ga gb : Bool × Bool} {v : Vat} {t : Truth}
theorem isTruth_iff (hv : v.Valid) : isTruthB v t = true ↔ t ∈ truthsL v [] := by
  have v1 := hv.drift
  rw [mem_truths hv, isTruthB, Bool.and_eq_true, listed_iff, List.all_eq_true]
  constructor
  · rintro ⟨h1, h2⟩
    refine ⟨h1, ?_⟩
    rw [rightL, List.all_eq_true]
    intro i hi
    have hi := List.mem_range.1 hi
    rw [rightAt, Bool.or_eq_true]
    exact .inr (h2 _ (getD_mem hi))
  · rintro ⟨h1, h2⟩
    refine ⟨h1, fun k hk => ?_⟩
    rw [rightL, List.all_eq_true] at h2
    obtain ⟨i, hi, rfl⟩ := List.getElem_of_mem hk
    have := h2 i (List.mem_range.2 hi)
    rw [rightAt, Bool.or_eq_true] at this
    rcases this with h | h
    · simp at h
    · rwa [getD_lt _ _ _ hi] at h
theorem provesTruth_eq (h0 : checkVat v = 0) : provesTruth v t = isTruthB v t := by rw [provesTruth, h0]; simp [isTruthB]
end Am.Vt

