/-
  A part of the proof: the texts F7 of this seat, joined.
-/
import Derived.Test.YtiblicjmmippnaaGreatWalkI
namespace Am.Cr
open Go Am
set_option maxRecDepth 100000
set_option maxHeartbeats 4000000
set_option linter.unusedSimpArgs false
set_option linter.unusedVariables false
variable {g1 g2 g3 g4 g5 : Bool × Bool} {f : Field}
theorem worthRg_ref (hv : f.Valid) {plan : List Int} (hp : POk f plan) (h : refTruths f ≠ []) : wdL (fun t => worthI f t plan) (refTruths f) = worthRg f plan := wd_bd hv h fun t ht => by
  have := worth_bound hv (refTruths_tok hv t ht) hp
  omega
theorem boundAt_ref (hv : f.Valid) {plan : List Int} (hp : POk f plan) (h : refTruths f ≠ []) {i : Nat} (hi : i < plan.length) : wdL (fun t => (cropAt f t plan i).weight) (refTruths f) = (boundAt f plan i).weight ∧ wdL (fun t => (cropAt f t plan i).worth) (refTruths f) = (boundAt f plan i).worth :=
  ⟨wd_bd hv h fun t ht => by have := crop_bound hv (refTruths_tok hv t ht) hp hi; omega, wd_bd hv h fun t ht => by have := crop_bound hv (refTruths_tok hv t ht) hp hi; omega⟩
end Am.Cr
