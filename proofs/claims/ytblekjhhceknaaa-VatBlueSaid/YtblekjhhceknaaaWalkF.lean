/-
  A part of the proof: the texts W9, W10, W11, W12 of this seat, joined.
-/
import Derived.Test.YtblekjhhceknaaaWalkE
namespace Am.Vt
open Go Am
set_option maxRecDepth 100000
set_option maxHeartbeats 4000000
set_option linter.unusedSimpArgs false
set_option linter.unusedVariables false
variable {g1 g2 g3 g4 gt ga gb : Bool × Bool} {v : Vat} {t : Truth}
end Am.Vt

namespace Am.Vt
open Go Am
set_option maxRecDepth 100000
set_option maxHeartbeats 4000000
set_option linter.unusedSimpArgs false
set_option linter.unusedVariables false
variable {g1 g2 g3 g4 gt ga gb : Bool × Bool} {v : Vat} {t : Truth}
end Am.Vt

namespace Am.Vt
open Go Am
set_option maxRecDepth 100000
set_option maxHeartbeats 4000000
set_option linter.unusedSimpArgs false
set_option linter.unusedVariables false
variable {g1 g2 g3 g4 gt ga gb : Bool × Bool} {v : Vat} {t : Truth}
/-- all that was reached is in the rooms, and follows from what was reached before -/
structure ReachOk (room : Nat → Rg) (d : Nat) (now : Rg) (l : List Rg) : Prop where
  le : ∀ i, i < l.length → (l.getD i default).lo ≤ (l.getD i default).hi
  rm : ∀ i, i < l.length → (room (d + i)).lo ≤ (l.getD i default).lo ∧ (l.getD i default).hi ≤ (room (d + i)).hi
  st : ∀ i, i < l.length → (l.getD i default) = nextR (room (d + i)) (if i = 0 then now else l.getD (i - 1) default)
end Am.Vt

namespace Am.Vt
open Go Am
set_option maxRecDepth 100000
set_option maxHeartbeats 4000000
set_option linter.unusedSimpArgs false
set_option linter.unusedVariables false
variable {g1 g2 g3 g4 gt ga gb : Bool × Bool} {v : Vat} {t : Truth}
end Am.Vt

