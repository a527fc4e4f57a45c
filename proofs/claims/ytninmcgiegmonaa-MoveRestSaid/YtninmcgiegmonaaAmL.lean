/-
  A part of the proof: the texts Am41 of this seat, joined.
-/
import Derived.Test.YtninmcgiegmonaaAmG
import Derived.Shelf.Spec.SlicesGrow
namespace Am
open Go Go.Proofs Go.Shelf
set_option linter.unusedVariables false
variable {P:Program} {cfg:Cfg}
end Am
