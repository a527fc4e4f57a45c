/-
  A part of the proof: the texts H1 of this seat, joined.
-/
import Derived.Test.YtiblicjmmippnaaWalkM
import Derived.Test.YtiblicjmmippnaaWalkH
import Derived.Test.YtiblicjmmippnaaWalkF
namespace Am.Cr
open Go Am
set_option maxRecDepth 100000
set_option maxHeartbeats 4000000
set_option linter.unusedSimpArgs false
set_option linter.unusedVariables false
variable {g1 g2 g3 g4 g5 : Bool × Bool} {f : Field}
end Am.Cr

