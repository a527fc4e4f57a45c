/-
  A part of the proof: the texts Q1, Q2, Q3, Q4 of this seat, joined.
-/
import Derived.Test.YtphjbeffckignaaGreatWalkF
namespace Am.Vt
open Go Am
set_option maxRecDepth 100000
set_option maxHeartbeats 4000000
set_option linter.unusedSimpArgs false
set_option linter.unusedVariables false
variable {g1 g2 g3 g4 g5 g gt:Bool × Bool} {j:Job} {v:Vat} {plan:List Stp} {t:Truth} {s:Sh}
end Am.Vt
namespace Am.Vt
open Go Am
set_option maxRecDepth 100000
set_option maxHeartbeats 4000000
set_option linter.unusedSimpArgs false
set_option linter.unusedVariables false
variable {g1 g2 g3 g4 g5 g gt gd:Bool × Bool} {j:Job} {v:Vat} {plan:List Stp} {t:Truth} {s:Sh} {S:List Sh}
end Am.Vt
namespace Am.Vt
open Go Am
set_option maxRecDepth 100000
set_option maxHeartbeats 4000000
set_option linter.unusedSimpArgs false
set_option linter.unusedVariables false
variable {g1 g2 g3 g4 g5 g gt gd:Bool × Bool} {j:Job} {v:Vat} {plan:List Stp} {t:Truth} {s:Sh} {S:List Sh}
end Am.Vt
namespace Am.Vt
open Go Am
set_option maxRecDepth 100000
set_option maxHeartbeats 4000000
set_option linter.unusedSimpArgs false
set_option linter.unusedVariables false
variable {g1 g2 g3 g4 g5 g gt gd:Bool × Bool} {j:Job} {v:Vat} {plan:List Stp} {t:Truth} {s:Sh} {S:List Sh}
end Am.Vt
