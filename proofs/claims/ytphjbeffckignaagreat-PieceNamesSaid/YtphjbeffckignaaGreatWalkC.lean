/-
  A part of the proof: the texts W1, W2, W3, W4, W5, W6, Y1 of this seat, joined.
-/
import Derived.Test.YtphjbeffckignaaGreatWalkB
namespace Am.Vt
open Go Am
set_option maxRecDepth 100000
set_option maxHeartbeats 4000000
set_option linter.unusedSimpArgs false
set_option linter.unusedVariables false
variable {g1 g2 g3 g4:Bool × Bool} {v:Vat}
theorem sizeN {r:Rg} (h : -5000≤r.lo∧r.lo≤r.hi∧r.hi≤5000):sizeI r.lo r.hi=(szN r:Nat)∧szN r≤10001:=by
  unfold sizeI szN
  rw [wrapB (n:=r.hi-r.lo) (by omega) (by omega),wrapB (by omega) (by omega)]
  omega
end Am.Vt
namespace Am.Vt
open Go Am
set_option maxRecDepth 100000
set_option maxHeartbeats 4000000
set_option linter.unusedSimpArgs false
set_option linter.unusedVariables false
variable {g1 g2 g3 g4:Bool × Bool} {v:Vat}
end Am.Vt
namespace Am.Vt
open Go Am
set_option maxRecDepth 100000
set_option maxHeartbeats 4000000
set_option linter.unusedSimpArgs false
set_option linter.unusedVariables false
variable {g1 g2 g3 g4 gt:Bool × Bool} {v:Vat} {t:Truth}
end Am.Vt
namespace Am.Vt
open Go Am
set_option maxRecDepth 100000
set_option maxHeartbeats 4000000
set_option linter.unusedSimpArgs false
set_option linter.unusedVariables false
variable {g1 g2 g3 g4 gt:Bool × Bool} {v:Vat} {t:Truth}
theorem Vat.Valid.size (hv:v.Valid):∀r∈rangesL v,sizeI r.lo r.hi=(szN r:Nat)∧1≤szN r∧szN r≤10001 ∧ -5000≤r.lo∧r.hi≤5000:=by
  intro r hr
  have hb : -5000≤r.lo∧r.lo≤r.hi∧r.hi≤5000:=by
    simp only [rangesL,List.mem_cons] at hr
    rcases hr with rfl | rfl | hr
    · have:=hv.start;omega
    · have:=hv.blue;omega
    · have:=hv.driftO r hr;omega
  obtain ⟨a,b⟩:=sizeN hb
  refine ⟨a,?_,b,by omega,by omega⟩
  unfold szN;omega
end Am.Vt
namespace Am.Vt
open Go Am
set_option maxRecDepth 100000
set_option maxHeartbeats 4000000
set_option linter.unusedSimpArgs false
set_option linter.unusedVariables false
variable {g1 g2 g3 g4 gt:Bool × Bool} {v:Vat} {t:Truth}
end Am.Vt
namespace Am.Vt
open Go Am
set_option maxRecDepth 100000
set_option maxHeartbeats 4000000
set_option linter.unusedSimpArgs false
set_option linter.unusedVariables false
variable {g1 g2 g3 g4 gt:Bool × Bool} {v:Vat} {t:Truth}
end Am.Vt
namespace Am.Vt
open Go Am
set_option maxRecDepth 100000
set_option maxHeartbeats 4000000
set_option linter.unusedSimpArgs false
set_option linter.unusedVariables false
variable {g1 g2 g3 g4 gt:Bool × Bool} {v:Vat} {t:Truth}
structure Vat.Small (v:Vat):Prop where
  drift:v.drift.length≤10
  feeds:v.feeds.length≤10
  dips:v.dips.length≤10
  looks:v.looks.length≤7
instance : Decidable v.Small:=decidable_of_iff (v.drift.length≤10∧v.feeds.length≤10∧v.dips.length≤10∧v.looks.length≤7) ⟨fun h=>⟨h.1,h.2.1,h.2.2.1,h.2.2.2⟩,fun h=>⟨h.drift,h.feeds,h.dips,h.looks⟩⟩
theorem Vat.Small.fits (h:v.Small):v.Fits:=⟨by have:=h.drift;omega,by have:=h.feeds;omega,by have:=h.dips;omega,by have:=h.looks;omega⟩
end Am.Vt
