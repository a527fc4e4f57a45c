/-
  A part of the proof: the texts VtJ of this seat, joined.
-/
import Derived.Test.YtphjbeffckignaaGreatEqs
import Derived.Test.YtphjbeffckignaaGreatAmJ
import Derived.Test.YtphjbeffckignaaGreatAmL
import Derived.Test.YtphjbeffckignaaGreatWalkD
open Go Go.Proofs Am
namespace Am.Vt
set_option maxRecDepth 1000000
set_option linter.unusedVariables false
theorem hgrows : GrowsOk Tryz.prog cfg:=by
  intro f e h sz by_ hs hb
  have h':cloneAt f growL=some e:=h
  cases h'
theorem hclones : ClonesOk Tryz.prog cfg:=by
  refine clonesOk_of mixed hgrows ?_
  intro f e h
  have h':cloneAt f cloneL=some e:=h
  cases h'
theorem own : ownKnob Tryz.prog.godebug=none:=by kernel_rfl
theorem laidOut : laidOutB Tryz.prog=true:=by kernel_rfl
instance : Row Vat:=⟨12,fun v=>[.int .i64 v.last,.int .i64 v.band,.int .i64 v.start.lo,.int .i64 v.start.hi,.int .i64 v.blue.lo,.int .i64 v.blue.hi,.int .i64 v.gain,.int .i64 v.take,.lst (v.drift.map Row.row),.lst (v.feeds.map Row.row),.lst (v.dips.map Row.row),.lst (v.looks.map Row.row)],fun _=>rfl⟩
instance : Row Job:=⟨17,fun j=>Row.row j.vat++[.int .i64 j.day,.lst (j.pieces.map Row.row),.int .i64 j.eye,.int .i64 j.old.lo,.int .i64 j.old.hi],fun _=>rfl⟩
end Am.Vt
