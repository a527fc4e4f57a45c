/-
  A part of the proof: the texts VtJ of this seat, joined.
-/
import Derived.Test.YtblekjhhceknaaaEqs
import Derived.Test.YtblekjhhceknaaaAmJ
import Derived.Test.YtblekjhhceknaaaAmL
import Derived.Test.YtblekjhhceknaaaWalkA
open Go Go.Proofs Am
namespace Am.Vt
set_option maxRecDepth 1000000
set_option linter.unusedVariables false
noncomputable def cloneI : CloneCode Try.prog 52 3 1 8 where
  fn:=Try.f52
  i0:=(cloneParts Try.f52.body).1.1
  i1:=(cloneParts Try.f52.body).2.1.1
  i2:=(cloneParts Try.f52.body).2.2.1.1
  i3:=(cloneParts Try.f52.body).2.2.2.1
  ops0:=(cloneParts Try.f52.body).1.2
  ops1:=(cloneParts Try.f52.body).2.1.2
  ops2:=(cloneParts Try.f52.body).2.2.1.2
  ops3:=(cloneParts Try.f52.body).2.2.2.2
  o1:=(cloneParts Try.f52.body).2.1.2.getD 0 default
  o2:=(cloneParts Try.f52.body).2.1.2.getD 1 default
  t:=22
  u:=22
  e':=3
  z:=[.int .i64 0]
  zd:=[.int .i64 0]
  hf:=Try.func52
  hn:=by kernel_rfl
  hb:=by kernel_rfl
  hr:=by kernel_rfl
  ht:=by kernel_rfl
  h0:=by kernel_rfl
  h2:=by kernel_rfl
  h3:=by kernel_rfl
  h1:=by kernel_rfl
  k1:=⟨by kernel_rfl,by kernel_rfl,by kernel_rfl⟩
  k2:=⟨by kernel_rfl,by kernel_rfl,by kernel_rfl⟩
  hu:=by kernel_rfl
  hz:=fun h=>rfl
  hzl:=rfl
theorem hgrows : GrowsOk Try.prog cfg:=by
  intro f e h sz by_ hs hb
  have h':cloneAt f growL=some e:=h
  cases h'
theorem hclones : ClonesOk Try.prog cfg:=by
  refine clonesOk_of mixed hgrows ?_
  intro f e h
  have h':cloneAt f cloneL=some e:=h
  simp only [cloneL,cloneAt] at h'
  cases hf:Nat.beq f 52 with
  | true=>
    rw [hf] at h'
    simp only [cond_true,Option.some.injEq] at h'
    have:=Nat.eq_of_beq_eq_true hf
    subst this;subst h'
    exact ⟨1,8,by kernel_rfl,by kernel_rfl,⟨cloneI⟩⟩
  | false=>rw [hf] at h';cases h'
theorem own : ownKnob Try.prog.godebug=none:=by kernel_rfl
theorem laidOut : laidOutB Try.prog=true:=by kernel_rfl
instance : Row Vat:=⟨12,fun v=>[.int .i64 v.last,.int .i64 v.band,.int .i64 v.start.lo,.int .i64 v.start.hi,.int .i64 v.blue.lo,.int .i64 v.blue.hi,.int .i64 v.gain,.int .i64 v.take,.lst (v.drift.map Row.row),.lst (v.feeds.map Row.row),.lst (v.dips.map Row.row),.lst (v.looks.map Row.row)],fun _=>rfl⟩
end Am.Vt
