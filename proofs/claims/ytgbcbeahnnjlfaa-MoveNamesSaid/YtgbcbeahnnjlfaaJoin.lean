/-
  A part of the proof: the texts TmJ of this seat, joined.
-/
import Derived.Test.YtgbcbeahnnjlfaaEqs
import Derived.Test.YtgbcbeahnnjlfaaAmJ
import Derived.Test.YtgbcbeahnnjlfaaAmL
open Go Go.Proofs Am Am.Tm
namespace Am.Mv
set_option maxRecDepth 1000000
set_option linter.unusedVariables false
noncomputable def cloneI : CloneCode Try.prog 53 3 1 8 where
  fn := Try.f53
  i0 := (cloneParts Try.f53.body).1.1
  i1 := (cloneParts Try.f53.body).2.1.1
  i2 := (cloneParts Try.f53.body).2.2.1.1
  i3 := (cloneParts Try.f53.body).2.2.2.1
  ops0 := (cloneParts Try.f53.body).1.2
  ops1 := (cloneParts Try.f53.body).2.1.2
  ops2 := (cloneParts Try.f53.body).2.2.1.2
  ops3 := (cloneParts Try.f53.body).2.2.2.2
  o1 := (cloneParts Try.f53.body).2.1.2.getD 0 default
  o2 := (cloneParts Try.f53.body).2.1.2.getD 1 default
  t := 29
  u := 29
  e' := 3
  z := [.int .i64 0]
  zd := [.int .i64 0]
  hf := Try.func53
  hn := by kernel_rfl
  hb := by kernel_rfl
  hr := by kernel_rfl
  ht := by kernel_rfl
  h0 := by kernel_rfl
  h2 := by kernel_rfl
  h3 := by kernel_rfl
  h1 := by kernel_rfl
  k1 := ⟨by kernel_rfl, by kernel_rfl, by kernel_rfl⟩
  k2 := ⟨by kernel_rfl, by kernel_rfl, by kernel_rfl⟩
  hu := by kernel_rfl
  hz := fun h => rfl
  hzl := rfl
theorem hgrows : GrowsOk Try.prog cfg := by
  intro f e h sz by_ hs hb
  have h' : cloneAt f growL = some e := h
  simp only [growL, cloneAt] at h'
  cases h'
theorem hclones : ClonesOk Try.prog cfg := by
  refine clonesOk_of mixed hgrows ?_
  intro f e h
  have h' : cloneAt f cloneL = some e := h
  simp only [cloneL, cloneAt] at h'
  cases hf : Nat.beq f 53 with
  | true =>
    rw [hf] at h'
    simp only [cond_true, Option.some.injEq] at h'
    have := Nat.eq_of_beq_eq_true hf
    subst this; subst h'
    exact ⟨1, 8, by kernel_rfl, by kernel_rfl, ⟨cloneI⟩⟩
  | false => rw [hf] at h'; cases h'
theorem own : ownKnob Try.prog.godebug = none := by kernel_rfl
theorem laidOut : laidOutB Try.prog = true := by kernel_rfl
end Am.Mv

