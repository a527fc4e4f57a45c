/-
  A part of the proof: the texts CnJ of this seat, joined.
-/
import Derived.Test.YthffdgldmpceoaaEqs
import Derived.Test.YthffdgldmpceoaaAmJ
import Derived.Test.YthffdgldmpceoaaAmL
import Derived.Test.YthffdgldmpceoaaWalkA
open Go Go.Proofs Am
namespace Am.Cr
set_option maxRecDepth 1000000
set_option linter.unusedVariables false
noncomputable def cloneI : CloneCode Try.prog 33 3 1 8 where
  fn := Try.f33
  i0 := (cloneParts Try.f33.body).1.1
  i1 := (cloneParts Try.f33.body).2.1.1
  i2 := (cloneParts Try.f33.body).2.2.1.1
  i3 := (cloneParts Try.f33.body).2.2.2.1
  ops0 := (cloneParts Try.f33.body).1.2
  ops1 := (cloneParts Try.f33.body).2.1.2
  ops2 := (cloneParts Try.f33.body).2.2.1.2
  ops3 := (cloneParts Try.f33.body).2.2.2.2
  o1 := (cloneParts Try.f33.body).2.1.2.getD 0 default
  o2 := (cloneParts Try.f33.body).2.1.2.getD 1 default
  t := 22
  u := 22
  e' := 3
  z := [.int .i64 0]
  zd := [.int .i64 0]
  hf := Try.func33
  hn := by kernel_rfl
  hb := by kernel_rfl
  hr := by kernel_rfl
  ht := by kernel_rfl
  h0 := by kernel_rfl
  h2 := by kernel_rfl
  h3 := by kernel_rfl
  h1 := by kernel_rfl
  k1 := ⟨by kernel_rfl, by kernel_rfl, by kernel_rfl⟩
  k2 := ⟨by kernel_rfl, by kernel_rfl, by kernel_rfl⟩
  hu := by kernel_rfl
  hz := fun h => rfl
  hzl := rfl
noncomputable def cloneR : CloneCode Try.prog 75 36 2 16 where
  fn := Try.f75
  i0 := (cloneParts Try.f75.body).1.1
  i1 := (cloneParts Try.f75.body).2.1.1
  i2 := (cloneParts Try.f75.body).2.2.1.1
  i3 := (cloneParts Try.f75.body).2.2.2.1
  ops0 := (cloneParts Try.f75.body).1.2
  ops1 := (cloneParts Try.f75.body).2.1.2
  ops2 := (cloneParts Try.f75.body).2.2.1.2
  ops3 := (cloneParts Try.f75.body).2.2.2.2
  o1 := (cloneParts Try.f75.body).2.1.2.getD 0 default
  o2 := (cloneParts Try.f75.body).2.1.2.getD 1 default
  t := 30
  u := 30
  e' := 36
  z := [.int .i64 0, .int .i64 0]
  zd := [.int .i64 0, .int .i64 0]
  hf := Try.func75
  hn := by kernel_rfl
  hb := by kernel_rfl
  hr := by kernel_rfl
  ht := by kernel_rfl
  h0 := by kernel_rfl
  h2 := by kernel_rfl
  h3 := by kernel_rfl
  h1 := by kernel_rfl
  k1 := ⟨by kernel_rfl, by kernel_rfl, by kernel_rfl⟩
  k2 := ⟨by kernel_rfl, by kernel_rfl, by kernel_rfl⟩
  hu := by kernel_rfl
  hz := fun h => rfl
  hzl := rfl
def growI_ren : Go.Shelf.Ren := ⟨fun | 4 => 77 | n => n, fun | 22 => 22 | 25 => 3 | 3 => 3 | 4 => 4 | 9 => 9 | 20 => 20 | 0 => 0 | n => n, fun | n => n⟩
theorem growI : Go.Proofs.Lays8.n4 Try.prog growI_ren := {
  mixed := by kernel_rfl
  f4 := ⟨Try.f77.name, by decide, Try.func77.trans (congrArg some (by kernel_rfl))⟩
  t0 := Try.underlying0
  a0 := Try.isAgg0
  z0 := Try.sizeOf0
  v0 := Try.zeroValue0
  t3 := Try.underlying3
  a3 := Try.isAgg3
  z3 := Try.sizeOf3
  v3 := Try.zeroValue3
  t4 := Try.underlying4
  a4 := Try.isAgg4
  z4 := Try.sizeOf4
  v4 := Try.zeroValue4
  t9 := Try.underlying9
  a9 := Try.isAgg9
  z9 := Try.sizeOf9
  v9 := Try.zeroValue9
  t20 := Try.underlying20
  a20 := Try.isAgg20
  z20 := Try.sizeOf20
  v20 := Try.zeroValue20
  t22 := Try.underlying22
  a22 := Try.isAgg22
  z22 := Try.sizeOf22
  v22 := Try.zeroValue22 }
theorem hgrows : GrowsOk Try.prog cfg := by
  intro f e h sz by_ hs hb
  have h' : cloneAt f growL = some e := h
  simp only [growL, cloneAt] at h'
  cases hf : Nat.beq f 77 with
  | false => rw [hf] at h'; cases h'
  | true =>
    rw [hf] at h'
    simp only [cond_true, Option.some.injEq] at h'
    have := Nat.eq_of_beq_eq_true hf
    subst this; subst h'
    have e1 : sizeT Try.prog 3 = some 1 := by kernel_rfl
    have e2 : bytesT Try.prog 3 = some 8 := by kernel_rfl
    rw [e1] at hs; rw [e2] at hb
    cases hs; cases hb
    refine ⟨⟨Try.f77, Try.f77.body.getD .skip, Try.func77, by kernel_rfl, by kernel_rfl⟩, ?_⟩
    intro n hn w cs
    have hn2 : n ≤ 2 ^ 40 := by omega
    obtain ⟨i0, hi0⟩ : ∃ i0, i0 = (Try.prog.info? 3).getD default := ⟨_, rfl⟩
    have h1 : Try.prog.info? 3 = some i0 := by rw [hi0]; kernel_rfl
    have h2 : i0.zero = some (.int .i64 0) := by rw [hi0]; kernel_rfl
    have h3 : i0.size = 1 := by rw [hi0]; kernel_rfl
    have h4 : i0.bytes = 8 := by rw [hi0]; kernel_rfl
    have := grow_of_lays growI i0 (.int .i64 0) h1 h2 (by omega) (by rw [h3]; rfl) (n := n) (by rw [h4]; exact hn) hn2 w cs
    rw [h3] at this
    exact this
theorem hclones : ClonesOk Try.prog cfg := by
  refine clonesOk_of mixed hgrows ?_
  intro f e h
  have h' : cloneAt f cloneL = some e := h
  simp only [cloneL, cloneAt] at h'
  cases hf : Nat.beq f 33 with
  | true =>
    rw [hf] at h'
    simp only [cond_true, Option.some.injEq] at h'
    have := Nat.eq_of_beq_eq_true hf
    subst this; subst h'
    exact ⟨1, 8, by kernel_rfl, by kernel_rfl, ⟨cloneI⟩⟩
  | false =>
    rw [hf] at h'
    simp only [cond_false] at h'
    cases hf2 : Nat.beq f 75 with
    | true =>
      rw [hf2] at h'
      simp only [cond_true, Option.some.injEq] at h'
      have := Nat.eq_of_beq_eq_true hf2
      subst this; subst h'
      exact ⟨2, 16, by kernel_rfl, by kernel_rfl, ⟨cloneR⟩⟩
    | false => rw [hf2] at h'; cases h'
theorem own : ownKnob Try.prog.godebug = none := by kernel_rfl
theorem laidOut : laidOutB Try.prog = true := by kernel_rfl
end Am.Cr

