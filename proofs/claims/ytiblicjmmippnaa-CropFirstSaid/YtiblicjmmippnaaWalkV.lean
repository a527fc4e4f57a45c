/-
  A part of the proof: the texts H2 of this seat, joined.
-/
import Derived.Test.YtiblicjmmippnaaWalkU
namespace Am.Cr
open Go Am
set_option maxRecDepth 100000
set_option maxHeartbeats 4000000
set_option linter.unusedSimpArgs false
set_option linter.unusedVariables false
variable {f : Field}
theorem can_zero (hv : f.Valid) : canB f 0 = true := (can_iff hv (Nat.pow_pos (by omega))).2 ⟨nthT f 0, nthT_isT hv, fun i hi => by simp at hi⟩
theorem first_some (hv : f.Valid) {i : Nat} (h : firstO f = some i) : i < f.looks.length ∧ canB f (2 ^ (i + 1) - 1) = false ∧ canB f (2 ^ i - 1) = true := by
  rw [first_ref hv, List.find?_eq_some_iff_getElem] at h
  obtain ⟨h1, j, hj, h2, h3⟩ := h
  simp at hj h2
  subst h2
  refine ⟨hj, by simpa using h1, ?_⟩
  cases j with
  | zero => exact can_zero hv
  | succ j =>
    have := h3 j (by omega)
    simpa using this
theorem first_none' (hv : f.Valid) (h : firstO f = none) : posB f [] = true := by
  rw [first_ref hv, List.find?_eq_none] at h
  rw [pos_iff hv]
  by_cases h0 : f.looks.length = 0
  · exact ⟨nthT f 0, nthT_isT hv, fun i hi => by omega⟩
  · have := h (f.looks.length - 1) (List.mem_range.2 (by omega))
    rw [show f.looks.length - 1 + 1 = f.looks.length by omega] at this
    have hp : 1 ≤ 2 ^ f.looks.length := Nat.pow_pos (by omega)
    have hc : canB f (2 ^ f.looks.length - 1) = true := by simpa using this
    obtain ⟨t, h1, h2⟩ := (can_iff hv (by omega)).1 hc
    exact ⟨t, h1, fun i hi => .inr (h2 i (by rw [Nat.testBit_two_pow_sub_one]; exact decide_eq_true hi))⟩
theorem CropFirst_val {b1 b2 b3 b4 b5 : Bool} : Val tab 8 [fieldV (b1, false) (b2, false) (b3, false) (b4, false) (b5, false) f] (.c (.bool true)) := by
  refine Val_X (fn := f8) rfl ?_
  cases hr : readyB f with
  | false => simp only [go_sem, f8, lready, hr, lawake]
  | true =>
    obtain ⟨hs, hv, h0, h100⟩ := ready_of hr
    have hW := hs.fits
    have v5 := hv.looks5
    have k2 := fun {Q : V → Prop} => cFirst (f := f) (g1 := (false, false)) (g2 := (false, false)) (g3 := (false, false)) (g4 := (false, false)) (g5 := (false, false)) hW (Q := Q)
    cases hf : firstO f with
    | none =>
      have hR2 : FirstR f = .tup [.c (.int .i64 0), .c (.int .i64 7)] := by rw [FirstR, if_neg (by rw [h0]; simp), hf]
      rw [hR2] at k2
      obtain ⟨a, b, hw⟩ := worthR_nil hv h0
      rw [first_none' hv hf, if_pos rfl] at hw
      have k3 := fun {Q : V → Prop} => cWorth_nil (f := f) (g1 := (false, false)) (g2 := (false, false)) (g3 := (false, false)) (g4 := (false, false)) (g5 := (false, false)) hW (Q := Q)
      rw [hw] at k3
      simp only [go_sem, f8, lready, hr, lField hs, k2, k3, lawake]
    | some i =>
      have hR2 : FirstR f = .tup [.c (.int .i64 i), .c (.int .i64 0)] := by rw [FirstR, if_neg (by rw [h0]; simp), hf]
      rw [hR2] at k2
      obtain ⟨hi, c1, c2⟩ := first_some hv hf
      have q1 : 1 ≤ 2 ^ i := Nat.pow_pos (by omega)
      have q2 : 2 ^ (i + 1) ≤ 2 ^ f.looks.length := Nat.pow_le_pow_right (by omega) (by omega)
      have q3 : 2 ^ f.looks.length ≤ 2 ^ 5 := Nat.pow_le_pow_right (by omega) v5
      have q4 : 2 ^ (i + 1) = 2 * 2 ^ i := by rw [Nat.pow_succ, Nat.mul_comm]
      have e1 := u64W (k := i) (by omega)
      have e2 := shlW (a := 1) (k := i) (by omega) (by omega)
      have e3 := shlW (a := 2) (k := i) (by omega) (by omega)
      rw [Nat.one_mul, show ((1 : Nat) : Int) = 1 from rfl] at e2
      rw [← q4, show ((2 : Nat) : Int) = 2 from rfl] at e3
      have e4 : IntKind.i64.wrap (((2 ^ i : Nat) : Int) - 1) = ((2 ^ i - 1 : Nat) : Int) := by
        generalize 2 ^ i = p at *
        rw [wrapB (by omega) (by omega)]; omega
      have e5 : IntKind.i64.wrap (((2 ^ (i + 1) : Nat) : Int) - 1) = ((2 ^ (i + 1) - 1 : Nat) : Int) := by
        generalize 2 ^ (i + 1) = p at *
        rw [wrapB (by omega) (by omega)]; omega
      have a0 : ¬ (i : Int) < 0 := by omega
      have e6 : IntKind.i64.wrap ((f.looks.length : Int) - 1) = (f.looks.length : Int) - 1 := wrapB (by omega) (by omega)
      have e7 : inR (i : Int) 0 ((f.looks.length : Int) - 1) = true := inR_iff.2 ⟨by omega, by omega⟩
      have s1 := fun {Q : V → Prop} => lsome (f := f) (by omega) (b1 := b1) (b2 := b2) (b3 := b3) (b4 := b4) (b5 := b5) (m := 2 ^ i - 1) (by omega) (Q := Q)
      have s2 := fun {Q : V → Prop} => lsome (f := f) (by omega) (b1 := b1) (b2 := b2) (b3 := b3) (b4 := b4) (b5 := b5) (m := 2 ^ (i + 1) - 1) (by omega) (Q := Q)
      have p1 := pos_some hv (m := 2 ^ i - 1) (by omega)
      have p2 := pos_some hv (m := 2 ^ (i + 1) - 1) (by omega)
      rw [c2] at p1
      rw [c1] at p2
      have y1 := some_valid hv (m := 2 ^ i - 1)
      have y2 := some_valid hv (m := 2 ^ (i + 1) - 1)
      have z1 := some_check hv h0 (m := 2 ^ i - 1)
      have z2 := some_check hv h0 (m := 2 ^ (i + 1) - 1)
      have hs1 : (withL f (someL f (2 ^ i - 1))).Small := ⟨hs.growth, hs.wet, hs.base, hs.crops, by have := y1.looks5; omega⟩
      have hs2 : (withL f (someL f (2 ^ (i + 1) - 1))).Small := ⟨hs.growth, hs.wet, hs.base, hs.crops, by have := y2.looks5; omega⟩
      obtain ⟨a, b, hw1⟩ := worthR_nil y1 z1
      obtain ⟨a', b', hw2⟩ := worthR_nil y2 z2
      rw [p1, if_pos rfl] at hw1
      rw [p2, if_neg (by decide)] at hw2
      have k3 := fun {Q : V → Prop} => cWorth_nil (f := withL f (someL f (2 ^ i - 1))) (g1 := (false, false)) (g2 := (false, false)) (g3 := (false, false)) (g4 := (false, false)) (g5 := (false, false)) hs1.fits (Q := Q)
      have k4 := fun {Q : V → Prop} => cWorth_nil (f := withL f (someL f (2 ^ (i + 1) - 1))) (g1 := (false, false)) (g2 := (false, false)) (g3 := (false, false)) (g4 := (false, false)) (g5 := (false, false)) hs2.fits (Q := Q)
      rw [hw1] at k3
      rw [hw2] at k4
      generalize withL f (someL f (2 ^ i - 1)) = x1 at *
      generalize withL f (someL f (2 ^ (i + 1) - 1)) = x2 at *
      simp only [go_sem, f8, lready, hr, lField hs, k2, e6, rIn, e7, e1, a0, e2, e3, e4, e5, s1, s2, lField hs1, lField hs2, k3, k4, lawake]
end Am.Cr
