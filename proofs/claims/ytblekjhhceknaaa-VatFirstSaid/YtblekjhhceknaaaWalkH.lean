/-
  A part of the proof: the texts Y4, Y5, Y10, Z2 of this seat, joined.
-/
import Derived.Test.YtblekjhhceknaaaWalkG
namespace Am.Vt
open Go Am
set_option maxRecDepth 100000
set_option maxHeartbeats 4000000
set_option linter.unusedSimpArgs false
set_option linter.unusedVariables false
variable {g1 g2 g3 g4 gt : Bool × Bool} {v : Vat} {t : Truth}
theorem ask_t (h0 : checkVat v = 0) (hp : posB v [] = true) : askE v true = 0 := by simp [askE, h0, hp]
theorem ask_n (h0 : checkVat v = 0) (hp : posB v [] = false) : askE v true = 11 := by simp [askE, h0, hp]
end Am.Vt

namespace Am.Vt
open Go Am
set_option maxRecDepth 100000
set_option maxHeartbeats 4000000
set_option linter.unusedSimpArgs false
set_option linter.unusedVariables false
variable {g1 g2 g3 g4 gt : Bool × Bool} {v : Vat} {t : Truth}
end Am.Vt

namespace Am.Vt
open Go Am
set_option maxRecDepth 100000
set_option maxHeartbeats 4000000
set_option linter.unusedSimpArgs false
set_option linter.unusedVariables false
variable {g1 g2 g3 g4 gt : Bool × Bool} {v : Vat} {t : Truth}
/-- a vat with other valid looks is valid -/
theorem check_with (h0 : checkVat v = 0) {l : List Lk} (h1 : l.length ≤ 5) (h2 : ∀ k ∈ l, lookOk v.last k = true) : checkVat (withL v l) = 0 := by
  have hv := valid_of h0
  have v5 := hv.looks5
  have v7 := hv.last7
  have hg := check_eq (v := v) (by omega) (by omega)
  rw [h0] at hg
  by_cases hb : goodB v = false
  · rw [if_pos hb] at hg; cases hg
  rw [if_neg hb] at hg
  have hb : goodB v = true := by simpa using hb
  have hn := check_eq (v := withL v l) (show ¬ v.last > 7 by omega) (show ¬ (l.length : Int) > 5 by omega)
  have hb' : goodB (withL v l) = true := by
    simp only [goodB, Bool.and_eq_true] at hb ⊢
    exact ⟨hb.1, hb.2.1, hb.2.2.1, hb.2.2.2.1, hb.2.2.2.2.1, hb.2.2.2.2.2.1, hb.2.2.2.2.2.2.1, List.all_eq_true.2 h2⟩
  rw [hn, if_neg (by rw [hb']; simp)]
  exact hg.symm
theorem look_ok (hv : v.Valid) {k : Lk} (hk : k ∈ v.looks) : lookOk v.last k = true := by
  have := hv.looks k hk
  simp only [lookOk, Bool.and_eq_true, inR_iff, rgOf, decide_eq_true_eq]
  omega
/-- some of the looks (by bits) -/
def someK (v : Vat) (m k : Nat) : List Lk := ((List.range k).filter fun i => m.testBit i).map fun i => v.looks.getD i default
def someL (v : Vat) (m : Nat) : List Lk := someK v m v.looks.length
theorem someK_succ {m k : Nat} : someK v m (k + 1) = if m.testBit k = true then someK v m k ++ [v.looks.getD k default] else someK v m k := by
  unfold someK
  rw [List.range_succ, List.filter_append, List.map_append]
  by_cases h : m.testBit k = true
  · rw [if_pos h]; simp [h]
  · rw [if_neg h]; simp [h]
theorem someK_len {m k : Nat} : (someK v m k).length ≤ k := by
  unfold someK; rw [List.length_map]; exact Nat.le_trans (List.length_filter_le _ _) (by simp)
theorem someL_mem {m : Nat} {k : Lk} (h : k ∈ someL v m) : k ∈ v.looks := by
  simp only [someL, someK, List.mem_map, List.mem_filter, List.mem_range] at h
  obtain ⟨i, ⟨hi, _⟩, rfl⟩ := h
  rw [getD_lt _ _ _ hi]; exact List.getElem_mem hi
theorem lsome (h7 : v.looks.length ≤ 7) {b1 b2 b3 b4 : Bool} {m : Nat} (hm : m < 2 ^ 29) {Q : V → Prop} : CallP tab 34 [vatV (b1, false) (b2, false) (b3, false) (b4, false) v, .c (.int .i64 m)] Q ↔ Q (vatV (b1, false) (b2, false) (b3, false) (false, false) (withL v (someL v m))) := CallP_of (by
  refine Val_X (fn := f34) rfl ?_
  simp only [go_sem, f34]
  refine RX_for v.looks.length (fun k => [(6, .c (.int .i64 k))]) (fun k => [.cells (vatC (b1, false) (b2, false) (b3, false) (b4, false) v), .cells [.int .i64 0, .int .i64 0, .int .i64 0, .int .i64 0, .int .i64 0, .int .i64 0, .int .i64 0, .int .i64 0, .nils, .nils, .nils, .nils], .cells [.int .i64 v.last, .int .i64 v.band, .int .i64 v.start.lo, .int .i64 v.start.hi, .int .i64 v.blue.lo, .int .i64 v.blue.hi, .int .i64 v.gain, .int .i64 v.take, L (b1, false) v.drift, L (b2, false) v.feeds, L (b3, false) v.dips, .sl 3 (someK v m k).length 0 (someK v m k).length], .arr false (someK v m k).length 4 ((someK v m k).map Row.row)]) (fun _ => True) trivial (by simp only [go_sem] <;> first | rfl | exact ⟨rfl, rfl⟩) ?_
  intro k hk _
  by_cases hlt : k < v.looks.length
  · have e4 : IntKind.i64.wrap ((k : Int) + 1) = ((k + 1 : Nat) : Int) := wrap_succ (n := 3000) (by omega) (by decide)
    have e1 := u64W (k := k) (by omega)
    have e2 : min k IntKind.i64.bits = k := Nat.min_eq_left (by show k ≤ 64; omega)
    have e3 : (m : Int).fdiv (2 ^ k) = ((m / 2 ^ k : Nat) : Int) := by
      rw [show ((2 : Int) ^ k) = ((2 ^ k : Nat) : Int) by simp, Int.fdiv_eq_ediv_of_nonneg _ (Int.natCast_nonneg _)]; simp
    have e5 : ((m / 2 ^ k : Nat) : Int).tmod 2 = ((m / 2 ^ k % 2 : Nat) : Int) := rfl
    have p0 : ¬ (k : Int) < 0 := by omega
    have hst := someK_succ (v := v) (m := m) (k := k)
    have hlen := someK_len (v := v) (m := m) (k := k)
    by_cases ht : m.testBit k = true
    · have h1 : ((m / 2 ^ k % 2 : Nat) : Int) = 1 := by
        rw [Nat.testBit_eq_decide_div_mod_eq] at ht
        have := of_decide_eq_true ht; omega
      rw [if_pos ht] at hst
      have b1 : ((someK v m k).length + 1) * 32 ≤ 2 ^ 40 := by omega
      simp only [go_sem, hlt, e1, e2, e3, e5, p0, h1, atI_nat, b1, e4, hst, List.map_append, disj_nil]
    · have h1 : ¬ ((m / 2 ^ k % 2 : Nat) : Int) = 1 := by
        rw [Nat.testBit_eq_decide_div_mod_eq] at ht
        intro h
        exact ht (decide_eq_true (by omega))
      rw [if_neg ht] at hst
      simp only [go_sem, hlt, e1, e2, e3, e5, p0, h1, atI_nat, e4, hst, disj_nil]
  · have hke : k = v.looks.length := by omega
    subst hke
    simp only [go_sem, hlt, withL, someL])
theorem some_valid (hv : v.Valid) {m : Nat} : (withL v (someL v m)).Valid := Vat.Valid.withL hv (by have := someK_len (v := v) (m := m) (k := v.looks.length); have := hv.looks5; show (someK v m v.looks.length).length ≤ 5; omega) fun k hk => someL_mem hk
theorem some_check (hv : v.Valid) (h0 : checkVat v = 0) {m : Nat} : checkVat (withL v (someL v m)) = 0 := check_with h0 (some_valid hv (m := m)).looks5 fun k hk => look_ok hv (someL_mem hk)
theorem pos_all (hv : v.Valid) : posB v [] = true ↔ ∃ t, IsT v t ∧ ∀ k ∈ v.looks, rightK k (playL v t) = true := by
  rw [pos_mem]
  constructor
  · rintro ⟨t, ht⟩
    rw [← isTruth_iff hv, isTruthB, Bool.and_eq_true, listed_iff, List.all_eq_true] at ht
    exact ⟨t, ht⟩
  · rintro ⟨t, ht⟩
    refine ⟨t, ?_⟩
    rw [← isTruth_iff hv, isTruthB, Bool.and_eq_true, listed_iff, List.all_eq_true]
    exact ht
theorem pos_some (hv : v.Valid) {m : Nat} (hm : m < 2 ^ v.looks.length) : posB (withL v (someL v m)) [] = canB v m := by
  rw [Bool.eq_iff_iff, can_iff hv hm, pos_all (some_valid hv)]
  constructor
  · rintro ⟨t, h1, h2⟩
    refine ⟨t, isT_withL.1 h1, fun i hb => ?_⟩
    have hi : i < v.looks.length := lt_of_bit hm hb
    have := h2 (v.looks.getD i default) (by
      show v.looks.getD i default ∈ someL v m
      simp only [someL, someK, List.mem_map, List.mem_filter, List.mem_range]
      exact ⟨i, ⟨hi, hb⟩, rfl⟩)
    rw [playL_withL] at this
    rw [rightB, rightAt, this, Bool.or_true]
  · rintro ⟨t, h1, h2⟩
    refine ⟨t, isT_withL.2 h1, fun k hk => ?_⟩
    change k ∈ someL v m at hk
    simp only [someL, someK, List.mem_map, List.mem_filter, List.mem_range] at hk
    obtain ⟨i, ⟨hi, hb⟩, rfl⟩ := hk
    have := h2 i hb
    rw [playL_withL]
    rw [rightB, rightAt, Bool.or_eq_true] at this
    rcases this with h | h
    · simp at h
    · exact h
end Am.Vt

namespace Am.Vt
open Go Am
set_option maxRecDepth 100000
set_option maxHeartbeats 4000000
set_option linter.unusedSimpArgs false
set_option linter.unusedVariables false
variable {g1 g2 g3 g4 gt : Bool × Bool} {v x : Vat} {t : Truth}
theorem can_zero (hv : v.Valid) : canB v 0 = true := (can_iff hv (Nat.pow_pos (by omega))).2 ⟨nthT v 0, nthT_isT hv, fun i hi => by simp at hi⟩
theorem first_some (hv : v.Valid) {i : Nat} (h : firstO v = some i) : i < v.looks.length ∧ canB v (2 ^ (i + 1) - 1) = false ∧ canB v (2 ^ i - 1) = true := by
  rw [first_ref hv, List.find?_eq_some_iff_getElem] at h
  obtain ⟨h1, j, hj, h2, h3⟩ := h
  simp at hj h2
  subst h2
  refine ⟨hj, by simpa using h1, ?_⟩
  cases j with
  | zero => exact can_zero hv
  | succ j =>
    have := h3 j (by omega)
    simpa using this
theorem first_none' (hv : v.Valid) (h : firstO v = none) : posB v [] = true := by
  rw [first_ref hv, List.find?_eq_none] at h
  rw [pos_all hv]
  by_cases h0 : v.looks.length = 0
  · exact ⟨nthT v 0, nthT_isT hv, fun k hk => by rw [List.length_eq_zero_iff.1 h0] at hk; cases hk⟩
  · have := h (v.looks.length - 1) (List.mem_range.2 (by omega))
    rw [show v.looks.length - 1 + 1 = v.looks.length by omega] at this
    have hp : 1 ≤ 2 ^ v.looks.length := Nat.pow_pos (by omega)
    have hc : canB v (2 ^ v.looks.length - 1) = true := by simpa using this
    obtain ⟨t, h1, h2⟩ := (can_iff hv (by omega)).1 hc
    refine ⟨t, h1, fun k hk => ?_⟩
    obtain ⟨i, hi, rfl⟩ := List.getElem_of_mem hk
    have := h2 i (by rw [Nat.testBit_two_pow_sub_one]; exact decide_eq_true hi)
    rw [rightB, rightAt, Bool.or_eq_true] at this
    rcases this with h | h
    · simp at h
    · rwa [getD_lt _ _ _ hi] at h
theorem VatFirst_val {b1 b2 b3 b4 : Bool} : Val tab 8 [vatV (b1, false) (b2, false) (b3, false) (b4, false) v] (.c (.bool true)) := by
  refine Val_X (fn := f8) rfl ?_
  cases hr : readyB v with
  | false => simp only [go_sem, f8, lready, hr, lawake]
  | true =>
    obtain ⟨hs, hv, h0, h150⟩ := ready_of hr
    have hW := hs.fits
    have v5 := hv.looks5
    have kV := fun {Q : V → Prop} => lVat (g1 := (b1, false)) (g2 := (b2, false)) (g3 := (b3, false)) (g4 := (b4, false)) hs (Q := Q)
    have k2 := fun {g1 g2 g3 g4 : Bool × Bool} {Q : V → Prop} => cFirst (v := v) (g1 := g1) (g2 := g2) (g3 := g3) (g4 := g4) hW (Q := Q)
    cases hf : firstO v with
    | none =>
      have hR2 : FirstR v = .tup [.c (.int .i64 0), .c (.int .i64 7)] := by rw [FirstR, if_neg (by rw [h0]; simp), hf]
      rw [hR2] at k2
      have k3 := fun {g1 g2 g3 g4 : Bool × Bool} {Q : V → Prop} => cBounds (v := v) (g1 := g1) (g2 := g2) (g3 := g3) (g4 := g4) hW (Q := Q)
      have hR3 : BoundsR v = .tup [.c (L (false, false) (boundsL v)), .c (.int .i64 0)] := by rw [BoundsR, if_pos (ask_t h0 (first_none' hv hf))]
      rw [hR3] at k3
      simp only [vatV] at kV k2 k3
      simp only [go_sem, f8, lready, hr, kV, k2, k3, lawake, disj_nil]
    | some i =>
      have hR2 : FirstR v = .tup [.c (.int .i64 i), .c (.int .i64 0)] := by rw [FirstR, if_neg (by rw [h0]; simp), hf]
      rw [hR2] at k2
      obtain ⟨hi, c1, c2⟩ := first_some hv hf
      have q1 : 1 ≤ 2 ^ i := Nat.pow_pos (by omega)
      have q2 : 2 ^ (i + 1) ≤ 2 ^ v.looks.length := Nat.pow_le_pow_right (by omega) (by omega)
      have q3 : 2 ^ v.looks.length ≤ 2 ^ 5 := Nat.pow_le_pow_right (by omega) v5
      have q4 : 2 ^ (i + 1) = 2 * 2 ^ i := by rw [Nat.pow_succ, Nat.mul_comm]
      have e1 := u64W (k := i) (by omega)
      have e2 := shlW (a := 1) (k := i) (by omega) (by omega)
      have e3 := shlW (a := 2) (k := i) (by omega) (by omega)
      rw [Nat.one_mul, show ((1 : Nat) : Int) = 1 from rfl] at e2
      rw [← q4, show ((2 : Nat) : Int) = 2 from rfl] at e3
      have e4 : IntKind.i64.wrap (((2 ^ i : Nat) : Int) - 1) = ((2 ^ i - 1 : Nat) : Int) := by
        generalize 2 ^ i = p at *
        rw [wrapB (by omega) (by omega)]; omega
      have e5 : IntKind.i64.wrap (((2 ^ (i + 1) : Nat) : Int) - 1) = ((2 ^ (i + 1) - 1 : Nat) : Int) := by
        generalize 2 ^ (i + 1) = p at *
        rw [wrapB (by omega) (by omega)]; omega
      have a0 : ¬ (i : Int) < 0 := by omega
      have e6 : IntKind.i64.wrap ((v.looks.length : Int) - 1) = (v.looks.length : Int) - 1 := wrapB (by omega) (by omega)
      have e7 : inR (i : Int) 0 ((v.looks.length : Int) - 1) = true := inR_iff.2 ⟨by omega, by omega⟩
      have s1 := fun {Q : V → Prop} => lsome (v := v) (by omega) (b1 := b1) (b2 := b2) (b3 := b3) (b4 := b4) (m := 2 ^ i - 1) (by omega) (Q := Q)
      have s2 := fun {Q : V → Prop} => lsome (v := v) (by omega) (b1 := b1) (b2 := b2) (b3 := b3) (b4 := b4) (m := 2 ^ (i + 1) - 1) (by omega) (Q := Q)
      have p1 := pos_some hv (m := 2 ^ i - 1) (by omega)
      have p2 := pos_some hv (m := 2 ^ (i + 1) - 1) (by omega)
      rw [c2] at p1
      rw [c1] at p2
      have y1 := some_valid hv (m := 2 ^ i - 1)
      have y2 := some_valid hv (m := 2 ^ (i + 1) - 1)
      have z1 := some_check hv h0 (m := 2 ^ i - 1)
      have z2 := some_check hv h0 (m := 2 ^ (i + 1) - 1)
      have hs1 : (withL v (someL v (2 ^ i - 1))).Small := ⟨hs.drift, hs.feeds, hs.dips, by have := y1.looks5; omega⟩
      have hs2 : (withL v (someL v (2 ^ (i + 1) - 1))).Small := ⟨hs.drift, hs.feeds, hs.dips, by have := y2.looks5; omega⟩
      have k3 := fun {g1 g2 g3 g4 : Bool × Bool} {Q : V → Prop} => cBounds (v := withL v (someL v (2 ^ i - 1))) (g1 := g1) (g2 := g2) (g3 := g3) (g4 := g4) hs1.fits (Q := Q)
      have k4 := fun {g1 g2 g3 g4 : Bool × Bool} {Q : V → Prop} => cBounds (v := withL v (someL v (2 ^ (i + 1) - 1))) (g1 := g1) (g2 := g2) (g3 := g3) (g4 := g4) hs2.fits (Q := Q)
      have kw1 := fun {g1 g2 g3 g4 : Bool × Bool} {Q : V → Prop} => lVat (g1 := g1) (g2 := g2) (g3 := g3) (g4 := g4) hs1 (Q := Q)
      have kw2 := fun {g1 g2 g3 g4 : Bool × Bool} {Q : V → Prop} => lVat (g1 := g1) (g2 := g2) (g3 := g3) (g4 := g4) hs2 (Q := Q)
      have hw1 : BoundsR (withL v (someL v (2 ^ i - 1))) = .tup [.c (L (false, false) (boundsL (withL v (someL v (2 ^ i - 1))))), .c (.int .i64 0)] := by rw [BoundsR, if_pos (ask_t z1 p1)]
      have hw2 : BoundsR (withL v (someL v (2 ^ (i + 1) - 1))) = .tup [.c .nils, .c (.int .i64 11)] := by rw [BoundsR, ask_n z2 p2, if_neg (by decide)]
      rw [hw1] at k3
      rw [hw2] at k4
      generalize boundsL (withL v (someL v (2 ^ i - 1))) = bl at *
      simp only [vatV] at kV k2 k3 k4 s1 s2 kw1 kw2
      simp only [withL] at k3 k4 s1 s2 kw1 kw2
      simp only [go_sem, f8, lready, hr, kV, k2, k3, k4, s1, s2, kw1, kw2, rIn, e1, e2, e3, e4, e5, e6, e7, a0, lawake, disj_nil]
end Am.Vt

