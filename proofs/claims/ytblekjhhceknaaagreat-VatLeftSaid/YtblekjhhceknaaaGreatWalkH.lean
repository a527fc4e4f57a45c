/-
  A part of the proof: the texts Y4, Y10 of this seat, joined.
-/
import Derived.Test.YtblekjhhceknaaaGreatWalkG
namespace Am.Vt
open Go Am
set_option maxRecDepth 100000
set_option maxHeartbeats 4000000
set_option linter.unusedSimpArgs false
set_option linter.unusedVariables false
variable {g1 g2 g3 g4 gt : Bool × Bool} {v : Vat} {t : Truth}
theorem ask_t (h0 : checkVat v = 0) (hp : posB v [] = true) : askE v true = 0 := by simp [askE, h0, hp]
theorem ask_n (h0 : checkVat v = 0) (hp : posB v [] = false) : askE v true = 11 := by simp [askE, h0, hp]
end Am.Vt

namespace Am.Vt
open Go Am
set_option maxRecDepth 100000
set_option maxHeartbeats 4000000
set_option linter.unusedSimpArgs false
set_option linter.unusedVariables false
variable {g1 g2 g3 g4 gt : Bool × Bool} {v : Vat} {t : Truth}
/-- a vat with other valid looks is valid -/
theorem check_with (h0 : checkVat v = 0) {l : List Lk} (h1 : l.length ≤ 5) (h2 : ∀ k ∈ l, lookOk v.last k = true) : checkVat (withL v l) = 0 := by
  have hv := valid_of h0
  have v5 := hv.looks5
  have v7 := hv.last7
  have hg := check_eq (v := v) (by omega) (by omega)
  rw [h0] at hg
  by_cases hb : goodB v = false
  · rw [if_pos hb] at hg; cases hg
  rw [if_neg hb] at hg
  have hb : goodB v = true := by simpa using hb
  have hn := check_eq (v := withL v l) (show ¬ v.last > 7 by omega) (show ¬ (l.length : Int) > 5 by omega)
  have hb' : goodB (withL v l) = true := by
    simp only [goodB, Bool.and_eq_true] at hb ⊢
    exact ⟨hb.1, hb.2.1, hb.2.2.1, hb.2.2.2.1, hb.2.2.2.2.1, hb.2.2.2.2.2.1, hb.2.2.2.2.2.2.1, List.all_eq_true.2 h2⟩
  rw [hn, if_neg (by rw [hb']; simp)]
  exact hg.symm
theorem look_ok (hv : v.Valid) {k : Lk} (hk : k ∈ v.looks) : lookOk v.last k = true := by
  have := hv.looks k hk
  simp only [lookOk, Bool.and_eq_true, inR_iff, rgOf, decide_eq_true_eq]
  omega
/-- some of the looks (by bits) -/
def someK (v : Vat) (m k : Nat) : List Lk := ((List.range k).filter fun i => m.testBit i).map fun i => v.looks.getD i default
def someL (v : Vat) (m : Nat) : List Lk := someK v m v.looks.length
theorem someK_succ {m k : Nat} : someK v m (k + 1) = if m.testBit k = true then someK v m k ++ [v.looks.getD k default] else someK v m k := by
  unfold someK
  rw [List.range_succ, List.filter_append, List.map_append]
  by_cases h : m.testBit k = true
  · rw [if_pos h]; simp [h]
  · rw [if_neg h]; simp [h]
theorem someK_len {m k : Nat} : (someK v m k).length ≤ k := by
  unfold someK; rw [List.length_map]; exact Nat.le_trans (List.length_filter_le _ _) (by simp)
theorem someL_mem {m : Nat} {k : Lk} (h : k ∈ someL v m) : k ∈ v.looks := by
  simp only [someL, someK, List.mem_map, List.mem_filter, List.mem_range] at h
  obtain ⟨i, ⟨hi, _⟩, rfl⟩ := h
  rw [getD_lt _ _ _ hi]; exact List.getElem_mem hi
theorem lsome (h7 : v.looks.length ≤ 7) {b1 b2 b3 b4 : Bool} {m : Nat} (hm : m < 2 ^ 29) {Q : V → Prop} : CallP tab 63 [vatV (b1, false) (b2, false) (b3, false) (b4, false) v, .c (.int .i64 m)] Q ↔ Q (vatV (b1, false) (b2, false) (b3, false) (false, false) (withL v (someL v m))) := CallP_of (by
  refine Val_X (fn := f63) rfl ?_
  simp only [go_sem, f63]
  refine RX_for v.looks.length (fun k => [(6, .c (.int .i64 k))]) (fun k => [.cells (vatC (b1, false) (b2, false) (b3, false) (b4, false) v), .cells [.int .i64 0, .int .i64 0, .int .i64 0, .int .i64 0, .int .i64 0, .int .i64 0, .int .i64 0, .int .i64 0, .nils, .nils, .nils, .nils], .cells [.int .i64 v.last, .int .i64 v.band, .int .i64 v.start.lo, .int .i64 v.start.hi, .int .i64 v.blue.lo, .int .i64 v.blue.hi, .int .i64 v.gain, .int .i64 v.take, L (b1, false) v.drift, L (b2, false) v.feeds, L (b3, false) v.dips, .sl 3 (someK v m k).length 0 (someK v m k).length], .arr false (someK v m k).length 4 ((someK v m k).map Row.row)]) (fun _ => True) trivial (by simp only [go_sem] <;> first | rfl | exact ⟨rfl, rfl⟩) ?_
  intro k hk _
  by_cases hlt : k < v.looks.length
  · have e4 : IntKind.i64.wrap ((k : Int) + 1) = ((k + 1 : Nat) : Int) := wrap_succ (n := 3000) (by omega) (by decide)
    have e1 := u64W (k := k) (by omega)
    have e2 : min k IntKind.i64.bits = k := Nat.min_eq_left (by show k ≤ 64; omega)
    have e3 : (m : Int).fdiv (2 ^ k) = ((m / 2 ^ k : Nat) : Int) := by
      rw [show ((2 : Int) ^ k) = ((2 ^ k : Nat) : Int) by simp, Int.fdiv_eq_ediv_of_nonneg _ (Int.natCast_nonneg _)]; simp
    have e5 : ((m / 2 ^ k : Nat) : Int).tmod 2 = ((m / 2 ^ k % 2 : Nat) : Int) := rfl
    have p0 : ¬ (k : Int) < 0 := by omega
    have hst := someK_succ (v := v) (m := m) (k := k)
    have hlen := someK_len (v := v) (m := m) (k := k)
    by_cases ht : m.testBit k = true
    · have h1 : ((m / 2 ^ k % 2 : Nat) : Int) = 1 := by
        rw [Nat.testBit_eq_decide_div_mod_eq] at ht
        have := of_decide_eq_true ht; omega
      rw [if_pos ht] at hst
      have b1 : ((someK v m k).length + 1) * 32 ≤ 2 ^ 40 := by omega
      simp only [go_sem, hlt, e1, e2, e3, e5, p0, h1, atI_nat, b1, e4, hst, List.map_append, disj_nil]
    · have h1 : ¬ ((m / 2 ^ k % 2 : Nat) : Int) = 1 := by
        rw [Nat.testBit_eq_decide_div_mod_eq] at ht
        intro h
        exact ht (decide_eq_true (by omega))
      rw [if_neg ht] at hst
      simp only [go_sem, hlt, e1, e2, e3, e5, p0, h1, atI_nat, e4, hst, disj_nil]
  · have hke : k = v.looks.length := by omega
    subst hke
    simp only [go_sem, hlt, withL, someL])
theorem some_valid (hv : v.Valid) {m : Nat} : (withL v (someL v m)).Valid := Vat.Valid.withL hv (by have := someK_len (v := v) (m := m) (k := v.looks.length); have := hv.looks5; show (someK v m v.looks.length).length ≤ 5; omega) fun k hk => someL_mem hk
theorem some_check (hv : v.Valid) (h0 : checkVat v = 0) {m : Nat} : checkVat (withL v (someL v m)) = 0 := check_with h0 (some_valid hv (m := m)).looks5 fun k hk => look_ok hv (someL_mem hk)
theorem pos_all (hv : v.Valid) : posB v [] = true ↔ ∃ t, IsT v t ∧ ∀ k ∈ v.looks, rightK k (playL v t) = true := by
  rw [pos_mem]
  constructor
  · rintro ⟨t, ht⟩
    rw [← isTruth_iff hv, isTruthB, Bool.and_eq_true, listed_iff, List.all_eq_true] at ht
    exact ⟨t, ht⟩
  · rintro ⟨t, ht⟩
    refine ⟨t, ?_⟩
    rw [← isTruth_iff hv, isTruthB, Bool.and_eq_true, listed_iff, List.all_eq_true]
    exact ht
theorem pos_some (hv : v.Valid) {m : Nat} (hm : m < 2 ^ v.looks.length) : posB (withL v (someL v m)) [] = canB v m := by
  rw [Bool.eq_iff_iff, can_iff hv hm, pos_all (some_valid hv)]
  constructor
  · rintro ⟨t, h1, h2⟩
    refine ⟨t, isT_withL.1 h1, fun i hb => ?_⟩
    have hi : i < v.looks.length := lt_of_bit hm hb
    have := h2 (v.looks.getD i default) (by
      show v.looks.getD i default ∈ someL v m
      simp only [someL, someK, List.mem_map, List.mem_filter, List.mem_range]
      exact ⟨i, ⟨hi, hb⟩, rfl⟩)
    rw [playL_withL] at this
    rw [rightB, rightAt, this, Bool.or_true]
  · rintro ⟨t, h1, h2⟩
    refine ⟨t, isT_withL.2 h1, fun k hk => ?_⟩
    change k ∈ someL v m at hk
    simp only [someL, someK, List.mem_map, List.mem_filter, List.mem_range] at hk
    obtain ⟨i, ⟨hi, hb⟩, rfl⟩ := hk
    have := h2 i hb
    rw [playL_withL]
    rw [rightB, rightAt, Bool.or_eq_true] at this
    rcases this with h | h
    · simp at h
    · exact h
/-- a list of numbers as bits -/
def orL (l : List Int) : Nat := l.foldl (fun m y => m ||| 2 ^ y.toNat) 0
theorem orL_snoc {l : List Int} {y : Int} : orL (l ++ [y]) = orL l ||| 2 ^ y.toNat := by simp [orL]
theorem orL_bit {l : List Int} {i : Nat} : (orL l).testBit i = true ↔ ∃ y ∈ l, y.toNat = i := by
  have key : ∀ (l : List Int) (m : Nat), (l.foldl (fun m y => m ||| 2 ^ y.toNat) m).testBit i = true ↔ m.testBit i = true ∨ ∃ y ∈ l, y.toNat = i := by
    intro l
    induction l with
    | nil => intro m; simp
    | cons y l ih =>
      intro m
      rw [List.foldl_cons, ih, Nat.testBit_or, Nat.testBit_two_pow, Bool.or_eq_true, decide_eq_true_eq]
      constructor
      · rintro ((h | h) | ⟨z, hz, h⟩)
        · exact .inl h
        · exact .inr ⟨y, by simp, h⟩
        · exact .inr ⟨z, by simp [hz], h⟩
      · rintro (h | ⟨z, hz, h⟩)
        · exact .inl (.inl h)
        · rcases List.mem_cons.1 hz with rfl | hz
          · exact .inl (.inr h)
          · exact .inr ⟨z, hz, h⟩
  have := key l 0
  unfold orL
  rw [this]; simp
theorem orL_lt {n : Nat} {l : List Int} (h : ∀ y ∈ l, 0 ≤ y ∧ y < n) : orL l < 2 ^ n := by
  have key : ∀ (l : List Int) (m : Nat), m < 2 ^ n → (∀ y ∈ l, 0 ≤ y ∧ y < n) → l.foldl (fun m y => m ||| 2 ^ y.toNat) m < 2 ^ n := by
    intro l
    induction l with
    | nil => intro m h _; exact h
    | cons y l ih =>
      intro m hm h
      rw [List.foldl_cons]
      refine ih _ (Nat.or_lt_two_pow hm ?_) fun z hz => h z (by simp [hz])
      have := h y (by simp)
      exact Nat.pow_lt_pow_right (by omega) (by omega)
  exact key l 0 (Nat.pow_pos (by omega)) h
theorem orL_bits {n : Nat} (hn : n ≤ 62) {l : List Int} (hs : l.Pairwise (· < ·)) (h : ∀ y ∈ l, 0 ≤ y ∧ y < n) : bitsF (orL l) = l := sorted_ext bitsF_sorted hs fun x => by
  constructor
  · intro hx
    obtain ⟨i, rfl, _, _⟩ := bitsP_mem hx
    rw [bitsF_mem, orL_bit] at hx
    obtain ⟨_, y, hy, e⟩ := hx
    have := h y hy
    have : y = (i : Int) := by omega
    rw [← this]; exact hy
  · intro hx
    have := h x hx
    obtain ⟨i, rfl⟩ : ∃ i : Nat, x = i := ⟨x.toNat, by omega⟩
    rw [bitsF_mem, orL_bit]
    exact ⟨by omega, (i : Int), hx, by omega⟩
theorem VatLeft_val {b1 b2 b3 b4 : Bool} {tried : Int} (ht0 : 0 ≤ tried) (ht1 : tried ≤ 255) : Val tab 13 [vatV (b1, false) (b2, false) (b3, false) (b4, false) v, .c (.int .u8 tried)] (.c (.bool true)) := by
  obtain ⟨tn, rfl⟩ : ∃ n : Nat, tried = n := ⟨tried.toNat, by omega⟩
  refine Val_X (fn := f13) rfl ?_
  cases hr : readyB v with
  | false => simp only [go_sem, f13, lready, hr, lawake]
  | true =>
    obtain ⟨hs, hv, h0, h150⟩ := ready_of hr
    have hW := hs.fits
    have v5 := hv.looks5
    obtain ⟨b, hw⟩ := vLeave (v := v) (g1 := (false, false)) (g2 := (false, false)) (g3 := (false, false)) (g4 := (false, false)) hW
    have k1 := fun {Q : V → Prop} => CallP_of (Q := Q) hw
    have hR : LeaveR b v = .tup [.c (L (b, false) (leaveS v)), .c (.int .i64 0)] := if_neg (by rw [h0]; simp)
    rw [hR] at k1
    have hlo := leave_ok hv
    obtain ⟨l, hl⟩ : ∃ l, l = leaveS v := ⟨_, rfl⟩
    rw [← hl] at k1 hlo
    obtain ⟨l1, l2, l3⟩ := setsL_mem.1 hlo.1
    have q1 : 1 ≤ 2 ^ v.looks.length := Nat.pow_pos (by omega)
    have q3 : 2 ^ v.looks.length ≤ 2 ^ 5 := Nat.pow_le_pow_right (by omega) v5
    simp only [go_sem, f13, lready, hr, lVat hs, k1]
    refine RX_forC l.length (fun k => [(7, .c (.int .i64 (orL (l.take k)))), (8, .c (.int .i64 k))]) (fun _ => True) rfl trivial (by simp only [go_sem, List.take_zero] <;> first | rfl | exact ⟨rfl, rfl⟩) ?_
    intro k hk _
    by_cases hlt : k < l.length
    · have e4 : IntKind.i64.wrap ((k : Int) + 1) = ((k + 1 : Nat) : Int) := wrap_succ (n := 3000) (by omega) (by decide)
      obtain ⟨y, hy⟩ : ∃ y, y = l.getD k default := ⟨_, rfl⟩
      have hyl : y ∈ l := by rw [hy, getD_lt _ _ _ hlt]; exact List.getElem_mem hlt
      have hyb := l3 y hyl
      obtain ⟨yn, rfl⟩ : ∃ n : Nat, y = n := ⟨y.toNat, by omega⟩
      have n1 : ¬ (yn : Int) < 0 := by omega
      have n2 : ¬ (yn : Int) ≥ v.looks.length := by omega
      have e1 := u64W (k := yn) (by omega)
      have e2 := shlW (a := 1) (k := yn) (by omega) (by omega)
      rw [Nat.one_mul, show ((1 : Nat) : Int) = 1 from rfl] at e2
      have hsn : orL (l.take (k + 1)) = orL (l.take k) ||| 2 ^ yn := by rw [take_getD hlt default, ← hy, orL_snoc]; rfl
      have hob : orL (l.take k) < 2 ^ v.looks.length := orL_lt fun z hz => l3 z (List.mem_of_mem_take hz)
      have hyp : 2 ^ yn ≤ 2 ^ 5 := Nat.pow_le_pow_right (by omega) (by omega)
      have e3 := orW (a := orL (l.take k)) (b := 2 ^ yn) (by omega) (by omega)
      by_cases hk0 : k = 0
      · subst hk0
        have hl0 : (0 : Int) < l.length := by omega
        have ha0 : atI l 0 = (yn : Int) := hy.symm
        rw [List.take_zero] at e3 hsn
        simp only [go_sem, hlt, hl0, ha0, n1, n2, gt_iff_lt, e1, e2, e3, e4, hsn]
      · have hkp : (0 : Int) < (k : Int) := by omega
        have hkw : IntKind.i64.wrap ((k : Int) - 1) = ((k - 1 : Nat) : Int) := by rw [wrapB (by omega) (by omega)]; omega
        have k1' : k - 1 < l.length := by omega
        have hle : ¬ (yn : Int) ≤ l.getD (k - 1) default := by
          rw [hy, getD_lt _ _ _ hlt, getD_lt _ _ _ k1']
          have := List.pairwise_iff_getElem.1 l1 (k - 1) k k1' hlt (by omega)
          omega
        simp only [go_sem, hlt, atI_nat, ← hy, n1, n2, gt_iff_lt, hkp, hkw, k1', hle, e1, e2, e3, e4, hsn]
    · have hke : k = l.length := by omega
      subst hke
      rw [List.take_length]
      obtain ⟨full, hfull⟩ : ∃ m, m = 2 ^ v.looks.length - 1 := ⟨_, rfl⟩
      have hF := fun {g1 g2 g3 g4 : Bool × Bool} {Q : V → Prop} => rFull (v := v) (g1 := g1) (g2 := g2) (g3 := g3) (g4 := g4) (by omega) (Q := Q)
      rw [← hfull] at hF
      have hob : orL l < 2 ^ v.looks.length := orL_lt l3
      have e1 : IntKind.i64.wrap (tn : Int) = (tn : Int) := wrapB (by omega) (by omega)
      have e2 := andW (a := tn) (b := full) (by omega) (by omega)
      obtain ⟨m, hm⟩ : ∃ m, m = tn &&& full := ⟨_, rfl⟩
      have hml : m ≤ full := by rw [hm]; exact Nat.and_le_right
      rw [← hm] at e2
      have e3 := andnW (a := full) (b := orL l) (by omega) (by omega)
      have e5 := andnW (a := full) (b := m) (by omega) (by omega)
      have c1 := can_pos hv hob
      have c2 := can_pos hv (b := m) (by omega)
      rw [orL_bits (by omega) l1 l3, ← hfull] at c1
      rw [← hfull] at c2
      have a1 : andn full (orL l) ≤ full := andn_le
      have a2 : andn full m ≤ full := andn_le
      have c1 := c1.2 hlo.2.1
      have s1 := fun {Q : V → Prop} => lsome (v := v) (by omega) (b1 := b1) (b2 := b2) (b3 := b3) (b4 := b4) (m := andn full (orL l)) (by omega) (Q := Q)
      have s2 := fun {Q : V → Prop} => lsome (v := v) (by omega) (b1 := b1) (b2 := b2) (b3 := b3) (b4 := b4) (m := andn full m) (by omega) (Q := Q)
      have p1 := pos_some hv (m := andn full (orL l)) (by omega)
      have p2 := pos_some hv (m := andn full m) (by omega)
      rw [c1] at p1
      have y1 := some_valid hv (m := andn full (orL l))
      have y2 := some_valid hv (m := andn full m)
      have z1 := some_check hv h0 (m := andn full (orL l))
      have z2 := some_check hv h0 (m := andn full m)
      have hs1 : (withL v (someL v (andn full (orL l)))).Small := ⟨hs.drift, hs.feeds, hs.dips, by have := y1.looks5; omega⟩
      have hs2 : (withL v (someL v (andn full m))).Small := ⟨hs.drift, hs.feeds, hs.dips, by have := y2.looks5; omega⟩
      have k3 := fun {Q : V → Prop} => cBounds (v := withL v (someL v (andn full (orL l)))) (g1 := (false, false)) (g2 := (false, false)) (g3 := (false, false)) (g4 := (false, false)) hs1.fits (Q := Q)
      have k4 := fun {Q : V → Prop} => cBounds (v := withL v (someL v (andn full m))) (g1 := (false, false)) (g2 := (false, false)) (g3 := (false, false)) (g4 := (false, false)) hs2.fits (Q := Q)
      have kw1 := fun {g1 g2 g3 g4 : Bool × Bool} {Q : V → Prop} => lVat (g1 := g1) (g2 := g2) (g3 := g3) (g4 := g4) hs1 (Q := Q)
      have kw2 := fun {g1 g2 g3 g4 : Bool × Bool} {Q : V → Prop} => lVat (g1 := g1) (g2 := g2) (g3 := g3) (g4 := g4) hs2 (Q := Q)
      have hw1 : BoundsR (withL v (someL v (andn full (orL l)))) = .tup [.c (L (false, false) (boundsL (withL v (someL v (andn full (orL l)))))), .c (.int .i64 0)] := by rw [BoundsR, if_pos (ask_t z1 p1)]
      rw [hw1] at k3
      have hw2 : ∀ b, posB (withL v (someL v (andn full m))) [] = b → BoundsR (withL v (someL v (andn full m))) = if b = true then .tup [.c (L (false, false) (boundsL (withL v (someL v (andn full m))))), .c (.int .i64 0)] else .tup [.c .nils, .c (.int .i64 11)] := fun b hb => by
        cases b with
        | true => rw [BoundsR, if_pos (ask_t z2 hb)]; rfl
        | false => rw [BoundsR, ask_n z2 hb]; rfl
      have hB := fun {Q : V → Prop} => rBits (n := m) (by omega) (Q := Q)
      have hbl : (bitsF m).length ≤ 62 := bitsP_len
      have hS := fun {g g' : Bool × Bool} {Q : V → Prop} => rShorter (g := g) (g' := g') (a := bitsF m) (b := l) (by omega) (by omega) (Q := Q)
      rw [p2] at hw2
      cases hc : canB v (andn full m) with
      | false =>
        rw [hw2 _ hc] at k4
        simp only [vatV] at k3 k4 s1 s2 kw1 kw2 hF
        simp only [go_sem, hlt, e1, hF, e2, e3, e5, s1, s2, kw1, kw2, k3, k4, lawake, disj_nil]
      | true =>
        rw [hw2 _ hc] at k4
        have hm1 : bitsF m ∈ setsL v.looks.length := setsL_mem.2 ⟨bitsF_sorted, bitsF_len (by omega) (by omega), bitsF_in (by omega)⟩
        have hsh : shB (bitsF m) l = false := by
          rcases hlo.2.2 _ hm1 (c2.1 hc) with e | e
          · rw [e, sh_irr]
          · rw [← Bool.not_eq_true]; exact sh_asym e
        simp only [vatV] at k3 k4 s1 s2 kw1 kw2 hF
        simp only [go_sem, hlt, e1, hF, e2, e3, e5, s1, s2, kw1, kw2, k3, k4, hB, hS, hsh, lawake, disj_nil]
end Am.Vt

