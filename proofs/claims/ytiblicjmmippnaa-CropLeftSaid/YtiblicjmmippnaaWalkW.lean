/-
  A part of the proof: the texts H3 of this seat, joined.
-/
import Derived.Test.YtiblicjmmippnaaWalkU
import Derived.Test.YtiblicjmmippnaaWalkN
namespace Am.Cr
open Go Am
set_option maxRecDepth 100000
set_option maxHeartbeats 4000000
set_option linter.unusedSimpArgs false
set_option linter.unusedVariables false
variable {f : Field}
/-- a list of numbers as bits -/
def orL (l : List Int) : Nat := l.foldl (fun m y => m ||| 2 ^ y.toNat) 0
theorem orL_snoc {l : List Int} {y : Int} : orL (l ++ [y]) = orL l ||| 2 ^ y.toNat := by simp [orL]
theorem orL_bit {l : List Int} {i : Nat} : (orL l).testBit i = true ↔ ∃ y ∈ l, y.toNat = i := by
  have key : ∀ (l : List Int) (m : Nat), (l.foldl (fun m y => m ||| 2 ^ y.toNat) m).testBit i = true ↔ m.testBit i = true ∨ ∃ y ∈ l, y.toNat = i := by
    intro l
    induction l with
    | nil => intro m; simp
    | cons y l ih =>
      intro m
      rw [List.foldl_cons, ih, Nat.testBit_or, Nat.testBit_two_pow, Bool.or_eq_true, decide_eq_true_eq]
      constructor
      · rintro ((h | h) | ⟨z, hz, h⟩)
        · exact .inl h
        · exact .inr ⟨y, by simp, h⟩
        · exact .inr ⟨z, by simp [hz], h⟩
      · rintro (h | ⟨z, hz, h⟩)
        · exact .inl (.inl h)
        · rcases List.mem_cons.1 hz with rfl | hz
          · exact .inl (.inr h)
          · exact .inr ⟨z, hz, h⟩
  have := key l 0
  unfold orL
  rw [this]; simp
theorem orL_lt {n : Nat} {l : List Int} (h : ∀ y ∈ l, 0 ≤ y ∧ y < n) : orL l < 2 ^ n := by
  have key : ∀ (l : List Int) (m : Nat), m < 2 ^ n → (∀ y ∈ l, 0 ≤ y ∧ y < n) → l.foldl (fun m y => m ||| 2 ^ y.toNat) m < 2 ^ n := by
    intro l
    induction l with
    | nil => intro m h _; exact h
    | cons y l ih =>
      intro m hm h
      rw [List.foldl_cons]
      refine ih _ (Nat.or_lt_two_pow hm ?_) fun z hz => h z (by simp [hz])
      have := h y (by simp)
      exact Nat.pow_lt_pow_right (by omega) (by omega)
  exact key l 0 (Nat.pow_pos (by omega)) h
theorem orL_bits {n : Nat} (hn : n ≤ 62) {l : List Int} (hs : l.Pairwise (· < ·)) (h : ∀ y ∈ l, 0 ≤ y ∧ y < n) : bitsF (orL l) = l := sorted_ext bitsF_sorted hs fun x => by
  constructor
  · intro hx
    obtain ⟨i, rfl, _, _⟩ := bitsP_mem hx
    rw [bitsF_mem, orL_bit] at hx
    obtain ⟨_, y, hy, e⟩ := hx
    have := h y hy
    have : y = (i : Int) := by omega
    rw [← this]; exact hy
  · intro hx
    have := h x hx
    obtain ⟨i, rfl⟩ : ∃ i : Nat, x = i := ⟨x.toNat, by omega⟩
    rw [bitsF_mem, orL_bit]
    exact ⟨by omega, (i : Int), hx, by omega⟩
theorem CropLeft_val {b1 b2 b3 b4 b5 : Bool} {tried : Int} (ht0 : 0 ≤ tried) (ht1 : tried ≤ 255) : Val tab 9 [fieldV (b1, false) (b2, false) (b3, false) (b4, false) (b5, false) f, .c (.int .u8 tried)] (.c (.bool true)) := by
  obtain ⟨tn, rfl⟩ : ∃ n : Nat, tried = n := ⟨tried.toNat, by omega⟩
  refine Val_X (fn := f9) rfl ?_
  cases hr : readyB f with
  | false => simp only [go_sem, f9, lready, hr, lawake]
  | true =>
    obtain ⟨hs, hv, h0, h100⟩ := ready_of hr
    have hW := hs.fits
    have v5 := hv.looks5
    obtain ⟨b, hw⟩ := vLeave (f := f) (g1 := (false, false)) (g2 := (false, false)) (g3 := (false, false)) (g4 := (false, false)) (g5 := (false, false)) hW
    have k1 := fun {Q : V → Prop} => CallP_of (Q := Q) hw
    have hR : LeaveR b f = .tup [.c (L (b, false) (leaveS f)), .c (.int .i64 0)] := if_neg (by rw [h0]; simp)
    rw [hR] at k1
    have hlo := leave_ok hv
    obtain ⟨l, hl⟩ : ∃ l, l = leaveS f := ⟨_, rfl⟩
    rw [← hl] at k1 hlo
    obtain ⟨l1, l2, l3⟩ := setsL_mem.1 hlo.1
    have q1 : 1 ≤ 2 ^ f.looks.length := Nat.pow_pos (by omega)
    have q3 : 2 ^ f.looks.length ≤ 2 ^ 5 := Nat.pow_le_pow_right (by omega) v5
    simp only [go_sem, f9, lready, hr, lField hs, k1]
    refine RX_forC l.length (fun k => [(7, .c (.int .i64 (orL (l.take k)))), (8, .c (.int .i64 k))]) (fun _ => True) rfl trivial (by simp only [go_sem, List.take_zero] <;> first | rfl | exact ⟨rfl, rfl⟩) ?_
    intro k hk _
    by_cases hlt : k < l.length
    · have e4 : IntKind.i64.wrap ((k : Int) + 1) = ((k + 1 : Nat) : Int) := wrap_succ (n := 3000) (by omega) (by decide)
      obtain ⟨y, hy⟩ : ∃ y, y = l.getD k default := ⟨_, rfl⟩
      have hyl : y ∈ l := by rw [hy, getD_lt _ _ _ hlt]; exact List.getElem_mem hlt
      have hyb := l3 y hyl
      obtain ⟨yn, rfl⟩ : ∃ n : Nat, y = n := ⟨y.toNat, by omega⟩
      have n1 : ¬ (yn : Int) < 0 := by omega
      have n2 : ¬ (yn : Int) ≥ f.looks.length := by omega
      have e1 := u64W (k := yn) (by omega)
      have e2 := shlW (a := 1) (k := yn) (by omega) (by omega)
      rw [Nat.one_mul, show ((1 : Nat) : Int) = 1 from rfl] at e2
      have hsn : orL (l.take (k + 1)) = orL (l.take k) ||| 2 ^ yn := by rw [take_getD hlt default, ← hy, orL_snoc]; rfl
      have hob : orL (l.take k) < 2 ^ f.looks.length := orL_lt fun z hz => l3 z (List.mem_of_mem_take hz)
      have hyp : 2 ^ yn ≤ 2 ^ 5 := Nat.pow_le_pow_right (by omega) (by omega)
      have e3 := orW (a := orL (l.take k)) (b := 2 ^ yn) (by omega) (by omega)
      by_cases hk0 : k = 0
      · subst hk0
        have hl0 : (0 : Int) < l.length := by omega
        have ha0 : atI l 0 = (yn : Int) := hy.symm
        rw [List.take_zero] at e3 hsn
        simp only [go_sem, hlt, hl0, ha0, n1, n2, gt_iff_lt, e1, e2, e3, e4, hsn]
      · have hkp : (0 : Int) < (k : Int) := by omega
        have hkw : IntKind.i64.wrap ((k : Int) - 1) = ((k - 1 : Nat) : Int) := by rw [wrapB (by omega) (by omega)]; omega
        have k1' : k - 1 < l.length := by omega
        have hle : ¬ (yn : Int) ≤ l.getD (k - 1) default := by
          rw [hy, getD_lt _ _ _ hlt, getD_lt _ _ _ k1']
          have := List.pairwise_iff_getElem.1 l1 (k - 1) k k1' hlt (by omega)
          omega
        simp only [go_sem, hlt, atI_nat, ← hy, n1, n2, gt_iff_lt, hkp, hkw, k1', hle, e1, e2, e3, e4, hsn]
    · have hke : k = l.length := by omega
      subst hke
      rw [List.take_length]
      obtain ⟨full, hfull⟩ : ∃ m, m = 2 ^ f.looks.length - 1 := ⟨_, rfl⟩
      have hF := fun {g1 g2 g3 g4 g5 : Bool × Bool} {Q : V → Prop} => rFull (f := f) (g1 := g1) (g2 := g2) (g3 := g3) (g4 := g4) (g5 := g5) (by omega) (Q := Q)
      rw [← hfull] at hF
      have hob : orL l < 2 ^ f.looks.length := orL_lt l3
      have e1 : IntKind.i64.wrap (tn : Int) = (tn : Int) := wrapB (by omega) (by omega)
      have e2 := andW (a := tn) (b := full) (by omega) (by omega)
      obtain ⟨m, hm⟩ : ∃ m, m = tn &&& full := ⟨_, rfl⟩
      have hml : m ≤ full := by rw [hm]; exact Nat.and_le_right
      rw [← hm] at e2
      have e3 := andnW (a := full) (b := orL l) (by omega) (by omega)
      have e5 := andnW (a := full) (b := m) (by omega) (by omega)
      have c1 := can_pos hv hob
      have c2 := can_pos hv (b := m) (by omega)
      rw [orL_bits (by omega) l1 l3, ← hfull] at c1
      rw [← hfull] at c2
      have a1 : andn full (orL l) ≤ full := andn_le
      have a2 : andn full m ≤ full := andn_le
      have c1 := c1.2 hlo.2.1
      have s1 := fun {Q : V → Prop} => lsome (f := f) (by omega) (b1 := b1) (b2 := b2) (b3 := b3) (b4 := b4) (b5 := b5) (m := andn full (orL l)) (by omega) (Q := Q)
      have s2 := fun {Q : V → Prop} => lsome (f := f) (by omega) (b1 := b1) (b2 := b2) (b3 := b3) (b4 := b4) (b5 := b5) (m := andn full m) (by omega) (Q := Q)
      have p1 := pos_some hv (m := andn full (orL l)) (by omega)
      have p2 := pos_some hv (m := andn full m) (by omega)
      rw [c1] at p1
      have y1 := some_valid hv (m := andn full (orL l))
      have y2 := some_valid hv (m := andn full m)
      have z1 := some_check hv h0 (m := andn full (orL l))
      have z2 := some_check hv h0 (m := andn full m)
      have hs1 : (withL f (someL f (andn full (orL l)))).Small := ⟨hs.growth, hs.wet, hs.base, hs.crops, by have := y1.looks5; omega⟩
      have hs2 : (withL f (someL f (andn full m))).Small := ⟨hs.growth, hs.wet, hs.base, hs.crops, by have := y2.looks5; omega⟩
      obtain ⟨a, b', hw1⟩ := worthR_nil y1 z1
      obtain ⟨a', b'', hw2⟩ := worthR_nil y2 z2
      rw [p1, if_pos rfl] at hw1
      have k3 := fun {Q : V → Prop} => cWorth_nil (f := withL f (someL f (andn full (orL l)))) (g1 := (false, false)) (g2 := (false, false)) (g3 := (false, false)) (g4 := (false, false)) (g5 := (false, false)) hs1.fits (Q := Q)
      have k4 := fun {Q : V → Prop} => cWorth_nil (f := withL f (someL f (andn full m))) (g1 := (false, false)) (g2 := (false, false)) (g3 := (false, false)) (g4 := (false, false)) (g5 := (false, false)) hs2.fits (Q := Q)
      rw [hw1] at k3
      rw [hw2] at k4
      generalize withL f (someL f (andn full (orL l))) = x1 at *
      generalize withL f (someL f (andn full m)) = x2 at *
      have hB := fun {Q : V → Prop} => rBits (n := m) (by omega) (Q := Q)
      have hbl : (bitsF m).length ≤ 62 := bitsP_len
      have hS := fun {g g' : Bool × Bool} {Q : V → Prop} => rShorter (g := g) (g' := g') (a := bitsF m) (b := l) (by omega) (by omega) (Q := Q)
      cases hc : canB f (andn full m) with
      | false =>
        rw [p2, hc, if_neg (by decide)] at k4
        simp only [go_sem, hlt, e1, hF, e2, e3, e5, s1, s2, lField hs1, lField hs2, k3, k4, lawake]
      | true =>
        rw [p2, hc, if_pos rfl] at k4
        have hm1 : bitsF m ∈ setsL f.looks.length := setsL_mem.2 ⟨bitsF_sorted, bitsF_len (by omega) (by omega), bitsF_in (by omega)⟩
        have hsh : shB (bitsF m) l = false := by
          rcases hlo.2.2 _ hm1 (c2.1 hc) with e | e
          · rw [e, sh_irr]
          · rw [← Bool.not_eq_true]; exact sh_asym e
        simp only [go_sem, hlt, e1, hF, e2, e3, e5, s1, s2, lField hs1, lField hs2, k3, k4, hB, hS, hsh, lawake]
end Am.Cr
