/-
  A part of the proof: the texts M27, M28 of this seat, joined.
-/
import Derived.Test.YtgaifkhngaopgaaWalkG
namespace Am.Mv
open Go Am
set_option maxRecDepth 100000
set_option maxHeartbeats 4000000
set_option linter.unusedSimpArgs false
set_option linter.unusedVariables false
variable {l : Land} {g1 g2 : Bool × Bool}
theorem P37 (hf : l.Fits) {Q : V → Prop} : CallP tab 37 [landV g1 g2 l] Q ↔ Q (.c (.bool (thin l && decide (checkLand l = 0)))) := CallP_of (by
  refine Val_X (fn := f37) rfl ?_
  by_cases ht : thin l = true
  · simp only [go_sem, f37, P16, ht, P21 hf, Bool.true_and]
  · simp only [go_sem, f37, P16, ht, Bool.false_and])
theorem P37s {Q : V → Prop} : CallP tab 37 [landV g1 g2 l] Q ↔ Q (.c (.bool (thin l && decide (checkLand l = 0)))) := CallP_of (by
  refine Val_X (fn := f37) rfl ?_
  by_cases ht : thin l = true
  · have hs := thin_small ht
    simp only [go_sem, f37, P16, ht, P21 hs.fits, Bool.true_and]
  · simp only [go_sem, f37, P16, ht, Bool.false_and])
theorem plansN_pos (hv : l.Valid) : 0 < plansN l := Nat.pow_pos hv.n0
def planOf (l : Land) (n : Int) : List Int := planN l (n.toNat % plansN l)
theorem P40 (hv : l.Valid) {n : Int} (h0 : 0 ≤ n) (h1 : n ≤ 65535) {Q : V → Prop} : CallP tab 40 [landV g1 g2 l, .c (.int .u16 n)] Q ↔ Q (.c (L (false, false) (planOf l n))) := CallP_of (by
  refine Val_X (fn := f40) rfl ?_
  have P50' : ∀ {Q : V → Prop}, CallP tab 50 [landV g1 g2 l] Q ↔ Q (.c (.int .i64 (plansN l : Int))) := by
    intro Q
    rw [P50 hv, plansN_val hv]
  have hN := plansN_pos hv
  have hN2 := plansN_le hv
  have hw : IntKind.i64.wrap n = n := wrapB (by omega) (by omega)
  have hn : n = ((n.toNat : Nat) : Int) := by omega
  have h3 : ¬ (plansN l : Int) = 0 := by omega
  have hr : n.tmod (plansN l : Int) = ((n.toNat % plansN l : Nat) : Int) := by rw [hn, rem_nat]; rfl
  have hlt := Nat.mod_lt n.toNat hN
  simp only [go_sem, f40, P50', hw, h3, hr, P66 hv (show n.toNat % plansN l ≤ 100000 by omega)]
  rfl)
theorem wthR_pos (hv : l.Valid) : 0 < (wthR l).length := List.length_pos_of_mem ((wth_mem hv _).1 (wth_nil hv))
def wthOf (l : Land) (n : Int) : List Int := (wthR l).getD (n.toNat % (wthR l).length) default
theorem P38 (hv : l.Valid) {n : Int} (h0 : 0 ≤ n) (h1 : n ≤ 65535) {Q : V → Prop} : CallP tab 38 [landV g1 g2 l, .c (.int .u8 n)] Q ↔ Q (.c (L (false, false) (wthOf l n))) := CallP_of (by
  refine Val_X (fn := f38) rfl ?_
  have hN := wthR_pos hv
  have hN2 := wthR_num hv
  have hw : IntKind.i64.wrap n = n := wrapB (by omega) (by omega)
  have hn : n = ((n.toNat : Nat) : Int) := by omega
  have h3 : ¬ ((wthR l).length : Int) = 0 := by omega
  have hr : n.tmod ((wthR l).length : Int) = ((n.toNat % (wthR l).length : Nat) : Int) := by rw [hn, rem_nat]; rfl
  have hlt := Nat.mod_lt n.toNat hN
  simp only [go_sem, f38, P70 hv, hw, h3, hr, hlt, atI_nat]
  rfl)
theorem planOf_mem (hv : l.Valid) (n : Int) {but : Int} (h : but ∉ planOf l n) : planOf l n ∈ plansL l but := by
  rw [plans_same hv, Wk, List.mem_filter, List.mem_map]
  exact ⟨⟨_, List.mem_range.2 (Nat.mod_lt _ (plansN_pos hv)), rfl⟩, by simpa using h⟩
theorem not_neg {p : List Int} (h : AreSites l p) : (-1 : Int) ∉ p := fun hm => by have := (h _ hm).1; omega
theorem wthOf_mem (hv : l.Valid) (n : Int) : wthOf l n ∈ weathersL l := by
  rw [wth_mem hv, wthOf, getD_lt _ _ _ (Nat.mod_lt _ (wthR_pos hv))]
  exact List.getElem_mem _
theorem dig_mod {S : Nat} (h : 0 < S) (r n : Nat) : dig S r n = dig S r (n % S ^ r) := by
  have := dig_add S h r (n % S ^ r) (n / S ^ r)
  rw [← this]
  congr 1
  rw [Nat.mul_comm]
  exact (Nat.div_add_mod n (S ^ r)).symm
theorem dig_before {S : Nat} (h : 0 < S) : ∀ (r m n : Nat), m < n → n < S ^ r → beforeL (dig S r m) (dig S r n) = true
  | 0, m, n, h1, h2 => by simp at h2; omega
  | r + 1, m, n, h1, h2 => by
    have hp : 0 < S ^ r := Nat.pow_pos h
    have q2 : n / S ^ r < S := by rw [Nat.div_lt_iff_lt_mul hp]; rwa [Nat.pow_succ, Nat.mul_comm] at h2
    have q1 : m / S ^ r ≤ n / S ^ r := Nat.div_le_div_right (Nat.le_of_lt h1)
    simp only [dig, beforeL]
    rw [Nat.mod_eq_of_lt (show m / S ^ r < S by omega), Nat.mod_eq_of_lt q2]
    by_cases he : m / S ^ r = n / S ^ r
    · rw [if_pos (by rw [he])]
      rw [dig_mod h r m, dig_mod h r n]
      refine dig_before h r _ _ ?_ (Nat.mod_lt _ hp)
      have a1 := Nat.div_add_mod m (S ^ r)
      have a2 := Nat.div_add_mod n (S ^ r)
      rw [he] at a1
      omega
    · rw [if_neg (by omega)]
      exact decide_eq_true (by omega)
theorem plans_sorted (hv : l.Valid) (but : Int) : (plansL l but).Pairwise fun a b => beforeL a b = true := by
  rw [plans_same hv, Wk]
  apply List.Pairwise.filter
  rw [List.pairwise_map]
  refine List.Pairwise.imp_of_mem ?_ List.pairwise_lt_range
  intro a b ha hb hab
  exact dig_before hv.n0 _ _ _ hab (List.mem_range.1 hb)
theorem beforeL_asymm {a b : List Int} (h1 : beforeL a b = true) : beforeL b a = false := by
  cases h : beforeL b a with
  | false => rfl
  | true => have := beforeL_trans _ _ _ h1 h; rw [beforeL_irr] at this; cases this
/-- nothing before the best one is as good -/
theorem best_first (hv : l.Valid) {but : Int} (h : (bestL l but).2.2 = true) {p : List Int} (hp : p ∈ plansL l but) (hc : (sureL l p).2.2 = true) : (sureL l p).1 ≤ (bestL l but).2.1 ∧ ((sureL l p).1 = (bestL l but).2.1 → beforeL p (bestL l but).1 = false) := by
  obtain ⟨h1, h2, h3, A, B, h4, h5⟩ := (best_is l but).yes h
  refine ⟨h3 p hp hc, fun he => ?_⟩
  have hs := plans_sorted hv but
  rw [h4] at hp hs
  rcases List.mem_append.1 hp with hp | hp
  · have := h5 p hp hc; omega
  · rcases List.mem_cons.1 hp with rfl | hp
    · exact beforeL_irr _
    · exact beforeL_asymm ((List.pairwise_cons.1 (List.pairwise_append.1 hs).2.1).1 p hp)
theorem sure_bound (hv : l.Valid) {p : List Int} (hp : AreSites l p) (hl : p.length ≤ 100) (hc : (sureL l p).2.2 = true) : -999 ≤ (sureL l p).1 ∧ (sureL l p).1 ≤ 9900 := by
  obtain ⟨h1, h2, h3, _⟩ := (sureL_is hv hp hl).yes hc
  rw [h3]
  exact (prof_val hv hp hl (h1 _ h2)).2
end Am.Mv
namespace Am.Mv
open Go Am
set_option maxRecDepth 100000
set_option maxHeartbeats 4000000
set_option linter.unusedSimpArgs false
set_option linter.unusedVariables false
variable {l : Land} {g1 g2 : Bool × Bool}
theorem isPlan_of (hv : l.Valid) {p : List Int} (h : AreSites l p) (hl : p.length = (l.last + 1).toNat) : isPlan l p = true := by
  have l0 := hv.last0
  have l4 := hv.last4
  simp only [isPlan, Bool.and_eq_true, decide_eq_true_eq]
  rw [wrapB (by omega) (by omega)]
  refine ⟨by omega, List.all_eq_true.2 fun x hx => ?_⟩
  have := h x hx
  simp only [isSite, inR_iff]
  omega
theorem MoveNoBetter_val {which : Int} (w0 : 0 ≤ which) (w1 : which ≤ 65535) : Val tab 8 [landV g1 g2 l, .c (.int .u16 which)] (.c (.bool true)) := by
  refine Val_X (fn := f8) rfl ?_
  by_cases hr : (thin l && decide (checkLand l = 0)) = true
  · have hr' := hr
    simp only [Bool.and_eq_true, decide_eq_true_eq] at hr'
    obtain ⟨ht, h0⟩ := hr'
    have hs := thin_small ht
    have hv := valid_of h0
    obtain ⟨p1, p2, p3⟩ := planN_ok hv (which.toNat % plansN l)
    have hpm := planOf_mem hv which (not_neg p1)
    have hip := isPlan_of hv p1 p2
    change AreSites l (planOf l which) at p1
    change (planOf l which).length = _ at p2
    change (planOf l which).length ≤ 100 at p3
    change isPlan l (planOf l which) = true at hip
    have P40' := @P40 l g1 g2 hv which w0 w1
    generalize planOf l which = p at *
    have hpB : p.length < Big := Nat.lt_of_le_of_lt p3 (by decide)
    obtain ⟨b, P39⟩ := V39 (l := l) (g1 := (false, false)) (g2 := (false, false)) (g3 := (false, false)) (plan := p) hs.fits hpB
    obtain ⟨b2, P27⟩ := V27 (l := l) (g1 := (false, false)) (g2 := (false, false)) hs.fits
    cases hc : (bestL l (-1)).2.2 with
    | false =>
      have hno := ((best_is l (-1)).no hc).2 p hpm
      simp only [go_sem, f8, P37s, hr, P17, P40', P19 hs, P20 (show p.length ≤ 1000 by omega), P39, P27, BestR, SureR, h0, hip, hc, hno]
    | true =>
      obtain ⟨q1, q2, q3, _⟩ := plans_mem hv (best_mem hc)
      have hqip := isPlan_of hv q1 q2
      have hqB : (bestL l (-1)).1.length < Big := Nat.lt_of_le_of_lt q3 (by decide)
      cases hd : (sureL l p).2.2 with
      | false =>
        simp only [go_sem, f8, P37s, hr, P17, P40', P19 hs, P20 (show p.length ≤ 1000 by omega), P39, P27, BestR, SureR, h0, hip, hc, hd, P23 hs.fits.sites hqB, hqip]
      | true =>
        obtain ⟨c1, c2⟩ := best_first hv hc hpm hd
        by_cases he : (sureL l p).1 < (bestL l (-1)).2.1
        · simp only [go_sem, f8, P37s, hr, P17, P40', P19 hs, P20 (show p.length ≤ 1000 by omega), P39, P27, BestR, SureR, h0, hip, hc, hd, P23 hs.fits.sites hqB, hqip, c1, he]
        · have hb := c2 (by omega)
          simp only [go_sem, f8, P37s, hr, P17, P40', P19 hs, P20 (show p.length ≤ 1000 by omega), P39, P27, BestR, SureR, h0, hip, hc, hd, P23 hs.fits.sites hqB, hqip, c1, he, P41 hpB hqB, hb]
  · simp only [go_sem, f8, P37s, hr, P17]
theorem plans_in (hv : l.Valid) {but : Int} {p : List Int} (h : p ∈ plansL l but) : p ∈ plansL l (-1) := by
  have hs := (plans_mem hv h).1
  rw [plans_same hv, Wk, List.mem_filter] at h ⊢
  exact ⟨h.1, by simpa using not_neg hs⟩
theorem plans_out (hv : l.Valid) {but : Int} {p : List Int} (h : p ∈ plansL l (-1)) (hb : but ∉ p) : p ∈ plansL l but := by
  rw [plans_same hv, Wk, List.mem_filter] at h ⊢
  exact ⟨h.1, by simpa using hb⟩
theorem MoveWorth_val {site which : Int} (s0 : 0 ≤ site) (s1 : site ≤ 255) (w0 : 0 ≤ which) (w1 : which ≤ 65535) : Val tab 12 [landV g1 g2 l, .c (.int .u8 site), .c (.int .u16 which)] (.c (.bool true)) := by
  refine Val_X (fn := f12) rfl ?_
  by_cases hr : (thin l && decide (checkLand l = 0)) = true
  · have hr' := hr
    simp only [Bool.and_eq_true, decide_eq_true_eq] at hr'
    obtain ⟨ht, h0⟩ := hr'
    have hs := thin_small ht
    have hv := valid_of h0
    have n0 := hv.n0
    have n4 := hv.n4
    obtain ⟨p1, p2, p3⟩ := planN_ok hv (which.toNat % plansN l)
    have hpm := planOf_mem hv which (not_neg p1)
    have hpk := @planOf_mem l hv which
    have hip := isPlan_of hv p1 p2
    change AreSites l (planOf l which) at p1
    change (planOf l which).length = _ at p2
    change (planOf l which).length ≤ 100 at p3
    change isPlan l (planOf l which) = true at hip
    have P40' := @P40 l g1 g2 hv which w0 w1
    generalize planOf l which = p at *
    have hpB : p.length < Big := Nat.lt_of_le_of_lt p3 (by decide)
    obtain ⟨b, P39⟩ := V39 (l := l) (g1 := (false, false)) (g2 := (false, false)) (g3 := (false, false)) (plan := p) hs.fits hpB
    obtain ⟨b2, P27⟩ := V27 (l := l) (g1 := (false, false)) (g2 := (false, false)) hs.fits
    have hw : IntKind.i64.wrap site = site := wrapB (by omega) (by omega)
    have hn : site = ((site.toNat : Nat) : Int) := by omega
    have h3 : ¬ (l.sites.length : Int) = 0 := by omega
    have hm : site.tmod (l.sites.length : Int) = ((site.toNat % l.sites.length : Nat) : Int) := by rw [hn, rem_nat]; rfl
    have hlt := Nat.mod_lt site.toNat n0
    generalize hk : ((site.toNat % l.sites.length : Nat) : Int) = k at *
    have hsk : isSite l.sites k = true := by simp only [isSite, inR_iff]; omega
    cases hd : (bestL l k).2.2 with
    | false =>
      by_cases hpin : k ∈ p
      · cases hc : (bestL l (-1)).2.2 with
        | false =>
          cases hsp : (sureL l p).2.2 with
          | false => simp only [go_sem, f12, P37s, hr, ht, P17, P40', hw, h3, hm, P19 hs, P20 (show p.length ≤ 1000 by omega), P39, P27, P29 hs.fits, BestR, SureR, WorthR, h0, hip, hsk, hd, hc, P42 hpB, hpin, hsp]
          | true => simp only [go_sem, f12, P37s, hr, ht, P17, P40', hw, h3, hm, P19 hs, P20 (show p.length ≤ 1000 by omega), P39, P27, P29 hs.fits, BestR, SureR, WorthR, h0, hip, hsk, hd, hc, P42 hpB, hpin, hsp]
        | true =>
          cases hsp : (sureL l p).2.2 with
          | false => simp only [go_sem, f12, P37s, hr, ht, P17, P40', hw, h3, hm, P19 hs, P20 (show p.length ≤ 1000 by omega), P39, P27, P29 hs.fits, BestR, SureR, WorthR, h0, hip, hsk, hd, hc, P42 hpB, hpin, hsp]
          | true => simp only [go_sem, f12, P37s, hr, ht, P17, P40', hw, h3, hm, P19 hs, P20 (show p.length ≤ 1000 by omega), P39, P27, P29 hs.fits, BestR, SureR, WorthR, h0, hip, hsk, hd, hc, P42 hpB, hpin, hsp]
      · have hno := ((best_is l k).no hd).2 p (hpk hpin)
        cases hc : (bestL l (-1)).2.2 with
        | false =>
          simp only [go_sem, f12, P37s, hr, ht, P17, P40', hw, h3, hm, P19 hs, P20 (show p.length ≤ 1000 by omega), P39, P27, P29 hs.fits, BestR, SureR, WorthR, h0, hip, hsk, hd, hc, P42 hpB, hpin, hno]
        | true =>
          simp only [go_sem, f12, P37s, hr, ht, P17, P40', hw, h3, hm, P19 hs, P20 (show p.length ≤ 1000 by omega), P39, P27, P29 hs.fits, BestR, SureR, WorthR, h0, hip, hsk, hd, hc, P42 hpB, hpin, hno]
    | true =>
      obtain ⟨k1, k2, k3, k4⟩ := plans_mem hv (best_mem hd)
      obtain ⟨y1, y2, y3, _⟩ := (best_is l k).yes hd
      have hkin := plans_in hv (best_mem hd)
      have hc : (bestL l (-1)).2.2 = true := by
        cases hc : (bestL l (-1)).2.2 with
        | true => rfl
        | false => have := ((best_is l (-1)).no hc).2 _ hkin; rw [y1] at this; cases this
      obtain ⟨z1, z2, z3, _⟩ := (best_is l (-1)).yes hc
      obtain ⟨q1, q2, q3, _⟩ := plans_mem hv (best_mem hc)
      have hqB : (bestL l (-1)).1.length < Big := Nat.lt_of_le_of_lt q3 (by decide)
      have b1 := sure_bound hv k1 k3 y1
      have b3 := sure_bound hv q1 q3 z1
      have c1 := z3 _ hkin y1
      have hwr : IntKind.i64.wrap ((bestL l (-1)).2.1 - (bestL l k).2.1) = (bestL l (-1)).2.1 - (bestL l k).2.1 := wrapB (by omega) (by omega)
      have hge : (bestL l (-1)).2.1 - (bestL l k).2.1 ≥ 0 := by omega
      have hzero : k ∉ (bestL l (-1)).1 → (bestL l (-1)).2.1 - (bestL l k).2.1 = 0 := fun hnin => by
        have := y3 _ (plans_out hv (best_mem hc) hnin) z1
        omega
      have hm2 : (sureL l p).2.2 = true → k ∉ p → (bestL l (-1)).2.1 - (bestL l k).2.1 ≤ IntKind.i64.wrap ((bestL l (-1)).2.1 - (sureL l p).1) := fun h1 h2 => by
        have b4 := sure_bound hv p1 p3 h1
        have := y3 _ (hpk h2) h1
        rw [wrapB (by omega) (by omega)]
        omega
      by_cases hbin : k ∈ (bestL l (-1)).1
      · by_cases hpin : k ∈ p
        · cases hsp : (sureL l p).2.2 with
          | false =>
            simp only [go_sem, f12, P37s, hr, ht, P17, P40', hw, h3, hm, P19 hs, P20 (show p.length ≤ 1000 by omega), P39, P27, P29 hs.fits, BestR, SureR, WorthR, h0, hip, hsk, hd, hc, P42 hpB, hpin, P42 hqB, hbin, hwr, hge, hsp]
          | true =>
            simp only [go_sem, f12, P37s, hr, ht, P17, P40', hw, h3, hm, P19 hs, P20 (show p.length ≤ 1000 by omega), P39, P27, P29 hs.fits, BestR, SureR, WorthR, h0, hip, hsk, hd, hc, P42 hpB, hpin, P42 hqB, hbin, hwr, hge, hsp]
        · cases hsp : (sureL l p).2.2 with
          | false =>
            simp only [go_sem, f12, P37s, hr, ht, P17, P40', hw, h3, hm, P19 hs, P20 (show p.length ≤ 1000 by omega), P39, P27, P29 hs.fits, BestR, SureR, WorthR, h0, hip, hsk, hd, hc, P42 hpB, hpin, P42 hqB, hbin, hwr, hge, hsp]
          | true =>
            have hle := hm2 hsp hpin
            simp only [go_sem, f12, P37s, hr, ht, P17, P40', hw, h3, hm, P19 hs, P20 (show p.length ≤ 1000 by omega), P39, P27, P29 hs.fits, BestR, SureR, WorthR, h0, hip, hsk, hd, hc, P42 hpB, hpin, P42 hqB, hbin, hwr, hge, hsp, hle]
      · have hz := hzero hbin
        by_cases hpin : k ∈ p
        · cases hsp : (sureL l p).2.2 with
          | false =>
            simp only [go_sem, f12, P37s, hr, ht, P17, P40', hw, h3, hm, P19 hs, P20 (show p.length ≤ 1000 by omega), P39, P27, P29 hs.fits, BestR, SureR, WorthR, h0, hip, hsk, hd, hc, P42 hpB, hpin, P42 hqB, hbin, hwr, hz, ge_iff_le, Int.le_refl, hsp]
          | true =>
            simp only [go_sem, f12, P37s, hr, ht, P17, P40', hw, h3, hm, P19 hs, P20 (show p.length ≤ 1000 by omega), P39, P27, P29 hs.fits, BestR, SureR, WorthR, h0, hip, hsk, hd, hc, P42 hpB, hpin, P42 hqB, hbin, hwr, hz, ge_iff_le, Int.le_refl, hsp]
        · cases hsp : (sureL l p).2.2 with
          | false =>
            simp only [go_sem, f12, P37s, hr, ht, P17, P40', hw, h3, hm, P19 hs, P20 (show p.length ≤ 1000 by omega), P39, P27, P29 hs.fits, BestR, SureR, WorthR, h0, hip, hsk, hd, hc, P42 hpB, hpin, P42 hqB, hbin, hwr, hz, ge_iff_le, Int.le_refl, hsp]
          | true =>
            have hle := hm2 hsp hpin
            rw [hz] at hle
            simp only [go_sem, f12, P37s, hr, ht, P17, P40', hw, h3, hm, P19 hs, P20 (show p.length ≤ 1000 by omega), P39, P27, P29 hs.fits, BestR, SureR, WorthR, h0, hip, hsk, hd, hc, P42 hpB, hpin, P42 hqB, hbin, hwr, hz, ge_iff_le, Int.le_refl, hsp, hle]
  · simp only [go_sem, f12, P37s, hr, P17]
end Am.Mv
