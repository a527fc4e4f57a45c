/-
  A part of the proof: the texts M33, M34, M35, M36 of this seat, joined.
-/
import Derived.Test.YtgaifkhngaopgaaWalkJ
import Derived.Test.YtgaifkhngaopgaaWalkI
namespace Am.Mv
open Go Am
set_option maxRecDepth 100000
set_option maxHeartbeats 4000000
set_option linter.unusedSimpArgs false
set_option linter.unusedVariables false
variable {l : Land} {g1 g2 : Bool × Bool}
/-- a site that the search from a spot on may choose, and what is sure then -/
def CandIs (l : Land) (n : Nat) (s : S) (b k : Int) : Prop := costOf l.sites l.roads s.site k ≤ s.money ∧ (fromF l n (nextS l s k false) b).2.2 = true ∧ (0 < b → (fromF l n (nextS l s k true) (b - 1)).2.2 = true)
def candV (l : Land) (n : Nat) (s : S) (b k : Int) : Int := if 0 < b then min (fromF l n (nextS l s k false) b).2.1 (fromF l n (nextS l s k true) (b - 1)).2.1 else (fromF l n (nextS l s k false) b).2.1
theorem fromStep_cand {n : Nat} {s : S} {b k : Int} {best : Ans} : (CandIs l n s b k ∧ (best.2.2 = false ∨ best.2.1 < candV l n s b k) → fromStep l (fromF l n) s b best k = (k, candV l n s b k, true)) ∧ (¬ (CandIs l n s b k ∧ (best.2.2 = false ∨ best.2.1 < candV l n s b k)) → fromStep l (fromF l n) s b best k = best) := by
  unfold fromStep CandIs candV
  generalize fromF l n (nextS l s k false) b = a
  generalize fromF l n (nextS l s k true) (b - 1) = c
  by_cases hc : costOf l.sites l.roads s.site k ≤ s.money
  · simp only [hc, if_true, true_and]
    by_cases hb : 0 < b
    · simp only [hb, and_true, if_true, forall_const]
      cases ha : a.2.2 with
      | true =>
        simp only [if_true, true_and]
        exact ⟨fun h => if_pos h, fun h => if_neg h⟩
      | false => simp [ha]
    · simp only [hb, and_false, if_false, false_imp_iff, and_true]
      exact ⟨fun h => if_pos h, fun h => if_neg h⟩
  · simp [hc]
structure FoldOk (l : Land) (n : Nat) (s : S) (b : Int) (m : Nat) (r : Ans) : Prop where
  yes : r.2.2 = true → ∃ k : Nat, k < m ∧ CandIs l n s b k ∧ r.1 = k ∧ r.2.1 = candV l n s b k
  most : ∀ k : Nat, k < m → CandIs l n s b k → r.2.2 = true ∧ candV l n s b k ≤ r.2.1
theorem fold_ok (n : Nat) (s : S) (b : Int) : ∀ m : Nat, FoldOk l n s b m ((List.range m).foldl (fun best (k : Nat) => fromStep l (fromF l n) s b best (k : Int)) (0, 0, false))
  | 0 => ⟨fun h => (by cases h), fun k hk => (by omega)⟩
  | m + 1 => by
    have ih := fold_ok n s b m
    simp only [List.range_succ, List.foldl_append, List.foldl_cons, List.foldl_nil]
    generalize (List.range m).foldl (fun best (k : Nat) => fromStep l (fromF l n) s b best (k : Int)) (0, 0, false) = r at *
    obtain ⟨f1, f2⟩ := fromStep_cand (l := l) (n := n) (s := s) (b := b) (k := (m : Int)) (best := r)
    by_cases h : CandIs l n s b (m : Int) ∧ (r.2.2 = false ∨ r.2.1 < candV l n s b (m : Int))
    · rw [f1 h]
      refine ⟨fun _ => ⟨m, by omega, h.1, rfl, rfl⟩, fun k hk hc => ⟨rfl, ?_⟩⟩
      by_cases hkm : k < m
      · obtain ⟨i1, i2⟩ := ih.most k hkm hc
        rcases h.2 with h | h
        · rw [i1] at h; cases h
        · simp only; omega
      · have : k = m := by omega
        subst this; exact Int.le_refl _
    · rw [f2 h]
      refine ⟨fun hr => ?_, fun k hk hc => ?_⟩
      · obtain ⟨k, h1, h2⟩ := ih.yes hr
        exact ⟨k, by omega, h2⟩
      · by_cases hkm : k < m
        · exact ih.most k hkm hc
        · have : k = m := by omega
          subst this
          cases hr : r.2.2 with
          | false => exact absurd ⟨hc, .inl hr⟩ h
          | true =>
            refine ⟨rfl, ?_⟩
            by_cases hlt : r.2.1 < candV l n s b (k : Int)
            · exact absurd ⟨hc, .inr hlt⟩ h
            · omega
theorem from_ok2 (n : Nat) (s : S) (b : Int) : FoldOk l n s b l.sites.length (fromF l (n + 1) s b) := by
  have h := fold_ok (l := l) n s b l.sites.length
  simp only [fromF]
  generalize (List.range l.sites.length).foldl (fun best (k : Nat) => fromStep l (fromF l n) s b best (k : Int)) (0, 0, false) = r at *
  cases hr : r.2.2 with
  | true => rw [if_pos rfl]; exact h
  | false =>
    rw [if_neg (by simp)]
    exact ⟨fun h => (by cases h), fun k hk hc => by have := (h.most k hk hc).1; rw [hr] at this; cases this⟩
/-- fewer bad years may come: no less is sure -/
theorem from_less (l : Land) : ∀ (n : Nat) (s : S) (b b' : Int), 0 ≤ b → b ≤ b' → (fromF l n s b').2.2 = true → (fromF l n s b).2.2 = true ∧ (fromF l n s b').2.1 ≤ (fromF l n s b).2.1
  | 0, s, b, b', h0, h1, h => ⟨rfl, Int.le_refl _⟩
  | n + 1, s, b, b', h0, h1, h => by
    obtain ⟨k, hk, ⟨c1, c2, c3⟩, _, e⟩ := (from_ok2 (l := l) n s b').yes h
    obtain ⟨i1, i2⟩ := from_less l n (nextS l s k false) b b' h0 h1 c2
    have hc : CandIs l n s b (k : Int) := ⟨c1, i1, fun hb => (from_less l n (nextS l s k true) (b - 1) (b' - 1) (by omega) (by omega) (c3 (by omega))).1⟩
    obtain ⟨j1, j2⟩ := (from_ok2 (l := l) n s b).most k hk hc
    refine ⟨j1, Int.le_trans ?_ j2⟩
    rw [e]
    unfold candV
    by_cases hb : 0 < b
    · rw [if_pos hb, if_pos (show 0 < b' by omega)]
      have := (from_less l n (nextS l s k true) (b - 1) (b' - 1) (by omega) (by omega) (c3 (by omega))).2
      omega
    · rw [if_neg hb]
      split
      · omega
      · exact i2
end Am.Mv
namespace Am.Mv
open Go Am
set_option maxRecDepth 100000
set_option maxHeartbeats 4000000
set_option linter.unusedSimpArgs false
set_option linter.unusedVariables false
variable {l : Land} {g1 g2 : Bool × Bool}
theorem ok_cons {last la y : Int} {e : List Int} (l0 : 0 ≤ last) (l4 : last ≤ 4) (a0 : -1 ≤ la) (a1 : la ≤ 10) : weatherOk (last + 1) la (y :: e) = true ↔ (la + 1 ≤ y ∧ y ≤ last) ∧ weatherOk (last + 1) y e = true := by
  simp only [weatherOk, Bool.and_eq_true, inR_iff]
  rw [wrapB (by omega) (by omega), wrapB (by omega) (by omega), show last + 1 - 1 = last by omega]
theorem ok_len {last : Int} (l0 : 0 ≤ last) (l4 : last ≤ 4) : ∀ (e : List Int) (la : Int), -1 ≤ la → la ≤ last → weatherOk (last + 1) la e = true → la + e.length ≤ last
  | [], la, _, h, _ => by simpa using h
  | y :: e, la, a0, a1, h => by
    obtain ⟨h1, h2⟩ := (ok_cons l0 l4 a0 (by omega)).1 h
    have := ok_len l0 l4 e y (by omega) h1.2 h2
    simp; omega
theorem ok_mono {last : Int} (l0 : 0 ≤ last) (l4 : last ≤ 4) {e : List Int} {la la' : Int} (a0 : -1 ≤ la') (h1 : la' ≤ la) (a1 : la ≤ 10) (h : weatherOk (last + 1) la e = true) : weatherOk (last + 1) la' e = true := by
  cases e with
  | nil => rfl
  | cons y e =>
    obtain ⟨h2, h3⟩ := (ok_cons l0 l4 (by omega) a1).1 h
    exact (ok_cons l0 l4 a0 (by omega)).2 ⟨by omega, h3⟩
theorem mem_upTo {a b y : Int} (h1 : a ≤ y) (h2 : y ≤ b) : y ∈ upTo a b := by
  unfold upTo
  exact List.mem_map.2 ⟨(y - a).toNat, List.mem_range.2 (by omega), by omega⟩
theorem mem_comb {last : Int} (l0 : 0 ≤ last) (l4 : last ≤ 4) : ∀ (e w : List Int) (fr : Int), 0 ≤ fr → fr ≤ last + 1 → weatherOk (last + 1) (fr - 1) e = true → w ++ e ∈ comb last e.length w fr
  | [], w, fr, _, _, _ => by simp [comb]
  | y :: e, w, fr, f0, f1, h => by
    obtain ⟨h1, h2⟩ := (ok_cons l0 l4 (by omega) (by omega)).1 h
    have h3 := ok_len l0 l4 e y (by omega) h1.2 h2
    simp only [List.length_cons, comb, List.mem_flatMap]
    refine ⟨y, mem_upTo (by omega) (by omega), ?_⟩
    have := mem_comb l0 l4 e (w ++ [y]) (y + 1) (by omega) (by omega) (by rw [show y + 1 - 1 = y by omega]; exact h2)
    simpa using this
theorem wth_all (hv : l.Valid) {w : List Int} (h : weatherOk (l.last + 1) (-1) w = true) (hb : (w.length : Int) ≤ l.bad) : w ∈ weathersL l := by
  have l0 := hv.last0
  have l4 := hv.last4
  have := mem_comb l0 l4 w [] 0 (Int.le_refl _) (by omega) h
  unfold weathersL
  rw [List.mem_flatMap]
  exact ⟨w.length, List.mem_range.2 (by omega), by simpa using this⟩
/-- a plan is no surer than moving with open eyes -/
theorem seen_least (hv : l.Valid) {p : List Int} (hp : AreSites l p) (hl : p.length = (l.last + 1).toNat) (M : Int) : ∀ (n k : Nat) (w : List Int) (b : Int), k + n = p.length → (∀ x ∈ w, x < (k : Int)) → 0 ≤ b → (∀ e, weatherOk (l.last + 1) ((k : Int) - 1) e = true → (e.length : Int) ≤ b → failAt l (w ++ e) p = none ∧ M ≤ (stAt l (w ++ e) p p.length).money) → (fromF l n (stAt l w p k) b).2.2 = true ∧ M ≤ (fromF l n (stAt l w p k) b).2.1
  | 0, k, w, b, hk, hw, hb, he => by
    obtain ⟨_, h2⟩ := he [] rfl (by simpa using hb)
    rw [List.append_nil, ← hk] at h2
    exact ⟨rfl, h2⟩
  | n + 1, k, w, b, hk, hw, hb, he => by
    have l0 := hv.last0
    have l4 := hv.last4
    obtain ⟨h1, _⟩ := he [] rfl (by simpa using hb)
    rw [List.append_nil] at h1
    have hc : costOf l.sites l.roads (stAt l w p k).site (p.getD k default) ≤ (stAt l w p k).money := of_decide_eq_true (failAt_none.1 h1 k (by omega))
    obtain ⟨q0, q1⟩ := plan_at hp (k := k) (by omega)
    have hnk : ¬ (k : Int) ∈ w := fun h => by have := hw _ h; omega
    have i1 := seen_least hv hp hl M n (k + 1) w b (by omega) (fun x hx => by have := hw x hx; omega) hb (fun e h1 h2 => he e (ok_mono l0 l4 (by omega) (by omega) (by omega) h1) h2)
    have s1 : stAt l w p (k + 1) = nextS l (stAt l w p k) (p.getD k default) false := by
      show nextS l (stAt l w p k) (p.getD k default) (decide ((k : Int) ∈ w)) = _
      rw [decide_eq_false hnk]
    rw [s1] at i1
    have i2 : 0 < b → (fromF l n (nextS l (stAt l w p k) (p.getD k default) true) (b - 1)).2.2 = true ∧ M ≤ (fromF l n (nextS l (stAt l w p k) (p.getD k default) true) (b - 1)).2.1 := fun hb0 => by
      have h := seen_least hv hp hl M n (k + 1) (w ++ [(k : Int)]) (b - 1) (by omega) (fun x hx => by
        rcases List.mem_append.1 hx with h | h
        · have := hw x h; omega
        · rw [List.mem_singleton.1 h]; omega) (by omega) (fun e h1 h2 => by
          have := he ((k : Int) :: e) ((ok_cons l0 l4 (by omega) (by omega)).2 ⟨⟨by omega, by omega⟩, by rw [show ((k + 1 : Nat) : Int) - 1 = (k : Int) by omega] at h1; exact h1⟩) (by simp; omega)
          rwa [show w ++ (k : Int) :: e = w ++ [(k : Int)] ++ e by simp] at this)
      have s2 : stAt l (w ++ [(k : Int)]) p (k + 1) = nextS l (stAt l w p k) (p.getD k default) true := by
        show nextS l (stAt l (w ++ [(k : Int)]) p k) (p.getD k default) (decide ((k : Int) ∈ w ++ [(k : Int)])) = _
        rw [decide_eq_true (by simp), stAt_same l (w' := w) (p' := p) k (fun i hi => rfl) (fun i hi => by simp; omega)]
      rwa [s2] at h
    have e : p.getD k default = (((p.getD k default).toNat : Nat) : Int) := by omega
    rw [e] at hc i1 i2
    obtain ⟨j1, j2⟩ := (from_ok2 (l := l) n (stAt l w p k) b).most (p.getD k default).toNat (by omega) ⟨hc, i1.1, fun hb0 => (i2 hb0).1⟩
    refine ⟨j1, Int.le_trans ?_ j2⟩
    unfold candV
    split
    · rename_i hb0
      have := (i2 hb0).2
      have := i1.2
      omega
    · exact i1.2
theorem goA_start (hv : l.Valid) : goA l [] [] = fromF l (l.last + 1).toNat (startS l) l.bad := by
  unfold goA fromL
  rw [show stAt l [] [] ([] : List Int).length = startS l from rfl]
  simp [startS]
theorem seen_sure (hv : l.Valid) {p : List Int} (hp : AreSites l p) (hl : p.length = (l.last + 1).toNat) (hc : (sureL l p).2.2 = true) : (goA l [] []).2.2 = true ∧ (sureL l p).1 + l.purse ≤ (goA l [] []).2.1 := by
  have l4 := hv.last4
  obtain ⟨h1, h2, h3, h4⟩ := (sureL_is hv hp (by omega)).yes hc
  rw [goA_start hv]
  have := seen_least hv hp hl ((sureL l p).1 + l.purse) p.length 0 [] l.bad (by omega) (fun x hx => by cases hx) hv.bad0 (fun e he hb => by
    have hm := wth_all hv he hb
    have e1 : prof l p e = (stAt l e p p.length).money - l.purse := rfl
    refine ⟨h1 _ hm, ?_⟩
    rw [List.nil_append]
    rcases h4 _ hm with h | h <;> omega)
  rw [hl] at this
  exact this
end Am.Mv
namespace Am.Mv
open Go Am
set_option maxRecDepth 100000
set_option maxHeartbeats 4000000
set_option linter.unusedSimpArgs false
set_option linter.unusedVariables false
variable {l : Land} {g1 g2 : Bool × Bool}
/-- the bad years before a year -/
def upto (w : List Int) (y : Nat) : List Int := w.filter fun x => decide (x < (y : Int))
def uptoOk (last : Int) (w : List Int) (y : Nat) : Bool := weatherOk (y : Int) (-1) (upto w y) && decide (upto w (y + 1) = upto w y ++ if (y : Int) ∈ w then [(y : Int)] else [])
theorem upto_all : (List.range 5).all (fun last => (List.range (last + 2)).all fun bad => (combW (last : Int) (bad : Int)).all fun w => (List.range (last + 2)).all fun y => uptoOk (last : Int) w y) = true := by decide +kernel
theorem upto_ok (hv : l.Valid) {w : List Int} (h : w ∈ weathersL l) {y : Nat} (hy : (y : Int) ≤ l.last + 1) : isWeather l (upto w y) y = true ∧ upto w (y + 1) = upto w y ++ (if (y : Int) ∈ w then [(y : Int)] else []) := by
  have l0 := hv.last0
  have l4 := hv.last4
  have b0 := hv.bad0
  have b1 := hv.bad1
  have h1 := (List.all_eq_true.1 upto_all) l.last.toNat (by simp; omega)
  have h2 := (List.all_eq_true.1 h1) l.bad.toNat (by simp; omega)
  rw [show ((l.last.toNat : Nat) : Int) = l.last by omega, show ((l.bad.toNat : Nat) : Int) = l.bad by omega] at h2
  have h3 := (List.all_eq_true.1 ((List.all_eq_true.1 h2) w h)) y (by simp; omega)
  simp only [uptoOk, Bool.and_eq_true, decide_eq_true_eq] at h3
  refine ⟨?_, h3.2⟩
  have hw := (wth_is hv h).1
  simp only [isWeather, Bool.and_eq_true, decide_eq_true_eq] at hw ⊢
  have hle : (upto w y).length ≤ w.length := List.length_filter_le _ _
  exact ⟨by omega, h3.1⟩
/-- where the miller moves -/
def mil (l : Land) (w : List Int) : Nat → List Int
  | 0 => []
  | y + 1 => mil l w y ++ [(goA l (mil l w y) (upto w y)).1]
theorem mil_len (l : Land) (w : List Int) : ∀ y, (mil l w y).length = y
  | 0 => rfl
  | y + 1 => by rw [mil, List.length_append, mil_len l w y]; rfl
structure MilOk (l : Land) (w : List Int) (y : Nat) : Prop where
  sites : AreSites l (mil l w y)
  fine : failAt l (upto w y) (mil l w y) = none
  is : (goA l (mil l w y) (upto w y)).2.2 = true
theorem upto_lt {w : List Int} {y : Nat} {x : Int} (h : x ∈ upto w y) : x < y := by
  have := (List.mem_filter.1 h).2
  exact of_decide_eq_true this
theorem goA_eq (hv : l.Valid) {s b : List Int} {n : Nat} (hn : (s.length : Int) + n = l.last + 1) : goA l s b = fromF l n (stAt l b s s.length) (l.bad - b.length) := by
  have l4 := hv.last4
  unfold goA fromL
  rw [stAt_year l b s s.length (by omega), show (l.last + 1 - (s.length : Int)).toNat = n by omega]
theorem mil_step (hv : l.Valid) {w : List Int} (hw : w ∈ weathersL l) {y : Nat} (hy : (y : Int) ≤ l.last) (h : MilOk l w y) : MilOk l w (y + 1) ∧ (goA l (mil l w y) (upto w y)).2.1 ≤ (goA l (mil l w (y + 1)) (upto w (y + 1))).2.1 ∧ 0 ≤ (goA l (mil l w y) (upto w y)).1 ∧ (goA l (mil l w y) (upto w y)).1 < l.sites.length := by
  obtain ⟨h1, h2, h3⟩ := h
  have l4 := hv.last4
  obtain ⟨u1, u2⟩ := upto_ok hv hw (y := y) (by omega)
  obtain ⟨v1, v2⟩ := upto_ok hv hw (y := y + 1) (by omega)
  have wb := (weather_lt (by omega) (by omega) v1).2
  have hlen := mil_len l w y
  have e0 := goA_eq hv (s := mil l w y) (b := upto w y) (n := (l.last - y).toNat + 1) (by rw [hlen]; omega)
  rw [e0] at h3
  obtain ⟨k, hk, ⟨c1, c2, c3⟩, e1, e2⟩ := (from_ok2 _ _ _).yes h3
  rw [← e0] at e1 e2
  have hs : mil l w (y + 1) = mil l w y ++ [(k : Int)] := by rw [mil, e1]
  have hsk : AreSites l (mil l w (y + 1)) := by
    rw [hs]
    intro x hx
    rcases List.mem_append.1 hx with h | h
    · exact h1 x h
    · rw [List.mem_singleton.1 h]; omega
  have hf1 : failAt l (upto w y) (mil l w (y + 1)) = none := by rw [hs]; exact (fail_snoc l h2).2 c1
  have hny : ¬ (y : Int) ∈ upto w y := fun h => by have := upto_lt h; omega
  have e3 := goA_eq hv (s := mil l w (y + 1)) (b := upto w (y + 1)) (n := (l.last - y).toNat) (by rw [mil_len]; omega)
  rw [mil_len] at e3
  have hst : ∀ b, stAt l b (mil l w (y + 1)) (y + 1) = nextS l (stAt l b (mil l w y) y) (k : Int) (decide ((y : Int) ∈ b)) := by
    intro b
    have := stAt_snoc l (w := b) (sites := mil l w y) (k := (k : Int))
    rw [← hs, mil_len, hlen] at this
    exact this
  rw [hlen] at c1 c2 c3
  by_cases hyw : (y : Int) ∈ w
  · rw [if_pos hyw] at u2
    have hb : (upto w (y + 1)).length = (upto w y).length + 1 := by rw [u2]; simp
    have hlt : 0 < l.bad - ((upto w y).length : Int) := by omega
    have hmem : ∀ i : Nat, i < y → ((i : Int) ∈ upto w y ↔ (i : Int) ∈ upto w (y + 1)) := fun i hi => by rw [u2]; simp; omega
    have hf2 : failAt l (upto w (y + 1)) (mil l w (y + 1)) = none := (fail_bad l (fun i hi => hmem i (by rw [mil_len] at hi; omega))).1 hf1
    rw [hst, decide_eq_true (by rw [u2]; simp), ← stAt_same l (w := upto w y) (p := mil l w y) y (fun i hi => rfl) hmem, hb, show l.bad - (((upto w y).length + 1 : Nat) : Int) = l.bad - (upto w y).length - 1 by omega] at e3
    refine ⟨⟨hsk, hf2, by rw [e3]; exact c3 hlt⟩, ?_, by omega, by omega⟩
    rw [e2, e3, candV, if_pos hlt, hlen]
    omega
  · rw [if_neg hyw, List.append_nil] at u2
    rw [hst, u2, decide_eq_false hny] at e3
    refine ⟨⟨hsk, by rw [u2]; exact hf1, by rw [u2, e3]; exact c2⟩, ?_, by omega, by omega⟩
    rw [e2, u2, e3, candV, hlen]
    split <;> omega
end Am.Mv
namespace Am.Mv
open Go Am
set_option maxRecDepth 100000
set_option maxHeartbeats 4000000
set_option linter.unusedSimpArgs false
set_option linter.unusedVariables false
variable {l : Land} {g1 g2 : Bool × Bool}
theorem upto_zero (hv : l.Valid) {w : List Int} (h : w ∈ weathersL l) : upto w 0 = [] := by
  have l0 := hv.last0
  have h1 := (weather_lt (by omega) (by omega) (upto_ok hv h (y := 0) (by omega)).1).1
  cases hu : upto w 0 with
  | nil => rfl
  | cons x t => have := h1 x (by rw [hu]; simp); omega
theorem mil_all (hv : l.Valid) {w : List Int} (hw : w ∈ weathersL l) (hg : (goA l [] []).2.2 = true) : ∀ y : Nat, (y : Int) ≤ l.last + 1 → MilOk l w y
  | 0, _ => by
    refine ⟨fun x hx => (by cases hx), ?_, ?_⟩
    · rw [upto_zero hv hw]; rfl
    · rw [upto_zero hv hw]; exact hg
  | y + 1, h => (mil_step hv hw (by omega) (mil_all hv hw hg y (by omega))).1
/-- what Go said last -/
def lastA (l : Land) (w : List Int) : Nat → Ans
  | 0 => goA l [] []
  | y + 1 => goA l (mil l w y) (upto w y)
theorem lastA_le (hv : l.Valid) {w : List Int} (hw : w ∈ weathersL l) (hg : (goA l [] []).2.2 = true) (y : Nat) (h : (y : Int) ≤ l.last + 1) : (lastA l w y).2.1 ≤ (goA l (mil l w y) (upto w y)).2.1 := by
  cases y with
  | zero => rw [upto_zero hv hw]; exact Int.le_refl _
  | succ y => exact (mil_step hv hw (by omega) (mil_all hv hw hg y (by omega))).2.1
theorem goA_bound (hv : l.Valid) {w : List Int} (hw : w ∈ weathersL l) (hg : (goA l [] []).2.2 = true) (y : Nat) (h : (y : Int) ≤ l.last + 1) : 0 ≤ (goA l (mil l w y) (upto w y)).2.1 ∧ (goA l (mil l w y) (upto w y)).2.1 ≤ 20000 := by
  have m := mil_all hv hw hg y h
  have l4 := hv.last4
  have u := weather_lt (by omega) (by omega) (upto_ok hv hw (y := y) h).1
  exact ((seen_same hv (by rw [mil_len]; exact h) m.sites (fun b hb => by rw [mil_len]; exact (u.1 b hb).2) u.2 m.fine).yes m.is).2.2
theorem all_of {p : List Int} (h : AreSites l p) : p.all (isSite l.sites) = true := List.all_eq_true.2 fun x hx => by
  have := h x hx
  simp only [isSite, inR_iff]
  omega
theorem mil_end (hv : l.Valid) {w : List Int} (hw : w ∈ weathersL l) (hg : (goA l [] []).2.2 = true) : failAt l w (mil l w (l.last + 1).toNat) = none ∧ (stAt l w (mil l w (l.last + 1).toNat) (l.last + 1).toNat).money = (goA l (mil l w (l.last + 1).toNat) (upto w (l.last + 1).toNat)).2.1 := by
  have l0 := hv.last0
  have m := mil_all hv hw hg (l.last + 1).toNat (by omega)
  have hm : ∀ i : Nat, i < (l.last + 1).toNat → ((i : Int) ∈ upto w (l.last + 1).toNat ↔ (i : Int) ∈ w) := fun i hi => by
    unfold upto
    rw [List.mem_filter]
    simp; omega
  refine ⟨(fail_bad l (fun i hi => hm i (by rw [mil_len] at hi; omega))).1 m.fine, ?_⟩
  rw [goA_eq hv (n := 0) (by rw [mil_len]; omega), mil_len, ← stAt_same l (w := upto w (l.last + 1).toNat) (p := mil l w (l.last + 1).toNat) _ (fun i hi => rfl) hm]
  rfl
theorem MoveMiller_val {which : Int} (w0 : 0 ≤ which) (w1 : which ≤ 255) : Val tab 9 [landV g1 g2 l, .c (.int .u8 which)] (.c (.bool true)) := by
  refine Val_X (fn := f9) rfl ?_
  by_cases hr : (thin l && decide (checkLand l = 0)) = true
  · have hr' := hr
    simp only [Bool.and_eq_true, decide_eq_true_eq] at hr'
    obtain ⟨ht, h0⟩ := hr'
    have hs := thin_small ht
    have hv := valid_of h0
    have l0 := hv.last0
    have l4 := hv.last4
    have n4 := hv.n4
    have p0 := hv.purse0
    have p1 := hv.purse1
    obtain ⟨b2, P27⟩ := V27 (l := l) (g1 := (false, false)) (g2 := (false, false)) hs.fits
    have hseen : (bestL l (-1)).2.2 = true → (goA l [] []).2.2 = true ∧ (bestL l (-1)).2.1 + l.purse ≤ (goA l [] []).2.1 := fun hc => by
      obtain ⟨q1, q2, q3, _⟩ := plans_mem hv (best_mem hc)
      obtain ⟨z1, z2, z3, _⟩ := (best_is l (-1)).yes hc
      have := seen_sure hv q1 q2 z1
      rw [z2]; exact this
    cases hg : (goA l [] []).2.2 with
    | false =>
      cases hc : (bestL l (-1)).2.2 with
      | true => have := (hseen hc).1; rw [hg] at this; cases this
      | false => simp only [go_sem, f9, P37s, hr, ht, P17, P19 hs, P27, P33 hs.fits, BestR, SeenR, h0, hc, hg]
    | true =>
      have hwm := wthOf_mem hv which
      obtain ⟨t1, t2⟩ := wth_is hv hwm
      have P38' := @P38 l g1 g2 hv which w0 (by omega)
      generalize wthOf l which = w at *
      have hwB : w.length < Big := Nat.lt_of_le_of_lt t2 (by decide)
      have hb0 := goA_bound hv hwm hg 0 (by omega)
      rw [upto_zero hv hwm] at hb0
      change 0 ≤ (goA l [] []).2.1 ∧ (goA l [] []).2.1 ≤ 20000 at hb0
      have hw0 : IntKind.i64.wrap ((goA l [] []).2.1 - l.purse) = (goA l [] []).2.1 - l.purse := wrapB (by omega) (by omega)
      have hwn : IntKind.i64.wrap ((l.sites.length : Int) - 1) = (l.sites.length : Int) - 1 := wrapB (by omega) (by omega)
      have main : ∀ (Q : QT), True := fun _ => trivial
      cases hc : (bestL l (-1)).2.2 with
      | true =>
        have hle := (hseen hc).2
        have hlt : ¬ (goA l [] []).2.1 - l.purse < (bestL l (-1)).2.1 := by omega
        simp only [go_sem, f9, P37s, hr, ht, P17, P19 hs, P27, P33 hs.fits, BestR, SeenR, h0, hc, hg, hw0, hlt, P38']
        refine RX_for (l.last + 1).toNat (fun y => [(11, .c (.sl 1 y 0 y)), (12, .c (.sl 2 (upto w y).length 0 (upto w y).length)), (13, .c (.int .i64 ((lastA l w y).2.1 - l.purse))), (14, .c (.int .i64 y))]) (fun y => [.cells [.int .i64 l.last, .int .i64 l.home, .int .i64 l.purse, .int .i64 l.bad, .int .i64 l.rest, L g1 l.sites, L g2 l.roads], .arr false y 1 ((mil l w y).map Row.row), .arr false (upto w y).length 1 ((upto w y).map Row.row)]) (fun _ => True) trivial (by simp only [go_sem, upto_zero hv hwm, mil, lastA, List.length_nil, List.map_nil] <;> rfl) ?_
        intro y hy _
        by_cases h1 : y < (l.last + 1).toNat
        · have m := mil_all hv hwm hg y (by omega)
          obtain ⟨m1, m2, m3, m4⟩ := mil_step hv hwm (y := y) (by omega) m
          have ml := mil_len l w y
          obtain ⟨u1, u2⟩ := upto_ok hv hwm (y := y) (by omega)
          have ub := (weather_lt (by omega) (by omega) u1).2
          have b1 := hv.bad1
          have gb := goA_bound hv hwm hg y (by omega)
          have la := lastA_le hv hwm hg y (by omega)
          have h2 : (y : Int) ≤ l.last := by omega
          have hwA : IntKind.i64.wrap ((goA l (mil l w y) (upto w y)).2.1 - l.purse) = (goA l (mil l w y) (upto w y)).2.1 - l.purse := wrapB (by omega) (by omega)
          have hGo : GoR l (mil l w y) (upto w y) = .tup [.c (.int .i64 (goA l (mil l w y) (upto w y)).1), .c (.int .i64 ((goA l (mil l w y) (upto w y)).2.1 - l.purse)), .c (.int .i64 0)] := by
            unfold GoR
            rw [if_pos h0, if_pos ⟨by rw [ml]; exact h2, all_of m.sites, by rw [ml]; exact u1⟩, m.fine]
            simp only [m.is, if_true, hwA]
          have hA : lastA l w (y + 1) = goA l (mil l w y) (upto w y) := rfl
          have hM : mil l w (y + 1) = mil l w y ++ [(goA l (mil l w y) (upto w y)).1] := rfl
          rw [hA, hM, u2]
          generalize goA l (mil l w y) (upto w y) = A at *
          generalize mil l w y = s at *
          generalize upto w y = b at *
          generalize (lastA l w y).2.1 = B at *
          have hlt2 : ¬ A.2.1 - l.purse < B - l.purse := by omega
          have hin : inR A.1 0 ((l.sites.length : Int) - 1) = true := by rw [inR_iff]; omega
          have c1 : (y + 1) * 8 ≤ 2 ^ 40 := by omega
          have c2 : (b.length + 1) * 8 ≤ 2 ^ 40 := by omega
          have hsB : s.length < Big := Nat.lt_of_le_of_lt (show s.length ≤ 100 by omega) (by decide)
          have hbB : b.length < Big := Nat.lt_of_le_of_lt (show b.length ≤ 100 by omega) (by decide)
          have hwk : IntKind.i64.wrap ((y : Int) + 1) = ((y + 1 : Nat) : Int) := wrap_succ (n := 2000) (by omega) (by decide)
          by_cases hyw : (y : Int) ∈ w
          · simp only [go_sem, h1, h2, P19 hs, P20 (show s.length ≤ 1000 by omega), P20 (show b.length ≤ 1000 by omega), P34 hs.fits hsB hbB, hGo, P32, hwn, hin, hlt2, P42 hwB, hyw, ml, hwk, c1, c2]
            rw [List.map_append, List.map_append]; exact ⟨rfl, rfl⟩
          · simp only [go_sem, h1, h2, P19 hs, P20 (show s.length ≤ 1000 by omega), P20 (show b.length ≤ 1000 by omega), P34 hs.fits hsB hbB, hGo, P32, hwn, hin, hlt2, P42 hwB, hyw, ml, hwk, c1, c2]
            rw [List.map_append]; rfl
        · have : y = (l.last + 1).toNat := by omega
          subst this
          have m := mil_all hv hwm hg (l.last + 1).toNat (by omega)
          have ml := mil_len l w (l.last + 1).toNat
          have hip := isPlan_of hv m.sites ml
          obtain ⟨f1, f2⟩ := mil_end hv hwm hg
          have gb := goA_bound hv hwm hg (l.last + 1).toNat (by omega)
          have la := lastA_le hv hwm hg (l.last + 1).toNat (by omega)
          have hw : IntKind.i64.wrap (l.last + 1) = l.last + 1 := wrapB (by omega) (by omega)
          have hyl := yr_last hv (w := w) ml
          rw [ml, f2] at hyl
          have hpw : playR l (mil l w (l.last + 1).toNat) w = .tup [.c (L (false, false) ((List.range (l.last + 1).toNat).map (yrAt l w (mil l w (l.last + 1).toNat)))), .c (.int .i64 0)] := by simp only [playR, h0, hip, hw, t1, f1, if_true, ml]
          have hyn : ((((List.range (l.last + 1).toNat).map (yrAt l w (mil l w (l.last + 1).toNat))).length : Nat) : Int) = l.last + 1 := by simp; omega
          generalize (List.range (l.last + 1).toNat).map (yrAt l w (mil l w (l.last + 1).toNat)) = ys at *
          have hwe : IntKind.i64.wrap ((goA l (mil l w (l.last + 1).toNat) (upto w (l.last + 1).toNat)).2.1 - l.purse) = (goA l (mil l w (l.last + 1).toNat) (upto w (l.last + 1).toNat)).2.1 - l.purse := wrapB (by omega) (by omega)
          have hge : (goA l (mil l w (l.last + 1).toNat) (upto w (l.last + 1).toNat)).2.1 - l.purse ≥ (lastA l w (l.last + 1).toNat).2.1 - l.purse := by omega
          generalize (goA l (mil l w (l.last + 1).toNat) (upto w (l.last + 1).toNat)).2.1 = G at *
          generalize (lastA l w (l.last + 1).toNat).2.1 = B at *
          generalize mil l w (l.last + 1).toNat = s at *
          have hsB : s.length < Big := Nat.lt_of_le_of_lt (show s.length ≤ 100 by omega) (by decide)
          have h2 : ¬ (((l.last + 1).toNat : Nat) : Int) ≤ l.last := by omega
          have hlt3 : l.last < l.last + 1 := by omega
          simp only [go_sem, h1, h2, l0, P17, P19 hs, P20 (show s.length ≤ 1000 by omega), P20 (show w.length ≤ 1000 by omega), P18 hs.fits hsB hwB, hpw, hyn, hw, hyl, hwe, hge, hlt3, ml]
      | false =>
        simp only [go_sem, f9, P37s, hr, ht, P17, P19 hs, P27, P33 hs.fits, BestR, SeenR, h0, hc, hg, hw0, P38']
        refine RX_for (l.last + 1).toNat (fun y => [(11, .c (.sl 1 y 0 y)), (12, .c (.sl 2 (upto w y).length 0 (upto w y).length)), (13, .c (.int .i64 ((lastA l w y).2.1 - l.purse))), (14, .c (.int .i64 y))]) (fun y => [.cells [.int .i64 l.last, .int .i64 l.home, .int .i64 l.purse, .int .i64 l.bad, .int .i64 l.rest, L g1 l.sites, L g2 l.roads], .arr false y 1 ((mil l w y).map Row.row), .arr false (upto w y).length 1 ((upto w y).map Row.row)]) (fun _ => True) trivial (by simp only [go_sem, upto_zero hv hwm, mil, lastA, List.length_nil, List.map_nil] <;> rfl) ?_
        intro y hy _
        by_cases h1 : y < (l.last + 1).toNat
        · have m := mil_all hv hwm hg y (by omega)
          obtain ⟨m1, m2, m3, m4⟩ := mil_step hv hwm (y := y) (by omega) m
          have ml := mil_len l w y
          obtain ⟨u1, u2⟩ := upto_ok hv hwm (y := y) (by omega)
          have ub := (weather_lt (by omega) (by omega) u1).2
          have b1 := hv.bad1
          have gb := goA_bound hv hwm hg y (by omega)
          have la := lastA_le hv hwm hg y (by omega)
          have h2 : (y : Int) ≤ l.last := by omega
          have hwA : IntKind.i64.wrap ((goA l (mil l w y) (upto w y)).2.1 - l.purse) = (goA l (mil l w y) (upto w y)).2.1 - l.purse := wrapB (by omega) (by omega)
          have hGo : GoR l (mil l w y) (upto w y) = .tup [.c (.int .i64 (goA l (mil l w y) (upto w y)).1), .c (.int .i64 ((goA l (mil l w y) (upto w y)).2.1 - l.purse)), .c (.int .i64 0)] := by
            unfold GoR
            rw [if_pos h0, if_pos ⟨by rw [ml]; exact h2, all_of m.sites, by rw [ml]; exact u1⟩, m.fine]
            simp only [m.is, if_true, hwA]
          have hA : lastA l w (y + 1) = goA l (mil l w y) (upto w y) := rfl
          have hM : mil l w (y + 1) = mil l w y ++ [(goA l (mil l w y) (upto w y)).1] := rfl
          rw [hA, hM, u2]
          generalize goA l (mil l w y) (upto w y) = A at *
          generalize mil l w y = s at *
          generalize upto w y = b at *
          generalize (lastA l w y).2.1 = B at *
          have hlt2 : ¬ A.2.1 - l.purse < B - l.purse := by omega
          have hin : inR A.1 0 ((l.sites.length : Int) - 1) = true := by rw [inR_iff]; omega
          have c1 : (y + 1) * 8 ≤ 2 ^ 40 := by omega
          have c2 : (b.length + 1) * 8 ≤ 2 ^ 40 := by omega
          have hsB : s.length < Big := Nat.lt_of_le_of_lt (show s.length ≤ 100 by omega) (by decide)
          have hbB : b.length < Big := Nat.lt_of_le_of_lt (show b.length ≤ 100 by omega) (by decide)
          have hwk : IntKind.i64.wrap ((y : Int) + 1) = ((y + 1 : Nat) : Int) := wrap_succ (n := 2000) (by omega) (by decide)
          by_cases hyw : (y : Int) ∈ w
          · simp only [go_sem, h1, h2, P19 hs, P20 (show s.length ≤ 1000 by omega), P20 (show b.length ≤ 1000 by omega), P34 hs.fits hsB hbB, hGo, P32, hwn, hin, hlt2, P42 hwB, hyw, ml, hwk, c1, c2]
            rw [List.map_append, List.map_append]; exact ⟨rfl, rfl⟩
          · simp only [go_sem, h1, h2, P19 hs, P20 (show s.length ≤ 1000 by omega), P20 (show b.length ≤ 1000 by omega), P34 hs.fits hsB hbB, hGo, P32, hwn, hin, hlt2, P42 hwB, hyw, ml, hwk, c1, c2]
            rw [List.map_append]; rfl
        · have : y = (l.last + 1).toNat := by omega
          subst this
          have m := mil_all hv hwm hg (l.last + 1).toNat (by omega)
          have ml := mil_len l w (l.last + 1).toNat
          have hip := isPlan_of hv m.sites ml
          obtain ⟨f1, f2⟩ := mil_end hv hwm hg
          have gb := goA_bound hv hwm hg (l.last + 1).toNat (by omega)
          have la := lastA_le hv hwm hg (l.last + 1).toNat (by omega)
          have hw : IntKind.i64.wrap (l.last + 1) = l.last + 1 := wrapB (by omega) (by omega)
          have hyl := yr_last hv (w := w) ml
          rw [ml, f2] at hyl
          have hpw : playR l (mil l w (l.last + 1).toNat) w = .tup [.c (L (false, false) ((List.range (l.last + 1).toNat).map (yrAt l w (mil l w (l.last + 1).toNat)))), .c (.int .i64 0)] := by simp only [playR, h0, hip, hw, t1, f1, if_true, ml]
          have hyn : ((((List.range (l.last + 1).toNat).map (yrAt l w (mil l w (l.last + 1).toNat))).length : Nat) : Int) = l.last + 1 := by simp; omega
          generalize (List.range (l.last + 1).toNat).map (yrAt l w (mil l w (l.last + 1).toNat)) = ys at *
          have hwe : IntKind.i64.wrap ((goA l (mil l w (l.last + 1).toNat) (upto w (l.last + 1).toNat)).2.1 - l.purse) = (goA l (mil l w (l.last + 1).toNat) (upto w (l.last + 1).toNat)).2.1 - l.purse := wrapB (by omega) (by omega)
          have hge : (goA l (mil l w (l.last + 1).toNat) (upto w (l.last + 1).toNat)).2.1 - l.purse ≥ (lastA l w (l.last + 1).toNat).2.1 - l.purse := by omega
          generalize (goA l (mil l w (l.last + 1).toNat) (upto w (l.last + 1).toNat)).2.1 = G at *
          generalize (lastA l w (l.last + 1).toNat).2.1 = B at *
          generalize mil l w (l.last + 1).toNat = s at *
          have hsB : s.length < Big := Nat.lt_of_le_of_lt (show s.length ≤ 100 by omega) (by decide)
          have h2 : ¬ (((l.last + 1).toNat : Nat) : Int) ≤ l.last := by omega
          have hlt3 : l.last < l.last + 1 := by omega
          simp only [go_sem, h1, h2, l0, P17, P19 hs, P20 (show s.length ≤ 1000 by omega), P20 (show w.length ≤ 1000 by omega), P18 hs.fits hsB hwB, hpw, hyn, hw, hyl, hwe, hge, hlt3, ml]
  · simp only [go_sem, f9, P37s, hr, P17]
end Am.Mv
