/-
  A part of the proof: the texts M43, M44, M45 of this seat, joined.
-/
import Derived.Test.YtgaifkhngaopgaaWalkL
namespace Am.Mv
open Go Am
set_option maxRecDepth 100000
set_option maxHeartbeats 4000000
set_option linter.unusedSimpArgs false
set_option linter.unusedVariables false
variable {l : Land} {g1 g2 : Bool × Bool}
/-! the greatest losses, one after the other -/
def amK (ls : List Int) : Nat → Nat
  | 0 => 0
  | k + 1 => if ls.getD (amK ls k) default < ls.getD k default then k else amK ls k
abbrev amx (ls : List Int) : Nat := amK ls ls.length
theorem amK_ok (ls : List Int) : ∀ k : Nat, (0 < k → amK ls k < k) ∧ ∀ i, i < k → ls.getD i default ≤ ls.getD (amK ls k) default
  | 0 => ⟨fun h => absurd h (by omega), fun i h => absurd h (by omega)⟩
  | k + 1 => by
    obtain ⟨h1, h2⟩ := amK_ok ls k
    unfold amK
    split
    · rename_i h
      refine ⟨fun _ => by omega, fun i hi => ?_⟩
      by_cases e : i = k
      · subst e; exact Int.le_refl _
      · have := h2 i (by omega); omega
    · rename_i h
      refine ⟨fun _ => ?_, fun i hi => ?_⟩
      · by_cases e : k = 0
        · subst e; simp [amK]
        · have := h1 (by omega); omega
      · by_cases e : i = k
        · subst e; omega
        · exact h2 i (by omega)
def gr : Nat → List Int → Int
  | 0, _ => 0
  | b + 1, ls => ls.getD (amx ls) default + gr b (ls.set (amx ls) 0)
/-- the list, and what was taken, behind some rounds -/
def gList (ls : List Int) : Nat → List Int
  | 0 => ls
  | j + 1 => (gList ls j).set (amx (gList ls j)) 0
def gTot (ls : List Int) : Nat → Int
  | 0 => 0
  | j + 1 => gTot ls j + (gList ls j).getD (amx (gList ls j)) default
theorem gList_len (ls : List Int) : ∀ j, (gList ls j).length = ls.length
  | 0 => rfl
  | j + 1 => by rw [gList, List.length_set, gList_len ls j]
theorem gr_add (ls : List Int) : ∀ j r : Nat, gr (j + r) ls = gTot ls j + gr r (gList ls j)
  | 0, r => by simp [gTot, gList]
  | j + 1, r => by
    rw [show j + 1 + r = j + (r + 1) by omega, gr_add ls j (r + 1), gTot, gList, gr]
    omega
theorem gTot_gr (ls : List Int) (b : Nat) : gTot ls b = gr b ls := by
  have := gr_add ls b 0
  simp only [Nat.add_zero, gr, Int.add_zero] at this
  exact this.symm
def sumF (ls : List Int) (f : Nat → Bool) : Nat → Int
  | 0 => 0
  | n + 1 => sumF ls f n + if f n = true then ls.getD n default else 0
def cntF (f : Nat → Bool) : Nat → Nat
  | 0 => 0
  | n + 1 => cntF f n + if f n = true then 1 else 0
def rmF (f : Nat → Bool) (x : Nat) : Nat → Bool := fun i => f i && !decide (i = x)
theorem sumF_same {ls ls' : List Int} {f f' : Nat → Bool} : ∀ n : Nat, (∀ i, i < n → (if f i = true then ls.getD i default else 0) = if f' i = true then ls'.getD i default else 0) → sumF ls f n = sumF ls' f' n
  | 0, _ => rfl
  | n + 1, h => by rw [sumF, sumF, sumF_same n (fun i hi => h i (by omega)), h n (by omega)]
theorem cntF_same {f f' : Nat → Bool} : ∀ n : Nat, (∀ i, i < n → f i = f' i) → cntF f n = cntF f' n
  | 0, _ => rfl
  | n + 1, h => by rw [cntF, cntF, cntF_same n (fun i hi => h i (by omega)), h n (by omega)]
theorem rm_sum (ls : List Int) (f : Nat → Bool) {x : Nat} (hf : f x = true) : ∀ n : Nat, x < n → sumF ls f n = ls.getD x default + sumF ls (rmF f x) n ∧ cntF f n = cntF (rmF f x) n + 1
  | 0, h => absurd h (by omega)
  | n + 1, h => by
    by_cases e : x = n
    · subst e
      have h1 : sumF ls f x = sumF ls (rmF f x) x := sumF_same x fun i hi => by
        have : ¬ i = x := by omega
        simp [rmF, this]
      have h2 : cntF f x = cntF (rmF f x) x := cntF_same x fun i hi => by
        have : ¬ i = x := by omega
        simp [rmF, this]
      have h3 : rmF f x x = false := by simp [rmF]
      rw [sumF, sumF, cntF, cntF, h1, h2, h3, hf]
      simp; omega
    · obtain ⟨h1, h2⟩ := rm_sum ls f hf n (by omega)
      have h3 : rmF f x n = f n := by
        have : ¬ n = x := by omega
        simp [rmF, this]
      rw [sumF, sumF, cntF, cntF, h1, h2, h3]
      constructor <;> omega
theorem none_sum (ls : List Int) (f : Nat → Bool) : ∀ n : Nat, (∀ i, i < n → f i = false) → sumF ls f n = 0
  | 0, _ => rfl
  | n + 1, h => by rw [sumF, none_sum ls f n (fun i hi => h i (by omega)), h n (by omega)]; rfl
theorem cnt_pos (f : Nat → Bool) {x : Nat} : ∀ n : Nat, x < n → f x = true → 0 < cntF f n
  | 0, h, _ => absurd h (by omega)
  | n + 1, h, hf => by
    rw [cntF]
    by_cases e : x = n
    · subst e; rw [if_pos hf]; omega
    · have := cnt_pos f n (by omega) hf; omega
theorem set_getD {ls : List Int} {m i : Nat} (v : Int) : (ls.set m v).getD i default = if i = m ∧ m < ls.length then v else ls.getD i default := by
  rw [List.getD_eq_getElem?_getD, List.getD_eq_getElem?_getD, List.getElem?_set]
  by_cases e : m = i
  · subst e
    by_cases h : m < ls.length
    · simp [h]
    · simp [h]
  · have : ¬ i = m := fun h => e h.symm
    simp [e, this]
def Pos (ls : List Int) : Prop := ∀ i : Nat, 0 ≤ ls.getD i default
theorem Pos.set {ls : List Int} (h : Pos ls) (m : Nat) : Pos (ls.set m 0) := fun i => by
  rw [set_getD]; split
  · exact Int.le_refl _
  · exact h i
theorem gr_pos : ∀ (b : Nat) (ls : List Int), Pos ls → 0 ≤ gr b ls
  | 0, _, _ => Int.le_refl _
  | b + 1, ls, h => by
    have := gr_pos b _ (h.set (amx ls))
    have := h (amx ls)
    rw [gr]; omega
/-- no other years lose more -/
theorem gr_up : ∀ (b : Nat) (ls : List Int) (f : Nat → Bool), Pos ls → cntF f ls.length ≤ b → sumF ls f ls.length ≤ gr b ls
  | 0, ls, f, h, hc => by
    rw [none_sum ls f]
    · exact Int.le_refl _
    · intro i hi
      cases hf : f i with
      | false => rfl
      | true => have := cnt_pos f _ hi hf; omega
  | b + 1, ls, f, h, hc => by
    have key : ∀ x, x < ls.length → f x = true → (f (amx ls) = true → x = amx ls) → sumF ls f ls.length ≤ gr (b + 1) ls := by
      intro x hx hf hm
      obtain ⟨h1, h2⟩ := rm_sum ls f hf _ hx
      have h3 : sumF ls (rmF f x) ls.length = sumF (ls.set (amx ls) 0) (rmF f x) (ls.set (amx ls) 0).length := by
        rw [List.length_set]
        refine sumF_same _ fun i hi => ?_
        rw [set_getD]
        by_cases e : i = amx ls
        · have : rmF f x i = false := by
            cases hfi : f (amx ls) with
            | false => simp [rmF, e, hfi]
            | true => simp [rmF, e, hm hfi]
          simp [this]
        · simp [e]
      have h4 := gr_up b (ls.set (amx ls) 0) (rmF f x) (h.set _) (by rw [List.length_set]; omega)
      have h5 : ls.getD x default ≤ ls.getD (amx ls) default := (amK_ok ls ls.length).2 x hx
      rw [gr]
      omega
    cases hfm : f (amx ls) with
    | true =>
      by_cases hn : ls.length = 0
      · rw [hn]; exact gr_pos _ _ h
      · exact key _ ((amK_ok ls ls.length).1 (by omega)) hfm (fun _ => rfl)
    | false =>
      by_cases he : ∃ x, x < ls.length ∧ f x = true
      · obtain ⟨x, hx, hf⟩ := he
        exact key x hx hf (fun h => by rw [hfm] at h; cases h)
      · rw [none_sum ls f]
        · exact gr_pos _ _ h
        · intro i hi
          cases hf : f i with
          | false => rfl
          | true => exact absurd ⟨i, hi, hf⟩ he
theorem add_cnt (f : Nat → Bool) (m : Nat) : ∀ n : Nat, cntF (fun i => f i || decide (i = m)) n ≤ cntF f n + (if m < n then 1 else 0)
  | 0 => by simp [cntF]
  | n + 1 => by
    have := add_cnt f m n
    rw [cntF, cntF]
    by_cases e : n = m
    · subst e
      simp at this ⊢
      split <;> omega
    · simp [e]
      by_cases h1 : m < n
      · have h2 : m < n + 1 := by omega
        simp [h1, h2] at this ⊢; omega
      · have h2 : ¬ m < n + 1 := by omega
        simp [h1, h2] at this ⊢; omega
/-- some years lose so much -/
theorem gr_at : ∀ (b : Nat) (ls : List Int), ∃ f : Nat → Bool, cntF f ls.length ≤ b ∧ sumF ls f ls.length = gr b ls
  | 0, ls => ⟨fun _ => false, by rw [show cntF (fun _ => false) ls.length = 0 from ?_]; exact Nat.le_refl _; exact (by
      have : ∀ n, cntF (fun _ => false) n = 0 := fun n => by induction n with
        | zero => rfl
        | succ n ih => simp [cntF, ih]
      exact this _), none_sum _ _ _ fun _ _ => rfl⟩
  | b + 1, ls => by
    obtain ⟨f, h1, h2⟩ := gr_at b (ls.set (amx ls) 0)
    rw [List.length_set] at h1 h2
    by_cases hn : ls.length = 0
    · have hl : ls = [] := List.eq_nil_of_length_eq_zero hn
      subst hl
      refine ⟨fun _ => false, by simp [cntF], ?_⟩
      have : ∀ b, gr b [] = 0 := fun b => by induction b with
        | zero => rfl
        | succ b ih => simp [gr, ih]
      rw [this]; rfl
    · have hm := (amK_ok ls ls.length).1 (by omega)
      refine ⟨fun i => f i || decide (i = amx ls), ?_, ?_⟩
      · have := add_cnt f (amx ls) ls.length
        rw [if_pos hm] at this
        omega
      · obtain ⟨r1, r2⟩ := rm_sum ls (fun i => f i || decide (i = amx ls)) (x := amx ls) (by simp) _ hm
        rw [r1, gr, ← h2]
        congr 1
        refine sumF_same _ fun i hi => ?_
        rw [set_getD]
        by_cases e : i = amx ls
        · subst e
          simp [rmF, hm]
        · simp [rmF, e]
end Am.Mv
namespace Am.Mv
open Go Am
set_option maxRecDepth 100000
set_option maxHeartbeats 4000000
set_option linter.unusedSimpArgs false
set_option linter.unusedVariables false
variable {l : Land} {g1 g2 : Bool × Bool}
def inW (w : List Int) : Nat → Bool := fun i => decide ((i : Int) ∈ w)
theorem st_loss (hv : l.Valid) {w p ls : List Int} (hp : AreSites l p) (hl : p.length ≤ 100) (h0 : failAt l [] p = none) (hw : failAt l w p = none) (hls : ∀ i, i < p.length → ls.getD i default = (yrAt l [] p i).crop - (yrAt l [] p i).crop / 2) :
    ∀ k : Nat, k ≤ p.length → (stAt l w p k).money = (stAt l [] p k).money - sumF ls (inW w) k ∧ (stAt l w p k).so = (stAt l [] p k).so ∧ (stAt l w p k).site = (stAt l [] p k).site
  | 0, _ => ⟨by simp [stAt, sumF], rfl, rfl⟩
  | k + 1, hk => by
    obtain ⟨m1, m2, m3⟩ := st_loss hv hp hl h0 hw hls k (by omega)
    obtain ⟨a1, _⟩ := (money_next hv (ws := w) hp hl p.length (Nat.le_refl _) (failAt_none.1 hw)).2.2 k hk
    obtain ⟨b1, _⟩ := (money_next hv (ws := []) hp hl p.length (Nat.le_refl _) (failAt_none.1 h0)).2.2 k hk
    obtain ⟨q0, q1⟩ := plan_at hp (k := k) hk
    have c : (yrAt l w p k).cost = (yrAt l [] p k).cost := by
      show costOf _ _ (stAt l w p k).site _ = costOf _ _ (stAt l [] p k).site _
      rw [m3]
    obtain ⟨d1, d2, d3, d4⟩ := crop_val hv ((stAt l [] p k).so.taken (p.getD k default)) q0 q1
    have e0 : (yrAt l [] p k).crop = cropOf (atI l.sites (p.getD k default)) ((stAt l [] p k).so.taken (p.getD k default)) := by
      rw [← d4]; rfl
    have e1 : (yrAt l w p k).crop = cropB (atI l.sites (p.getD k default)) ((stAt l [] p k).so.taken (p.getD k default)) (decide ((k : Int) ∈ w)) := by
      rw [← m2]; rfl
    have e2 : (yrAt l w p k).crop = (yrAt l [] p k).crop - if inW w k = true then ls.getD k default else 0 := by
      rw [hls k hk, e1]
      unfold inW
      by_cases h : (k : Int) ∈ w
      · rw [decide_eq_true h, d3, e0, if_pos rfl]; omega
      · rw [decide_eq_false h, d4, e0, if_neg (by decide)]; omega
    refine ⟨by rw [a1, b1, m1, c, e2, sumF]; omega, ?_, rfl⟩
    show (stAt l w p k).so.after _ _ = (stAt l [] p k).so.after _ _
    rw [m2]
theorem cnt_in : ∀ (w : List Int) (n : Nat), cntF (inW w) n ≤ w.length
  | [], n => by
    have : ∀ n, cntF (inW []) n = 0 := fun n => by induction n with
      | zero => rfl
      | succ n ih => simp [cntF, ih, inW]
    rw [this]; exact Nat.zero_le _
  | x :: t, n => by
    have h := cnt_in t n
    by_cases hx : 0 ≤ x
    · have e : cntF (inW (x :: t)) n = cntF (fun i => inW t i || decide (i = x.toNat)) n := cntF_same n fun i hi => by
        have : ((i : Int) = x) ↔ i = x.toNat := by omega
        rw [Bool.eq_iff_iff]
        simp [inW, this, or_comm]
      have := add_cnt (inW t) x.toNat n
      rw [e, List.length_cons]
      split at this <;> omega
    · have e : cntF (inW (x :: t)) n = cntF (inW t) n := cntF_same n fun i hi => by
        have : ¬ ((i : Int) = x) := by omega
        rw [Bool.eq_iff_iff]
        simp [inW, this]
      rw [e, List.length_cons]; omega
/-- the weather of some years -/
def wOf (f : Nat → Bool) (n : Nat) : List Int := ((List.range n).filter f).map fun (i : Nat) => (i : Int)
theorem wOf_in {f : Nat → Bool} {n i : Nat} (h : i < n) : inW (wOf f n) i = f i := by
  have e : ((i : Int) ∈ wOf f n) ↔ f i = true := by
    unfold wOf
    rw [List.mem_map]
    constructor
    · rintro ⟨j, hj, hji⟩
      have : j = i := by omega
      subst this
      exact (List.mem_filter.1 hj).2
    · intro hf
      exact ⟨i, List.mem_filter.2 ⟨List.mem_range.2 h, hf⟩, rfl⟩
  unfold inW
  cases hf : f i with
  | true => exact decide_eq_true (e.2 hf)
  | false => exact decide_eq_false fun h => by rw [e.1 h] at hf; cases hf
theorem wOf_len (f : Nat → Bool) : ∀ n, (wOf f n).length = cntF f n
  | 0 => rfl
  | n + 1 => by
    have := wOf_len f n
    rw [cntF, ← this]
    simp only [wOf, List.range_succ, List.filter_append, List.map_append, List.length_append, List.length_map]
    cases hf : f n <;> simp [hf]
theorem ok_filter {last : Int} (l0 : 0 ≤ last) (l4 : last ≤ 4) (f : Nat → Bool) : ∀ (k a : Nat), (a + k : Int) ≤ last + 1 → weatherOk (last + 1) ((a : Int) - 1) (((List.range' a k).filter f).map fun (i : Nat) => (i : Int)) = true
  | 0, a, _ => rfl
  | k + 1, a, h => by
    have ih := ok_filter l0 l4 f k (a + 1) (by omega)
    rw [show (((a + 1 : Nat) : Int) - 1) = (a : Int) by omega] at ih
    rw [List.range'_succ, List.filter_cons]
    split
    · rw [List.map_cons]
      exact (ok_cons l0 l4 (by omega) (by omega)).2 ⟨by omega, ih⟩
    · exact ok_mono l0 l4 (by omega) (by omega) (by omega) ih
theorem wOf_weather (hv : l.Valid) (f : Nat → Bool) (hc : (cntF f (l.last + 1).toNat : Int) ≤ l.bad) : wOf f (l.last + 1).toNat ∈ weathersL l := by
  have l0 := hv.last0
  have l4 := hv.last4
  refine wth_all hv ?_ (by rw [wOf_len]; exact hc)
  have := ok_filter l0 l4 f (l.last + 1).toNat 0 (by omega)
  rw [← List.range_eq_range'] at this
  exact this
theorem sure_loss (hv : l.Valid) {p ls : List Int} (hp : AreSites l p) (hpl : p.length = (l.last + 1).toNat) (hll : ls.length = p.length) (hpos : Pos ls) (hls : ∀ i, i < p.length → ls.getD i default = (yrAt l [] p i).crop - (yrAt l [] p i).crop / 2) (hc : (sureL l p).2.2 = true) : (sureL l p).1 = prof l p [] - gr l.bad.toNat ls := by
  have l0 := hv.last0
  have l4 := hv.last4
  have b0 := hv.bad0
  have hl : p.length ≤ 100 := by omega
  obtain ⟨y1, y2, y3, y4⟩ := (sureL_is hv hp hl).yes hc
  have h0 := y1 _ (wth_nil hv)
  have key : ∀ w ∈ weathersL l, prof l p w = prof l p [] - sumF ls (inW w) p.length := fun w hw => by
    have := (st_loss hv hp hl h0 (y1 w hw) hls p.length (Nat.le_refl _)).1
    unfold prof
    rw [this]; omega
  obtain ⟨f, f1, f2⟩ := gr_at l.bad.toNat ls
  have hwf := wOf_weather hv f (by rw [← hpl, ← hll]; omega)
  have k1 := key _ hwf
  have e1 : sumF ls (inW (wOf f (l.last + 1).toNat)) p.length = gr l.bad.toNat ls := by
    rw [← f2, hll]
    exact sumF_same _ fun i hi => by rw [wOf_in (by omega)]
  have k2 := y4 _ hwf
  have k3 := key _ y2
  have hb := (wth_is hv y2).1
  simp only [isWeather, Bool.and_eq_true, decide_eq_true_eq] at hb
  have k4 := gr_up l.bad.toNat ls (inW (sureL l p).2.1) hpos (by have := cnt_in (sureL l p).2.1 ls.length; omega)
  rw [hll] at k4
  rw [k3] at y3
  rw [k1, e1] at k2
  omega
/-- the losses of a plan's years -/
def lossL (l : Land) (p : List Int) : List Int := (List.range p.length).map fun i => (yrAt l [] p i).crop - (yrAt l [] p i).crop / 2
theorem lossL_len (p : List Int) : (lossL l p).length = p.length := by simp [lossL]
theorem lossL_at {p : List Int} {i : Nat} (h : i < p.length) : (lossL l p).getD i default = (yrAt l [] p i).crop - (yrAt l [] p i).crop / 2 := by
  unfold lossL
  rw [getD_lt _ _ _ (by simpa using h)]; simp
def Bnd (ls : List Int) : Prop := ∀ i : Nat, 0 ≤ ls.getD i default ∧ ls.getD i default ≤ 99
theorem Bnd.set {ls : List Int} (h : Bnd ls) (m : Nat) : Bnd (ls.set m 0) := fun i => by
  rw [set_getD]; split
  · exact ⟨Int.le_refl _, by decide⟩
  · exact h i
theorem gList_bnd {ls : List Int} (h : Bnd ls) : ∀ j, Bnd (gList ls j)
  | 0 => h
  | j + 1 => (gList_bnd h j).set _
theorem gTot_bnd {ls : List Int} (h : Bnd ls) : ∀ j : Nat, 0 ≤ gTot ls j ∧ gTot ls j ≤ 99 * j
  | 0 => ⟨Int.le_refl _, by simp [gTot]⟩
  | j + 1 => by
    have := gTot_bnd h j
    have := gList_bnd h j (amx (gList ls j))
    rw [gTot]; omega
theorem lossL_bnd (hv : l.Valid) {p : List Int} (hp : AreSites l p) (hl : p.length ≤ 100) (h0 : failAt l [] p = none) : Bnd (lossL l p) := fun i => by
  by_cases h : i < p.length
  · obtain ⟨_, _, _, a, b, _⟩ := (money_next hv (ws := []) hp hl p.length (Nat.le_refl _) (failAt_none.1 h0)).2.2 i h
    rw [lossL_at h]; omega
  · rw [List.getD_eq_getElem?_getD, List.getElem?_eq_none (by rw [lossL_len]; omega)]
    exact ⟨Int.le_refl _, by decide⟩
end Am.Mv
namespace Am.Mv
open Go Am
set_option maxRecDepth 100000
set_option maxHeartbeats 4000000
set_option linter.unusedSimpArgs false
set_option linter.unusedVariables false
variable {l : Land} {g1 g2 : Bool × Bool}
/-- a list that is filled from its beginning -/
def fillL (ls : List Int) (k : Nat) : List Int := ls.take k ++ List.replicate (ls.length - k) 0
theorem fillL_len (ls : List Int) {k : Nat} (h : k ≤ ls.length) : (fillL ls k).length = ls.length := by simp [fillL]; omega
theorem fillL_set {ls : List Int} {k : Nat} (h : k < ls.length) : (fillL ls k).set k (ls.getD k default) = fillL ls (k + 1) := by
  unfold fillL
  rw [take_getD h default, show ls.length - k = (ls.length - (k + 1)) + 1 by omega, List.replicate_succ]
  rw [List.set_append_right _ _ (by simp; omega)]
  have : k - (ls.take k).length = 0 := by simp; omega
  rw [this, List.set_cons_zero, List.append_assoc]
  rfl
theorem fillL_all (ls : List Int) : fillL ls ls.length = ls := by simp [fillL]
theorem amK1 (ls : List Int) : amK ls 1 = 0 := by simp [amK]
theorem MoveLoss_val {which : Int} (w0 : 0 ≤ which) (w1 : which ≤ 65535) : Val tab 7 [landV g1 g2 l, .c (.int .u16 which)] (.c (.bool true)) := by
  refine Val_X (fn := f7) rfl ?_
  by_cases hr : (thin l && decide (checkLand l = 0)) = true
  · have hr' := hr
    simp only [Bool.and_eq_true, decide_eq_true_eq] at hr'
    obtain ⟨ht, h0⟩ := hr'
    have hs := thin_small ht
    have hv := valid_of h0
    have l0 := hv.last0
    have l4 := hv.last4
    have b0 := hv.bad0
    have b1 := hv.bad1
    obtain ⟨q1, q2, q3⟩ := planN_ok hv (which.toNat % plansN l)
    have hip := isPlan_of hv q1 q2
    change AreSites l (planOf l which) at q1
    change (planOf l which).length = _ at q2
    change (planOf l which).length ≤ 100 at q3
    change isPlan l (planOf l which) = true at hip
    have P40' := @P40 l g1 g2 hv which w0 w1
    generalize planOf l which = p at *
    have hpB : p.length < Big := Nat.lt_of_le_of_lt q3 (by decide)
    have e3 : IntKind.i64.wrap (l.last + 1) = l.last + 1 := wrapB (by omega) (by omega)
    obtain ⟨b, P39⟩ := V39 (l := l) (g1 := (false, false)) (g2 := (false, false)) (g3 := (false, false)) (plan := p) hs.fits hpB
    have hnilw : isWeather l [] (l.last + 1) = true := by simp [isWeather, weatherOk, b0]
    have P18' : ∀ {Q : V → Prop}, CallP tab 18 [landV (false, false) (false, false) l, .c (L (false, false) p), .c .nils] Q ↔ Q (playR l p []) := by
      intro Q
      exact P18 (l := l) (g1 := (false, false)) (g2 := (false, false)) (g3 := (false, false)) (g4 := (true, true)) (plan := p) (ws := []) hs.fits hpB (by decide)
    have hP20 := fun {Q : V → Prop} => P20 (g := (false, false)) (show p.length ≤ 1000 by omega) (Q := Q)
    cases hd : (sureL l p).2.2 with
    | false =>
      cases hf0 : failAt l [] p with
      | some k =>
        have hpn : playR l p [] = .tup [.c .nils, .c (.int .i64 9)] := by simp only [playR, h0, hip, e3, hnilw, hf0, if_true]
        rw [hpn] at P18'
        simp only [go_sem, f7, P37s, hr, ht, P17, P40', P19 hs, hP20, P39, SureR, h0, hip, hd, P18']
      | none =>
        have hpn : playR l p [] = .tup [.c (L (false, false) ((List.range p.length).map (yrAt l [] p))), .c (.int .i64 0)] := by simp only [playR, h0, hip, e3, hnilw, hf0, if_true]
        rw [hpn] at P18'
        simp only [go_sem, f7, P37s, hr, ht, P17, P40', P19 hs, hP20, P39, SureR, h0, hip, hd, P18']
    | true =>
      have hf0 := ((sureL_is hv q1 q3).yes hd).1 _ (wth_nil hv)
      have hpn : playR l p [] = .tup [.c (L (false, false) ((List.range p.length).map (yrAt l [] p))), .c (.int .i64 0)] := by simp only [playR, h0, hip, e3, hnilw, hf0, if_true]
      rw [hpn] at P18'
      have hbd := lossL_bnd hv q1 q3 hf0
      have hsl := sure_loss hv q1 q2 (lossL_len p) (fun i => (hbd i).1) (fun i hi => lossL_at hi) hd
      obtain ⟨d1, d2, d3⟩ := prof_val hv q1 q3 hf0
      have hyl := yr_last hv (w := []) q2
      have hyk := @yr_getD l [] p
      have hyn : ((List.range p.length).map (yrAt l [] p)).length = p.length := by simp
      have hcr : ∀ k, k < p.length → 0 ≤ (yrAt l [] p k).crop ∧ (yrAt l [] p k).crop ≤ 99 := fun k hk => by
        obtain ⟨_, _, _, a, b, _⟩ := (money_next hv (ws := []) q1 q3 p.length (Nat.le_refl _) (failAt_none.1 hf0)).2.2 k hk
        exact ⟨a, b⟩
      have hla := fun k hk => lossL_at (l := l) (p := p) (i := k) hk
      have hll := lossL_len (l := l) p
      generalize (List.range p.length).map (yrAt l [] p) = ys at *
      generalize lossL l p = ls at *
      have hyn' : (ys.length : Int) = l.last + 1 := by omega
      have hyp : (p.length : Int) = l.last + 1 := by omega
      have hb8 : (l.last + 1) * 8 ≤ 2 ^ 40 := by omega
      have hp0 : 0 ≤ l.last + 1 := by omega
      have hpN := q2.symm
      have hrow : List.replicate p.length [D.int .i64 0] = (List.replicate p.length (0 : Int)).map Row.row := by rw [List.map_replicate]; rfl
      simp only [go_sem, f7, P37s, hr, ht, P17, P40', P19 hs, hP20, P39, SureR, h0, hip, hd, P18', e3, hyn, hyp, hb8, hp0, hpN, hrow]
      refine RX_for p.length (fun k => [(12, .c (.int .i64 k))]) (fun k => [.cells [.int .i64 l.last, .int .i64 l.home, .int .i64 l.purse, .int .i64 l.bad, .int .i64 l.rest, L g1 l.sites, L g2 l.roads], .arr false 0 1 ((fillL ls k).map Row.row)]) (fun _ => True) trivial (by simp only [go_sem, fillL, hll, List.take_zero, Nat.sub_zero, List.nil_append] <;> rfl) ?_
      intro k hk _
      by_cases h1 : k < p.length
      · have h2 : (k : Int) < l.last + 1 := by omega
        have hyk' := hyk h1
        obtain ⟨c0, c1⟩ := hcr k h1
        have c2 : (yrAt l [] p k).crop.tdiv 2 = (yrAt l [] p k).crop / 2 := by rw [Int.tdiv_eq_ediv_of_nonneg c0]
        have c3 : IntKind.i64.wrap ((yrAt l [] p k).crop / 2) = (yrAt l [] p k).crop / 2 := wrapB (by omega) (by omega)
        have c4 : IntKind.i64.wrap ((yrAt l [] p k).crop - (yrAt l [] p k).crop / 2) = ls.getD k default := by rw [hla k h1]; exact wrapB (by omega) (by omega)
        have c5 : k < (fillL ls k).length := by rw [fillL_len _ (by omega)]; omega
        have c6 := fillL_set (ls := ls) (k := k) (by omega)
        have c7 := fillL_len ls (k := k) (by omega)
        simp only [go_sem, h1, h2, hyn, hyn', hyk', c2, c3, c4, nth_row c5, setNth_map, c6, wrap_succ h1 hpB, atI_nat]
      · have : k = p.length := by omega
        subst this
        have hfa : fillL ls p.length = ls := by rw [← hll]; exact fillL_all ls
        have hlt : l.last < (p.length : Int) := by omega
        simp only [go_sem, h1, hyn, hfa, hyl, d1, l0, hlt]
        have hg := gTot_gr ls l.bad.toNat
        refine RX_for l.bad.toNat (fun j => [(13, .c (.int .i64 (prof l p [] - gTot ls j))), (14, .c (.int .i64 j))]) (fun j => [.cells [.int .i64 l.last, .int .i64 l.home, .int .i64 l.purse, .int .i64 l.bad, .int .i64 l.rest, L g1 l.sites, L g2 l.roads], .arr false 0 1 ((gList ls j).map Row.row)]) (fun _ => True) trivial (by simp only [go_sem, gTot, gList, Int.sub_zero] <;> rfl) ?_
        intro j hj _
        by_cases j1 : j < l.bad.toNat
        · have j2 : (j : Int) < l.bad := by omega
          have gl := gList_len ls j
          simp only [go_sem, j2]
          refine RX_for (p.length - 1) (fun k => [(15, .c (.int .i64 (amK (gList ls j) (k + 1)))), (16, .c (.int .i64 ((k + 1 : Nat) : Int)))]) (fun k => [.cells [.int .i64 l.last, .int .i64 l.home, .int .i64 l.purse, .int .i64 l.bad, .int .i64 l.rest, L g1 l.sites, L g2 l.roads], .arr false 0 1 ((gList ls j).map Row.row)]) (fun _ => True) trivial (by simp only [go_sem, amK1] <;> rfl) ?_
          intro k hk _
          have a1 := (amK_ok (gList ls j) (k + 1)).1 (by omega)
          by_cases k1 : k < p.length - 1
          · have k2 : k + 1 < p.length := by omega
            have k3 : k + 1 < (gList ls j).length := by omega
            have k4 : amK (gList ls j) (k + 1) < (gList ls j).length := by omega
            have k5 : amK (gList ls j) (k + 1) < p.length := by omega
            simp only [go_sem, k1, k2, k5, nth_row k3, nth_row k4, gl, hll]
            have hwk : IntKind.i64.wrap (((k + 1 : Nat) : Int) + 1) = ((k + 2 : Nat) : Int) := wrap_succ (n := 2000) (by omega) (by decide)
            refine ⟨fun h => ⟨?_, hwk⟩, fun h => ⟨?_, hwk⟩⟩
            · show k + 1 = if _ then _ else _
              rw [if_pos (by omega)]
            · show amK (gList ls j) (k + 1) = if _ then _ else _
              rw [if_neg (by omega)]
          · have k2 : ¬ k + 1 < p.length := by omega
            have k6 : k + 1 = p.length := by omega
            have k4 : amK (gList ls j) p.length < (gList ls j).length := by rw [← k6]; omega
            have k5 : amK (gList ls j) p.length < p.length := by omega
            have g1' : gTot ls (j + 1) = gTot ls j + (gList ls j).getD (amK (gList ls j) p.length) default := by rw [gTot, amx, gl, hll]
            have g2' : gList ls (j + 1) = (gList ls j).set (amK (gList ls j) p.length) 0 := by rw [gList, amx, gl, hll]
            have t0 := gTot_bnd hbd j
            have t1 := gList_bnd hbd j (amK (gList ls j) p.length)
            have hwd : IntKind.i64.wrap (prof l p [] - gTot ls j - (gList ls j).getD (amK (gList ls j) p.length) default) = prof l p [] - gTot ls (j + 1) := by rw [g1', wrapB (by omega) (by omega)]; omega
            have hwj : IntKind.i64.wrap ((j : Int) + 1) = ((j + 1 : Nat) : Int) := wrap_succ (n := 2000) (by omega) (by decide)
            simp only [go_sem, k1, Nat.lt_irrefl, k6, k5, j1, nth_row k4, gl, hll, hwd, hwj, setNth_map, g2']
        · have : j = l.bad.toNat := by omega
          subst this
          have j2 : ¬ ((l.bad.toNat : Nat) : Int) < l.bad := by omega
          simp only [go_sem, j2, j1, hg, hsl, P17]
  · simp only [go_sem, f7, P37s, hr, P17]
end Am.Mv
