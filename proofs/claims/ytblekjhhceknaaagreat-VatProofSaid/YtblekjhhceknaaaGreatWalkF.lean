/-
  A part of the proof: the texts W9, W10, W11, W12 of this seat, joined.
-/
import Derived.Test.YtblekjhhceknaaaGreatWalkE
namespace Am.Vt
open Go Am
set_option maxRecDepth 100000
set_option maxHeartbeats 4000000
set_option linter.unusedSimpArgs false
set_option linter.unusedVariables false
variable {g1 g2 g3 g4 gt ga gb : Bool × Bool} {v : Vat} {t : Truth}
/-- does a proof show something, for the reference? -/
def refShows (v : Vat) (p : Prf) : Bool := ((inR p.over (-1) v.last && inR p.under (-1) v.last) && !(decide (p.over < 0) && decide (p.under < 0))) && (isTruthB v p.most && (isTruthB v p.least && showsB v p))
theorem isTruth_isT (h : isTruthB v t = true) : IsT v t := by
  simp only [isTruthB, Bool.and_eq_true] at h
  exact listed_iff.1 h.1
end Am.Vt

namespace Am.Vt
open Go Am
set_option maxRecDepth 100000
set_option maxHeartbeats 4000000
set_option linter.unusedSimpArgs false
set_option linter.unusedVariables false
variable {g1 g2 g3 g4 gt ga gb : Bool × Bool} {v : Vat} {t : Truth}
end Am.Vt

namespace Am.Vt
open Go Am
set_option maxRecDepth 100000
set_option maxHeartbeats 4000000
set_option linter.unusedSimpArgs false
set_option linter.unusedVariables false
variable {g1 g2 g3 g4 gt ga gb : Bool × Bool} {v : Vat} {t : Truth}
/-- all that was reached is in the rooms, and follows from what was reached before -/
structure ReachOk (room : Nat → Rg) (d : Nat) (now : Rg) (l : List Rg) : Prop where
  le : ∀ i, i < l.length → (l.getD i default).lo ≤ (l.getD i default).hi
  rm : ∀ i, i < l.length → (room (d + i)).lo ≤ (l.getD i default).lo ∧ (l.getD i default).hi ≤ (room (d + i)).hi
  st : ∀ i, i < l.length → (l.getD i default) = nextR (room (d + i)) (if i = 0 then now else l.getD (i - 1) default)
theorem reachF_ok {room : Nat → Rg} : ∀ {n d : Nat} {now : Rg}, ReachOk room d now (reachF room n d now)
  | 0, d, now => ⟨fun i h => by simp [reachF] at h, fun i h => by simp [reachF] at h, fun i h => by simp [reachF] at h⟩
  | n + 1, d, now => by
    rw [reachF]
    split
    · exact ⟨fun i h => by simp at h, fun i h => by simp at h, fun i h => by simp at h⟩
    · rename_i hg
      obtain ⟨h1, h2, h3⟩ := reachF_ok (room := room) (n := n) (d := d + 1) (now := nextR (room d) now)
      refine ⟨fun i hi => ?_, fun i hi => ?_, fun i hi => ?_⟩
      · cases i with
        | zero => simp only [List.getD_cons_zero]; omega
        | succ i => simp only [List.getD_cons_succ]; exact h1 i (by simpa using hi)
      · cases i with
        | zero => simp only [List.getD_cons_zero, nextR, Nat.add_zero]; omega
        | succ i =>
          have := h2 i (by simpa using hi)
          simp only [List.getD_cons_succ]
          rwa [show d + (i + 1) = d + 1 + i by omega]
      · cases i with
        | zero => simp
        | succ i =>
          have := h3 i (by simpa using hi)
          simp only [List.getD_cons_succ, Nat.add_sub_cancel, Nat.succ_ne_zero, if_false]
          rw [this, show d + (i + 1) = d + 1 + i by omega]
          cases i with
          | zero => simp
          | succ i => simp
theorem reach_ok : ReachOk (roomI v) 0 ⟨0, 0⟩ (reachL v) := reachF_ok
/-- what was fed up to a day can be fed -/
theorem fedD_in {l : List Rg} (hl : ∀ i, i < l.length → (l.getD i default : Rg).lo ≤ (l.getD i default).hi) : ∀ {d : Nat}, d < l.length → (l.getD d default).lo ≤ fedD l d ∧ fedD l d ≤ (l.getD d default).hi := by
  intro d hd
  have h1 := hl d hd
  by_cases h : d + 1 < l.length
  · rw [fedD_step h]; omega
  · rw [fedD_last (by omega)]; omega
theorem keepI_bd {d : Nat} (hd : d < (reachL v).length) : -9 ≤ keepI (reachL v) d ∧ keepI (reachL v) d ≤ 9 := by
  have hr := reach_ok (v := v)
  have f1 := fedD_in hr.le hd
  have s1 := hr.st d hd
  unfold keepI
  cases d with
  | zero =>
    rw [if_pos rfl] at s1 ⊢
    rw [s1] at f1
    simp only [nextR] at f1
    omega
  | succ d =>
    rw [if_neg (by omega), Nat.add_sub_cancel] at s1 ⊢
    have st := fedD_step (l := reachL v) (d := d) hd
    have l0 := hr.le d (by omega)
    rw [s1] at f1
    simp only [nextR] at f1
    omega
theorem keep_sum : ∀ {d : Nat}, d ≤ (reachL v).length → sumI ((keepL v).take d) = if d = 0 then 0 else fedD (reachL v) (d - 1)
  | 0, _ => rfl
  | d + 1, h => by
    have hk : d < (keepL v).length := by rw [keepL_len]; omega
    have hg : (keepL v).getD d default = keepI (reachL v) d := by
      rw [getD_lt _ _ _ hk]; simp [keepL, keepOf]
    rw [take_getD hk default, sumI_snoc, keep_sum (by omega), hg, keepI]
    simp only [Nat.succ_ne_zero, if_false, Nat.add_sub_cancel]
    omega
theorem keep_ask : keepAsk v (keepL v) = true := by
  rw [keepAsk, Bool.and_eq_true, decide_eq_true_eq, List.all_eq_true]
  refine ⟨by rw [keepL_len]; exact reachL_len, fun x hx => ?_⟩
  simp only [keepL, keepOf, List.mem_map, List.mem_range] at hx
  obtain ⟨i, hi, rfl⟩ := hx
  rw [inR_iff]
  exact keepI_bd hi
theorem keep_keeps : keepsB v (keepL v) = true := by
  rw [keepsB, List.all_eq_true]
  intro d hd
  have hd := List.mem_range.1 hd
  rw [keepL_len] at hd
  have hr := reach_ok (v := v)
  have f1 := fedD_in hr.le hd
  have r1 := hr.rm d hd
  rw [Nat.zero_add] at r1
  rw [keep_sum (by omega), if_neg (by omega), Nat.add_sub_cancel, inR_iff]
  omega
end Am.Vt

namespace Am.Vt
open Go Am
set_option maxRecDepth 100000
set_option maxHeartbeats 4000000
set_option linter.unusedSimpArgs false
set_option linter.unusedVariables false
variable {g1 g2 g3 g4 gt ga gb : Bool × Bool} {v : Vat} {t : Truth}
theorem sum_near {l : List Int} (h9 : ∀ y ∈ l, -9 ≤ y ∧ y ≤ 9) : ∀ {a b : Nat}, a ≤ b → -(9 * ((b - a : Nat) : Int)) ≤ sumI (l.take b) - sumI (l.take a) ∧ sumI (l.take b) - sumI (l.take a) ≤ 9 * ((b - a : Nat) : Int) := by
  intro a b hab
  obtain ⟨k, rfl⟩ : ∃ k, b = a + k := ⟨b - a, by omega⟩
  rw [Nat.add_sub_cancel_left]
  induction k with
  | zero => simp
  | succ k ih =>
    have ih := ih (by omega)
    by_cases hk : a + k < l.length
    · have hst : sumI (l.take (a + k + 1)) = sumI (l.take (a + k)) + l.getD (a + k) default := by rw [take_getD hk default, sumI_snoc]
      have := h9 _ (getD_mem (d := default) hk)
      rw [show a + (k + 1) = a + k + 1 by omega, hst]
      omega
    · have e : l.take (a + (k + 1)) = l.take (a + k) := by rw [List.take_of_length_le (by omega), List.take_of_length_le (by omega)]
      rw [e]
      omega
/-- no feeding keeps the vat in order up to the greater day of a proof -/
theorem proof_feed (hv : v.Valid) {p : Prf} (hpo : p.Ok v) (hm : p.most ∈ truthsL v []) (hl : p.least ∈ truthsL v []) (hs : showsB v p = true) {l : List Int} (ha : keepAsk v l = true) (hk : keepsB v l = true) : (l.length : Int) ≤ max p.over p.under := by
  have hp : posB v [] = true := pos_mem.2 ⟨_, hm⟩
  have hx := ext_ok hv hp
  have v1 := hv.drift
  have bb := hv.band
  obtain ⟨ho, hu, _, _⟩ := hpo
  simp only [keepAsk, Bool.and_eq_true, decide_eq_true_eq, List.all_eq_true, inR_iff] at ha
  rw [keepsB, List.all_eq_true] at hk
  rw [showsB, decide_eq_true_eq] at hs
  by_cases h : (l.length : Int) ≤ max p.over p.under
  · exact h
  exfalso
  have kO : p.over ≥ 0 → bareS p.most (p.over.toNat + 1) - v.band ≤ -sumI (l.take (p.over + 1).toNat) := fun h0 => by
    have h1 := hk p.over.toNat (List.mem_range.2 (by omega))
    rw [inR_iff] at h1
    have h2 := hx.mm p.over.toNat (by omega) _ hm
    simp only [roomI] at h1
    rw [show (p.over + 1).toNat = p.over.toNat + 1 by omega]
    omega
  have kU : p.under ≥ 0 → -(v.band + bareS p.least (p.under.toNat + 1)) ≤ sumI (l.take (p.under + 1).toNat) := fun h0 => by
    have h1 := hk p.under.toNat (List.mem_range.2 (by omega))
    rw [inR_iff] at h1
    have h2 := hx.lm p.under.toNat (by omega) _ hl
    simp only [roomI] at h1
    rw [show (p.under + 1).toNat = p.under.toNat + 1 by omega]
    omega
  have zO : ¬ p.over ≥ 0 → sumI (l.take (p.over + 1).toNat) = 0 := fun h0 => by
    rw [show (p.over + 1).toNat = 0 by omega]; rfl
  have zU : ¬ p.under ≥ 0 → sumI (l.take (p.under + 1).toNat) = 0 := fun h0 => by
    rw [show (p.under + 1).toNat = 0 by omega]; rfl
  have hn : needB v p ≤ sumI (l.take (p.under + 1).toNat) - sumI (l.take (p.over + 1).toNat) := by
    unfold needB
    by_cases c1 : p.over ≥ 0
    · have := kO c1
      rw [if_pos c1]
      by_cases c2 : p.under ≥ 0
      · have := kU c2; rw [if_pos c2]; omega
      · have := zU c2; rw [if_neg c2]; omega
    · have := zO c1
      rw [if_neg c1]
      by_cases c2 : p.under ≥ 0
      · have := kU c2; rw [if_pos c2]; omega
      · have := zU c2; rw [if_neg c2]; omega
  by_cases hc : p.over ≤ p.under
  · have := sum_near ha.2 (a := (p.over + 1).toNat) (b := (p.under + 1).toNat) (by omega)
    omega
  · have := sum_near ha.2 (a := (p.under + 1).toNat) (b := (p.over + 1).toNat) (by omega)
    omega
theorem proof_reach (hv : v.Valid) {p : Prf} (hpo : p.Ok v) (hm : p.most ∈ truthsL v []) (hl : p.least ∈ truthsL v []) (hs : showsB v p = true) : ((reachL v).length : Int) ≤ max p.over p.under := by
  have := proof_feed hv hpo hm hl hs keep_ask keep_keeps
  rwa [keepL_len] at this
theorem isTruth_iff (hv : v.Valid) : isTruthB v t = true ↔ t ∈ truthsL v [] := by
  have v1 := hv.drift
  rw [mem_truths hv, isTruthB, Bool.and_eq_true, listed_iff, List.all_eq_true]
  constructor
  · rintro ⟨h1, h2⟩
    refine ⟨h1, ?_⟩
    rw [rightL, List.all_eq_true]
    intro i hi
    have hi := List.mem_range.1 hi
    rw [rightAt, Bool.or_eq_true]
    exact .inr (h2 _ (getD_mem hi))
  · rintro ⟨h1, h2⟩
    refine ⟨h1, fun k hk => ?_⟩
    rw [rightL, List.all_eq_true] at h2
    obtain ⟨i, hi, rfl⟩ := List.getElem_of_mem hk
    have := h2 i (List.mem_range.2 hi)
    rw [rightAt, Bool.or_eq_true] at this
    rcases this with h | h
    · simp at h
    · rwa [getD_lt _ _ _ hi] at h
theorem provesTruth_eq (h0 : checkVat v = 0) : provesTruth v t = isTruthB v t := by rw [provesTruth, h0]; simp [isTruthB]
end Am.Vt

