/-
  A part of the proof: the texts M37, M38, M39, M40 of this seat, joined.
-/
import Derived.Test.YtgaifkhngaopgaaWalkK
import Derived.Test.YtgaifkhngaopgaaWalkH
namespace Am.Mv
open Go Am
set_option maxRecDepth 100000
set_option maxHeartbeats 4000000
set_option linter.unusedSimpArgs false
set_option linter.unusedVariables false
variable {l : Land} {g1 g2 : Bool × Bool}
abbrev withB (l : Land) (p b : Int) : Land := ⟨l.last, l.home, p, b, l.rest, l.sites, l.roads⟩
theorem check_with {p b : Int} (h : checkLand l = 0) (h0 : 0 ≤ p) (h1 : p ≤ 999) (h2 : 0 ≤ b) (h3 : b ≤ l.last + 1) : checkLand (withB l p b) = 0 := by
  have hv := valid_of h
  have l0 := hv.last0
  have l4 := hv.last4
  have hw : IntKind.i64.wrap (l.last + 1) = l.last + 1 := wrapB (by omega) (by omega)
  have e1 : inR p 0 999 = true := by rw [inR_iff]; omega
  have e2 : inR b 0 (l.last + 1) = true := by rw [inR_iff]; omega
  unfold checkLand at h
  repeat' (split at h; first | (exfalso; omega) | skip)
  rename_i a1 a2 a3 a4 a5 a6 a7 a8 a9 a10
  simp only [checkLand, withB, hw, e1, e2, a1, a2, a3, a4, a5, a8, a9, a10, if_false, if_true, Bool.true_eq_false]
theorem nextS_with (p b : Int) (s : S) (k : Int) (c : Bool) : nextS (withB l p b) s k c = nextS l s k c := rfl
theorem from_with (p b : Int) : ∀ (n : Nat) (s : S) (c : Int), fromF (withB l p b) n s c = fromF l n s c
  | 0, s, c => rfl
  | n + 1, s, c => by
    have e : fromF (withB l p b) n = fromF l n := by funext s c; exact from_with p b n s c
    simp only [fromF, e]
    rfl
abbrev S.plus (s : S) (d : Int) : S := ⟨s.year, s.site, s.money + d, s.so⟩
theorem nextS_plus (hv : l.Valid) {s : S} {k : Int} {c : Bool} {d : Int} (d0 : 0 ≤ d) (d1 : d ≤ 10000) (s0 : 0 ≤ s.site) (s1 : s.site < l.sites.length) (k0 : 0 ≤ k) (k1 : k < l.sites.length) (m0 : 0 ≤ s.money) (m1 : s.money ≤ 100000) (hc : costOf l.sites l.roads s.site k ≤ s.money) :
    nextS l (s.plus d) k c = (nextS l s k c).plus d ∧ 0 ≤ (nextS l s k c).money ∧ (nextS l s k c).money ≤ s.money + 99 := by
  obtain ⟨c1, c2, c3, c4, c5⟩ := cost_val hv s0 s1 k0 k1
  obtain ⟨e0, e1⟩ := cropB_val hv (s.so.taken k) c k0 k1
  have m : (nextS l s k c).money = s.money - costOf l.sites l.roads s.site k + cropB (atI l.sites k) (s.so.taken k) c := by
    show IntKind.i64.wrap (IntKind.i64.wrap (s.money - costOf l.sites l.roads s.site k) + cropB (atI l.sites k) (s.so.taken k) c) = _
    rw [wrapB (n := s.money - costOf l.sites l.roads s.site k) (by omega) (by omega), wrapB (by omega) (by omega)]
  have m' : (nextS l (s.plus d) k c).money = s.money + d - costOf l.sites l.roads s.site k + cropB (atI l.sites k) (s.so.taken k) c := by
    show IntKind.i64.wrap (IntKind.i64.wrap (s.money + d - costOf l.sites l.roads s.site k) + cropB (atI l.sites k) (s.so.taken k) c) = _
    rw [wrapB (n := s.money + d - costOf l.sites l.roads s.site k) (by omega) (by omega), wrapB (by omega) (by omega)]
  refine ⟨?_, by rw [m]; omega, by rw [m]; omega⟩
  have : (nextS l (s.plus d) k c).money = (nextS l s k c).money + d := by rw [m, m']; omega
  show (⟨_, _, (nextS l (s.plus d) k c).money, _⟩ : S) = ⟨_, _, (nextS l s k c).money + d, _⟩
  rw [this]
  rfl
/-- with more money no less is sure -/
theorem from_plus (hv : l.Valid) {d : Int} (d0 : 0 ≤ d) (d1 : d ≤ 10000) : ∀ (n : Nat) (s : S) (b : Int), 0 ≤ s.site → s.site < l.sites.length → 0 ≤ s.money → s.money + 99 * n ≤ 100000 → (fromF l n s b).2.2 = true → (fromF l n (s.plus d) b).2.2 = true ∧ (fromF l n s b).2.1 + d ≤ (fromF l n (s.plus d) b).2.1
  | 0, s, b, s0, s1, m0, m1, h => ⟨rfl, Int.le_refl _⟩
  | n + 1, s, b, s0, s1, m0, m1, h => by
    obtain ⟨k, hk, ⟨c1, c2, c3⟩, _, e⟩ := (from_ok2 (l := l) n s b).yes h
    have hN := fun c => nextS_plus hv (c := c) (k := (k : Int)) d0 d1 s0 s1 (by omega) (by omega) m0 (by omega) c1
    obtain ⟨f1, f2, f3⟩ := hN false
    obtain ⟨t1, t2, t3⟩ := hN true
    obtain ⟨i1, i2⟩ := from_plus hv d0 d1 n (nextS l s k false) b (show 0 ≤ (k : Int) by omega) (show (k : Int) < _ by omega) f2 (by omega) c2
    have i3 := fun hb => from_plus hv d0 d1 n (nextS l s k true) (b - 1) (show 0 ≤ (k : Int) by omega) (show (k : Int) < _ by omega) t2 (by omega) (c3 hb)
    rw [← f1] at i1 i2
    rw [← t1] at i3
    have hcand : CandIs l n (s.plus d) b (k : Int) := ⟨show costOf l.sites l.roads s.site k ≤ s.money + d by omega, i1, fun hb => (i3 hb).1⟩
    obtain ⟨j1, j2⟩ := (from_ok2 (l := l) n (s.plus d) b).most k hk hcand
    refine ⟨j1, Int.le_trans ?_ j2⟩
    rw [e]
    unfold candV
    by_cases hb : 0 < b
    · rw [if_pos hb, if_pos hb]
      have := (i3 hb).2
      omega
    · rw [if_neg hb, if_neg hb]
      exact i2
end Am.Mv
namespace Am.Mv
open Go Am
set_option maxRecDepth 100000
set_option maxHeartbeats 4000000
set_option linter.unusedSimpArgs false
set_option linter.unusedVariables false
variable {l : Land} {g1 g2 : Bool × Bool}
theorem stAt_bad (b : Int) (w p : List Int) : ∀ k, stAt (withB l l.purse b) w p k = stAt l w p k
  | 0 => rfl
  | k + 1 => by
    show nextS (withB l l.purse b) (stAt (withB l l.purse b) w p k) _ _ = nextS l (stAt l w p k) _ _
    rw [stAt_bad b w p k]; rfl
theorem fail_bad2 (b : Int) (w p : List Int) : failAt (withB l l.purse b) w p = failAt l w p := by
  have : canAt (withB l l.purse b) w p = canAt l w p := by
    funext k
    unfold canAt
    rw [stAt_bad b w p k]
  unfold failAt
  rw [this]
theorem stAt_plus (hv : l.Valid) {d b : Int} (d0 : 0 ≤ d) (d1 : d ≤ 10000) {w p : List Int} (hp : AreSites l p) (hl : p.length ≤ 100) : ∀ k : Nat, k ≤ p.length → (∀ i, i < k → canAt l w p i = true) → stAt (withB l (l.purse + d) b) w p k = (stAt l w p k).plus d
  | 0, _, _ => rfl
  | k + 1, hk, hc => by
    obtain ⟨m0, m1, _⟩ := money_next hv (ws := w) hp hl k (by omega) (fun i hi => hc i (by omega))
    have p1 := hv.purse1
    obtain ⟨s0, s1⟩ := stAt_site hv (bad := w) hp k (by omega)
    obtain ⟨q0, q1⟩ := plan_at hp (k := k) (by omega)
    show nextS (withB l (l.purse + d) b) (stAt (withB l (l.purse + d) b) w p k) _ _ = (nextS l (stAt l w p k) _ _).plus d
    rw [stAt_plus hv d0 d1 hp hl k (by omega) (fun i hi => hc i (by omega)), nextS_with]
    exact (nextS_plus hv d0 d1 s0 s1 q0 q1 m0 (by omega) (of_decide_eq_true (hc k (by omega)))).1
theorem fail_plus (hv : l.Valid) {d b : Int} (d0 : 0 ≤ d) (d1 : d ≤ 10000) {w p : List Int} (hp : AreSites l p) (hl : p.length ≤ 100) (hf : failAt l w p = none) : failAt (withB l (l.purse + d) b) w p = none ∧ prof (withB l (l.purse + d) b) p w = prof l p w := by
  have hc := failAt_none.1 hf
  refine ⟨failAt_none.2 fun i hi => ?_, ?_⟩
  · have := hc i hi
    unfold canAt at this ⊢
    rw [stAt_plus hv d0 d1 hp hl i (by omega) (fun j hj => hc j (by omega))]
    have h2 := of_decide_eq_true this
    exact decide_eq_true (show costOf l.sites l.roads (stAt l w p i).site (p.getD i default) ≤ (stAt l w p i).money + d by omega)
  · unfold prof
    rw [stAt_plus hv d0 d1 hp hl p.length (Nat.le_refl _) hc]
    show (stAt l w p p.length).money + d - (l.purse + d) = _
    omega
/-- with a greater Purse an affordable plan is as sure -/
theorem sure_plus (hv : l.Valid) {d : Int} (d0 : 0 ≤ d) (d1 : d ≤ 10000) (hr : (withB l (l.purse + d) l.bad).Valid) {p : List Int} (hp : AreSites l p) (hl : p.length ≤ 100) (hc : (sureL l p).2.2 = true) : sureL (withB l (l.purse + d) l.bad) p = sureL l p := by
  obtain ⟨h1, h2, h3, h4⟩ := (sureL_is hv hp hl).yes hc
  have hw : weathersL (withB l (l.purse + d) l.bad) = weathersL l := rfl
  have hI : IsSure (withB l (l.purse + d) l.bad) p (sureL l p) := by
    refine ⟨fun h => (by rw [hc] at h; cases h), fun _ => ?_⟩
    rw [hw]
    refine ⟨fun w hw => (fail_plus hv d0 d1 hp hl (h1 w hw)).1, h2, by rw [(fail_plus hv d0 d1 hp hl (h1 _ h2)).2]; exact h3, fun w hw => ?_⟩
    rw [(fail_plus hv d0 d1 hp hl (h1 w hw)).2]
    exact h4 w hw
  have hp' : AreSites (withB l (l.purse + d) l.bad) p := hp
  exact ((hI.same hr (sureL_is hr hp' hl)).2 hc).symm
/-- with a greater Bad no plan is surer -/
theorem sure_bad (hv : l.Valid) {b : Int} (hr : (withB l l.purse b).Valid) (hb : l.bad ≤ b) {p : List Int} (hp : AreSites l p) (hl : p.length ≤ 100) (hc : (sureL (withB l l.purse b) p).2.2 = true) : (sureL l p).2.2 = true ∧ (sureL (withB l l.purse b) p).1 ≤ (sureL l p).1 := by
  have hp' : AreSites (withB l l.purse b) p := hp
  obtain ⟨h1, h2, h3, h4⟩ := (sureL_is hr hp' hl).yes hc
  have hsub : ∀ w ∈ weathersL l, w ∈ weathersL (withB l l.purse b) := fun w hw => by
    have := (wth_is hv hw).1
    simp only [isWeather, Bool.and_eq_true, decide_eq_true_eq] at this
    exact wth_all hr this.2 (show (w.length : Int) ≤ b by omega)
  cases hl2 : (sureL l p).2.2 with
  | false =>
    obtain ⟨w, w1, w2⟩ := (sureL_is hv hp hl).no hl2
    have := h1 w (hsub w w1)
    rw [fail_bad2] at this
    exact absurd this w2
  | true =>
    obtain ⟨y1, y2, y3, y4⟩ := (sureL_is hv hp hl).yes hl2
    refine ⟨rfl, ?_⟩
    have := h4 _ (hsub _ y2)
    have e : prof (withB l l.purse b) p (sureL l p).2.1 = prof l p (sureL l p).2.1 := by unfold prof; rw [stAt_bad]
    rw [e] at this
    rw [y3]
    rcases this with h | h <;> omega
/-- the best of one land is no better than that of another one -/
theorem best_le {l r : Land} (hv : l.Valid) (hpl : plansL r (-1) = plansL l (-1)) (h : ∀ p, AreSites l p → p.length ≤ 100 → (sureL l p).2.2 = true → (sureL r p).2.2 = true ∧ (sureL l p).1 ≤ (sureL r p).1) (hc : (bestL l (-1)).2.2 = true) : (bestL r (-1)).2.2 = true ∧ (bestL l (-1)).2.1 ≤ (bestL r (-1)).2.1 := by
  obtain ⟨z1, z2, _, _⟩ := (best_is l (-1)).yes hc
  have hm := best_mem hc
  obtain ⟨q1, q2, q3, _⟩ := plans_mem hv hm
  obtain ⟨h1, h2⟩ := h _ q1 q3 z1
  rw [← hpl] at hm
  cases hr : (bestL r (-1)).2.2 with
  | false => have := ((best_is r (-1)).no hr).2 _ hm; rw [h1] at this; cases this
  | true =>
    refine ⟨rfl, ?_⟩
    have := ((best_is r (-1)).yes hr).2.2.1 _ hm h1
    omega
theorem seen_plus (hv : l.Valid) {d : Int} (d0 : 0 ≤ d) (d1 : d ≤ 10000) (hr : (withB l (l.purse + d) l.bad).Valid) (hc : (goA l [] []).2.2 = true) : (goA (withB l (l.purse + d) l.bad) [] []).2.2 = true ∧ (goA l [] []).2.1 + d ≤ (goA (withB l (l.purse + d) l.bad) [] []).2.1 := by
  have p0 := hv.purse0
  have p1 := hv.purse1
  have l4 := hv.last4
  rw [goA_start hv] at hc ⊢
  rw [goA_start hr, from_with]
  have h99 : l.purse + 99 * (((l.last + 1).toNat : Nat) : Int) ≤ 100000 := by omega
  exact from_plus hv d0 d1 (l.last + 1).toNat (startS l) l.bad hv.home0 hv.home1 p0 h99 hc
theorem seen_bad (hv : l.Valid) {b : Int} (hr : (withB l l.purse b).Valid) (hb : l.bad ≤ b) (hc : (goA (withB l l.purse b) [] []).2.2 = true) : (goA l [] []).2.2 = true ∧ (goA (withB l l.purse b) [] []).2.1 ≤ (goA l [] []).2.1 := by
  rw [goA_start hr, from_with] at hc ⊢
  rw [goA_start hv]
  exact from_less l _ (startS l) _ _ hv.bad0 hb hc
end Am.Mv
namespace Am.Mv
open Go Am
set_option maxRecDepth 100000
set_option maxHeartbeats 4000000
set_option linter.unusedSimpArgs false
set_option linter.unusedVariables false
variable {l : Land} {g1 g2 : Bool × Bool}
/-- every plan has a number -/
theorem dig_sur {S : Nat} (h : 0 < S) : ∀ p : List Int, (∀ x ∈ p, 0 ≤ x ∧ x < (S : Int)) → ∃ m, m < S ^ p.length ∧ dig S p.length m = p
  | [], _ => ⟨0, by simp, rfl⟩
  | x :: p, hp => by
    obtain ⟨m, h1, h2⟩ := dig_sur h p (fun y hy => hp y (List.mem_cons_of_mem _ hy))
    have hx := hp x List.mem_cons_self
    refine ⟨x.toNat * S ^ p.length + m, ?_, ?_⟩
    · rw [List.length_cons, Nat.pow_succ, Nat.mul_comm (S ^ p.length) S]
      have : (x.toNat + 1) * S ^ p.length ≤ S * S ^ p.length := Nat.mul_le_mul_right _ (by omega)
      rw [Nat.add_mul, Nat.one_mul] at this
      omega
    · rw [List.length_cons, dig_head h (by omega) h1, h2]
      congr 1
      omega
theorem plan_in (hv : l.Valid) {p : List Int} (hp : AreSites l p) (hl : p.length = (l.last + 1).toNat) : p ∈ plansL l (-1) := by
  obtain ⟨m, h1, h2⟩ := dig_sur hv.n0 p hp
  rw [plans_same hv, Wk, List.mem_filter, List.mem_map]
  refine ⟨⟨m, List.mem_range.2 (by rw [plansN, ← hl]; exact h1), by rw [planN, ← hl]; exact h2⟩, by simpa using not_neg hp⟩
/-- without bad years the search finds a plan -/
theorem path_calm (hv : l.Valid) : ∀ (n : Nat) (q : List Int), q.length + n = (l.last + 1).toNat → AreSites l q → failAt l [] q = none → (fromF l n (stAt l [] q q.length) 0).2.2 = true → ∃ p, AreSites l p ∧ p.length = (l.last + 1).toNat ∧ failAt l [] p = none ∧ (stAt l [] p p.length).money = (fromF l n (stAt l [] q q.length) 0).2.1
  | 0, q, hn, hq, hf, h => ⟨q, hq, by omega, hf, rfl⟩
  | n + 1, q, hn, hq, hf, h => by
    obtain ⟨k, hk, ⟨c1, c2, c3⟩, _, e⟩ := (from_ok2 (l := l) n _ 0).yes h
    have hsk : AreSites l (q ++ [(k : Int)]) := by
      intro x hx
      rcases List.mem_append.1 hx with h | h
      · exact hq x h
      · rw [List.mem_singleton.1 h]; omega
    have hs : stAt l [] (q ++ [(k : Int)]) (q ++ [(k : Int)]).length = nextS l (stAt l [] q q.length) k false := by rw [stAt_snoc]; rfl
    obtain ⟨p, p1, p2, p3, p4⟩ := path_calm hv n (q ++ [(k : Int)]) (by simp; omega) hsk ((fail_snoc l hf).2 c1) (by rw [hs]; exact c2)
    refine ⟨p, p1, p2, p3, ?_⟩
    rw [p4, hs, e, candV, if_neg (by decide)]
theorem sure_calm (hv : l.Valid) (hb : l.bad = 0) {p : List Int} (hp : AreSites l p) (hl : p.length ≤ 100) (hf : failAt l [] p = none) : (sureL l p).2.2 = true ∧ (sureL l p).1 = prof l p [] := by
  have hw : ∀ w ∈ weathersL l, w = [] := fun w hw => by
    have := (wth_is hv hw).1
    simp only [isWeather, Bool.and_eq_true, decide_eq_true_eq] at this
    exact List.eq_nil_of_length_eq_zero (by omega)
  cases hc : (sureL l p).2.2 with
  | false =>
    obtain ⟨w, w1, w2⟩ := (sureL_is hv hp hl).no hc
    rw [hw w w1] at w2
    exact absurd hf w2
  | true =>
    obtain ⟨_, y2, y3, _⟩ := (sureL_is hv hp hl).yes hc
    exact ⟨rfl, by rw [y3, hw _ y2]⟩
/-- with Bad 0 the seen profit is that of the best plan -/
theorem calm_same (hv : l.Valid) (hb : l.bad = 0) : (bestL l (-1)).2.2 = (goA l [] []).2.2 ∧ ((bestL l (-1)).2.2 = true → (bestL l (-1)).2.1 = (goA l [] []).2.1 - l.purse) := by
  have l0 := hv.last0
  have l4 := hv.last4
  have hseen : (bestL l (-1)).2.2 = true → (goA l [] []).2.2 = true ∧ (bestL l (-1)).2.1 + l.purse ≤ (goA l [] []).2.1 := fun hc => by
    obtain ⟨q1, q2, q3, _⟩ := plans_mem hv (best_mem hc)
    obtain ⟨z1, z2, z3, _⟩ := (best_is l (-1)).yes hc
    have := seen_sure hv q1 q2 z1
    rw [z2]; exact this
  have hback : (goA l [] []).2.2 = true → (bestL l (-1)).2.2 = true ∧ (goA l [] []).2.1 - l.purse ≤ (bestL l (-1)).2.1 := fun hg => by
    rw [goA_start hv, hb] at hg ⊢
    obtain ⟨p, p1, p2, p3, p4⟩ := path_calm hv (l.last + 1).toNat [] (by simp) (fun x hx => by cases hx) rfl hg
    obtain ⟨c1, c2⟩ := sure_calm hv hb p1 (by omega) p3
    have hm := plan_in hv p1 p2
    cases hc : (bestL l (-1)).2.2 with
    | false => have := ((best_is l (-1)).no hc).2 _ hm; rw [c1] at this; cases this
    | true =>
      refine ⟨rfl, ?_⟩
      have := ((best_is l (-1)).yes hc).2.2.1 _ hm c1
      rw [c2] at this
      have e : prof l p [] = (stAt l [] p p.length).money - l.purse := rfl
      have e2 : stAt l [] ([] : List Int) ([] : List Int).length = startS l := rfl
      rw [e2] at p4
      omega
  cases hc : (bestL l (-1)).2.2 with
  | true =>
    have h1 := hseen hc
    have h2 := hback h1.1
    exact ⟨h1.1.symm, fun _ => by omega⟩
  | false =>
    refine ⟨?_, fun h => by cases h⟩
    cases hg : (goA l [] []).2.2 with
    | false => rfl
    | true => have := (hback hg).1; rw [hc] at this; cases this
/-- a profit, or -1000 -/
def bestP (l : Land) : Int := if (bestL l (-1)).2.2 = true then (bestL l (-1)).2.1 else -1000
def seenP (l : Land) : Int := if (goA l [] []).2.2 = true then IntKind.i64.wrap ((goA l [] []).2.1 - l.purse) else -1000
theorem P43 (hs : l.Small) (h0 : checkLand l = 0) {Q : V → Prop} : CallP tab 43 [landV g1 g2 l] Q ↔ Q (.tup [.c (.int .i64 (bestP l)), .c (.int .i64 (seenP l)), .c (.bool true)]) := CallP_of (by
  refine Val_X (fn := f43) rfl ?_
  obtain ⟨b2, P27⟩ := V27 (l := l) (g1 := (false, false)) (g2 := (false, false)) hs.fits
  cases hc : (bestL l (-1)).2.2 with
  | false =>
    cases hg : (goA l [] []).2.2 with
    | false => simp only [go_sem, f43, P19 hs, P27, P33 hs.fits, BestR, SeenR, h0, hc, hg, bestP, seenP]
    | true => simp only [go_sem, f43, P19 hs, P27, P33 hs.fits, BestR, SeenR, h0, hc, hg, bestP, seenP]
  | true =>
    cases hg : (goA l [] []).2.2 with
    | false => simp only [go_sem, f43, P19 hs, P27, P33 hs.fits, BestR, SeenR, h0, hc, hg, bestP, seenP]
    | true => simp only [go_sem, f43, P19 hs, P27, P33 hs.fits, BestR, SeenR, h0, hc, hg, bestP, seenP])
end Am.Mv
namespace Am.Mv
open Go Am
set_option maxRecDepth 100000
set_option maxHeartbeats 4000000
set_option linter.unusedSimpArgs false
set_option linter.unusedVariables false
variable {l : Land} {g1 g2 : Bool × Bool}
theorem bestP_le {l r : Land} (hvr : r.Valid) (h : (bestL l (-1)).2.2 = true → (bestL r (-1)).2.2 = true ∧ (bestL l (-1)).2.1 ≤ (bestL r (-1)).2.1) : bestP l ≤ bestP r := by
  unfold bestP
  cases hc : (bestL l (-1)).2.2 with
  | true =>
    obtain ⟨h1, h2⟩ := h hc
    rw [h1]; exact h2
  | false =>
    cases hr : (bestL r (-1)).2.2 with
    | false => exact Int.le_refl _
    | true =>
      obtain ⟨q1, q2, q3, _⟩ := plans_mem hvr (best_mem hr)
      obtain ⟨z1, z2, _⟩ := (best_is r (-1)).yes hr
      have := sure_bound hvr q1 q3 z1
      simp only [Bool.false_eq_true, if_false, if_true]
      omega
theorem seen_bound (hv : l.Valid) (h : (goA l [] []).2.2 = true) : 0 ≤ (goA l [] []).2.1 ∧ (goA l [] []).2.1 ≤ 20000 := by
  have l0 := hv.last0
  have b0 := hv.bad0
  exact ((seen_same hv (sites := []) (bad := []) (by simp; omega) (fun x hx => by cases hx) (fun x hx => by cases hx) (by simpa using b0) rfl).yes h).2.2
theorem seenP_val (hv : l.Valid) : seenP l = if (goA l [] []).2.2 = true then (goA l [] []).2.1 - l.purse else -1000 := by
  have p0 := hv.purse0
  have p1 := hv.purse1
  unfold seenP
  cases h : (goA l [] []).2.2 with
  | false => rfl
  | true =>
    have := seen_bound hv h
    rw [if_pos rfl, if_pos rfl, wrapB (by omega) (by omega)]
theorem seenP_le {l r : Land} (hv : l.Valid) (hvr : r.Valid) (h : (goA l [] []).2.2 = true → (goA r [] []).2.2 = true ∧ (goA l [] []).2.1 - l.purse ≤ (goA r [] []).2.1 - r.purse) : seenP l ≤ seenP r := by
  rw [seenP_val hv, seenP_val hvr]
  cases hc : (goA l [] []).2.2 with
  | true =>
    obtain ⟨h1, h2⟩ := h hc
    rw [h1]; exact h2
  | false =>
    cases hr : (goA r [] []).2.2 with
    | false => exact Int.le_refl _
    | true =>
      have := seen_bound hvr hr
      have := hvr.purse1
      simp only [Bool.false_eq_true, if_false, if_true]
      omega
theorem MoveMore_val {which more : Int} (w0 : 0 ≤ which) (w1 : which ≤ 65535) (m0 : 0 ≤ more) (m1 : more ≤ 255) : Val tab 10 [landV g1 g2 l, .c (.int .u16 which), .c (.int .u8 more)] (.c (.bool true)) := by
  refine Val_X (fn := f10) rfl ?_
  by_cases hr : (thin l && decide (checkLand l = 0)) = true
  · have hr' := hr
    simp only [Bool.and_eq_true, decide_eq_true_eq] at hr'
    obtain ⟨ht, h0⟩ := hr'
    have hs := thin_small ht
    have hv := valid_of h0
    have l0 := hv.last0
    have l4 := hv.last4
    have p0 := hv.purse0
    have p1 := hv.purse1
    have b0 := hv.bad0
    have b1 := hv.bad1
    obtain ⟨q1, q2, q3⟩ := planN_ok hv (which.toNat % plansN l)
    have hip := isPlan_of hv q1 q2
    change AreSites l (planOf l which) at q1
    change (planOf l which).length = _ at q2
    change (planOf l which).length ≤ 100 at q3
    change isPlan l (planOf l which) = true at hip
    have P40' := @P40 l g1 g2 hv which w0 w1
    generalize planOf l which = p at *
    have hpB : p.length < Big := Nat.lt_of_le_of_lt q3 (by decide)
    have e1 : IntKind.i64.wrap more = more := wrapB (by omega) (by omega)
    have e2 : IntKind.i64.wrap (l.purse + more) = l.purse + more := wrapB (by omega) (by omega)
    have e3 : IntKind.i64.wrap (l.last + 1) = l.last + 1 := wrapB (by omega) (by omega)
    have e4 : IntKind.i64.wrap (l.bad + 1) = l.bad + 1 := wrapB (by omega) (by omega)
    obtain ⟨d, hmin, d0, d1⟩ : ∃ d, min 999 (l.purse + more) = l.purse + d ∧ 0 ≤ d ∧ l.purse + d ≤ 999 := ⟨min 999 (l.purse + more) - l.purse, by omega, by omega, by omega⟩
    obtain ⟨b9, hmin2, b2, b3⟩ : ∃ b9, min (l.last + 1) (l.bad + 1) = b9 ∧ l.bad ≤ b9 ∧ b9 ≤ l.last + 1 := ⟨_, rfl, by omega, by omega⟩
    have cr := check_with (l := l) (p := l.purse + d) (b := l.bad) h0 (by omega) (by omega) b0 b1
    have cw := check_with (l := l) (p := l.purse) (b := b9) h0 p0 p1 (by omega) (by omega)
    have cc := check_with (l := l) (p := l.purse) (b := 0) h0 p0 p1 (by omega) (by omega)
    have vr := valid_of cr
    have vw := valid_of cw
    have vc := valid_of cc
    have F1 : bestP (withB l (l.purse + d) l.bad) ≥ bestP l := bestP_le vr (best_le hv rfl fun p hp hl hc => by rw [sure_plus hv d0 (by omega) vr hp hl hc]; exact ⟨hc, Int.le_refl _⟩)
    have F2 : seenP (withB l (l.purse + d) l.bad) ≥ seenP l := seenP_le hv vr fun h => by
      obtain ⟨h1, h2⟩ := seen_plus hv d0 (by omega) vr h
      exact ⟨h1, show _ ≤ _ - (l.purse + d) by omega⟩
    have F3 : bestP (withB l l.purse b9) ≤ bestP l := bestP_le hv (best_le vw rfl fun p hp hl hc => sure_bad hv vw b2 hp hl hc)
    have F4 : seenP (withB l l.purse b9) ≤ seenP l := seenP_le vw hv fun h => by
      obtain ⟨h1, h2⟩ := seen_bad hv vw b2 h
      exact ⟨h1, show _ - l.purse ≤ _ by omega⟩
    have F5 : bestP (withB l l.purse 0) = seenP (withB l l.purse 0) := by
      obtain ⟨h1, h2⟩ := calm_same vc rfl
      rw [seenP_val vc]
      unfold bestP
      rw [← h1]
      cases hc : (bestL (withB l l.purse 0) (-1)).2.2 with
      | true => rw [if_pos rfl, if_pos rfl]; exact h2 hc
      | false => rfl
    have F6 : seenP (withB l l.purse 0) ≥ bestP l := by
      rw [← F5]
      have vl : (withB (withB l l.purse 0) (withB l l.purse 0).purse l.bad).Valid := hv
      exact bestP_le (l := l) vc (best_le (l := l) hv rfl fun p hp hl hc => sure_bad (l := withB l l.purse 0) vc vl b0 hp hl hc)
    have sm : ∀ x y, (withB l x y).Small := fun x y => ⟨hs.sites, hs.roads, hs.road⟩
    have R43 := fun {Q : V → Prop} => P43 (g1 := g1) (g2 := g2) (sm _ _) cr (Q := Q)
    have W43 := fun {Q : V → Prop} => P43 (g1 := g1) (g2 := g2) (sm _ _) cw (Q := Q)
    have C43 := fun {Q : V → Prop} => P43 (g1 := g1) (g2 := g2) (sm _ _) cc (Q := Q)
    have R19 := fun {Q : V → Prop} => P19 (g1 := g1) (g2 := g2) (sm (l.purse + d) l.bad) (Q := Q)
    obtain ⟨b, P39⟩ := V39 (l := l) (g1 := (false, false)) (g2 := (false, false)) (g3 := (false, false)) (plan := p) hs.fits hpB
    obtain ⟨b', R39⟩ := V39 (l := withB l (l.purse + d) l.bad) (g1 := (false, false)) (g2 := (false, false)) (g3 := (false, false)) (plan := p) (sm _ _).fits hpB
    have hipr : isPlan (withB l (l.purse + d) l.bad) p = true := hip
    cases hd : (sureL l p).2.2 with
    | false =>
      cases hd2 : (sureL (withB l (l.purse + d) l.bad) p).2.2 with
      | false => simp (config := { maxSteps := 5000000 }) only [go_sem, f10, P37s, hr, ht, P17, P40', e1, e2, e3, e4, hmin, hmin2, P43 hs h0, R43, W43, C43, P19 hs, R19, P20 (show p.length ≤ 1000 by omega), P39, R39, SureR, h0, cr, hip, hipr, hd, hd2, F1, F2, F3, F4, F5, F6]
      | true => simp (config := { maxSteps := 5000000 }) only [go_sem, f10, P37s, hr, ht, P17, P40', e1, e2, e3, e4, hmin, hmin2, P43 hs h0, R43, W43, C43, P19 hs, R19, P20 (show p.length ≤ 1000 by omega), P39, R39, SureR, h0, cr, hip, hipr, hd, hd2, F1, F2, F3, F4, F5, F6]
    | true =>
      have hse := sure_plus hv d0 (by omega) vr q1 q3 hd
      have hd2 : (sureL (withB l (l.purse + d) l.bad) p).2.2 = true := by rw [hse]; exact hd
      have hd3 : (sureL (withB l (l.purse + d) l.bad) p).1 = (sureL l p).1 := by rw [hse]
      simp (config := { maxSteps := 5000000 }) only [go_sem, f10, P37s, hr, ht, P17, P40', e1, e2, e3, e4, hmin, hmin2, P43 hs h0, R43, W43, C43, P19 hs, R19, P20 (show p.length ≤ 1000 by omega), P39, R39, SureR, h0, cr, hip, hipr, hd, hd2, F1, F2, F3, F4, F5, F6, hd3]
  · simp only [go_sem, f10, P37s, hr, P17]
end Am.Mv
