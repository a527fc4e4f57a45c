/-
  A part of the proof: the texts M41, M42 of this seat, joined.
-/
import Derived.Test.YtgaifkhngaopgaaWalkL
namespace Am.Mv
open Go Am
set_option maxRecDepth 100000
set_option maxHeartbeats 4000000
set_option linter.unusedSimpArgs false
set_option linter.unusedVariables false
variable {l : Land} {g1 g2 : Bool × Bool}
/-! roads that cost nothing -/
def zroads (n : Nat) : List (List Int) := List.replicate n (List.replicate n 0)
abbrev withR (l : Land) (h : Int) : Land := ⟨l.last, h, l.purse, l.bad, l.rest, l.sites, zroads l.sites.length⟩
theorem getD_rep {α : Type} {n i : Nat} {a d : α} : (List.replicate n a).getD i d = if i < n then a else d := by
  rw [List.getD_eq_getElem?_getD, List.getElem?_replicate]
  split <;> rfl
theorem road_zero (n : Nat) (a b : Int) : roadAt (zroads n) a b = 0 := by
  simp only [roadAt, zroads, atI, getD_rep]
  split
  · rw [getD_rep]; split <;> rfl
  · rfl
theorem cost_zero (n : Nat) (s : List Site) (a a' b : Int) : costOf s (zroads n) a b = costOf s (zroads n) a' b := by simp only [costOf, road_zero]
theorem check_r {k : Int} (h : checkLand l = 0) (h0 : 0 ≤ k) (h1 : k < l.sites.length) : checkLand (withR l k) = 0 := by
  have hv := valid_of h
  have e1 : isSite l.sites k = true := by simp only [isSite, inR_iff]; omega
  have e2 : roadsOk l.sites (zroads l.sites.length) = true := by
    simp only [roadsOk, Bool.and_eq_true, decide_eq_true_eq]
    refine ⟨fun i hi => ?_, by simp [zroads]⟩
    have hi' : i < l.sites.length := by simpa [zroads] using hi
    have e : (zroads l.sites.length).getD i default = List.replicate l.sites.length 0 := by rw [zroads, getD_rep, if_pos hi']
    refine ⟨by rw [e]; simp, ?_, ?_⟩
    · rw [e, List.all_eq_true]
      intro x hx
      rw [List.eq_of_mem_replicate hx]; rfl
    · rw [e, atI, getD_rep]; split <;> rfl
  unfold checkLand at h
  repeat' (split at h; first | (exfalso; omega) | skip)
  rename_i a1 a2 a3 a4 a5 a6 a7 a8 a9 a10
  simp only [checkLand, withR, e1, e2, a1, a2, a3, a4, a6, a7, a8, a9, if_false, if_true, Bool.true_eq_false]
abbrev S.at (s : S) (x : Int) : S := ⟨s.year, x, s.money, s.so⟩
theorem next_at (h h' x k : Int) (c : Bool) (s : S) : nextS (withR l h') (s.at x) k c = nextS (withR l h) s k c := by
  have e := cost_zero l.sites.length l.sites x s.site k
  simp only [nextS, nextY, e]
theorem st_at (h h' : Int) (w p : List Int) : ∀ k, ∃ x, stAt (withR l h') w p k = (stAt (withR l h) w p k).at x
  | 0 => ⟨h', rfl⟩
  | k + 1 => by
    obtain ⟨x, e⟩ := st_at h h' w p k
    refine ⟨p.getD k default, ?_⟩
    show nextS _ (stAt (withR l h') w p k) _ _ = _
    rw [e, next_at h h']
    rfl
theorem fail_at (h h' : Int) (w p : List Int) : failAt (withR l h') w p = failAt (withR l h) w p := by
  have : canAt (withR l h') w p = canAt (withR l h) w p := by
    funext k
    obtain ⟨x, e⟩ := st_at (l := l) h h' w p k
    unfold canAt
    rw [e]
    simp only [cost_zero l.sites.length l.sites x (stAt (withR l h) w p k).site]
  unfold failAt
  rw [this]
theorem money_at (h h' : Int) (w p : List Int) (k : Nat) : (stAt (withR l h') w p k).money = (stAt (withR l h) w p k).money := by
  obtain ⟨x, e⟩ := st_at (l := l) h h' w p k
  rw [e]
theorem sure_at (h h' : Int) (p : List Int) : sureL (withR l h') p = sureL (withR l h) p := by
  have : sureStep (withR l h') p = sureStep (withR l h) p := by
    funext s w
    unfold sureStep
    rw [fail_at h h', money_at h h']
  unfold sureL
  rw [this]
  rfl
theorem best_at (h h' b : Int) : bestL (withR l h') b = bestL (withR l h) b := by
  have : bestStep (withR l h') = bestStep (withR l h) := by
    funext s p
    unfold bestStep
    rw [sure_at h h']
  unfold bestL
  rw [this]
  rfl
theorem from_at (h h' : Int) : ∀ (n : Nat) (s : S) (x c : Int), fromF (withR l h') n (s.at x) c = fromF (withR l h) n s c
  | 0, s, x, c => rfl
  | n + 1, s, x, c => by
    have e : fromF (withR l h') n = fromF (withR l h) n := by
      funext s c
      exact from_at h h' n s s.site c
    have e2 : (fun best (k : Nat) => fromStep (withR l h') (fromF (withR l h') n) (s.at x) c best (k : Int)) = fun best (k : Nat) => fromStep (withR l h) (fromF (withR l h) n) s c best (k : Int) := by
      funext best k
      unfold fromStep
      rw [e, next_at h h', next_at h h']
      simp only [cost_zero l.sites.length l.sites x s.site]
    simp only [fromF]
    rw [e2]
theorem go_at {h h' : Int} (hv : (withR l h).Valid) (hv' : (withR l h').Valid) : goA (withR l h') [] [] = goA (withR l h) [] [] := by
  rw [goA_start hv, goA_start hv']
  exact from_at h h' _ (startS (withR l h)) h' _
/-! the last of the first moves -/
theorem late_up (x : Int) : ∀ (W : List (List Int)) (s : Int), s ≤ W.foldl (lateStep l x) s ∧ ∀ p ∈ W, (sureL l p).2.2 = true → (sureL l p).1 = x → moveL l p ≤ W.foldl (lateStep l x) s
  | [], s => ⟨Int.le_refl _, fun p hp => by cases hp⟩
  | q :: W, s => by
    obtain ⟨h1, h2⟩ := late_up x W (lateStep l x s q)
    have h3 : s ≤ lateStep l x s q := by unfold lateStep; split <;> omega
    refine ⟨Int.le_trans h3 h1, fun p hp hc he => ?_⟩
    rcases List.mem_cons.1 hp with rfl | hp
    · refine Int.le_trans ?_ h1
      unfold lateStep
      rw [if_pos ⟨hc, he⟩]; omega
    · exact h2 p hp hc he
theorem late_down (x B : Int) : ∀ (W : List (List Int)) (s : Int), s ≤ B → (∀ p ∈ W, moveL l p ≤ B) → W.foldl (lateStep l x) s ≤ B
  | [], s, h, _ => h
  | q :: W, s, h, hW => late_down x B W _ (by
      have := hW q List.mem_cons_self
      unfold lateStep; split <;> omega) (fun p hp => hW p (List.mem_cons_of_mem _ hp))
theorem moveL_le (hv : l.Valid) {p : List Int} (hl : p.length = (l.last + 1).toNat) : moveL l p ≤ l.last + 1 := by
  have l0 := hv.last0
  have l4 := hv.last4
  unfold moveL
  split
  · rename_i k hk
    have := List.mem_range.1 (List.mem_of_find?_eq_some hk)
    omega
  · rw [wrapB (by omega) (by omega)]; omega
theorem moveL_one (hv : l.Valid) (h1 : ¬ 1 < l.sites.length) {p : List Int} (hp : AreSites l p) : moveL l p = l.last + 1 := by
  have l0 := hv.last0
  have l4 := hv.last4
  rw [moveL_end, wrapB (by omega) (by omega)]
  intro i hi
  have a := plan_at hp hi
  have b := hv.home0
  have c := hv.home1
  omega
structure LateOk (l : Land) : Prop where
  le : lateL l ≤ l.last + 1
  ge : ∀ p ∈ plansL l (-1), (sureL l p).2.2 = true → (bestL l (-1)).2.1 ≤ (sureL l p).1 → moveL l p ≤ lateL l
  one : ¬ 1 < l.sites.length → lateL l = l.last + 1
theorem late_ok (hv : l.Valid) (hc : (bestL l (-1)).2.2 = true) : LateOk l := by
  have l0 := hv.last0
  have le : lateL l ≤ l.last + 1 := late_down _ _ _ _ (by omega) fun p hp => moveL_le hv (plans_mem hv hp).2.1
  have ge : ∀ p ∈ plansL l (-1), (sureL l p).2.2 = true → (bestL l (-1)).2.1 ≤ (sureL l p).1 → moveL l p ≤ lateL l := fun p hp h1 h2 => by
    have h3 := ((best_is l (-1)).yes hc).2.2.1 p hp h1
    exact (late_up _ _ _).2 p hp h1 (by omega)
  refine ⟨le, ge, fun h1 => ?_⟩
  obtain ⟨z1, z2, _⟩ := (best_is l (-1)).yes hc
  have := ge _ (best_mem hc) z1 (by omega)
  rw [moveL_one hv h1 (plans_mem hv (best_mem hc)).1] at this
  omega
end Am.Mv
namespace Am.Mv
open Go Am
set_option maxRecDepth 100000
set_option maxHeartbeats 4000000
set_option linter.unusedSimpArgs false
set_option linter.unusedVariables false
variable {l : Land} {g1 g2 : Bool × Bool}
theorem best_res {X Y : Land} (hX : checkLand X = 0) (hY : checkLand Y = 0) (vX : X.Valid) (e : bestL Y (-1) = bestL X (-1)) (b b' : Bool) : ∃ (c c' : Bool) (q : List Int) (a g : Int), BestR b X = .tup [.c (L (c, false) q), .c (.int .i64 a), .c (.int .i64 g)] ∧ BestR b' Y = .tup [.c (L (c', false) q), .c (.int .i64 a), .c (.int .i64 g)] ∧ q.length < Big := by
  unfold BestR
  rw [e, if_pos hX, if_pos hY]
  cases hc : (bestL X (-1)).2.2 with
  | true => exact ⟨b, b', _, _, _, rfl, rfl, Nat.lt_of_le_of_lt (plans_mem vX (best_mem hc)).2.2.1 (by decide)⟩
  | false => exact ⟨true, true, [], 0, 10, rfl, rfl, by decide⟩
theorem seen_res {X Y : Land} (hX : checkLand X = 0) (hY : checkLand Y = 0) (e : goA Y [] [] = goA X [] []) (ep : Y.purse = X.purse) : ∃ (s i : Int), SeenR X = .tup [.c (.int .i64 s), .c (.int .i64 i)] ∧ SeenR Y = .tup [.c (.int .i64 s), .c (.int .i64 i)] := by
  unfold SeenR
  rw [e, ep, if_pos hX, if_pos hY]
  cases hc : (goA X [] []).2.2 with
  | true => exact ⟨_, _, rfl, rfl⟩
  | false => exact ⟨_, _, rfl, rfl⟩
theorem late_res (h0 : checkLand l = 0) (hv : l.Valid) (b : Bool) : ∃ (cb : Bool) (best : List Int) (late n f : Int), LateR l = .tup [.c (.int .i64 late), .c (.int .i64 f)] ∧ BestR b l = .tup [.c (L (cb, false) best), .c (.int .i64 n), .c (.int .i64 f)] ∧ best.length < Big ∧ (f = 10 ∨ (f = 0 ∧ late ≤ l.last + 1 ∧ moveL l best ≤ late ∧ (¬ 1 < l.sites.length → late = l.last + 1) ∧ ∀ p ∈ plansL l (-1), (sureL l p).2.2 = true → n ≤ (sureL l p).1 → moveL l p ≤ late)) := by
  unfold LateR BestR
  rw [if_pos h0, if_pos h0]
  cases hc : (bestL l (-1)).2.2 with
  | false => exact ⟨true, [], 0, 0, 10, rfl, rfl, by decide, .inl rfl⟩
  | true =>
    obtain ⟨z1, z2, _⟩ := (best_is l (-1)).yes hc
    have k := late_ok hv hc
    exact ⟨b, _, _, _, 0, rfl, rfl, Nat.lt_of_le_of_lt (plans_mem hv (best_mem hc)).2.2.1 (by decide), .inr ⟨rfl, k.le, k.ge _ (best_mem hc) z1 (by omega), k.one, k.ge⟩⟩
theorem MoveLate_val {which home : Int} (w0 : 0 ≤ which) (w1 : which ≤ 65535) (m0 : 0 ≤ home) (m1 : home ≤ 255) : Val tab 13 [landV g1 g2 l, .c (.int .u16 which), .c (.int .u8 home)] (.c (.bool true)) := by
  refine Val_X (fn := f13) rfl ?_
  by_cases hr : (thin l && decide (checkLand l = 0)) = true
  · have hr' := hr
    simp only [Bool.and_eq_true, decide_eq_true_eq] at hr'
    obtain ⟨ht, h0⟩ := hr'
    have hs := thin_small ht
    have hv := valid_of h0
    have l0 := hv.last0
    have l4 := hv.last4
    have n0 := hv.n0
    have n4 := hv.n4
    obtain ⟨q1, q2, q3⟩ := planN_ok hv (which.toNat % plansN l)
    have hip := isPlan_of hv q1 q2
    have hpm := planOf_mem hv which (not_neg q1)
    change AreSites l (planOf l which) at q1
    change (planOf l which).length = _ at q2
    change (planOf l which).length ≤ 100 at q3
    change isPlan l (planOf l which) = true at hip
    have P40' := @P40 l g1 g2 hv which w0 w1
    generalize planOf l which = p at *
    have hpB : p.length < Big := Nat.lt_of_le_of_lt q3 (by decide)
    have e1 : IntKind.i64.wrap home = home := wrapB (by omega) (by omega)
    have e3 : IntKind.i64.wrap (l.last + 1) = l.last + 1 := wrapB (by omega) (by omega)
    have h3 : ¬ (l.sites.length : Int) = 0 := by omega
    have hn : home = ((home.toNat : Nat) : Int) := by omega
    have hm : home.tmod (l.sites.length : Int) = ((home.toNat % l.sites.length : Nat) : Int) := by rw [hn, rem_nat]; rfl
    have hlt := Nat.mod_lt home.toNat n0
    generalize hk : ((home.toNat % l.sites.length : Nat) : Int) = k at *
    have cx := check_r (l := l) (k := l.home) h0 hv.home0 hv.home1
    have cy := check_r (l := l) (k := k) h0 (by omega) (by omega)
    have vx := valid_of cx
    have vy := valid_of cy
    have sm : ∀ x, (withR l x).Small := fun x => ⟨hs.sites, by show (zroads _).length ≤ 6; simp [zroads]; exact hs.sites, fun r hr => by
      have hr : r ∈ zroads l.sites.length := hr
      rw [zroads] at hr
      rw [List.eq_of_mem_replicate hr, List.length_replicate]; exact hs.sites⟩
    obtain ⟨b2, P27⟩ := V27 (l := l) (g1 := (false, false)) (g2 := (false, false)) hs.fits
    obtain ⟨b3, X27⟩ := V27 (l := withR l l.home) (g1 := (false, false)) (g2 := (false, false)) (sm _).fits
    obtain ⟨b4, Y27⟩ := V27 (l := withR l k) (g1 := (false, false)) (g2 := (false, false)) (sm _).fits
    obtain ⟨c3, c4, q, a, g, rx, ry, hq⟩ := best_res cx cy vx (best_at l.home k (-1)) b3 b4
    rw [rx] at X27
    rw [ry] at Y27
    obtain ⟨s, i, sx, sy⟩ := seen_res cx cy (go_at vx vy) rfl
    have X33 := fun {Q : V → Prop} => P33 (g1 := (false, false)) (g2 := (false, false)) (sm l.home).fits (Q := Q)
    have Y33 := fun {Q : V → Prop} => P33 (g1 := (false, false)) (g2 := (false, false)) (sm k).fits (Q := Q)
    rw [sx] at X33
    rw [sy] at Y33
    have X19 := fun {Q : V → Prop} => P19 (g1 := g1) (g2 := (false, true)) (sm l.home) (Q := Q)
    have Y19 := fun {Q : V → Prop} => P19 (g1 := g1) (g2 := (false, true)) (sm k) (Q := Q)
    obtain ⟨b, P39⟩ := V39 (l := l) (g1 := (false, false)) (g2 := (false, false)) (g3 := (false, false)) (plan := p) hs.fits hpB
    have hz : List.replicate l.sites.length (List.replicate l.sites.length (0 : Int)) = zroads l.sites.length := rfl
    have hzl : (zroads l.sites.length).length = l.sites.length := by simp [zroads]
    have hrow : List.replicate l.sites.length [D.int .i64 0] = (List.replicate l.sites.length (0 : Int)).map Row.row := by rw [List.map_replicate]; rfl
    have hb8 : (l.sites.length : Int) * 8 ≤ 2 ^ 40 := by omega
    have P28' := fun {Q : V → Prop} => P28 (g1 := (false, false)) (g2 := (false, false)) hs.fits (Q := Q)
    obtain ⟨cb, best, late, n, f, rl, rb, hbB, hf⟩ := late_res h0 hv b2
    rw [rl] at P28'
    rw [rb] at P27
    have hzm : ∀ k, List.length (List.replicate k (List.replicate l.sites.length (0 : Int))) = k := fun k => by simp
    simp only [go_sem, f13, P37s, hr, ht, h0, P17, P40', e1, h3, hm, P19 hs, P28', P27]
    refine RX_for l.sites.length (fun k => [(15, .c (.int .i64 k))]) (fun k => [.cells [.int .i64 l.last, .int .i64 l.home, .int .i64 l.purse, .int .i64 l.bad, .int .i64 l.rest, L g1 l.sites, L g2 l.roads], .cells [.int .i64 l.last, .int .i64 l.home, .int .i64 l.purse, .int .i64 l.bad, .int .i64 l.rest, L g1 l.sites, .sl 3 k 0 k], .cells [.int .i64 l.last, .int .i64 l.home, .int .i64 l.purse, .int .i64 l.bad, .int .i64 l.rest, L g1 l.sites, L g2 l.roads], .arr false k 1 ((List.replicate k (List.replicate l.sites.length (0 : Int))).map Row.row)]) (fun _ => True) trivial (by simp only [go_sem] <;> rfl) ?_
    intro y hy _
    by_cases h1 : y < l.sites.length
    · have c1 : (y + 1) * 24 ≤ 2 ^ 40 := by omega
      have c0 : 0 ≤ (l.sites.length : Int) := by omega
      have hwk : IntKind.i64.wrap ((y : Int) + 1) = ((y + 1 : Nat) : Int) := wrap_succ (n := 2000) (by omega) (by decide)
      have hsnoc : (List.replicate (y + 1) (List.replicate l.sites.length (0 : Int))).map (Row.row (α := List Int)) = (List.replicate y (List.replicate l.sites.length (0 : Int))).map Row.row ++ [[.lst ((List.replicate l.sites.length (0 : Int)).map Row.row)]] := by rw [List.replicate_succ', List.map_append]; rfl
      simp only [go_sem, h1, hrow, hb8, c0, c1, hwk]
      exact congrArg (Obj.arr false (y + 1) 1) hsnoc.symm
    · have : y = l.sites.length := by omega
      subst this
      rcases hf with rfl | ⟨rfl, f1, f2, f3, f4⟩
      · simp (config := { maxSteps := 5000000 }) only [go_sem, h1, hzm, hz, hzl, X19, Y19, e1, h3, hm, X27, Y27, X33, Y33, P31 hq, P17]
      · cases hd : (sureL l p).2.2 with
        | false =>
          simp (config := { maxSteps := 5000000 }) only [go_sem, h1, hzm, hz, hzl, X19, Y19, e1, h3, hm, X27, Y27, X33, Y33, P31 hq, P17, P19 hs, P20 (show p.length ≤ 1000 by omega), P39, SureR, h0, hip, hd, P44 hbB, P44 hpB, e3, f1, f2]
          exact fun a b => b (f3 (by omega))
        | true =>
          have f5 := f4 p hpm hd
          by_cases hmn : (sureL l p).1 < n
          · simp (config := { maxSteps := 5000000 }) only [go_sem, h1, hzm, hz, hzl, X19, Y19, e1, h3, hm, X27, Y27, X33, Y33, P31 hq, P17, P19 hs, P20 (show p.length ≤ 1000 by omega), P39, SureR, h0, hip, hd, P44 hbB, P44 hpB, e3, f1, f2, hmn]
            exact fun a b => b (f3 (by omega))
          · have f6 := f5 (by omega)
            simp (config := { maxSteps := 5000000 }) only [go_sem, h1, hzm, hz, hzl, X19, Y19, e1, h3, hm, X27, Y27, X33, Y33, P31 hq, P17, P19 hs, P20 (show p.length ≤ 1000 by omega), P39, SureR, h0, hip, hd, P44 hbB, P44 hpB, e3, f1, f2, hmn, f6]
            exact fun a b => b (f3 (by omega))
  · simp only [go_sem, f13, P37s, hr, P17]
end Am.Mv
