/-
  A part of the proof: the texts M10, M11, M12, M13, M14 of this seat, joined.
-/
import Derived.Test.YtgaifkhngaopgaaWalkB
import Derived.Test.YtgaifkhngaopgaaAmI
namespace Am.Mv
open Go Am
set_option maxRecDepth 100000
set_option maxHeartbeats 4000000
set_option linter.unusedSimpArgs false
set_option linter.unusedVariables false

/-- the numbers from one to another -/
def upTo (a b : Int) : List Int := (List.range (b + 1 - a).toNat).map fun (k : Nat) => a + k
/-- all weathers that go on from one with so many more bad years -/
def comb (last : Int) : Nat → List Int → Int → List (List Int)
  | 0, w, _ => [w]
  | m + 1, w, fr => (upTo fr (last + 1 - ((m : Int) + 1))).flatMap fun y => comb last m (w ++ [y]) (y + 1)
section
variable {σ : Type} {own : Nat → Prop} {F : C} {R RS : σ → List Obj → Prop} {step : σ → List Int → σ × Bool}
/-- what a yield function does with a weather -/
def YieldOk (own : Nat → Prop) (F : C) (R RS : σ → List Obj → Prop) (step : σ → List Int → σ × Bool) : Prop :=
  ∀ s H c w, w.length ≤ 300 → R s H → LstIn 1 own H c w → CallV tab (.c F) [.c c] H fun v H' => v = .c (.bool (step s w).2) ∧ Keep own H H' ∧ (((step s w).2 = true ∧ R (step s w).1 H') ∨ ((step s w).2 = false ∧ RS (step s w).1 H'))
theorem add_ok (hmono : ∀ s H X, R s H → R s (H ++ X)) (hF : YieldOk own F R RS step) {lc : List C} {last : Int} (hl0 : 0 ≤ last) (hl4 : last ≤ 4) {yb lb ab : Nat} (oy : ¬ own yb) (ol : ¬ own lb) (oa : ¬ own ab)
    (hown : ∀ o, ab < o → ¬ own o)
    (hlc : lc.head? = some (.int .i64 last)) : ∀ (m : Nat), m ≤ 100 → ∀ (s : σ) (H : List Obj) (c : C) (w : List Int) (fr : Int), 0 ≤ fr → fr ≤ 1000 → w.length + m ≤ 200 → R s H → LstIn 1 own H c w → getH H yb = .cells [F] → getH H lb = .cells lc → getH H ab = .cells [.fn 94 false [] [.ptr yb 0, .ptr lb 0, .ptr ab 0]] →
    Fn tab (.f 94 [.c c, .c (.int .i64 fr), .c (.int .i64 m), .c (.ptr yb 0), .c (.ptr lb 0), .c (.ptr ab 0)] H) fun v H' => v = .c (.bool (foldY step s (comb last m w fr)).2) ∧ Keep own H H' ∧ (((foldY step s (comb last m w fr)).2 = true ∧ R (foldY step s (comb last m w fr)).1 H') ∨ ((foldY step s (comb last m w fr)).2 = false ∧ RS (foldY step s (comb last m w fr)).1 H'))
  | 0, _, s, H, c, w, fr, f0, f1, hwl, hR, hc, hy, hl, ha => by
    refine Fn_X (fn := f94) rfl rfl ?_
    simp only [go_sem, f94, hy]
    refine (hF s H c w (by omega) hR hc).mono ?_
    rintro v H' ⟨rfl, hk, hr⟩
    simp only [go_sem]
    have e : foldY step s (comb last 0 w fr) = step s w := by
      simp only [comb, foldY]
      split
      · rename_i h; rw [← h]
      · rename_i h; rw [← (Bool.not_eq_true _ ▸ h : (step s w).2 = false)]
    rw [e]
    exact ⟨rfl, hk, hr⟩
  | m + 1, hm, s, H, c, w, fr, f0, f1, hwl, hR, hc, hy, hl, ha => by
    refine Fn_X (fn := f94) rfl rfl ?_
    have hm0 : ¬ ((m + 1 : Nat) : Int) = 0 := by omega
    obtain ⟨l1, rfl⟩ : ∃ l1, lc = .int .i64 last :: l1 := by
      cases lc with
      | nil => cases hlc
      | cons a b => cases hlc; exact ⟨b, rfl⟩
    simp only [go_sem, f94, hm0]
    let hi : Int := last + 1 - ((m : Int) + 1)
    let ys := upTo fr hi
    let g := fun y => comb last m (w ++ [y]) (y + 1)
    have hcomb : comb last (m + 1) w fr = ys.flatMap g := rfl
    have hyl : ys.length = (hi + 1 - fr).toNat := by simp [ys, upTo]
    have hyk : ∀ k, k < ys.length → ys.getD k default = fr + k := by
      intro k hk
      rw [getD_lt _ _ _ hk]; simp [ys, upTo]
    have hw1 : IntKind.i64.wrap (last + 1) = last + 1 := wrapB (by omega) (by omega)
    have hw2 : IntKind.i64.wrap (last + 1 - ((m + 1 : Nat) : Int)) = hi := by rw [wrapB (by omega) (by omega)]; rfl
    have hw3 : IntKind.i64.wrap (((m + 1 : Nat) : Int) - 1) = m := by rw [wrapB (by omega) (by omega)]; omega
    refine RX_whileU (α := Nat × σ × List Obj) (fun x => [(10, .c (.int .i64 (fr + x.1)))]) (fun x => x.2.2) (fun x => x.1 ≤ ys.length ∧ Keep own H x.2.2 ∧ R x.2.1 x.2.2 ∧ foldY step s ((ys.take x.1).flatMap g) = (x.2.1, true)) (fun x => ys.length - x.1) (0, s, H) ⟨Nat.zero_le _, Keep.refl, hR, by simp [foldY]⟩ (by simp only [go_sem, Int.add_zero] <;> rfl) ?_
    · rintro ⟨k, s', H'⟩ ⟨hk, hK, hR', hf⟩
      simp only at hk hK hR' hf
      have hy' := hK.get oy hy (by simp)
      have hl' := hK.get ol hl (by simp)
      have ha' := hK.get oa ha (by simp)
      have hc' := hc.keep hK
      by_cases h1 : fr + k ≤ hi
      · have hk1 : k < ys.length := by omega
        have hw4 : IntKind.i64.wrap (fr + k + 1) = fr + k + 1 := wrapB (by omega) (by omega)
        have hrow := hc'.rows
        have ha2 : ∀ X, getH (H' ++ X) ab = .cells [.fn 94 false [] [.ptr yb 0, .ptr lb 0, .ptr ab 0]] := fun X => getH_keep ha' (by simp)
        have hlt := lt_of_getH (h := H') (o := ab) (by rw [ha']; simp)
        have n1 : ¬ ab = H'.length := by omega
        have n2 : ¬ H'.length = ab := by omega
        have n3 : ¬ ab = H'.length + 1 := by omega
        have n4 : ¬ H'.length + 1 = ab := by omega
        have n5 : ¬ H'.length = H'.length + 1 := by omega
        have n6 : ¬ H'.length + 1 = H'.length := by omega
        have b1 : w.length * 8 ≤ 2 ^ 40 := by omega
        have b2 : (w.length + 1) * 8 ≤ 2 ^ 40 := by omega
        have hgo : ∀ {Q : V → List Obj → Prop}, (∀ v H2, v = .c (.bool (foldY step s' (g (fr + k))).2) ∧ Keep own H' H2 ∧ (((foldY step s' (g (fr + k))).2 = true ∧ R (foldY step s' (g (fr + k))).1 H2) ∨ ((foldY step s' (g (fr + k))).2 = false ∧ RS (foldY step s' (g (fr + k))).1 H2)) → Q v H2) →
            Fn tab (.f 94 [.c (.sl H'.length 1 0 (w.length + 1)), .c (.int .i64 (fr + k + 1)), .c (.int .i64 m), .c (.ptr yb 0), .c (.ptr lb 0), .c (.ptr ab 0)] (H' ++ [.arr false 1 1 (w.map Row.row ++ [[.int .i64 (fr + k)]]), .arr false 0 1 [[.int .i64 (fr + k)]], .none])) Q := by
          intro Q hq
          have hlist : LstIn 1 own (H' ++ [.arr false 1 1 (w.map Row.row ++ [[.int .i64 (fr + k)]]), .arr false 0 1 [[.int .i64 (fr + k)]], .none]) (.sl H'.length 1 0 (w.length + 1)) (w ++ [fr + k]) := by
            have e1 : w.map Row.row ++ [[D.int .i64 (fr + k)]] = (w ++ [fr + k]).map Row.row := by rw [List.map_append]; rfl
            rw [e1, show w.length + 1 = (w ++ [fr + (k : Int)]).length by simp]
            exact .sl _ 1 false _ (hown _ (by omega)) (by rw [getH_at0]; rfl)
          refine (add_ok hmono hF hl0 hl4 oy ol oa hown hlc m (by omega) s' _ _ (w ++ [fr + k]) (fr + k + 1) (by omega) (by omega) (by simp; omega) (hmono _ _ _ hR') hlist (getH_keep hy' (by simp)) (getH_keep hl' (by simp)) (getH_keep ha' (by simp))).mono ?_
          rintro v H2 ⟨e, hk2, hr⟩
          exact hq v H2 ⟨e, Keep.append.trans hk2, hr⟩
        have hy1 : ys.getD k default = fr + k := hyk k hk1
        have hfk : ∀ b, foldY step s' (g (fr + k)) = b → foldY step s ((ys.take (k + 1)).flatMap g) = b := by
          intro b hb
          rw [take_getD hk1 default, List.flatMap_append, foldY_append, hf, hy1]
          simp only [if_true, List.flatMap_cons, List.flatMap_nil, List.append_nil]
          exact hb
        have hstop : (foldY step s' (g (fr + k))).2 = false → foldY step s (comb last (m + 1) w fr) = ((foldY step s' (g (fr + k))).1, false) := by
          intro hb
          have e : ys = ys.take (k + 1) ++ ys.drop (k + 1) := (List.take_append_drop _ _).symm
          rw [hcomb, e, List.flatMap_append, foldY_append, hfk _ rfl, if_neg (by rw [hb]; decide)]
        have hend : ∀ H2, (foldY step s' (g (fr + k))).2 = true → Keep own H' H2 → (((foldY step s' (g (fr + k))).2 = true ∧ R (foldY step s' (g (fr + k))).1 H2) ∨ ((foldY step s' (g (fr + k))).2 = false ∧ RS (foldY step s' (g (fr + k))).1 H2)) →
            ∃ y : Nat × σ × List Obj, (ys.length - y.1 < ys.length - k ∧ y.1 ≤ ys.length ∧ Keep own H y.2.2 ∧ R y.2.1 y.2.2 ∧ foldY step s ((ys.take y.1).flatMap g) = (y.2.1, true)) ∧ fr + (k : Int) + 1 = fr + (y.1 : Int) ∧ H2 = y.2.2 := by
          intro H2 hb hk2 hr
          refine ⟨(k + 1, (foldY step s' (g (fr + k))).1, H2), ⟨by simp only; omega, hk1, hK.trans hk2, ?_, ?_⟩, by simp only; omega, rfl⟩
          · rcases hr with ⟨_, h⟩ | ⟨h, _⟩
            · exact h
            · rw [hb] at h; cases h
          · exact hfk _ (by rw [← hb])
        have hstop2 : ∀ H2, (foldY step s' (g (fr + k))).2 = false → Keep own H' H2 → (((foldY step s' (g (fr + k))).2 = true ∧ R (foldY step s' (g (fr + k))).1 H2) ∨ ((foldY step s' (g (fr + k))).2 = false ∧ RS (foldY step s' (g (fr + k))).1 H2)) →
            false = (foldY step s (comb last (m + 1) w fr)).2 ∧ Keep own H H2 ∧ (((foldY step s (comb last (m + 1) w fr)).2 = true ∧ R (foldY step s (comb last (m + 1) w fr)).1 H2) ∨ ((foldY step s (comb last (m + 1) w fr)).2 = false ∧ RS (foldY step s (comb last (m + 1) w fr)).1 H2)) := by
          intro H2 hb hk2 hr
          rw [hstop hb]
          refine ⟨rfl, hK.trans hk2, .inr ⟨rfl, ?_⟩⟩
          rcases hr with ⟨h, _⟩ | ⟨_, h⟩
          · rw [hb] at h; cases h
          · exact h
        cases hc' with
        | nils =>
          simp only [go_sem, hw1, hw2, hw3, hw4, h1, hl', ha2, n1, n2, n3, n4, n5, n6]
          simp only [List.map_nil, List.nil_append, List.length_nil, Nat.zero_add] at hgo
          refine hgo ?_
          rintro v H2 ⟨rfl, hk2, hr⟩
          by_cases hb : (foldY step s' (g (fr + k))).2 = true
          · simp only [go_sem, hb, n1, n2, n3, n4, n5, n6, hw4]
            exact hend H2 hb hk2 hr
          · simp only [go_sem, hb, n1, n2, n3, n4, n5, n6, hw4]
            exact hstop2 H2 (by simpa using hb) hk2 hr
        | sl o ver frz w ho hg =>
          have hlo := lt_of_getH (h := H') (o := o) (by rw [hg]; simp)
          have o1 : ¬ o = H'.length := by omega
          have o2 : ¬ H'.length = o := by omega
          have o3 : ¬ o = H'.length + 1 := by omega
          have o4 : ¬ H'.length + 1 = o := by omega
          simp only [go_sem, hw1, hw2, hw3, hw4, h1, hl', ha2, n1, n2, n3, n4, n5, n6, o1, o2, o3, o4, hrow, b1, b2]
          refine hgo ?_
          rintro v H2 ⟨rfl, hk2, hr⟩
          by_cases hb : (foldY step s' (g (fr + k))).2 = true
          · simp only [go_sem, hb, n1, n2, n3, n4, n5, n6, o1, o2, o3, o4, hw4]
            exact hend H2 hb hk2 hr
          · simp only [go_sem, hb, n1, n2, n3, n4, n5, n6, o1, o2, o3, o4, hw4]
            exact hstop2 H2 (by simpa using hb) hk2 hr
      · have hk' : k = ys.length := by omega
        subst hk'
        rw [List.take_length, ← hcomb] at hf
        simp only [go_sem, hw1, hw2, h1, hl', hf]
        exact ⟨hK, .inl hR'⟩
end
end Am.Mv
namespace Am.Mv
open Go Am
set_option maxRecDepth 100000
set_option maxHeartbeats 4000000
set_option linter.unusedSimpArgs false
set_option linter.unusedVariables false
variable {l : Land} {g1 g2 : Bool × Bool}
def weathersL (l : Land) : List (List Int) := (List.range (l.bad + 1).toNat).flatMap fun m => comb l.last m [] 0
section
variable {σ : Type} {own : Nat → Prop} {F : C} {R RS : σ → List Obj → Prop} {step : σ → List Int → σ × Bool}
theorem wth_ok (hv : l.Valid) (hmono : ∀ s H X, R s H → R s (H ++ X)) (hF : YieldOk own F R RS step) {lb : Nat} (hk : known [F] = true) (ol : ¬ own lb) {s : σ} {H : List Obj} (hown : ∀ o, H.length ≤ o → ¬ own o) (hR : R s H)
    (hl : getH H lb = .cells [.int .i64 l.last, .int .i64 l.home, .int .i64 l.purse, .int .i64 l.bad, .int .i64 l.rest, L g1 l.sites, L g2 l.roads]) :
    Fn tab (.f 93 [.c F, .c (.ptr lb 0)] H) fun v H' => Keep own H H' ∧ (((foldY step s (weathersL l)).2 = true ∧ R (foldY step s (weathersL l)).1 H') ∨ ((foldY step s (weathersL l)).2 = false ∧ RS (foldY step s (weathersL l)).1 H')) := by
  refine Fn_X (fn := f93) rfl rfl ?_
  have l0 := hv.last0
  have l4 := hv.last4
  have b0 := hv.bad0
  have b1 := hv.bad1
  have hw : IntKind.i64.wrap (l.bad + 1) = l.bad + 1 := wrapB (by omega) (by omega)
  have hlt := lt_of_getH (h := H) (o := lb) (by rw [hl]; simp)
  have hl2 : ∀ X, getH (H ++ X) lb = .cells [.int .i64 l.last, .int .i64 l.home, .int .i64 l.purse, .int .i64 l.bad, .int .i64 l.rest, L g1 l.sites, L g2 l.roads] := fun X => getH_keep hl (by simp)
  simp only [go_sem, f93, hk, hl2, hw]
  let H0 := H ++ [.cells [F], .cells [.fn 94 false [] [.ptr H.length 0, .ptr lb 0, .ptr (H.length + 1) 0]]]
  refine RX_whileU (α := Nat × σ × List Obj) (fun x => [(9, .c (.int .i64 x.1))]) (fun x => x.2.2) (fun x => x.1 ≤ (l.bad + 1).toNat ∧ Keep own H0 x.2.2 ∧ R x.2.1 x.2.2 ∧ foldY step s ((List.range x.1).flatMap fun m => comb l.last m [] 0) = (x.2.1, true)) (fun x => (l.bad + 1).toNat - x.1) (0, s, H0) ⟨Nat.zero_le _, Keep.refl, hmono _ _ _ hR, by simp [foldY]⟩ (by simp only [go_sem] <;> rfl) ?_
  rintro ⟨k, s', H'⟩ ⟨hk1, hK, hR', hf⟩
  simp only at hk1 hK hR' hf
  have hy := hK.get (o := H.length) (x := .cells [F]) (hown _ (Nat.le_refl _)) (by simp only [go_sem, H0]) (by simp)
  have ha := hK.get (o := H.length + 1) (x := .cells [.fn 94 false [] [.ptr H.length 0, .ptr lb 0, .ptr (H.length + 1) 0]]) (hown _ (by omega)) (by simp only [go_sem, H0]) (by simp)
  have hl' := hK.get ol (hl2 _) (by simp)
  by_cases h1 : (k : Int) < l.bad + 1
  · have h2 : k < (l.bad + 1).toNat := by omega
    simp only [go_sem, h1, ha]
    refine (add_ok hmono hF l0 l4 (hown _ (Nat.le_refl _)) ol (hown (H.length + 1) (by omega)) (fun o ho => hown o (by omega)) rfl k (by omega) s' H' .nils [] 0 (by omega) (by omega) (by simp; omega) hR' .nils hy hl' ha).mono ?_
    rintro v H2 ⟨rfl, hk2, hr⟩
    by_cases hb : (foldY step s' (comb l.last k [] 0)).2 = true
    · simp only [go_sem, hb, wrap_succ (n := 1000) (show k < 1000 by omega) (by decide)]
      refine ⟨(k + 1, (foldY step s' (comb l.last k [] 0)).1, H2), ⟨by simp only; omega, h2, hK.trans hk2, ?_, ?_⟩, rfl, rfl⟩
      · rcases hr with ⟨_, h⟩ | ⟨h, _⟩
        · exact h
        · rw [hb] at h; cases h
      · simp only [List.range_succ, List.flatMap_append, foldY_append, hf, if_true, List.flatMap_cons, List.flatMap_nil, List.append_nil]
        rw [← hb]
    · simp only [go_sem, hb]
      have hb' : (foldY step s' (comb l.last k [] 0)).2 = false := by simpa using hb
      have e : foldY step s (weathersL l) = ((foldY step s' (comb l.last k [] 0)).1, false) := by
        have e1 : List.range (l.bad + 1).toNat = List.range k ++ (k :: (List.range (l.bad + 1).toNat).drop (k + 1)) := by
          have := List.take_append_drop k (List.range (l.bad + 1).toNat)
          rw [List.take_range, Nat.min_eq_left (by omega), List.drop_eq_getElem_cons (by simpa using h2)] at this
          simpa using this.symm
        rw [weathersL, e1, List.flatMap_append, foldY_append, hf, if_pos rfl, List.flatMap_cons, foldY_append, if_neg (by simp only [hb']; decide)]
      rw [e]
      refine ⟨(Keep.append (X := _)).trans (hK.trans hk2), .inr ⟨rfl, ?_⟩⟩
      rcases hr with ⟨h, _⟩ | ⟨_, h⟩
      · exact absurd h hb
      · exact h
  · have hk' : k = (l.bad + 1).toNat := by omega
    subst hk'
    have hf' : foldY step s (weathersL l) = (s', true) := hf
    simp only [go_sem, h1, hf']
    exact ⟨Keep.append.trans hK, .inl hR'⟩
end
/-- the loop of `sure` over the weathers -/
def sureAssign : ACode := (.region 0 [] [
        ⟨(some 7), .mov (.tmp 14), none, 0⟩])
def sureBody : ACode := (.block 1 (.seq (.region 1 [] [
          ⟨(some 16), .load (some 7) (.tmp 2), none, 0⟩,
          ⟨(some 17), .load none (.tmp 3), none, 0⟩,
          ⟨(some 18), .mov (.tmp 7), none, 0⟩,
          ⟨(some 19), .call 53 true [(.tmp 16), (.tmp 17), (.tmp 18)], none, 0⟩,
          ⟨(some 15), .mov (.tmp 19), none, 0⟩,
          ⟨(some 20), .extract 0 (.tmp 15), none, 0⟩,
          ⟨(some 21), .extract 1 (.tmp 15), none, 0⟩,
          ⟨(some 22), .extract 2 (.tmp 15), none, 0⟩,
          ⟨(some 9), .alloc [(.int .i64 0), (.int .i64 0), (.int .i64 0), (.int .i64 0), (.int .i64 0), (.int .i64 0), (.int .i64 0), (.int .i64 0), (.int .i64 0), (.int .i64 0), (.int .i64 0)], none, 0⟩,
          ⟨(some 8), .mov (.tmp 20), none, 1⟩,
          ⟨none, .store (some 11) (.tmp 9) (.tmp 21), none, 1⟩,
          ⟨(some 10), .mov (.tmp 22), none, 1⟩])
        (.seq (.seq (.region 0 [] [
          ⟨(some 23), .mov (.tmp 10), none, 0⟩,
          ⟨(some 24), .not (.tmp 23), none, 0⟩])
        (.cond (.tmp 24)
          (.seq (.region 0 [] [
            ⟨none, .store none (.tmp 6) (.cst (.c (.bool false))), none, 0⟩])
          (.exit 0))
          .skip))
        (.seq (.region 0 [] [
          ⟨(some 25), .faddr 2 (.tmp 9), none, 0⟩,
          ⟨(some 26), .load none (.tmp 25), none, 0⟩,
          ⟨(some 27), .faddr 2 (.tmp 2), none, 0⟩,
          ⟨(some 28), .load none (.tmp 27), none, 0⟩,
          ⟨(some 29), .bin .sub (.tmp 26) (.tmp 28), none, 0⟩,
          ⟨(some 11), .mov (.tmp 29), none, 0⟩])
        (.seq (.region 0 [] [
          ⟨(some 30), .load none (.tmp 6), none, 0⟩,
          ⟨(some 31), .not (.tmp 30), none, 0⟩,
          ⟨(some 32), .mov (.tmp 31), none, 0⟩,
          ⟨(some 33), .mov (.tmp 11), some (32, false), 0⟩,
          ⟨(some 34), .load none (.tmp 4), some (32, false), 0⟩,
          ⟨(some 35), .bin .lss (.tmp 33) (.tmp 34), some (32, false), 0⟩,
          ⟨(some 36), .pick (.tmp 32) (.cst (.c (.bool true))) (.tmp 35), none, 0⟩])
        (.cond (.tmp 36)
          (.region 0 [] [
            ⟨(some 37), .mov (.tmp 11), none, 0⟩,
            ⟨(some 38), .mov (.tmp 7), none, 0⟩,
            ⟨none, .store none (.tmp 4) (.tmp 37), none, 0⟩,
            ⟨none, .store none (.tmp 5) (.tmp 38), none, 0⟩,
            ⟨none, .store none (.tmp 6) (.cst (.c (.bool true))), none, 0⟩])
          .skip))))))
abbrev sureOwn (o : Nat) : Prop := o = 2 ∨ o = 3 ∨ o = 4 ∨ o = 6
def sureStep (l : Land) (plan : List Int) (s : Int × List Int × Bool) (w : List Int) : (Int × List Int × Bool) × Bool :=
  match failAt l w plan with
  | some _ => ((s.1, s.2.1, false), false)
  | none => if s.2.2 = false ∨ IntKind.i64.wrap ((stAt l w plan plan.length).money - l.purse) < s.1 then ((IntKind.i64.wrap ((stAt l w plan plan.length).money - l.purse), w, true), true) else (s, true)
structure sureR (g1 g2 g : Bool × Bool) (l : Land) (plan : List Int) (lp : ALoop) (s : Int × List Int × Bool) (H : List Obj) : Prop where
  h0 : getH H 0 = .cells [.int .i64 l.last, .int .i64 l.home, .int .i64 l.purse, .int .i64 l.bad, .int .i64 l.rest, L g1 l.sites, L g2 l.roads]
  h1 : getH H 1 = .cells [L g plan]
  h2 : getH H 2 = .cells [.int .i64 s.1]
  h3 : ∃ cw, getH H 3 = .cells [cw] ∧ LstIn 1 sureOwn H cw s.2.1 ∧ known [cw] = true
  h4 : getH H 4 = .cells [.bool s.2.2]
  h6 : getH H 6 = .loop lp
theorem sureR.mono {lp : ALoop} {g : Bool × Bool} {plan : List Int} {s : Int × List Int × Bool} {H X : List Obj} (h : sureR g1 g2 g l plan lp s H) : sureR g1 g2 g l plan lp s (H ++ X) := by
  obtain ⟨cw, a, b, c⟩ := h.h3
  exact ⟨getH_keep h.h0 (by simp), getH_keep h.h1 (by simp), getH_keep h.h2 (by simp), ⟨cw, getH_keep a (by simp), b.keep .append, c⟩, getH_keep h.h4 (by simp), getH_keep h.h6 (by simp)⟩
theorem sure_yield (hv : l.Valid) {g : Bool × Bool} {plan : List Int} (hp : AreSites l plan) (hpl : plan.length ≤ 100) {v0 v1 v7 v8 v9 v10 v11 v12 v13 : V} :
    YieldOk sureOwn (.yld 6) (sureR g1 g2 g l plan ⟨.ready, .normal, [v0, v1, .c (.ptr 0 0), .c (.ptr 1 0), .c (.ptr 2 0), .c (.ptr 3 0), .c (.ptr 4 0), v7, v8, v9, v10, v11, v12, v13] ++ List.replicate 28 (.c .any), [14], sureAssign, sureBody⟩)
      (sureR g1 g2 g l plan ⟨.done, .exit 0, [v0, v1, .c (.ptr 0 0), .c (.ptr 1 0), .c (.ptr 2 0), .c (.ptr 3 0), .c (.ptr 4 0), v7, v8, v9, v10, v11, v12, v13] ++ List.replicate 28 (.c .any), [14], sureAssign, sureBody⟩) (sureStep l plan) := by
  intro s H c w hwl hR hc
  rw [CallV_y]
  refine Fn_y hR.h6 rfl ?_
  have l6 := lt_of_getH (h := H) (o := 6) (by rw [hR.h6]; simp)
  have hc0 := hc.known
  simp only [go_sem, sureAssign, setParams, assignX, hR.h6]
  refine ⟨_, rfl, rfl, rfl, ?_⟩
  obtain ⟨cw, w3, w4, w5⟩ := hR.h3
  generalize hlb : ALoop.mk .busy _ _ _ _ _ = lb
  obtain ⟨H1, hH1⟩ : ∃ H1, H1 = setH H 6 (.loop lb) := ⟨_, rfl⟩
  rw [← hH1]
  have len : H1.length = H.length := by rw [hH1, length_setH]
  have g : ∀ o, o ≠ 6 → getH H1 o = getH H o := fun o ho => by rw [hH1, getH_setH, if_neg (fun h => ho h.1)]
  have e0 := (g 0 (by decide)).trans hR.h0
  have e1 := (g 1 (by decide)).trans hR.h1
  have e2 := (g 2 (by decide)).trans hR.h2
  have e3 := (g 3 (by decide)).trans w3
  have e4 := (g 4 (by decide)).trans hR.h4
  have e6 : getH H1 6 = .loop lb := by rw [hH1, getH_setH, if_pos ⟨rfl, l6⟩]
  have m0 : 0 < H1.length := by omega
  have m1 : 1 < H1.length := by omega
  have m2 : 2 < H1.length := by omega
  have m3 : 3 < H1.length := by omega
  have m4 : 4 < H1.length := by omega
  have m6 : 6 < H1.length := by omega
  have hkeep : ∀ H2 : List Obj, H1.length ≤ H2.length → (∀ o, ¬ sureOwn o → o < H1.length → getH H2 o = getH H1 o) → Keep sureOwn H H2 := fun H2 a b => ⟨by omega, fun o ho hl => by rw [b o ho (by omega), g o (fun h => ho (by simp [sureOwn, h]))]⟩
  have hwB : w.length < Big := Nat.lt_of_le_of_lt hwl (by decide)
  obtain ⟨gc, argC⟩ : ∃ gc, ∀ X, toArgC (H1 ++ X) c = some (L gc w) := by
    cases hc with
    | nils => exact ⟨(true, true), fun X => rfl⟩
    | sl o ver fr w ho hg =>
      refine ⟨(false, true), fun X => ?_⟩
      have hg1 : getH H1 o = .arr fr ver 1 (w.map Row.row) := by rw [g o (fun h => ho (by simp [sureOwn, h])), hg]
      rw [toArgC_sl, getH_keep hg1 (by simp)]
      simp only [if_true, part_map (l := w) rfl, Option.map_some]
      rfl
  obtain ⟨p, wo, can⟩ := s
  simp only at e2 e4
  have hc3 : ∀ X (H2 : List Obj), H2.length = H1.length → (∀ o, ¬ sureOwn o → getH H2 o = getH H1 o) → LstIn 1 sureOwn (H2 ++ X) c w ∧ LstIn 1 sureOwn (H2 ++ X) cw wo := by
    intro X H2 hl2 hg2
    have hk : Keep sureOwn H (H2 ++ X) := hkeep _ (by simp; omega) fun o ho hlo => by rw [getH_left (by omega), hg2 o ho]
    exact ⟨hc.keep hk, w4.keep hk⟩
  cases hfa : failAt l w plan with
  | some k =>
    simp only [go_sem, sureBody, getH_left, setH_left, getH_setH, length_setH, m0, m1, m2, m3, m4, m6, e0, e1, e2, e3, e4, e6, argC, P53 hv hp hpl hwB, playC, hfa, hc0, bodyX]
    subst hlb
    refine ⟨_, rfl, ?_⟩
    have es : sureStep l plan (p, wo, can) w = ((p, wo, false), false) := by simp only [sureStep, hfa]
    rw [es]
    refine ⟨rfl, hkeep _ (by simp [length_setH]) ?_, .inr ⟨rfl, ?_⟩⟩
    · intro o ho hlo
      simp only [sureOwn, not_or] at ho
      simp only [getH_left, length_setH, hlo, getH_setH, ho, false_and, if_false]
    · refine ⟨?_, ?_, ?_, ⟨cw, ?_, (hc3 _ _ (by simp only [length_setH]) (fun o ho => by
        simp only [sureOwn, not_or] at ho
        simp only [getH_setH, ho, false_and, if_false])).2, w5⟩, ?_, ?_⟩ <;> (simp only [go_sem, getH_left, getH_setH, length_setH, m0, m1, m2, m3, m4, m6, e0, e1, e2, e3, e4] <;> rfl)
  | none =>
    by_cases hcd : can = false ∨ IntKind.i64.wrap ((stAt l w plan plan.length).money - l.purse) < p
    · have es : sureStep l plan (p, wo, can) w = ((IntKind.i64.wrap ((stAt l w plan plan.length).money - l.purse), w, true), true) := by simp only [sureStep, hfa]; rw [if_pos hcd]
      rw [es]
      cases can with
      | false =>
        simp only [go_sem, sureBody, getH_left, setH_left, getH_setH, length_setH, m0, m1, m2, m3, m4, m6, e0, e1, e2, e3, e4, e6, argC, P53 hv hp hpl hwB, playC, hfa, hc0, bodyX]
        subst hlb
        refine ⟨_, rfl, hkeep _ (by simp [length_setH]) ?_, .inl ?_⟩
        · intro o ho hlo
          simp only [sureOwn, not_or] at ho
          simp only [getH_left, length_setH, hlo, getH_setH, ho, false_and, if_false]
        · refine ⟨?_, ?_, ?_, ⟨c, ?_, (hc3 _ _ (by simp only [length_setH]) (fun o ho => by
        simp only [sureOwn, not_or] at ho
        simp only [getH_setH, ho, false_and, if_false])).1, hc0⟩, ?_, ?_⟩ <;> (simp only [go_sem, getH_left, getH_setH, length_setH, m0, m1, m2, m3, m4, m6, e0, e1, e2, e3, e4] <;> rfl)
      | true =>
        have hlt : IntKind.i64.wrap ((stAt l w plan plan.length).money - l.purse) < p := by
          rcases hcd with h | h
          · cases h
          · exact h
        simp only [go_sem, sureBody, getH_left, setH_left, getH_setH, length_setH, m0, m1, m2, m3, m4, m6, e0, e1, e2, e3, e4, e6, argC, P53 hv hp hpl hwB, playC, hfa, hc0, bodyX, hlt]
        subst hlb
        refine ⟨_, rfl, hkeep _ (by simp [length_setH]) ?_, .inl ?_⟩
        · intro o ho hlo
          simp only [sureOwn, not_or] at ho
          simp only [getH_left, length_setH, hlo, getH_setH, ho, false_and, if_false]
        · refine ⟨?_, ?_, ?_, ⟨c, ?_, (hc3 _ _ (by simp only [length_setH]) (fun o ho => by
        simp only [sureOwn, not_or] at ho
        simp only [getH_setH, ho, false_and, if_false])).1, hc0⟩, ?_, ?_⟩ <;> (simp only [go_sem, getH_left, getH_setH, length_setH, m0, m1, m2, m3, m4, m6, e0, e1, e2, e3, e4] <;> rfl)
    · have es : sureStep l plan (p, wo, can) w = ((p, wo, can), true) := by simp only [sureStep, hfa]; rw [if_neg hcd]
      rw [es]
      have hc1 : can = true := by
        cases can with
        | true => rfl
        | false => exact absurd (.inl rfl) hcd
      have hlt : ¬ IntKind.i64.wrap ((stAt l w plan plan.length).money - l.purse) < p := fun h => hcd (.inr h)
      subst hc1
      simp only [go_sem, sureBody, getH_left, setH_left, getH_setH, length_setH, m0, m1, m2, m3, m4, m6, e0, e1, e2, e3, e4, e6, argC, P53 hv hp hpl hwB, playC, hfa, hc0, bodyX, hlt]
      subst hlb
      refine ⟨_, rfl, hkeep _ (by simp [length_setH]) ?_, .inl ?_⟩
      · intro o ho hlo
        simp only [sureOwn, not_or] at ho
        simp only [getH_left, length_setH, hlo, getH_setH, ho, false_and, if_false]
      · refine ⟨?_, ?_, ?_, ⟨cw, ?_, (hc3 _ _ (by simp only [length_setH]) (fun o ho => by
        simp only [sureOwn, not_or] at ho
        simp only [getH_setH, ho, false_and, if_false])).2, w5⟩, ?_, ?_⟩ <;> (simp only [go_sem, getH_left, getH_setH, length_setH, m0, m1, m2, m3, m4, m6, e0, e1, e2, e3, e4] <;> rfl)
/-- the sure profit, the worst weather, whether it is affordable: as `sure` goes through the weathers -/
def sureL (l : Land) (plan : List Int) : Int × List Int × Bool := (foldY (sureStep l plan) (0, [], false) (weathersL l)).1
theorem F84 {h : List Obj} {Q : V → List Obj → Prop} : Fn tab (.f 84 [landV g1 g2 l] h) Q ↔ Q (.c (.fn 93 false [] [.ptr h.length 0])) (h ++ [.cells [.int .i64 l.last, .int .i64 l.home, .int .i64 l.purse, .int .i64 l.bad, .int .i64 l.rest, L g1 l.sites, L g2 l.roads]]) := by
  refine Fn_iff (Fn_X (fn := f84) rfl rfl ?_)
  simp only [go_sem, f84]
theorem V64 {g : Bool × Bool} {plan : List Int} (hv : l.Valid) (hp : AreSites l plan) (hpl : plan.length ≤ 100) :
    ∃ b : Bool, ∀ {Q : V → Prop}, CallP tab 64 [landV g1 g2 l, .c (L g plan)] Q ↔ Q (.tup [.c (.int .i64 (sureL l plan).1), .c (L (b, false) (sureL l plan).2.1), .c (.bool (sureL l plan).2.2)]) := by
  suffices h : ∃ b : Bool, CallP tab 64 [landV g1 g2 l, .c (L g plan)] (Eq (.tup [.c (.int .i64 (sureL l plan).1), .c (L (b, false) (sureL l plan).2.1), .c (.bool (sureL l plan).2.2)])) by
    obtain ⟨b, v, hval, rfl⟩ := h
    exact ⟨b, CallP_of hval⟩
  suffices h : CallP tab 64 [landV g1 g2 l, .c (L g plan)] (fun v => ∃ b : Bool, v = (.tup [.c (.int .i64 (sureL l plan).1), .c (L (b, false) (sureL l plan).2.1), .c (.bool (sureL l plan).2.2)])) by
    obtain ⟨v, hval, b, rfl⟩ := h
    exact ⟨b, _, hval, rfl⟩
  refine CallP_X (fn := f64) rfl ?_
  simp only [go_sem, f64, F84]
  refine RX_range ?_
  show CallV tab (.c (.fn 93 false [] [.ptr 5 0])) [.c (.yld 6)] _ _
  rw [CallV_fn]
  have hy := sure_yield (g1 := g1) (g2 := g2) hv (g := g) hp hpl (v0 := landV g1 g2 l) (v1 := .c (L g plan)) (v7 := .c .any) (v8 := .c .any) (v9 := .c .any) (v10 := .c .any) (v11 := .c .any) (v12 := landV g1 g2 l) (v13 := .c (.fn 93 false [] [.ptr 5 0]))
  refine (wth_ok (g1 := g1) (g2 := g2) hv (fun s H X h => h.mono) hy (lb := 5) rfl (by simp [sureOwn]) (s := (0, [], false)) (fun o ho h => ?_) ⟨rfl, rfl, rfl, ⟨.nils, rfl, .nils, rfl⟩, rfl, rfl⟩ rfl).mono ?_
  · simp only [List.length_append, List.length_cons, List.length_nil] at ho
    simp only [sureOwn] at h
    omega
  · rintro v H' ⟨hk, hr⟩
    have key : ∀ lp : ALoop, sureR g1 g2 g l plan lp (foldY (sureStep l plan) (0, [], false) (weathersL l)).1 H' → ∃ b : Bool, ∃ cw : C,
        getH H' 2 = .cells [.int .i64 (sureL l plan).1] ∧ getH H' 3 = .cells [cw] ∧ known [cw] = true ∧ (∀ W X Y Z, toResC (setH (setH (setH (setH H' 6 W) 2 X) 3 Y) 4 Z) cw = some (L (b, false) (sureL l plan).2.1)) ∧ getH H' 4 = .cells [.bool (sureL l plan).2.2] ∧ 6 < H'.length := by
      intro lp hR
      obtain ⟨cw, w3, w4, w5⟩ := hR.h3
      obtain ⟨b, hb⟩ := w4.res
      refine ⟨b, cw, hR.h2, w3, w5, fun W X Y Z => hb _ fun o ho => ?_, hR.h4, lt_of_getH (h := H') (o := 6) (by rw [hR.h6]; simp)⟩
      simp only [sureOwn, not_or] at ho
      simp only [getH_setH, ho, false_and, if_false]
    rcases hr with ⟨_, hR⟩ | ⟨_, hR⟩
    · obtain ⟨b, cw, e2, e3, ek, er, e4, l6⟩ := key _ hR
      refine rangeX_of hR.h6 (fun h => by cases h) fun W => ?_
      have m2 : 2 < H'.length := by omega
      have m3 : 3 < H'.length := by omega
      have m4 : 4 < H'.length := by omega
      simp only [go_sem, false_and, getH_setH, length_setH, e2, e3, e4, ek, er, m2, m3, m4]
      exact ⟨b, rfl⟩
    · obtain ⟨b, cw, e2, e3, ek, er, e4, l6⟩ := key _ hR
      refine rangeX_of hR.h6 (fun h => by cases h) fun W => ?_
      have m2 : 2 < H'.length := by omega
      have m3 : 3 < H'.length := by omega
      have m4 : 4 < H'.length := by omega
      simp only [go_sem, false_and, getH_setH, length_setH, e2, e3, e4, ek, er, m2, m3, m4]
      exact ⟨b, rfl⟩
end Am.Mv
namespace Am.Mv
open Go Am
set_option maxRecDepth 100000
set_option maxHeartbeats 4000000
set_option linter.unusedSimpArgs false
set_option linter.unusedVariables false
variable {l : Land} {g1 g2 : Bool × Bool}
def SureR (b : Bool) (l : Land) (plan : List Int) : V :=
  if checkLand l = 0 then
    if isPlan l plan = true then
      if (sureL l plan).2.2 = true then .tup [.c (.int .i64 (sureL l plan).1), .c (L (b, false) (sureL l plan).2.1), .c (.int .i64 0)]
      else .tup [.c (.int .i64 0), .c .nils, .c (.int .i64 9)]
    else .tup [.c (.int .i64 0), .c .nils, .c (.int .i64 2)]
  else .tup [.c (.int .i64 0), .c .nils, .c (.int .i64 (checkLand l))]
theorem plan_len (h0 : checkLand l = 0) {plan : List Int} (h1 : isPlan l plan = true) : AreSites l plan ∧ plan.length ≤ 100 ∧ plan.length = (l.last + 1).toNat := by
  have hv := valid_of h0
  have l0 := hv.last0
  have l4 := hv.last4
  simp only [isPlan, Bool.and_eq_true, decide_eq_true_eq] at h1
  rw [wrapB (by omega) (by omega)] at h1
  exact ⟨areSites_of h1.2, by omega, by omega⟩
theorem V39 {g3 : Bool × Bool} {plan : List Int} (hf : l.Fits) (hp : plan.length < Big) :
    ∃ b : Bool, ∀ {Q : V → Prop}, CallP tab 39 [landV g1 g2 l, .c (L g3 plan)] Q ↔ Q (SureR b l plan) := by
  by_cases h0 : checkLand l = 0
  · have hv := valid_of h0
    by_cases h1 : isPlan l plan = true
    · obtain ⟨h2, h3, _⟩ := plan_len h0 h1
      obtain ⟨b, P64⟩ := V64 (g1 := g1) (g2 := g2) (g := g3) hv h2 h3
      refine ⟨b, CallP_of ?_⟩
      refine Val_X (fn := f39) rfl ?_
      cases hs : (sureL l plan).2.2 with
      | true => simp only [go_sem, f39, P22 hf, h0, P51 hf.sites hp, h1, P64, SureR, hs]
      | false => simp only [go_sem, f39, P22 hf, h0, P51 hf.sites hp, h1, P64, SureR, hs]
    · refine ⟨true, CallP_of ?_⟩
      refine Val_X (fn := f39) rfl ?_
      simp only [go_sem, f39, P22 hf, h0, P51 hf.sites hp, h1, SureR]
  · refine ⟨true, CallP_of ?_⟩
    refine Val_X (fn := f39) rfl ?_
    simp only [go_sem, f39, P22 hf, h0, SureR]
def proves (l : Land) (plan : List Int) (profit : Int) : Bool := decide (checkLand l = 0) && (isPlan l plan && ((sureL l plan).2.2 && decide (profit ≤ (sureL l plan).1)))
theorem P45 {g3 : Bool × Bool} {plan : List Int} {profit : Int} (hf : l.Fits) (hp : plan.length < Big) {Q : V → Prop} : CallP tab 45 [landV g1 g2 l, .c (L g3 plan), .c (.int .i64 profit)] Q ↔ Q (.c (.bool (proves l plan profit))) := CallP_of (by
  obtain ⟨b, P39⟩ := V39 (g1 := g1) (g2 := g2) (g3 := g3) hf hp
  refine Val_X (fn := f45) rfl ?_
  by_cases h0 : checkLand l = 0
  · by_cases h1 : isPlan l plan = true
    · cases hs : (sureL l plan).2.2 with
      | true => simp only [go_sem, f45, P39, SureR, proves, h0, h1, hs, ge_iff_le]
      | false => simp only [go_sem, f45, P39, SureR, proves, h0, h1, hs]
    · simp only [go_sem, f45, P39, SureR, proves, h0, h1]
  · simp only [go_sem, f45, P39, SureR, proves, h0])

/-! plans -/
def plansFrom (n : Nat) (but : Int) : Nat → List Int → List (List Int)
  | 0, w => [w]
  | r + 1, w => (List.range n).flatMap fun (k : Nat) => if (k : Int) = but then [] else plansFrom n but r (w ++ [(k : Int)])
theorem setNth_map {w : List Int} {y : Nat} {k : Int} : setNth (w.map Row.row) y [.int .i64 k] = (w.set y k).map Row.row := by
  induction w generalizing y with
  | nil => rfl
  | cons a w ih =>
    cases y with
    | zero => rfl
    | succ y => simp only [List.map_cons, setNth, List.set_cons_succ, ih]
theorem nth_row {w : List Int} {y : Nat} (h : y < w.length) : nth (w.map Row.row) y = some [.int .i64 (w.getD y default)] := by
  rw [nth_get]; simp [h]; rfl
section
variable {σ : Type} {own : Nat → Prop} {F : C} {R : σ → List Obj → Prop} {step : σ → List Int → σ} {pa : Nat}
/-- what a function does with a plan -/
def DoOk (l : Land) (own : Nat → Prop) (pa : Nat) (F : C) (R : σ → List Obj → Prop) (step : σ → List Int → σ) : Prop :=
  ∀ s H w, w.length = (l.last + 1).toNat → AreSites l w → R s H → getH H pa = .arr false 0 1 (w.map Row.row) → CallV tab (.c F) [.c (.sl pa 0 0 w.length)] H fun _ H' => Keep (fun o => own o ∧ o ≠ pa) H H' ∧ R (step s w) H'
theorem choose_ok (hv : l.Valid) (hpa : own pa) (hR : ∀ s H H', R s H → Keep (fun o => o = pa) H H' → R s H') (hF : DoOk l own pa F R step) {lb db pb bb cb : Nat} {but : Int} (ol : ¬ own lb) (od : ¬ own db) (op : ¬ own pb) (ob : ¬ own bb) (oc : ¬ own cb) :
    ∀ (rem y : Nat) (w : List Int) (s : σ) (H : List Obj), y + rem = (l.last + 1).toNat → w.length = (l.last + 1).toNat → AreSites l (w.take y) → R s H → getH H pa = .arr false 0 1 (w.map Row.row) →
      getH H lb = .cells [.int .i64 l.last, .int .i64 l.home, .int .i64 l.purse, .int .i64 l.bad, .int .i64 l.rest, L g1 l.sites, L g2 l.roads] → getH H db = .cells [F] → getH H pb = .cells [.sl pa 0 0 (l.last + 1).toNat] → getH H bb = .cells [.int .i64 but] → getH H cb = .cells [.fn 83 false [] [.ptr lb 0, .ptr db 0, .ptr pb 0, .ptr bb 0, .ptr cb 0]] →
      Fn tab (.f 83 [.c (.int .i64 y), .c (.ptr lb 0), .c (.ptr db 0), .c (.ptr pb 0), .c (.ptr bb 0), .c (.ptr cb 0)] H) fun _ H' => Keep own H H' ∧ R ((plansFrom l.sites.length but rem (w.take y)).foldl step s) H' ∧ ∃ w' : List Int, getH H' pa = .arr false 0 1 (w'.map Row.row) ∧ w'.length = (l.last + 1).toNat ∧ w'.take y = w.take y
  | 0, y, w, s, H, hy, hw, hsites, hRs, hg, h1, h2, h3, h4, h5 => by
    refine Fn_X (fn := f83) rfl rfl ?_
    have hgt : l.last < (y : Int) := by have := hv.last0; omega
    have ht : w.take y = w := List.take_of_length_le (by omega)
    rw [ht] at hsites ⊢
    simp only [go_sem, f83, h1, h2, h3, hgt, gt_iff_lt]
    rw [← hw]
    refine (hF s H w hw hsites hRs hg).mono ?_
    rintro v H' ⟨hk, hr⟩
    simp only [go_sem]
    have hk' : Keep own H H' := ⟨hk.1, fun o ho hl => hk.2 o (fun h => ho h.1) hl⟩
    exact ⟨hk', hr, w, by rw [hk.2 pa (fun h => h.2 rfl) (lt_of_getH (by rw [hg]; simp)), hg], rfl, ht⟩
  | rem + 1, y, w, s, H, hy, hw, hsites, hRs, hg, h1, h2, h3, h4, h5 => by
    refine Fn_X (fn := f83) rfl rfl ?_
    have hgt : ¬ l.last < (y : Int) := by have := hv.last0; omega
    have hn4 := hv.n4
    simp only [go_sem, f83, h1, hgt, gt_iff_lt]
    refine RX_whileU (α := Nat × σ × List Obj × List Int) (fun x => [(18, .c (.int .i64 x.1))]) (fun x => x.2.2.1) (fun x => x.1 ≤ l.sites.length ∧ Keep own H x.2.2.1 ∧ R x.2.1 x.2.2.1 ∧ getH x.2.2.1 pa = .arr false 0 1 (x.2.2.2.map Row.row) ∧ x.2.2.2.length = (l.last + 1).toNat ∧ x.2.2.2.take y = w.take y ∧ x.2.1 = ((List.range x.1).flatMap fun (k : Nat) => if (k : Int) = but then [] else plansFrom l.sites.length but rem (w.take y ++ [(k : Int)])).foldl step s) (fun x => l.sites.length - x.1) (0, s, H, w) ⟨Nat.zero_le _, Keep.refl, hRs, hg, hw, rfl, by simp⟩ (by simp only [go_sem] <;> rfl) ?_
    rintro ⟨k, s', H', w'⟩ ⟨hk1, hK, hR', hg', hw', ht', hs'⟩
    simp only at hk1 hK hR' hg' hw' ht' hs'
    have i1 := hK.get ol h1 (by simp)
    have i2 := hK.get od h2 (by simp)
    have i3 := hK.get op h3 (by simp)
    have i4 := hK.get ob h4 (by simp)
    have i5 := hK.get oc h5 (by simp)
    by_cases hk : k < l.sites.length
    · have hyw : y < w'.length := by omega
      have hyL : (y : Int) < ((l.last + 1).toNat : Int) := by omega
      have npa : ∀ o, ¬ own o → ¬ o = pa := fun o ho h => ho (h ▸ hpa)
      have lpa := lt_of_getH (h := H') (o := pa) (by rw [hg']; simp)
      have j : ∀ o x v, ¬ own o → getH H' o = v → getH (setH H' pa x) o = v := fun o x v ho hv => by rw [getH_setH, if_neg (fun h => npa o ho h.1), hv]
      have j4 := fun x => j bb x _ ob i4
      have j5 := fun x => j cb x _ oc i5
      have hw2 : (w'.set y (k : Int)).length = (l.last + 1).toNat := by rw [List.length_set]; exact hw'
      have ht2 : (w'.set y (k : Int)).take y = w.take y := by rw [List.take_set_of_le (Nat.le_refl _)]; exact ht'
      have ht3 : (w'.set y (k : Int)).take (y + 1) = w.take y ++ [(k : Int)] := by
        rw [take_getD (by omega) default, ht2]; congr 2; rw [getD_lt _ _ _ (by omega)]; simp
      have hH2 : Keep (fun o => o = pa) H' (setH H' pa (.arr false 0 1 ((w'.set y (k : Int)).map Row.row))) := ⟨by rw [length_setH]; exact Nat.le_refl _, fun o ho hl => by rw [getH_setH, if_neg (fun h => ho h.1)]⟩
      have hK2 : Keep own H (setH H' pa (.arr false 0 1 ((w'.set y (k : Int)).map Row.row))) := hK.trans ⟨hH2.1, fun o ho hl => hH2.2 o (npa o ho) hl⟩
      have hR2 := hR s' _ _ hR' hH2
      have hgp : getH (setH H' pa (.arr false 0 1 ((w'.set y (k : Int)).map Row.row))) pa = .arr false 0 1 ((w'.set y (k : Int)).map Row.row) := by rw [getH_setH, if_pos ⟨rfl, lpa⟩]
      have hwk : IntKind.i64.wrap ((k : Int) + 1) = ((k + 1 : Nat) : Int) := wrap_succ (n := 1000) (by omega) (by decide)
      have hyk : IntKind.i64.wrap ((y : Int) + 1) = ((y + 1 : Nat) : Int) := by
        have := hv.last4
        exact wrap_succ (n := 1000) (by omega) (by decide)
      by_cases hb : (k : Int) = but
      · have hbT : ((k : Int) = but) = True := by simp [hb]
        simp only [go_sem, hk, i1, i3, hg', nth_row hyw, setNth_map, hyL, j4, j5, hbT, hwk]
        refine ⟨(k + 1, s', setH H' pa (.arr false 0 1 ((w'.set y (k : Int)).map Row.row)), w'.set y (k : Int)), ⟨by simp only; omega, hk, hK2, hR2, hgp, hw2, ht2, ?_⟩, ?_⟩
        · simp only [List.range_succ, List.flatMap_append, List.foldl_append, ← hs', List.flatMap_cons, List.flatMap_nil, hb, if_true, List.append_nil, List.foldl_nil]
        · exact ⟨rfl, rfl⟩
      · simp only [go_sem, hk, i1, i3, hg', nth_row hyw, setNth_map, hyL, j4, j5, hb, hyk]
        refine (choose_ok hv hpa hR hF ol od op ob oc rem (y + 1) (w'.set y (k : Int)) s' _ (by omega) hw2 ?_ hR2 hgp (j lb _ _ ol i1) (j db _ _ od i2) (j pb _ _ op i3) (j4 _) (j5 _)).mono ?_
        · rw [ht3]
          intro x hx
          rcases List.mem_append.1 hx with h | h
          · exact hsites x h
          · rw [List.mem_singleton.1 h]; omega
        · rintro v H3 ⟨hk3, hr3, w3, hg3, hw3, ht4⟩
          simp only [go_sem, hwk]
          refine ⟨(k + 1, _, H3, w3), ⟨by simp only; omega, hk, hK2.trans hk3, hr3, hg3, hw3, ?_, ?_⟩, rfl, rfl⟩
          · have := congrArg (List.take y) ht4
            rw [List.take_take, List.take_take, Nat.min_eq_left (by omega), ht2] at this
            exact this
          · rw [ht3]
            simp only [List.range_succ, List.flatMap_append, List.foldl_append, ← hs', List.flatMap_cons, List.flatMap_nil, hb, if_false, List.append_nil]
    · have hk' : k = l.sites.length := by omega
      subst hk'
      simp only [go_sem, hk]
      refine ⟨hK, ?_, w', hg', hw', ht'⟩
      rw [hs'] at hR'
      exact hR'
end
end Am.Mv
namespace Am.Mv
open Go Am
set_option maxRecDepth 100000
set_option maxHeartbeats 4000000
set_option linter.unusedSimpArgs false
set_option linter.unusedVariables false
variable {l : Land} {g1 g2 : Bool × Bool}
/-- all plans that never have the mill at a site -/
def plansL (l : Land) (but : Int) : List (List Int) := plansFrom l.sites.length but (l.last + 1).toNat []
section
variable {σ : Type} {own : Nat → Prop} {F : C} {R : σ → List Obj → Prop} {step : σ → List Int → σ}
theorem plans_ok (hv : l.Valid) {H : List Obj} (hpa : own (H.length + 3)) (hown : ∀ o, H.length ≤ o → o ≠ H.length + 3 → ¬ own o) (hkF : known [F] = true) (hm : ∀ s H X, R s H → R s (H ++ X)) (hR : ∀ s H1 H', R s H1 → Keep (fun o => o = H.length + 3) H1 H' → R s H') (hF : DoOk l own (H.length + 3) F R step) {but : Int} {s : σ} (hs : R s H) :
    Fn tab (.f 62 [landV g1 g2 l, .c (.int .i64 but), .c F] H) fun _ H' => Keep own H H' ∧ R ((plansL l but).foldl step s) H' := by
  refine Fn_X (fn := f62) rfl rfl ?_
  have l0 := hv.last0
  have l4 := hv.last4
  have hw : IntKind.i64.wrap (l.last + 1) = l.last + 1 := wrapB (by omega) (by omega)
  have a1 : 0 ≤ l.last + 1 := by omega
  have a2 : (l.last + 1) * 8 ≤ 2 ^ 40 := by omega
  simp only [go_sem, f62, hkF, hw, a1, a2]
  have hrep : List.replicate (l.last + 1).toNat [D.int .i64 0] = (List.replicate (l.last + 1).toNat (0 : Int)).map Row.row := by rw [List.map_replicate]; rfl
  refine (choose_ok (g1 := g1) (g2 := g2) hv hpa hR hF (lb := H.length) (db := H.length + 2) (pb := H.length + 4) (bb := H.length + 1) (cb := H.length + 5) (but := but) (hown _ (by omega) (by omega)) (hown _ (by omega) (by omega)) (hown _ (by omega) (by omega)) (hown _ (by omega) (by omega)) (hown _ (by omega) (by omega)) (l.last + 1).toNat 0 (List.replicate (l.last + 1).toNat 0) s _ (by omega) (by simp) (by intro x hx; simp at hx) (hm _ _ _ hs) ?_ ?_ ?_ ?_ ?_ ?_).mono ?_
  · rw [getH_at, hrep]; rfl
  · rw [getH_at0]; rfl
  · rw [getH_at]; rfl
  · rw [getH_at]; rfl
  · rw [getH_at]; rfl
  · rw [getH_at]; rfl
  · rintro v H' ⟨hk, hr, _⟩
    simp only [go_sem]
    exact ⟨Keep.append.trans hk, by simpa [plansL] using hr⟩
end

/-! the best plan -/
def bestStep (l : Land) (s : List Int × Int × Bool) (p : List Int) : List Int × Int × Bool :=
  if (sureL l p).2.2 = true ∧ (s.2.2 = false ∨ s.2.1 < (sureL l p).1) then (p, (sureL l p).1, true) else s
def bestL (l : Land) (but : Int) : List Int × Int × Bool := (plansL l but).foldl (bestStep l) ([], 0, false)
abbrev bestOwn (pa o : Nat) : Prop := o = 1 ∨ o = 2 ∨ o = 3 ∨ o = pa
structure bestR (g1 g2 : Bool × Bool) (l : Land) (pa : Nat) (s : List Int × Int × Bool) (H : List Obj) : Prop where
  h0 : getH H 0 = .cells [.int .i64 l.last, .int .i64 l.home, .int .i64 l.purse, .int .i64 l.bad, .int .i64 l.rest, L g1 l.sites, L g2 l.roads]
  h1 : ∃ c, getH H 1 = .cells [c] ∧ LstIn 1 (bestOwn pa) H c s.1 ∧ known [c] = true
  h2 : getH H 2 = .cells [.int .i64 s.2.1]
  h3 : getH H 3 = .cells [.bool s.2.2]
theorem bestR.keep {pa : Nat} (hpa : 3 < pa) {s : List Int × Int × Bool} {H H' : List Obj} (h : bestR g1 g2 l pa s H) (hk : Keep (fun o => o = pa) H H') : bestR g1 g2 l pa s H' := by
  obtain ⟨c, a, b, d⟩ := h.h1
  exact ⟨hk.get (by omega) h.h0 (by simp), ⟨c, hk.get (by omega) a (by simp), b.keep ⟨hk.1, fun o ho hl => hk.2 o (fun e => ho (by simp [bestOwn, e])) hl⟩, d⟩, hk.get (by omega) h.h2 (by simp), hk.get (by omega) h.h3 (by simp)⟩
theorem best_do (hv : l.Valid) {pa : Nat} (hpa : 3 < pa) : DoOk l (bestOwn pa) pa (.fn 81 false [] [.ptr 0 0, .ptr 3 0, .ptr 2 0, .ptr 1 0]) (bestR g1 g2 l pa) (bestStep l) := by
  intro s H w hw hsites hR hg
  have l4 := hv.last4
  have hwl : w.length ≤ 100 := by omega
  obtain ⟨b, P64⟩ := V64 (g1 := g1) (g2 := g2) (g := (false, true)) hv hsites hwl
  rw [CallV_fn]
  refine Fn_X (fn := f81) rfl rfl ?_
  obtain ⟨c, c1, c2, c3⟩ := hR.h1
  obtain ⟨bp, pr, is⟩ := s
  have e0 := hR.h0
  have e2 := hR.h2
  have e3 := hR.h3
  simp only at c1 c2 e2 e3
  have lp := lt_of_getH (h := H) (o := pa) (by rw [hg]; simp)
  have m0 : 0 < H.length := by omega
  have m1 : 1 < H.length := by omega
  have m2 : 2 < H.length := by omega
  have m3 : 3 < H.length := by omega
  have b1 : w.length * 8 ≤ 2 ^ 40 := by omega
  cases hs : (sureL l w).2.2 with
  | false =>
    have es : bestStep l (bp, pr, is) w = (bp, pr, is) := by simp [bestStep, hs]
    rw [es]
    simp only [go_sem, f81, e0, e2, e3, hg, P64, hs]
    exact ⟨Keep.refl, hR⟩
  | true =>
    by_cases hc : is = false ∨ pr < (sureL l w).1
    · have es : bestStep l (bp, pr, is) w = (w, (sureL l w).1, true) := by simp only [bestStep, hs]; rw [if_pos ⟨trivial, hc⟩]
      rw [es]
      have hfin : ∀ H', H' = setH (setH (setH H 1 (.cells [.sl H.length 0 0 w.length])) 2 (.cells [.int .i64 (sureL l w).1])) 3 (.cells [.bool true]) ++ [.arr false 0 1 (w.map Row.row)] → Keep (fun o => bestOwn pa o ∧ o ≠ pa) H H' ∧ bestR g1 g2 l pa (w, (sureL l w).1, true) H' := by
        rintro H' rfl
        refine ⟨⟨by simp [length_setH], fun o ho hlo => ?_⟩, ?_, ⟨_, ?_, .sl H.length 0 false w (fun h => ?_) ?_, rfl⟩, ?_, ?_⟩
        · have n1 : o ≠ 1 := fun h => ho ⟨.inl h, by omega⟩
          have n2 : o ≠ 2 := fun h => ho ⟨.inr (.inl h), by omega⟩
          have n3 : o ≠ 3 := fun h => ho ⟨.inr (.inr (.inl h)), by omega⟩
          simp only [getH_left, length_setH, hlo, getH_setH, n1, n2, n3, false_and, if_false]
        all_goals first | (simp only [go_sem, false_and, getH_left, getH_setH, length_setH, m0, m1, m2, m3, e0] <;> rfl) | skip
        · simp only [bestOwn] at h; omega
        · have := getH_at0 (setH (setH (setH H 1 (.cells [.sl H.length 0 0 w.length])) 2 (.cells [.int .i64 (sureL l w).1])) 3 (.cells [.bool true])) [.arr false 0 1 (w.map Row.row)]
          simp only [length_setH] at this
          rw [this]; rfl
      have lset : ∀ (x : Obj) (o : Nat), o < H.length → (setH H o x).length = H.length := fun x o _ => length_setH
      cases is with
      | false =>
        simp only [go_sem, f81, false_and, e0, e2, e3, hg, P64, hs, getH_left, setH_left, getH_setH, length_setH, lp, m0, m1, m2, m3, b1, c1]
        exact hfin _ rfl
      | true =>
        have hlt : pr < (sureL l w).1 := by
          rcases hc with h | h
          · cases h
          · exact h
        simp only [go_sem, f81, false_and, e0, e2, e3, hg, P64, hs, getH_left, setH_left, getH_setH, length_setH, lp, m0, m1, m2, m3, b1, c1, hlt, gt_iff_lt]
        exact hfin _ rfl
    · have es : bestStep l (bp, pr, is) w = (bp, pr, is) := by simp only [bestStep, hs]; rw [if_neg (fun h => hc h.2)]
      rw [es]
      have hi : is = true := by
        cases is with
        | true => rfl
        | false => exact absurd (.inl rfl) hc
      have hlt : ¬ pr < (sureL l w).1 := fun h => hc (.inr h)
      subst hi
      simp only [go_sem, f81, e0, e2, e3, hg, P64, hs, hlt, gt_iff_lt]
      exact ⟨Keep.refl, hR⟩
theorem V61 (hv : l.Valid) {but : Int} : ∃ b : Bool, ∀ {Q : V → Prop}, CallP tab 61 [landV g1 g2 l, .c (.int .i64 but)] Q ↔ Q (.tup [.c (L (b, false) (bestL l but).1), .c (.int .i64 (bestL l but).2.1), .c (.bool (bestL l but).2.2)]) := by
  suffices h : CallP tab 61 [landV g1 g2 l, .c (.int .i64 but)] (fun v => ∃ b : Bool, v = (.tup [.c (L (b, false) (bestL l but).1), .c (.int .i64 (bestL l but).2.1), .c (.bool (bestL l but).2.2)])) by
    obtain ⟨v, hval, b, rfl⟩ := h
    exact ⟨b, CallP_of hval⟩
  refine CallP_X (fn := f61) rfl ?_
  simp only [go_sem, f61]
  refine (plans_ok (g1 := g1) (g2 := g2) hv (own := bestOwn 7) (by simp [bestOwn]) (fun o ho h => by simp only [List.length_cons, List.length_nil] at ho h; simp only [bestOwn]; omega) rfl (R := bestR g1 g2 l 7) (fun s H X h => h.keep (by decide) .append) (by exact fun s H1 H' h hk => h.keep (by decide) hk) (best_do hv (by decide)) (s := ([], 0, false)) ⟨rfl, ⟨.nils, rfl, .nils, rfl⟩, rfl, rfl⟩).mono ?_
  rintro v H' ⟨hk, hR⟩
  obtain ⟨c, e1, c2, c3⟩ := hR.h1
  obtain ⟨b, hb⟩ := c2.res
  have e2 := hR.h2
  have e3 := hR.h3
  have m3 := lt_of_getH (h := H') (o := 3) (by rw [e3]; simp)
  have m1 : 1 < H'.length := by omega
  have m2 : 2 < H'.length := by omega
  have er : ∀ X Y Z, toResC (setH (setH (setH H' 1 X) 2 Y) 3 Z) c = some (L (b, false) (bestL l but).1) := fun X Y Z => hb _ fun o ho => by
    simp only [bestOwn, not_or] at ho
    simp only [getH_setH, ho, false_and, if_false]
  simp only [go_sem, false_and, getH_setH, length_setH, e1, e2, e3, c3, er, m1, m2, m3]
  exact ⟨b, rfl, rfl, rfl⟩
def BestR (b : Bool) (l : Land) : V :=
  if checkLand l = 0 then
    if (bestL l (-1)).2.2 = true then .tup [.c (L (b, false) (bestL l (-1)).1), .c (.int .i64 (bestL l (-1)).2.1), .c (.int .i64 0)]
    else .tup [.c .nils, .c (.int .i64 0), .c (.int .i64 10)]
  else .tup [.c .nils, .c (.int .i64 0), .c (.int .i64 (checkLand l))]
theorem V27 (hf : l.Fits) : ∃ b : Bool, ∀ {Q : V → Prop}, CallP tab 27 [landV g1 g2 l] Q ↔ Q (BestR b l) := by
  by_cases h0 : checkLand l = 0
  · obtain ⟨b, P61⟩ := V61 (g1 := g1) (g2 := g2) (valid_of h0) (but := -1)
    refine ⟨b, CallP_of (Val_X (fn := f27) rfl ?_)⟩
    cases hs : (bestL l (-1)).2.2 with
    | true => simp only [go_sem, f27, P22 hf, h0, P61, BestR, hs]
    | false => simp only [go_sem, f27, P22 hf, h0, P61, BestR, hs]
  · refine ⟨true, CallP_of (Val_X (fn := f27) rfl ?_)⟩
    simp only [go_sem, f27, P22 hf, h0, BestR]
def WorthR (l : Land) (site : Int) : V :=
  if checkLand l = 0 then
    if isSite l.sites site = true then
      if (bestL l site).2.2 = true then .tup [.c (.int .i64 (IntKind.i64.wrap ((bestL l (-1)).2.1 - (bestL l site).2.1))), .c (.int .i64 0)]
      else .tup [.c (.int .i64 0), .c (.int .i64 10)]
    else .tup [.c (.int .i64 0), .c (.int .i64 2)]
  else .tup [.c (.int .i64 0), .c (.int .i64 (checkLand l))]
theorem P29 (hf : l.Fits) {site : Int} {Q : V → Prop} : CallP tab 29 [landV g1 g2 l, .c (.int .i64 site)] Q ↔ Q (WorthR l site) := CallP_of (by
  refine Val_X (fn := f29) rfl ?_
  by_cases h0 : checkLand l = 0
  · by_cases h1 : isSite l.sites site = true
    · obtain ⟨b, P61⟩ := V61 (g1 := g1) (g2 := g2) (valid_of h0) (but := site)
      obtain ⟨b', P61'⟩ := V61 (g1 := g1) (g2 := g2) (valid_of h0) (but := -1)
      cases hs : (bestL l site).2.2 with
      | true => simp only [go_sem, f29, P22 hf, h0, P55 hf.sites, h1, P61, P61', WorthR, hs]
      | false => simp only [go_sem, f29, P22 hf, h0, P55 hf.sites, h1, P61, P61', WorthR, hs]
    · simp only [go_sem, f29, P22 hf, h0, P55 hf.sites, h1, WorthR]
  · simp only [go_sem, f29, P22 hf, h0, WorthR])
/-- the first year whose site is not Home -/
def moveL (l : Land) (plan : List Int) : Int := match (List.range plan.length).find? fun k => plan.getD k default != l.home with
  | some k => k
  | none => IntKind.i64.wrap (l.last + 1)
theorem P65 {g : Bool × Bool} {plan : List Int} (hp : plan.length < Big) {Q : V → Prop} : CallP tab 65 [landV g1 g2 l, .c (L g plan)] Q ↔ Q (.c (.int .i64 (moveL l plan))) := CallP_of (by
  refine Val_X (fn := f65) rfl ?_
  simp only [go_sem, f65]
  refine RX_for plan.length (fun k => [(12, .c (.int .i64 k))]) (fun _ => [.cells [.int .i64 l.last, .int .i64 l.home, .int .i64 l.purse, .int .i64 l.bad, .int .i64 l.rest, L g1 l.sites, L g2 l.roads]]) (fun k => ∀ i, i < k → plan.getD i default = l.home) (fun i h => by omega) (by simp only [go_sem] <;> rfl) ?_
  intro k hk hP
  by_cases h1 : k < plan.length
  · simp only [go_sem, h1, wrap_succ h1 hp, atI_nat]
    refine ⟨fun e => ?_, fun e i hi => ?_⟩
    · have : (List.range plan.length).find? (fun k => plan.getD k default != l.home) = some k := by
        rw [List.find?_range_eq_some]
        exact ⟨by simpa using e, by simpa using h1, fun i hi => by simpa using hP i hi⟩
      simp only [moveL, this]
    · by_cases hik : i = k
      · subst hik; exact e
      · exact hP i (by omega)
  · simp only [go_sem, h1]
    have : (List.range plan.length).find? (fun k => plan.getD k default != l.home) = none := by
      rw [List.find?_range_eq_none]
      intro i hi
      simpa using hP i (by omega)
    simp only [moveL, this])
def lateStep (l : Land) (profit : Int) (s : Int) (p : List Int) : Int := if (sureL l p).2.2 = true ∧ (sureL l p).1 = profit then max s (moveL l p) else s
end Am.Mv
namespace Am.Mv
open Go Am
set_option maxRecDepth 100000
set_option maxHeartbeats 4000000
set_option linter.unusedSimpArgs false
set_option linter.unusedVariables false
variable {l : Land} {g1 g2 : Bool × Bool}
abbrev lateOwn (pa o : Nat) : Prop := o = 2 ∨ o = pa
structure lateR (g1 g2 : Bool × Bool) (l : Land) (pr : Int) (s : Int) (H : List Obj) : Prop where
  h0 : getH H 0 = .cells [.int .i64 l.last, .int .i64 l.home, .int .i64 l.purse, .int .i64 l.bad, .int .i64 l.rest, L g1 l.sites, L g2 l.roads]
  h1 : getH H 1 = .cells [.int .i64 pr]
  h2 : getH H 2 = .cells [.int .i64 s]
theorem lateR.keep {pa : Nat} (hpa : 2 < pa) {pr s : Int} {H H' : List Obj} (h : lateR g1 g2 l pr s H) (hk : Keep (fun o => o = pa) H H') : lateR g1 g2 l pr s H' :=
  ⟨hk.get (by omega) h.h0 (by simp), hk.get (by omega) h.h1 (by simp), hk.get (by omega) h.h2 (by simp)⟩
theorem late_do (hv : l.Valid) {pa : Nat} (hpa : 2 < pa) {pr : Int} : DoOk l (lateOwn pa) pa (.fn 63 false [] [.ptr 0 0, .ptr 1 0, .ptr 2 0]) (lateR g1 g2 l pr) (lateStep l pr) := by
  intro s H w hw hsites hR hg
  have l4 := hv.last4
  have hwl : w.length ≤ 100 := by omega
  have hwB : w.length < Big := Nat.lt_of_le_of_lt hwl (by decide)
  obtain ⟨b, P64⟩ := V64 (g1 := g1) (g2 := g2) (g := (false, true)) hv hsites hwl
  rw [CallV_fn]
  refine Fn_X (fn := f63) rfl rfl ?_
  have e0 := hR.h0
  have e1 := hR.h1
  have e2 := hR.h2
  have lp := lt_of_getH (h := H) (o := pa) (by rw [hg]; simp)
  have m2 : 2 < H.length := by omega
  have n1 : ¬ pa = 2 := by omega
  have n2 : ¬ 2 = pa := by omega
  have n3 : ¬ pa = 0 := by omega
  have n4 : ¬ pa = 1 := by omega
  have n5 : ¬ 0 = pa := by omega
  have n6 : ¬ 1 = pa := by omega
  cases hs : (sureL l w).2.2 with
  | false =>
    have es : lateStep l pr s w = s := by simp [lateStep, hs]
    rw [es]
    simp only [go_sem, f63, e0, e1, e2, hg, P64, hs]
    exact ⟨Keep.refl, hR⟩
  | true =>
    by_cases hc : (sureL l w).1 = pr
    · have es : lateStep l pr s w = max s (moveL l w) := by simp only [lateStep, hs]; rw [if_pos ⟨trivial, hc⟩]
      rw [es]
      simp only [go_sem, f63, e0, e1, e2, hg, P64, hs, hc, P65 hwB, n1, n2, n3, n4, n5, n6]
      refine ⟨⟨by simp [length_setH], fun o ho hlo => ?_⟩, ?_, ?_, ?_⟩
      · have n2 : o ≠ 2 := fun h => ho ⟨.inl h, by omega⟩
        rw [getH_setH, if_neg (fun h => n2 h.1)]
      all_goals simp only [go_sem, false_and, getH_setH, m2, e0, e1]
    · have es : lateStep l pr s w = s := by simp only [lateStep, hs]; rw [if_neg (fun h => hc h.2)]
      rw [es]
      simp only [go_sem, f63, e0, e1, e2, hg, P64, hs, hc]
      exact ⟨Keep.refl, hR⟩
def lateL (l : Land) : Int := (plansL l (-1)).foldl (lateStep l (bestL l (-1)).2.1) 0
def LateR (l : Land) : V :=
  if checkLand l = 0 then
    if (bestL l (-1)).2.2 = true then .tup [.c (.int .i64 (lateL l)), .c (.int .i64 0)]
    else .tup [.c (.int .i64 0), .c (.int .i64 10)]
  else .tup [.c (.int .i64 0), .c (.int .i64 (checkLand l))]
theorem P28 (hf : l.Fits) {Q : V → Prop} : CallP tab 28 [landV g1 g2 l] Q ↔ Q (LateR l) := CallP_of (by
  obtain ⟨b, P27⟩ := V27 (g1 := g1) (g2 := g2) hf
  refine Val_X (fn := f28) rfl ?_
  by_cases h0 : checkLand l = 0
  · have hv := valid_of h0
    cases hs : (bestL l (-1)).2.2 with
    | true =>
      simp only [go_sem, f28, P27, BestR, h0, hs, LateR]
      refine (plans_ok (g1 := g1) (g2 := g2) hv (own := lateOwn 6) (by simp [lateOwn]) (by intro o ho h; simp only [List.length_cons, List.length_nil] at ho h; simp only [lateOwn]; omega) rfl (R := lateR g1 g2 l (bestL l (-1)).2.1) (fun s H X h => h.keep (pa := 6) (by decide) .append) (by exact fun s H1 H' h hk => h.keep (pa := 6) (by decide) hk) (by exact late_do hv (show 2 < 6 by decide)) (s := 0) ⟨rfl, rfl, rfl⟩).mono ?_
      rintro v H' ⟨hk, hR⟩
      have e2 := hR.h2
      simp only [go_sem, e2]
      rfl
    | false => simp only [go_sem, f28, P27, BestR, h0, hs, LateR]
  · have hc : ¬ checkLand l = 0 := h0
    simp only [go_sem, f28, P27, BestR, h0, LateR])
end Am.Mv
