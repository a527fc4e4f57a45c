/-
  A part of the proof: the texts M12, M13, M14 of this seat, joined.
-/
import Derived.Test.YtgbcbeahnnjlfaaWalkB
namespace Am.Mv
open Go Am Am.Tm
set_option maxRecDepth 100000
set_option maxHeartbeats 4000000
set_option linter.unusedSimpArgs false
set_option linter.unusedVariables false
variable {l : Land} {g1 g2 : Bool × Bool}
def SureR (b : Bool) (l : Land) (plan : List Int) : V :=
  if checkLand l = 0 then
    if isPlan l plan = true then
      if (sureL l plan).2.2 = true then .tup [.c (.int .i64 (sureL l plan).1), .c (L (b, false) (sureL l plan).2.1), .c (.int .i64 0)]
      else .tup [.c (.int .i64 0), .c .nils, .c (.int .i64 9)]
    else .tup [.c (.int .i64 0), .c .nils, .c (.int .i64 2)]
  else .tup [.c (.int .i64 0), .c .nils, .c (.int .i64 (checkLand l))]
theorem plan_len (h0 : checkLand l = 0) {plan : List Int} (h1 : isPlan l plan = true) : AreSites l plan ∧ plan.length ≤ 100 ∧ plan.length = (l.last + 1).toNat := by
  have hv := valid_of h0
  have l0 := hv.last0
  have l4 := hv.last4
  simp only [isPlan, Bool.and_eq_true, decide_eq_true_eq] at h1
  rw [wrapB (by omega) (by omega)] at h1
  exact ⟨areSites_of h1.2, by omega, by omega⟩
theorem V39 {g3 : Bool × Bool} {plan : List Int} (hf : l.Fits) (hp : plan.length < Big) :
    ∃ b : Bool, ∀ {Q : V → Prop}, CallP tab 14 [landV g1 g2 l, .c (L g3 plan)] Q ↔ Q (SureR b l plan) := by
  by_cases h0 : checkLand l = 0
  · have hv := valid_of h0
    by_cases h1 : isPlan l plan = true
    · obtain ⟨h2, h3, _⟩ := plan_len h0 h1
      obtain ⟨b, P64⟩ := V64 (g1 := g1) (g2 := g2) (g := g3) hv h2 h3
      refine ⟨b, CallP_of ?_⟩
      refine Val_X (fn := f14) rfl ?_
      cases hs : (sureL l plan).2.2 with
      | true => simp only [go_sem, f14, P22 hf, h0, P51 hf.sites hp, h1, P64, SureR, hs]
      | false => simp only [go_sem, f14, P22 hf, h0, P51 hf.sites hp, h1, P64, SureR, hs]
    · refine ⟨true, CallP_of ?_⟩
      refine Val_X (fn := f14) rfl ?_
      simp only [go_sem, f14, P22 hf, h0, P51 hf.sites hp, h1, SureR]
  · refine ⟨true, CallP_of ?_⟩
    refine Val_X (fn := f14) rfl ?_
    simp only [go_sem, f14, P22 hf, h0, SureR]
def proves (l : Land) (plan : List Int) (profit : Int) : Bool := decide (checkLand l = 0) && (isPlan l plan && ((sureL l plan).2.2 && decide (profit ≤ (sureL l plan).1)))
theorem P45 {g3 : Bool × Bool} {plan : List Int} {profit : Int} (hf : l.Fits) (hp : plan.length < Big) {Q : V → Prop} : CallP tab 19 [landV g1 g2 l, .c (L g3 plan), .c (.int .i64 profit)] Q ↔ Q (.c (.bool (proves l plan profit))) := CallP_of (by
  obtain ⟨b, P39⟩ := V39 (g1 := g1) (g2 := g2) (g3 := g3) hf hp
  refine Val_X (fn := f19) rfl ?_
  by_cases h0 : checkLand l = 0
  · by_cases h1 : isPlan l plan = true
    · cases hs : (sureL l plan).2.2 with
      | true => simp only [go_sem, f19, P39, SureR, proves, h0, h1, hs, ge_iff_le]
      | false => simp only [go_sem, f19, P39, SureR, proves, h0, h1, hs]
    · simp only [go_sem, f19, P39, SureR, proves, h0, h1]
  · simp only [go_sem, f19, P39, SureR, proves, h0])

/-! plans -/
def plansFrom (n : Nat) (but : Int) : Nat → List Int → List (List Int)
  | 0, w => [w]
  | r + 1, w => (List.range n).flatMap fun (k : Nat) => if (k : Int) = but then [] else plansFrom n but r (w ++ [(k : Int)])
theorem setNth_map {w : List Int} {y : Nat} {k : Int} : setNth (w.map Row.row) y [.int .i64 k] = (w.set y k).map Row.row := by
  induction w generalizing y with
  | nil => rfl
  | cons a w ih =>
    cases y with
    | zero => rfl
    | succ y => simp only [List.map_cons, setNth, List.set_cons_succ, ih]
theorem nth_row {w : List Int} {y : Nat} (h : y < w.length) : nth (w.map Row.row) y = some [.int .i64 (w.getD y default)] := by
  rw [nth_get]; simp [h]; rfl
section
variable {σ : Type} {own : Nat → Prop} {F : C} {R : σ → List Obj → Prop} {step : σ → List Int → σ} {pa : Nat}
/-- what a function does with a plan -/
def DoOk (l : Land) (own : Nat → Prop) (pa : Nat) (F : C) (R : σ → List Obj → Prop) (step : σ → List Int → σ) : Prop :=
  ∀ s H w, w.length = (l.last + 1).toNat → AreSites l w → R s H → getH H pa = .arr false 0 1 (w.map Row.row) → CallV tab (.c F) [.c (.sl pa 0 0 w.length)] H fun _ H' => Keep (fun o => own o ∧ o ≠ pa) H H' ∧ R (step s w) H'
theorem choose_ok (hv : l.Valid) (hpa : own pa) (hR : ∀ s H H', R s H → Keep (fun o => o = pa) H H' → R s H') (hF : DoOk l own pa F R step) {lb db pb bb cb : Nat} {but : Int} (ol : ¬ own lb) (od : ¬ own db) (op : ¬ own pb) (ob : ¬ own bb) (oc : ¬ own cb) :
    ∀ (rem y : Nat) (w : List Int) (s : σ) (H : List Obj), y + rem = (l.last + 1).toNat → w.length = (l.last + 1).toNat → AreSites l (w.take y) → R s H → getH H pa = .arr false 0 1 (w.map Row.row) →
      getH H lb = .cells [.int .i64 l.last, .int .i64 l.home, .int .i64 l.purse, .int .i64 l.bad, .int .i64 l.rest, L g1 l.sites, L g2 l.roads] → getH H db = .cells [F] → getH H pb = .cells [.sl pa 0 0 (l.last + 1).toNat] → getH H bb = .cells [.int .i64 but] → getH H cb = .cells [.fn 61 false [] [.ptr lb 0, .ptr db 0, .ptr pb 0, .ptr bb 0, .ptr cb 0]] →
      Fn tab (.f 61 [.c (.int .i64 y), .c (.ptr lb 0), .c (.ptr db 0), .c (.ptr pb 0), .c (.ptr bb 0), .c (.ptr cb 0)] H) fun _ H' => Keep own H H' ∧ R ((plansFrom l.sites.length but rem (w.take y)).foldl step s) H' ∧ ∃ w' : List Int, getH H' pa = .arr false 0 1 (w'.map Row.row) ∧ w'.length = (l.last + 1).toNat ∧ w'.take y = w.take y
  | 0, y, w, s, H, hy, hw, hsites, hRs, hg, h1, h2, h3, h4, h5 => by
    refine Fn_X (fn := f61) rfl rfl ?_
    have hgt : l.last < (y : Int) := by have := hv.last0; omega
    have ht : w.take y = w := List.take_of_length_le (by omega)
    rw [ht] at hsites ⊢
    simp only [go_sem, f61, h1, h2, h3, hgt, gt_iff_lt]
    rw [← hw]
    refine (hF s H w hw hsites hRs hg).mono ?_
    rintro v H' ⟨hk, hr⟩
    simp only [go_sem]
    have hk' : Keep own H H' := ⟨hk.1, fun o ho hl => hk.2 o (fun h => ho h.1) hl⟩
    exact ⟨hk', hr, w, by rw [hk.2 pa (fun h => h.2 rfl) (lt_of_getH (by rw [hg]; simp)), hg], rfl, ht⟩
  | rem + 1, y, w, s, H, hy, hw, hsites, hRs, hg, h1, h2, h3, h4, h5 => by
    refine Fn_X (fn := f61) rfl rfl ?_
    have hgt : ¬ l.last < (y : Int) := by have := hv.last0; omega
    have hn4 := hv.n4
    simp only [go_sem, f61, h1, hgt, gt_iff_lt]
    refine RX_whileU (α := Nat × σ × List Obj × List Int) (fun x => [(18, .c (.int .i64 x.1))]) (fun x => x.2.2.1) (fun x => x.1 ≤ l.sites.length ∧ Keep own H x.2.2.1 ∧ R x.2.1 x.2.2.1 ∧ getH x.2.2.1 pa = .arr false 0 1 (x.2.2.2.map Row.row) ∧ x.2.2.2.length = (l.last + 1).toNat ∧ x.2.2.2.take y = w.take y ∧ x.2.1 = ((List.range x.1).flatMap fun (k : Nat) => if (k : Int) = but then [] else plansFrom l.sites.length but rem (w.take y ++ [(k : Int)])).foldl step s) (fun x => l.sites.length - x.1) (0, s, H, w) ⟨Nat.zero_le _, Keep.refl, hRs, hg, hw, rfl, by simp⟩ (by simp only [go_sem] <;> rfl) ?_
    rintro ⟨k, s', H', w'⟩ ⟨hk1, hK, hR', hg', hw', ht', hs'⟩
    simp only at hk1 hK hR' hg' hw' ht' hs'
    have i1 := hK.get ol h1 (by simp)
    have i2 := hK.get od h2 (by simp)
    have i3 := hK.get op h3 (by simp)
    have i4 := hK.get ob h4 (by simp)
    have i5 := hK.get oc h5 (by simp)
    by_cases hk : k < l.sites.length
    · have hyw : y < w'.length := by omega
      have hyL : (y : Int) < ((l.last + 1).toNat : Int) := by omega
      have npa : ∀ o, ¬ own o → ¬ o = pa := fun o ho h => ho (h ▸ hpa)
      have lpa := lt_of_getH (h := H') (o := pa) (by rw [hg']; simp)
      have j : ∀ o x v, ¬ own o → getH H' o = v → getH (setH H' pa x) o = v := fun o x v ho hv => by rw [getH_setH, if_neg (fun h => npa o ho h.1), hv]
      have j4 := fun x => j bb x _ ob i4
      have j5 := fun x => j cb x _ oc i5
      have hw2 : (w'.set y (k : Int)).length = (l.last + 1).toNat := by rw [List.length_set]; exact hw'
      have ht2 : (w'.set y (k : Int)).take y = w.take y := by rw [List.take_set_of_le (Nat.le_refl _)]; exact ht'
      have ht3 : (w'.set y (k : Int)).take (y + 1) = w.take y ++ [(k : Int)] := by
        rw [take_getD (by omega) default, ht2]; congr 2; rw [getD_lt _ _ _ (by omega)]; simp
      have hH2 : Keep (fun o => o = pa) H' (setH H' pa (.arr false 0 1 ((w'.set y (k : Int)).map Row.row))) := ⟨by rw [length_setH]; exact Nat.le_refl _, fun o ho hl => by rw [getH_setH, if_neg (fun h => ho h.1)]⟩
      have hK2 : Keep own H (setH H' pa (.arr false 0 1 ((w'.set y (k : Int)).map Row.row))) := hK.trans ⟨hH2.1, fun o ho hl => hH2.2 o (npa o ho) hl⟩
      have hR2 := hR s' _ _ hR' hH2
      have hgp : getH (setH H' pa (.arr false 0 1 ((w'.set y (k : Int)).map Row.row))) pa = .arr false 0 1 ((w'.set y (k : Int)).map Row.row) := by rw [getH_setH, if_pos ⟨rfl, lpa⟩]
      have hwk : IntKind.i64.wrap ((k : Int) + 1) = ((k + 1 : Nat) : Int) := wrap_succ (n := 1000) (by omega) (by decide)
      have hyk : IntKind.i64.wrap ((y : Int) + 1) = ((y + 1 : Nat) : Int) := by
        have := hv.last4
        exact wrap_succ (n := 1000) (by omega) (by decide)
      by_cases hb : (k : Int) = but
      · have hbT : ((k : Int) = but) = True := by simp [hb]
        simp only [go_sem, hk, i1, i3, hg', nth_row hyw, setNth_map, hyL, j4, j5, hbT, hwk]
        refine ⟨(k + 1, s', setH H' pa (.arr false 0 1 ((w'.set y (k : Int)).map Row.row)), w'.set y (k : Int)), ⟨by simp only; omega, hk, hK2, hR2, hgp, hw2, ht2, ?_⟩, ?_⟩
        · simp only [List.range_succ, List.flatMap_append, List.foldl_append, ← hs', List.flatMap_cons, List.flatMap_nil, hb, if_true, List.append_nil, List.foldl_nil]
        · exact ⟨rfl, rfl⟩
      · simp only [go_sem, hk, i1, i3, hg', nth_row hyw, setNth_map, hyL, j4, j5, hb, hyk]
        refine (choose_ok hv hpa hR hF ol od op ob oc rem (y + 1) (w'.set y (k : Int)) s' _ (by omega) hw2 ?_ hR2 hgp (j lb _ _ ol i1) (j db _ _ od i2) (j pb _ _ op i3) (j4 _) (j5 _)).mono ?_
        · rw [ht3]
          intro x hx
          rcases List.mem_append.1 hx with h | h
          · exact hsites x h
          · rw [List.mem_singleton.1 h]; omega
        · rintro v H3 ⟨hk3, hr3, w3, hg3, hw3, ht4⟩
          simp only [go_sem, hwk]
          refine ⟨(k + 1, _, H3, w3), ⟨by simp only; omega, hk, hK2.trans hk3, hr3, hg3, hw3, ?_, ?_⟩, rfl, rfl⟩
          · have := congrArg (List.take y) ht4
            rw [List.take_take, List.take_take, Nat.min_eq_left (by omega), ht2] at this
            exact this
          · rw [ht3]
            simp only [List.range_succ, List.flatMap_append, List.foldl_append, ← hs', List.flatMap_cons, List.flatMap_nil, hb, if_false, List.append_nil]
    · have hk' : k = l.sites.length := by omega
      subst hk'
      simp only [go_sem, hk]
      refine ⟨hK, ?_, w', hg', hw', ht'⟩
      rw [hs'] at hR'
      exact hR'
end
end Am.Mv

namespace Am.Mv
open Go Am Am.Tm
set_option maxRecDepth 100000
set_option maxHeartbeats 4000000
set_option linter.unusedSimpArgs false
set_option linter.unusedVariables false
variable {l : Land} {g1 g2 : Bool × Bool}
/-- all plans that never have the mill at a site -/
def plansL (l : Land) (but : Int) : List (List Int) := plansFrom l.sites.length but (l.last + 1).toNat []
section
variable {σ : Type} {own : Nat → Prop} {F : C} {R : σ → List Obj → Prop} {step : σ → List Int → σ}
theorem plans_ok (hv : l.Valid) {H : List Obj} (hpa : own (H.length + 3)) (hown : ∀ o, H.length ≤ o → o ≠ H.length + 3 → ¬ own o) (hkF : known [F] = true) (hm : ∀ s H X, R s H → R s (H ++ X)) (hR : ∀ s H1 H', R s H1 → Keep (fun o => o = H.length + 3) H1 H' → R s H') (hF : DoOk l own (H.length + 3) F R step) {but : Int} {s : σ} (hs : R s H) :
    Fn tab (.f 42 [landV g1 g2 l, .c (.int .i64 but), .c F] H) fun _ H' => Keep own H H' ∧ R ((plansL l but).foldl step s) H' := by
  refine Fn_X (fn := f42) rfl rfl ?_
  have l0 := hv.last0
  have l4 := hv.last4
  have hw : IntKind.i64.wrap (l.last + 1) = l.last + 1 := wrapB (by omega) (by omega)
  have a1 : 0 ≤ l.last + 1 := by omega
  have a2 : (l.last + 1) * 8 ≤ 2 ^ 40 := by omega
  simp only [go_sem, f42, hkF, hw, a1, a2]
  have hrep : List.replicate (l.last + 1).toNat [D.int .i64 0] = (List.replicate (l.last + 1).toNat (0 : Int)).map Row.row := by rw [List.map_replicate]; rfl
  refine (choose_ok (g1 := g1) (g2 := g2) hv hpa hR hF (lb := H.length) (db := H.length + 2) (pb := H.length + 4) (bb := H.length + 1) (cb := H.length + 5) (but := but) (hown _ (by omega) (by omega)) (hown _ (by omega) (by omega)) (hown _ (by omega) (by omega)) (hown _ (by omega) (by omega)) (hown _ (by omega) (by omega)) (l.last + 1).toNat 0 (List.replicate (l.last + 1).toNat 0) s _ (by omega) (by simp) (by intro x hx; simp at hx) (hm _ _ _ hs) ?_ ?_ ?_ ?_ ?_ ?_).mono ?_
  · rw [getH_at, hrep]; rfl
  · rw [getH_at0]; rfl
  · rw [getH_at]; rfl
  · rw [getH_at]; rfl
  · rw [getH_at]; rfl
  · rw [getH_at]; rfl
  · rintro v H' ⟨hk, hr, _⟩
    simp only [go_sem]
    exact ⟨Keep.append.trans hk, by simpa [plansL] using hr⟩
end

/-! the best plan -/
def bestStep (l : Land) (s : List Int × Int × Bool) (p : List Int) : List Int × Int × Bool :=
  if (sureL l p).2.2 = true ∧ (s.2.2 = false ∨ s.2.1 < (sureL l p).1) then (p, (sureL l p).1, true) else s
def bestL (l : Land) (but : Int) : List Int × Int × Bool := (plansL l but).foldl (bestStep l) ([], 0, false)
abbrev bestOwn (pa o : Nat) : Prop := o = 1 ∨ o = 2 ∨ o = 3 ∨ o = pa
structure bestR (g1 g2 : Bool × Bool) (l : Land) (pa : Nat) (s : List Int × Int × Bool) (H : List Obj) : Prop where
  h0 : getH H 0 = .cells [.int .i64 l.last, .int .i64 l.home, .int .i64 l.purse, .int .i64 l.bad, .int .i64 l.rest, L g1 l.sites, L g2 l.roads]
  h1 : ∃ c, getH H 1 = .cells [c] ∧ LstIn 1 (bestOwn pa) H c s.1 ∧ known [c] = true
  h2 : getH H 2 = .cells [.int .i64 s.2.1]
  h3 : getH H 3 = .cells [.bool s.2.2]
theorem bestR.keep {pa : Nat} (hpa : 3 < pa) {s : List Int × Int × Bool} {H H' : List Obj} (h : bestR g1 g2 l pa s H) (hk : Keep (fun o => o = pa) H H') : bestR g1 g2 l pa s H' := by
  obtain ⟨c, a, b, d⟩ := h.h1
  exact ⟨hk.get (by omega) h.h0 (by simp), ⟨c, hk.get (by omega) a (by simp), b.keep ⟨hk.1, fun o ho hl => hk.2 o (fun e => ho (by simp [bestOwn, e])) hl⟩, d⟩, hk.get (by omega) h.h2 (by simp), hk.get (by omega) h.h3 (by simp)⟩
theorem best_do (hv : l.Valid) {pa : Nat} (hpa : 3 < pa) : DoOk l (bestOwn pa) pa (.fn 52 false [] [.ptr 0 0, .ptr 3 0, .ptr 2 0, .ptr 1 0]) (bestR g1 g2 l pa) (bestStep l) := by
  intro s H w hw hsites hR hg
  have l4 := hv.last4
  have hwl : w.length ≤ 100 := by omega
  obtain ⟨b, P64⟩ := V64 (g1 := g1) (g2 := g2) (g := (false, true)) hv hsites hwl
  rw [CallV_fn]
  refine Fn_X (fn := f52) rfl rfl ?_
  obtain ⟨c, c1, c2, c3⟩ := hR.h1
  obtain ⟨bp, pr, is⟩ := s
  have e0 := hR.h0
  have e2 := hR.h2
  have e3 := hR.h3
  simp only at c1 c2 e2 e3
  have lp := lt_of_getH (h := H) (o := pa) (by rw [hg]; simp)
  have m0 : 0 < H.length := by omega
  have m1 : 1 < H.length := by omega
  have m2 : 2 < H.length := by omega
  have m3 : 3 < H.length := by omega
  have b1 : w.length * 8 ≤ 2 ^ 40 := by omega
  cases hs : (sureL l w).2.2 with
  | false =>
    have es : bestStep l (bp, pr, is) w = (bp, pr, is) := by simp [bestStep, hs]
    rw [es]
    simp only [go_sem, f52, e0, e2, e3, hg, P64, hs]
    exact ⟨Keep.refl, hR⟩
  | true =>
    by_cases hc : is = false ∨ pr < (sureL l w).1
    · have es : bestStep l (bp, pr, is) w = (w, (sureL l w).1, true) := by simp only [bestStep, hs]; rw [if_pos ⟨trivial, hc⟩]
      rw [es]
      have hfin : ∀ H', H' = setH (setH (setH H 1 (.cells [.sl H.length 0 0 w.length])) 2 (.cells [.int .i64 (sureL l w).1])) 3 (.cells [.bool true]) ++ [.arr false 0 1 (w.map Row.row)] → Keep (fun o => bestOwn pa o ∧ o ≠ pa) H H' ∧ bestR g1 g2 l pa (w, (sureL l w).1, true) H' := by
        rintro H' rfl
        refine ⟨⟨by simp [length_setH], fun o ho hlo => ?_⟩, ?_, ⟨_, ?_, .sl H.length 0 false w (fun h => ?_) ?_, rfl⟩, ?_, ?_⟩
        · have n1 : o ≠ 1 := fun h => ho ⟨.inl h, by omega⟩
          have n2 : o ≠ 2 := fun h => ho ⟨.inr (.inl h), by omega⟩
          have n3 : o ≠ 3 := fun h => ho ⟨.inr (.inr (.inl h)), by omega⟩
          simp only [getH_left, length_setH, hlo, getH_setH, n1, n2, n3, false_and, if_false]
        all_goals first | (simp only [go_sem, false_and, getH_left, getH_setH, length_setH, m0, m1, m2, m3, e0] <;> rfl) | skip
        · simp only [bestOwn] at h; omega
        · have := getH_at0 (setH (setH (setH H 1 (.cells [.sl H.length 0 0 w.length])) 2 (.cells [.int .i64 (sureL l w).1])) 3 (.cells [.bool true])) [.arr false 0 1 (w.map Row.row)]
          simp only [length_setH] at this
          rw [this]; rfl
      have lset : ∀ (x : Obj) (o : Nat), o < H.length → (setH H o x).length = H.length := fun x o _ => length_setH
      cases is with
      | false =>
        simp only [go_sem, f52, false_and, e0, e2, e3, hg, P64, hs, getH_left, setH_left, getH_setH, length_setH, lp, m0, m1, m2, m3, b1, c1]
        exact hfin _ rfl
      | true =>
        have hlt : pr < (sureL l w).1 := by
          rcases hc with h | h
          · cases h
          · exact h
        simp only [go_sem, f52, false_and, e0, e2, e3, hg, P64, hs, getH_left, setH_left, getH_setH, length_setH, lp, m0, m1, m2, m3, b1, c1, hlt, gt_iff_lt]
        exact hfin _ rfl
    · have es : bestStep l (bp, pr, is) w = (bp, pr, is) := by simp only [bestStep, hs]; rw [if_neg (fun h => hc h.2)]
      rw [es]
      have hi : is = true := by
        cases is with
        | true => rfl
        | false => exact absurd (.inl rfl) hc
      have hlt : ¬ pr < (sureL l w).1 := fun h => hc (.inr h)
      subst hi
      simp only [go_sem, f52, e0, e2, e3, hg, P64, hs, hlt, gt_iff_lt]
      exact ⟨Keep.refl, hR⟩
theorem V61 (hv : l.Valid) {but : Int} : ∃ b : Bool, ∀ {Q : V → Prop}, CallP tab 34 [landV g1 g2 l, .c (.int .i64 but)] Q ↔ Q (.tup [.c (L (b, false) (bestL l but).1), .c (.int .i64 (bestL l but).2.1), .c (.bool (bestL l but).2.2)]) := by
  suffices h : CallP tab 34 [landV g1 g2 l, .c (.int .i64 but)] (fun v => ∃ b : Bool, v = (.tup [.c (L (b, false) (bestL l but).1), .c (.int .i64 (bestL l but).2.1), .c (.bool (bestL l but).2.2)])) by
    obtain ⟨v, hval, b, rfl⟩ := h
    exact ⟨b, CallP_of hval⟩
  refine CallP_X (fn := f34) rfl ?_
  simp only [go_sem, f34]
  refine (plans_ok (g1 := g1) (g2 := g2) hv (own := bestOwn 7) (by simp [bestOwn]) (fun o ho h => by simp only [List.length_cons, List.length_nil] at ho h; simp only [bestOwn]; omega) rfl (R := bestR g1 g2 l 7) (fun s H X h => h.keep (by decide) .append) (by exact fun s H1 H' h hk => h.keep (by decide) hk) (best_do hv (by decide)) (s := ([], 0, false)) ⟨rfl, ⟨.nils, rfl, .nils, rfl⟩, rfl, rfl⟩).mono ?_
  rintro v H' ⟨hk, hR⟩
  obtain ⟨c, e1, c2, c3⟩ := hR.h1
  obtain ⟨b, hb⟩ := c2.res
  have e2 := hR.h2
  have e3 := hR.h3
  have m3 := lt_of_getH (h := H') (o := 3) (by rw [e3]; simp)
  have m1 : 1 < H'.length := by omega
  have m2 : 2 < H'.length := by omega
  have er : ∀ X Y Z, toResC (setH (setH (setH H' 1 X) 2 Y) 3 Z) c = some (L (b, false) (bestL l but).1) := fun X Y Z => hb _ fun o ho => by
    simp only [bestOwn, not_or] at ho
    simp only [getH_setH, ho, false_and, if_false]
  simp only [go_sem, false_and, getH_setH, length_setH, e1, e2, e3, c3, er, m1, m2, m3]
  exact ⟨b, rfl, rfl, rfl⟩
def BestR (b : Bool) (l : Land) : V :=
  if checkLand l = 0 then
    if (bestL l (-1)).2.2 = true then .tup [.c (L (b, false) (bestL l (-1)).1), .c (.int .i64 (bestL l (-1)).2.1), .c (.int .i64 0)]
    else .tup [.c .nils, .c (.int .i64 0), .c (.int .i64 10)]
  else .tup [.c .nils, .c (.int .i64 0), .c (.int .i64 (checkLand l))]
theorem V27 (hf : l.Fits) : ∃ b : Bool, ∀ {Q : V → Prop}, CallP tab 20 [landV g1 g2 l] Q ↔ Q (BestR b l) := by
  by_cases h0 : checkLand l = 0
  · obtain ⟨b, P61⟩ := V61 (g1 := g1) (g2 := g2) (valid_of h0) (but := -1)
    refine ⟨b, CallP_of (Val_X (fn := f20) rfl ?_)⟩
    cases hs : (bestL l (-1)).2.2 with
    | true => simp only [go_sem, f20, P22 hf, h0, P61, BestR, hs]
    | false => simp only [go_sem, f20, P22 hf, h0, P61, BestR, hs]
  · refine ⟨true, CallP_of (Val_X (fn := f20) rfl ?_)⟩
    simp only [go_sem, f20, P22 hf, h0, BestR]
def WorthR (l : Land) (site : Int) : V :=
  if checkLand l = 0 then
    if isSite l.sites site = true then
      if (bestL l site).2.2 = true then .tup [.c (.int .i64 (IntKind.i64.wrap ((bestL l (-1)).2.1 - (bestL l site).2.1))), .c (.int .i64 0)]
      else .tup [.c (.int .i64 0), .c (.int .i64 10)]
    else .tup [.c (.int .i64 0), .c (.int .i64 2)]
  else .tup [.c (.int .i64 0), .c (.int .i64 (checkLand l))]
theorem P29 (hf : l.Fits) {site : Int} {Q : V → Prop} : CallP tab 15 [landV g1 g2 l, .c (.int .i64 site)] Q ↔ Q (WorthR l site) := CallP_of (by
  refine Val_X (fn := f15) rfl ?_
  by_cases h0 : checkLand l = 0
  · by_cases h1 : isSite l.sites site = true
    · obtain ⟨b, P61⟩ := V61 (g1 := g1) (g2 := g2) (valid_of h0) (but := site)
      obtain ⟨b', P61'⟩ := V61 (g1 := g1) (g2 := g2) (valid_of h0) (but := -1)
      cases hs : (bestL l site).2.2 with
      | true => simp only [go_sem, f15, P22 hf, h0, P55 hf.sites, h1, P61, P61', WorthR, hs]
      | false => simp only [go_sem, f15, P22 hf, h0, P55 hf.sites, h1, P61, P61', WorthR, hs]
    · simp only [go_sem, f15, P22 hf, h0, P55 hf.sites, h1, WorthR]
  · simp only [go_sem, f15, P22 hf, h0, WorthR])
/-- the first year whose site is not Home -/
def moveL (l : Land) (plan : List Int) : Int := match (List.range plan.length).find? fun k => plan.getD k default != l.home with
  | some k => k
  | none => IntKind.i64.wrap (l.last + 1)
theorem P65 {g : Bool × Bool} {plan : List Int} (hp : plan.length < Big) {Q : V → Prop} : CallP tab 44 [landV g1 g2 l, .c (L g plan)] Q ↔ Q (.c (.int .i64 (moveL l plan))) := CallP_of (by
  refine Val_X (fn := f44) rfl ?_
  simp only [go_sem, f44]
  refine RX_for plan.length (fun k => [(12, .c (.int .i64 k))]) (fun _ => [.cells [.int .i64 l.last, .int .i64 l.home, .int .i64 l.purse, .int .i64 l.bad, .int .i64 l.rest, L g1 l.sites, L g2 l.roads]]) (fun k => ∀ i, i < k → plan.getD i default = l.home) (fun i h => by omega) (by simp only [go_sem] <;> rfl) ?_
  intro k hk hP
  by_cases h1 : k < plan.length
  · simp only [go_sem, h1, wrap_succ h1 hp, atI_nat]
    refine ⟨fun e => ?_, fun e i hi => ?_⟩
    · have : (List.range plan.length).find? (fun k => plan.getD k default != l.home) = some k := by
        rw [List.find?_range_eq_some]
        exact ⟨by simpa using e, by simpa using h1, fun i hi => by simpa using hP i hi⟩
      simp only [moveL, this]
    · by_cases hik : i = k
      · subst hik; exact e
      · exact hP i (by omega)
  · simp only [go_sem, h1]
    have : (List.range plan.length).find? (fun k => plan.getD k default != l.home) = none := by
      rw [List.find?_range_eq_none]
      intro i hi
      simpa using hP i (by omega)
    simp only [moveL, this])
def lateStep (l : Land) (profit : Int) (s : Int) (p : List Int) : Int := if (sureL l p).2.2 = true ∧ (sureL l p).1 = profit then max s (moveL l p) else s
end Am.Mv

namespace Am.Mv
open Go Am Am.Tm
set_option maxRecDepth 100000
set_option maxHeartbeats 4000000
set_option linter.unusedSimpArgs false
set_option linter.unusedVariables false
variable {l : Land} {g1 g2 : Bool × Bool}
abbrev lateOwn (pa o : Nat) : Prop := o = 2 ∨ o = pa
structure lateR (g1 g2 : Bool × Bool) (l : Land) (pr : Int) (s : Int) (H : List Obj) : Prop where
  h0 : getH H 0 = .cells [.int .i64 l.last, .int .i64 l.home, .int .i64 l.purse, .int .i64 l.bad, .int .i64 l.rest, L g1 l.sites, L g2 l.roads]
  h1 : getH H 1 = .cells [.int .i64 pr]
  h2 : getH H 2 = .cells [.int .i64 s]
theorem lateR.keep {pa : Nat} (hpa : 2 < pa) {pr s : Int} {H H' : List Obj} (h : lateR g1 g2 l pr s H) (hk : Keep (fun o => o = pa) H H') : lateR g1 g2 l pr s H' :=
  ⟨hk.get (by omega) h.h0 (by simp), hk.get (by omega) h.h1 (by simp), hk.get (by omega) h.h2 (by simp)⟩
theorem late_do (hv : l.Valid) {pa : Nat} (hpa : 2 < pa) {pr : Int} : DoOk l (lateOwn pa) pa (.fn 43 false [] [.ptr 0 0, .ptr 1 0, .ptr 2 0]) (lateR g1 g2 l pr) (lateStep l pr) := by
  intro s H w hw hsites hR hg
  have l4 := hv.last4
  have hwl : w.length ≤ 100 := by omega
  have hwB : w.length < Big := Nat.lt_of_le_of_lt hwl (by decide)
  obtain ⟨b, P64⟩ := V64 (g1 := g1) (g2 := g2) (g := (false, true)) hv hsites hwl
  rw [CallV_fn]
  refine Fn_X (fn := f43) rfl rfl ?_
  have e0 := hR.h0
  have e1 := hR.h1
  have e2 := hR.h2
  have lp := lt_of_getH (h := H) (o := pa) (by rw [hg]; simp)
  have m2 : 2 < H.length := by omega
  have n1 : ¬ pa = 2 := by omega
  have n2 : ¬ 2 = pa := by omega
  have n3 : ¬ pa = 0 := by omega
  have n4 : ¬ pa = 1 := by omega
  have n5 : ¬ 0 = pa := by omega
  have n6 : ¬ 1 = pa := by omega
  cases hs : (sureL l w).2.2 with
  | false =>
    have es : lateStep l pr s w = s := by simp [lateStep, hs]
    rw [es]
    simp only [go_sem, f43, e0, e1, e2, hg, P64, hs]
    exact ⟨Keep.refl, hR⟩
  | true =>
    by_cases hc : (sureL l w).1 = pr
    · have es : lateStep l pr s w = max s (moveL l w) := by simp only [lateStep, hs]; rw [if_pos ⟨trivial, hc⟩]
      rw [es]
      simp only [go_sem, f43, e0, e1, e2, hg, P64, hs, hc, P65 hwB, n1, n2, n3, n4, n5, n6]
      refine ⟨⟨by simp [length_setH], fun o ho hlo => ?_⟩, ?_, ?_, ?_⟩
      · have n2 : o ≠ 2 := fun h => ho ⟨.inl h, by omega⟩
        rw [getH_setH, if_neg (fun h => n2 h.1)]
      all_goals simp only [go_sem, false_and, getH_setH, m2, e0, e1]
    · have es : lateStep l pr s w = s := by simp only [lateStep, hs]; rw [if_neg (fun h => hc h.2)]
      rw [es]
      simp only [go_sem, f43, e0, e1, e2, hg, P64, hs, hc]
      exact ⟨Keep.refl, hR⟩
def lateL (l : Land) : Int := (plansL l (-1)).foldl (lateStep l (bestL l (-1)).2.1) 0
def LateR (l : Land) : V :=
  if checkLand l = 0 then
    if (bestL l (-1)).2.2 = true then .tup [.c (.int .i64 (lateL l)), .c (.int .i64 0)]
    else .tup [.c (.int .i64 0), .c (.int .i64 10)]
  else .tup [.c (.int .i64 0), .c (.int .i64 (checkLand l))]
theorem P28 (hf : l.Fits) {Q : V → Prop} : CallP tab 25 [landV g1 g2 l] Q ↔ Q (LateR l) := CallP_of (by
  obtain ⟨b, P27⟩ := V27 (g1 := g1) (g2 := g2) hf
  refine Val_X (fn := f25) rfl ?_
  by_cases h0 : checkLand l = 0
  · have hv := valid_of h0
    cases hs : (bestL l (-1)).2.2 with
    | true =>
      simp only [go_sem, f25, P27, BestR, h0, hs, LateR]
      refine (plans_ok (g1 := g1) (g2 := g2) hv (own := lateOwn 6) (by simp [lateOwn]) (by intro o ho h; simp only [List.length_cons, List.length_nil] at ho h; simp only [lateOwn]; omega) rfl (R := lateR g1 g2 l (bestL l (-1)).2.1) (fun s H X h => h.keep (pa := 6) (by decide) .append) (by exact fun s H1 H' h hk => h.keep (pa := 6) (by decide) hk) (by exact late_do hv (show 2 < 6 by decide)) (s := 0) ⟨rfl, rfl, rfl⟩).mono ?_
      rintro v H' ⟨hk, hR⟩
      have e2 := hR.h2
      simp only [go_sem, e2]
      rfl
    | false => simp only [go_sem, f25, P27, BestR, h0, hs, LateR]
  · have hc : ¬ checkLand l = 0 := h0
    simp only [go_sem, f25, P27, BestR, h0, LateR])
end Am.Mv

