/-
  A part of the proof: the texts I3 of this seat, joined.
-/
import Derived.Test.YtiblicjmmippnaaWalkX
namespace Am.Cr
open Go Am
set_option maxRecDepth 100000
set_option maxHeartbeats 4000000
set_option linter.unusedSimpArgs false
set_option linter.unusedVariables false
variable {g1 g2 g3 g4 g5 : Bool × Bool} {f x : Field}
theorem linside {a b c d : Int} (h1 : c ≤ a) (h2 : b ≤ d) {Q : V → Prop} : CallP tab 33 [.agg [.int .i64 a, .int .i64 b], .agg [.int .i64 c, .int .i64 d]] Q ↔ Q (.c (.bool true)) := CallP_of (by
  refine Val_X (fn := f33) rfl ?_
  simp only [go_sem, f33, ge_iff_le, h1, h2])
theorem setNth_gen {α : Type} [Row α] {l : List α} {j : Nat} {a : α} : setNth (l.map Row.row) j (Row.row a) = (l.set j a).map Row.row := by
  induction l generalizing j with
  | nil => cases j <;> rfl
  | cons x l ih => cases j with
    | zero => rfl
    | succ j => simp only [List.map_cons, setNth, List.set_cons_succ, ih]
theorem setNth_rg {l : List Rg} {j : Nat} {a b : Int} : setNth (l.map (Row.row (α := Rg))) j [.int .i64 a, .int .i64 b] = (l.set j ⟨a, b⟩).map Row.row := setNth_gen (a := (⟨a, b⟩ : Rg))
theorem setNth_lk {l : List Lk} {j : Nat} {a b c : Int} : setNth (l.map (Row.row (α := Lk))) j [.int .i64 a, .int .i64 b, .int .i64 c] = (l.set j ⟨a, ⟨b, c⟩⟩).map Row.row := setNth_gen (a := (⟨a, ⟨b, c⟩⟩ : Lk))
theorem nth_set {α : Type} {l : List α} {j : Nat} {a : α} (h : j < l.length) : nth (l.set j a) j = some a := by
  rw [nth_get, List.getElem?_set_self h]
theorem CropWider_val {which by' bits : Int} (hw0 : 0 ≤ which) (hw1 : which ≤ 255) (hy0 : 0 ≤ by') (hy1 : by' ≤ 255) (hb0 : 0 ≤ bits) (hb1 : bits ≤ 65535) : Val tab 7 [fieldV g1 g2 g3 g4 g5 f, .c (.int .u8 which), .c (.int .u8 by'), .c (.int .u16 bits)] (.c (.bool true)) := by
  obtain ⟨wn, rfl⟩ : ∃ n : Nat, which = n := ⟨which.toNat, by omega⟩
  obtain ⟨yn, rfl⟩ : ∃ n : Nat, by' = n := ⟨by'.toNat, by omega⟩
  obtain ⟨bn, rfl⟩ : ∃ n : Nat, bits = n := ⟨bits.toNat, by omega⟩
  refine Val_X (fn := f7) rfl ?_
  cases hr : readyB f with
  | false => simp only [go_sem, f7, lready, hr, lawake]
  | true =>
    obtain ⟨hs, hv, h0, h100⟩ := ready_of hr
    have hW := hs.fits
    have v1 := hv.growth
    have v2 := hv.wet
    have v4 := hv.last9
    have v5 := hv.base3
    have v6 := hv.looks5
    have e1 : IntKind.i64.wrap (wn : Int) = (wn : Int) := wrapB (by omega) (by omega)
    have e2 : IntKind.i64.wrap (yn : Int) = (yn : Int) := wrapB (by omega) (by omega)
    have e3 : (yn : Int).tmod 3 = ((yn % 3 : Nat) : Int) := rfl
    have e4 : (yn : Int).tdiv 4 = ((yn / 4 : Nat) : Int) := rfl
    have e5 : IntKind.i64.wrap ((yn / 4 : Nat) : Int) = ((yn / 4 : Nat) : Int) := wrapB (by omega) (by omega)
    have e6 : ((yn / 4 : Nat) : Int).tmod 3 = ((yn / 4 % 3 : Nat) : Int) := rfl
    have e7 : (wn : Int).tdiv 3 = ((wn / 3 : Nat) : Int) := rfl
    have e8 : IntKind.i64.wrap ((wn / 3 : Nat) : Int) = ((wn / 3 : Nat) : Int) := wrapB (by omega) (by omega)
    have e9 : (wn : Int).tmod 3 = ((wn % 3 : Nat) : Int) := rfl
    obtain ⟨low, hlow⟩ : ∃ low, low = yn % 3 := ⟨_, rfl⟩
    obtain ⟨high, hhigh⟩ : ∃ high, high = yn / 4 % 3 := ⟨_, rfl⟩
    rw [← hlow] at e3
    rw [← hhigh] at e6
    obtain ⟨k, hk⟩ : ∃ k, k = wn / 3 := ⟨_, rfl⟩
    rw [← hk] at e7 e8
    have hl2 : low ≤ 2 := by omega
    have hh2 : high ≤ 2 := by omega
    have b1 : f.growth.length * 16 ≤ 2 ^ 40 := by omega
    have b2 : f.wet.length * 8 ≤ 2 ^ 40 := by omega
    have b3 : f.looks.length * 24 ≤ 2 ^ 40 := by omega
    have v3 := hv.last0
    have zg : ¬ ((f.growth.length : Nat) : Int) = 0 := by omega
    have zw : ¬ ((f.wet.length : Nat) : Int) = 0 := by omega
    rcases (by omega : wn % 3 = 0 ∨ wn % 3 = 1 ∨ wn % 3 = 2) with hm | hm | hm
    · rw [hm] at e9
      have e9' : (wn : Int).tmod 3 = 0 := e9
      obtain ⟨j, hj⟩ : ∃ j, j = k % f.growth.length := ⟨_, rfl⟩
      have hjl : j < f.growth.length := by rw [hj]; exact Nat.mod_lt _ (by omega)
      have e10 : (k : Int).tmod ((f.growth.length : Nat) : Int) = (j : Int) := by rw [hj]; rfl
      obtain ⟨r, hr0⟩ : ∃ r, r = f.growth.getD j default := ⟨_, rfl⟩
      have hrb := hv.growths r (by rw [hr0, getD_lt _ _ _ hjl]; exact List.getElem_mem hjl)
      have e11 : IntKind.i64.wrap (r.lo - (low : Int)) = r.lo - (low : Int) := wrapB (by omega) (by omega)
      have e12 : IntKind.i64.wrap (r.hi + (high : Int)) = r.hi + (high : Int) := wrapB (by omega) (by omega)
      have hsl : (f.growth.set j ⟨max 0 (r.lo - (low : Int)), min 50 (r.hi + (high : Int))⟩).length = f.growth.length := List.length_set ..
      have htk : (f.growth.set j ⟨max 0 (r.lo - (low : Int)), min 50 (r.hi + (high : Int))⟩).take f.growth.length = f.growth.set j ⟨max 0 (r.lo - (low : Int)), min 50 (r.hi + (high : Int))⟩ := List.take_of_length_le (by omega)
      have hn0 : nth f.growth j = some r := by rw [nth_lt' hjl, hr0]
      have hn : ∀ a : Rg, nth (f.growth.set j a) j = some a := fun a => nth_set hjl
      obtain ⟨x, hx0⟩ : ∃ x, x = widG f j (max 0 (r.lo - (low : Int))) (min 50 (r.hi + (high : Int))) := ⟨_, rfl⟩
      have hx : Wid f x := by rw [hx0]; exact widG_ok hjl (by rw [← hr0]; omega) (by rw [← hr0]; omega)
      have x4 : x.crops = f.crops := by rw [hx0]; rfl
      have x5 : x.ripe = f.ripe := by rw [hx0]; rfl
      have x6 : x.late = f.late := by rw [hx0]; rfl
      have x7 : x.trod = f.trod := by rw [hx0]; rfl
      have xg : x.growth = f.growth.set j ⟨max 0 (r.lo - (low : Int)), min 50 (r.hi + (high : Int))⟩ := by rw [hx0]; rfl
      have xw : x.wet = f.wet := by rw [hx0]; rfl
      have xl : x.looks = f.looks := by rw [hx0]; rfl
      clear hx0
      have kR := fun {g1 g2 g3 g4 g5 : Bool × Bool} {Q : V → Prop} => lready (g1 := g1) (g2 := g2) (g3 := g3) (g4 := g4) (g5 := g5) (f := x) (Q := Q)
      simp only [fieldV, hx.last, hx.base, x4, x5, x6, x7, xg, xw, xl] at kR
      cases hrx : readyB x with
      | false => simp (maxSteps := 1000000) only [go_sem, f7, lready, hr, e1, e2, e3, e4, e5, e6, e7, e8, e9', b1, b2, b3, zg, zw, e10, hjl, atI_nat, ← hr0, e11, e12, setNth_rg, List.set_set, hn, hn0, hsl, htk, List.drop_zero, List.take_length, Nat.le_refl, kR, hrx, lawake]
      | true =>
        obtain ⟨hsx, hvx, h0x, _⟩ := ready_of hrx
        have kF := fun {g1 g2 g3 g4 g5 : Bool × Bool} {Q : V → Prop} => lField (g1 := g1) (g2 := g2) (g3 := g3) (g4 := g4) (g5 := g5) (f := x) hsx (Q := Q)
        simp only [fieldV, hx.last, hx.base, x4, x5, x6, x7, xg, xw, xl] at kF
        obtain ⟨c1, hv1⟩ := vLeave (f := f) (g1 := (false, false)) (g2 := (false, false)) (g3 := (false, false)) (g4 := (false, false)) (g5 := (false, false)) hW
        have k1 := fun {Q : V → Prop} => CallP_of (Q := Q) hv1
        have hR1 : LeaveR c1 f = .tup [.c (L (c1, false) (leaveS f)), .c (.int .i64 0)] := if_neg (by rw [h0]; simp)
        rw [hR1] at k1
        obtain ⟨c2, hv2⟩ := vLeave (f := x) (g1 := (false, false)) (g2 := (false, false)) (g3 := (false, false)) (g4 := (false, false)) (g5 := (false, false)) hsx.fits
        have k2 := fun {Q : V → Prop} => CallP_of (Q := Q) hv2
        have hR2 : LeaveR c2 x = .tup [.c (L (c2, false) (leaveS x)), .c (.int .i64 0)] := if_neg (by rw [h0x]; simp)
        rw [hR2] at k2
        have hll := hx.leave hv hvx
        have n1 : ¬ (((leaveS f).length : Nat) : Int) < ((leaveS x).length : Nat) := by omega
        by_cases n2 : (0 : Int) < ((leaveS f).length : Nat)
        · simp (maxSteps := 1000000) only [go_sem, f7, lready, hr, e1, e2, e3, e4, e5, e6, e7, e8, e9', b1, b2, b3, zg, zw, e10, hjl, atI_nat, ← hr0, e11, e12, setNth_rg, List.set_set, hn, hn0, hsl, htk, List.drop_zero, List.take_length, Nat.le_refl, lField hs, kR, kF, hrx, k1, k2, gt_iff_lt, n1, n2, lawake]
        have hne := leave_pos hv (List.length_eq_zero_iff.1 (by omega))
        obtain ⟨t0, ht0⟩ := List.exists_mem_of_ne_nil _ hne
        have hne' : truthsL x [] ≠ [] := fun e => by have := hx.mem hv hvx ht0; rw [e] at this; cases this
        obtain ⟨p, hp0⟩ : ∃ p, p = plannedL f bn := ⟨_, rfl⟩
        have hpo : planOk f.last f.base p = true := by rw [hp0]; exact planned_ok hv
        have hPl := fun {Q : V → Prop} => lplanned (g1 := g1) (g2 := g2) (g3 := g3) (g4 := g4) (g5 := g5) hv (bits := bn) (by omega) (Q := Q)
        rw [← hp0] at hPl
        have hpx : planOk x.last x.base p = true := by rw [hx.last, hx.base]; exact hpo
        have hpl := plan_le hpo
        have aF : ∀ q, planOk f.last f.base q = true → askE f (planOk f.last f.base q) = 0 := fun q hq => by rw [hq, askE_ref hv h0]; simp [refTruths_nil hv, hne]
        have aX : ∀ q, planOk x.last x.base q = true → askE x (planOk x.last x.base q) = 0 := fun q hq => by rw [hq, askE_ref hvx h0x]; simp [refTruths_nil hvx, hne']
        have k4 := fun {g : Bool × Bool} {Q : V → Prop} => llist (g := g) (a := p) (by omega) (Q := Q)
        have k5 := fun {Q : V → Prop} => cWorth (f := f) (g1 := (false, false)) (g2 := (false, false)) (g3 := (false, false)) (g4 := (false, false)) (g5 := (false, false)) (g := (false, false)) (plan := p) hW (big_of (by omega)) (Q := Q)
        have hR5 : WorthR f p = .tup [.agg [.int .i64 (worthRg f p).lo, .int .i64 (worthRg f p).hi], .c (.int .i64 0)] := by rw [WorthR, if_pos (aF p hpo)]
        rw [hR5] at k5
        have k6 := fun {Q : V → Prop} => cWorth (f := x) (g1 := (false, false)) (g2 := (false, false)) (g3 := (false, false)) (g4 := (false, false)) (g5 := (false, false)) (g := (false, false)) (plan := p) hsx.fits (big_of (by omega)) (Q := Q)
        have hR6 : WorthR x p = .tup [.agg [.int .i64 (worthRg x p).lo, .int .i64 (worthRg x p).hi], .c (.int .i64 0)] := by rw [WorthR, if_pos (aX p hpx)]
        rw [hR6] at k6
        obtain ⟨c3, hv3⟩ := vBest (f := f) (g1 := (false, false)) (g2 := (false, false)) (g3 := (false, false)) (g4 := (false, false)) (g5 := (false, false)) hW
        have k7 := fun {Q : V → Prop} => CallP_of (Q := Q) hv3
        have hR7 : BestR c3 f = .tup [.c (L (c3, false) (bestS f).plan), .c (.int .i64 (bestS f).worth), .c (.int .i64 0)] := by rw [BestR, if_pos (aF [] (plan_nil hv))]
        rw [hR7] at k7
        obtain ⟨c4, hv4⟩ := vBest (f := x) (g1 := (false, false)) (g2 := (false, false)) (g3 := (false, false)) (g4 := (false, false)) (g5 := (false, false)) hsx.fits
        have k8 := fun {Q : V → Prop} => CallP_of (Q := Q) hv4
        have hR8 : BestR c4 x = .tup [.c (L (c4, false) (bestS x).plan), .c (.int .i64 (bestS x).worth), .c (.int .i64 0)] := by rw [BestR, if_pos (aX [] (plan_nil hvx))]
        rw [hR8] at k8
        obtain ⟨r1, r2⟩ := hx.rg hv hvx hne p
        have r3 := hx.best hv hvx hne
        have k9 := fun {Q : V → Prop} => linside (a := (worthRg f p).lo) (b := (worthRg f p).hi) (c := (worthRg x p).lo) (d := (worthRg x p).hi) r1 r2 (Q := Q)
        simp (maxSteps := 1000000) only [go_sem, f7, lready, hr, e1, e2, e3, e4, e5, e6, e7, e8, e9', b1, b2, b3, zg, zw, e10, hjl, atI_nat, ← hr0, e11, e12, setNth_rg, List.set_set, hn, hn0, hsl, htk, List.drop_zero, List.take_length, Nat.le_refl, lField hs, kR, kF, hrx, k1, k2, k4, k5, k6, k7, k8, k9, hPl, gt_iff_lt, n1, n2, r3, lawake]
    · rw [hm] at e9
      have e9' : (wn : Int).tmod 3 = 1 := e9
      obtain ⟨j, hj⟩ : ∃ j, j = k % f.wet.length := ⟨_, rfl⟩
      have hjl : j < f.wet.length := by rw [hj]; exact Nat.mod_lt _ (by omega)
      have e10 : (k : Int).tmod ((f.wet.length : Nat) : Int) = (j : Int) := by rw [hj]; rfl
      have hn0 : nth f.wet j = some (f.wet.getD j default) := nth_lt' hjl
      have hsl : (f.wet.set j 2).length = f.wet.length := List.length_set ..
      have htk : (f.wet.set j 2).take f.wet.length = f.wet.set j 2 := List.take_of_length_le (by omega)
      obtain ⟨x, hx0⟩ : ∃ x, x = widW f j := ⟨_, rfl⟩
      have hx : Wid f x := by rw [hx0]; exact widW_ok hjl hv.wets
      have x4 : x.crops = f.crops := by rw [hx0]; rfl
      have x5 : x.ripe = f.ripe := by rw [hx0]; rfl
      have x6 : x.late = f.late := by rw [hx0]; rfl
      have x7 : x.trod = f.trod := by rw [hx0]; rfl
      have xg : x.growth = f.growth := by rw [hx0]; rfl
      have xw : x.wet = f.wet.set j 2 := by rw [hx0]; rfl
      have xl : x.looks = f.looks := by rw [hx0]; rfl
      clear hx0
      have kR := fun {g1 g2 g3 g4 g5 : Bool × Bool} {Q : V → Prop} => lready (g1 := g1) (g2 := g2) (g3 := g3) (g4 := g4) (g5 := g5) (f := x) (Q := Q)
      simp only [fieldV, hx.last, hx.base, x4, x5, x6, x7, xg, xw, xl] at kR
      cases hrx : readyB x with
      | false => simp (maxSteps := 1000000) only [go_sem, f7, lready, hr, e1, e2, e3, e4, e5, e6, e7, e8, e9', b1, b2, b3, zg, zw, e10, hjl, atI_nat, setNth_map, hn0, hsl, htk, List.drop_zero, List.take_length, Nat.le_refl, kR, hrx, lawake]
      | true =>
        obtain ⟨hsx, hvx, h0x, _⟩ := ready_of hrx
        have kF := fun {g1 g2 g3 g4 g5 : Bool × Bool} {Q : V → Prop} => lField (g1 := g1) (g2 := g2) (g3 := g3) (g4 := g4) (g5 := g5) (f := x) hsx (Q := Q)
        simp only [fieldV, hx.last, hx.base, x4, x5, x6, x7, xg, xw, xl] at kF
        obtain ⟨c1, hv1⟩ := vLeave (f := f) (g1 := (false, false)) (g2 := (false, false)) (g3 := (false, false)) (g4 := (false, false)) (g5 := (false, false)) hW
        have k1 := fun {Q : V → Prop} => CallP_of (Q := Q) hv1
        have hR1 : LeaveR c1 f = .tup [.c (L (c1, false) (leaveS f)), .c (.int .i64 0)] := if_neg (by rw [h0]; simp)
        rw [hR1] at k1
        obtain ⟨c2, hv2⟩ := vLeave (f := x) (g1 := (false, false)) (g2 := (false, false)) (g3 := (false, false)) (g4 := (false, false)) (g5 := (false, false)) hsx.fits
        have k2 := fun {Q : V → Prop} => CallP_of (Q := Q) hv2
        have hR2 : LeaveR c2 x = .tup [.c (L (c2, false) (leaveS x)), .c (.int .i64 0)] := if_neg (by rw [h0x]; simp)
        rw [hR2] at k2
        have hll := hx.leave hv hvx
        have n1 : ¬ (((leaveS f).length : Nat) : Int) < ((leaveS x).length : Nat) := by omega
        by_cases n2 : (0 : Int) < ((leaveS f).length : Nat)
        · simp (maxSteps := 1000000) only [go_sem, f7, lready, hr, e1, e2, e3, e4, e5, e6, e7, e8, e9', b1, b2, b3, zg, zw, e10, hjl, atI_nat, setNth_map, hn0, hsl, htk, List.drop_zero, List.take_length, Nat.le_refl, lField hs, kR, kF, hrx, k1, k2, gt_iff_lt, n1, n2, lawake]
        have hne := leave_pos hv (List.length_eq_zero_iff.1 (by omega))
        obtain ⟨t0, ht0⟩ := List.exists_mem_of_ne_nil _ hne
        have hne' : truthsL x [] ≠ [] := fun e => by have := hx.mem hv hvx ht0; rw [e] at this; cases this
        obtain ⟨p, hp0⟩ : ∃ p, p = plannedL f bn := ⟨_, rfl⟩
        have hpo : planOk f.last f.base p = true := by rw [hp0]; exact planned_ok hv
        have hPl := fun {Q : V → Prop} => lplanned (g1 := g1) (g2 := g2) (g3 := g3) (g4 := g4) (g5 := g5) hv (bits := bn) (by omega) (Q := Q)
        rw [← hp0] at hPl
        have hpx : planOk x.last x.base p = true := by rw [hx.last, hx.base]; exact hpo
        have hpl := plan_le hpo
        have aF : ∀ q, planOk f.last f.base q = true → askE f (planOk f.last f.base q) = 0 := fun q hq => by rw [hq, askE_ref hv h0]; simp [refTruths_nil hv, hne]
        have aX : ∀ q, planOk x.last x.base q = true → askE x (planOk x.last x.base q) = 0 := fun q hq => by rw [hq, askE_ref hvx h0x]; simp [refTruths_nil hvx, hne']
        have k4 := fun {g : Bool × Bool} {Q : V → Prop} => llist (g := g) (a := p) (by omega) (Q := Q)
        have k5 := fun {Q : V → Prop} => cWorth (f := f) (g1 := (false, false)) (g2 := (false, false)) (g3 := (false, false)) (g4 := (false, false)) (g5 := (false, false)) (g := (false, false)) (plan := p) hW (big_of (by omega)) (Q := Q)
        have hR5 : WorthR f p = .tup [.agg [.int .i64 (worthRg f p).lo, .int .i64 (worthRg f p).hi], .c (.int .i64 0)] := by rw [WorthR, if_pos (aF p hpo)]
        rw [hR5] at k5
        have k6 := fun {Q : V → Prop} => cWorth (f := x) (g1 := (false, false)) (g2 := (false, false)) (g3 := (false, false)) (g4 := (false, false)) (g5 := (false, false)) (g := (false, false)) (plan := p) hsx.fits (big_of (by omega)) (Q := Q)
        have hR6 : WorthR x p = .tup [.agg [.int .i64 (worthRg x p).lo, .int .i64 (worthRg x p).hi], .c (.int .i64 0)] := by rw [WorthR, if_pos (aX p hpx)]
        rw [hR6] at k6
        obtain ⟨c3, hv3⟩ := vBest (f := f) (g1 := (false, false)) (g2 := (false, false)) (g3 := (false, false)) (g4 := (false, false)) (g5 := (false, false)) hW
        have k7 := fun {Q : V → Prop} => CallP_of (Q := Q) hv3
        have hR7 : BestR c3 f = .tup [.c (L (c3, false) (bestS f).plan), .c (.int .i64 (bestS f).worth), .c (.int .i64 0)] := by rw [BestR, if_pos (aF [] (plan_nil hv))]
        rw [hR7] at k7
        obtain ⟨c4, hv4⟩ := vBest (f := x) (g1 := (false, false)) (g2 := (false, false)) (g3 := (false, false)) (g4 := (false, false)) (g5 := (false, false)) hsx.fits
        have k8 := fun {Q : V → Prop} => CallP_of (Q := Q) hv4
        have hR8 : BestR c4 x = .tup [.c (L (c4, false) (bestS x).plan), .c (.int .i64 (bestS x).worth), .c (.int .i64 0)] := by rw [BestR, if_pos (aX [] (plan_nil hvx))]
        rw [hR8] at k8
        obtain ⟨r1, r2⟩ := hx.rg hv hvx hne p
        have r3 := hx.best hv hvx hne
        have k9 := fun {Q : V → Prop} => linside (a := (worthRg f p).lo) (b := (worthRg f p).hi) (c := (worthRg x p).lo) (d := (worthRg x p).hi) r1 r2 (Q := Q)
        simp (maxSteps := 1000000) only [go_sem, f7, lready, hr, e1, e2, e3, e4, e5, e6, e7, e8, e9', b1, b2, b3, zg, zw, e10, hjl, atI_nat, setNth_map, hn0, hsl, htk, List.drop_zero, List.take_length, Nat.le_refl, lField hs, kR, kF, hrx, k1, k2, k4, k5, k6, k7, k8, k9, hPl, gt_iff_lt, n1, n2, r3, lawake]
    · rw [hm] at e9
      have e9' : (wn : Int).tmod 3 = 2 := e9
      by_cases hlk : (0 : Int) < (f.looks.length : Nat)
      · have hll0 : (0 : Int) < (f.looks.length : Nat) := by omega
        have zl : ¬ ((f.looks.length : Nat) : Int) = 0 := by omega
        obtain ⟨j, hj⟩ : ∃ j, j = k % f.looks.length := ⟨_, rfl⟩
        have hjl : j < f.looks.length := by rw [hj]; exact Nat.mod_lt _ (by omega)
        have e10 : (k : Int).tmod ((f.looks.length : Nat) : Int) = (j : Int) := by rw [hj]; rfl
        obtain ⟨r, hr0⟩ : ∃ r, r = f.looks.getD j default := ⟨_, rfl⟩
        have hrb := hv.looks r (by rw [hr0, getD_lt _ _ _ hjl]; exact List.getElem_mem hjl)
        have e11 : IntKind.i64.wrap (r.w.lo - (low : Int)) = r.w.lo - (low : Int) := wrapB (by omega) (by omega)
        have e12 : IntKind.i64.wrap (r.w.hi + (high : Int)) = r.w.hi + (high : Int) := wrapB (by omega) (by omega)
        have hsl : (f.looks.set j ⟨r.week, ⟨max 0 (r.w.lo - (low : Int)), min 1000 (r.w.hi + (high : Int))⟩⟩).length = f.looks.length := List.length_set ..
        have htk : (f.looks.set j ⟨r.week, ⟨max 0 (r.w.lo - (low : Int)), min 1000 (r.w.hi + (high : Int))⟩⟩).take f.looks.length = f.looks.set j ⟨r.week, ⟨max 0 (r.w.lo - (low : Int)), min 1000 (r.w.hi + (high : Int))⟩⟩ := List.take_of_length_le (by omega)
        have hn0 : nth f.looks j = some r := by rw [nth_lt' hjl, hr0]
        have hn : ∀ a : Lk, nth (f.looks.set j a) j = some a := fun a => nth_set hjl
        obtain ⟨x, hx0⟩ : ∃ x, x = widL f j (max 0 (r.w.lo - (low : Int))) (min 1000 (r.w.hi + (high : Int))) := ⟨_, rfl⟩
        have hx : Wid f x := by rw [hx0]; exact widL_ok hjl (by rw [← hr0]; omega) (by rw [← hr0]; omega)
        have x4 : x.crops = f.crops := by rw [hx0]; rfl
        have x5 : x.ripe = f.ripe := by rw [hx0]; rfl
        have x6 : x.late = f.late := by rw [hx0]; rfl
        have x7 : x.trod = f.trod := by rw [hx0]; rfl
        have xg : x.growth = f.growth := by rw [hx0]; rfl
        have xw : x.wet = f.wet := by rw [hx0]; rfl
        have xl : x.looks = f.looks.set j ⟨r.week, ⟨max 0 (r.w.lo - (low : Int)), min 1000 (r.w.hi + (high : Int))⟩⟩ := by rw [hx0, hr0]; rfl
        clear hx0
        have kR := fun {g1 g2 g3 g4 g5 : Bool × Bool} {Q : V → Prop} => lready (g1 := g1) (g2 := g2) (g3 := g3) (g4 := g4) (g5 := g5) (f := x) (Q := Q)
        simp only [fieldV, hx.last, hx.base, x4, x5, x6, x7, xg, xw, xl] at kR
        cases hrx : readyB x with
        | false => simp (maxSteps := 1000000) only [go_sem, f7, lready, hr, e1, e2, e3, e4, e5, e6, e7, e8, e9', b1, b2, b3, zg, zw, hll0, zl, e10, hjl, atI_nat, ← hr0, e11, e12, setNth_lk, List.set_set, hn, hn0, hsl, htk, List.drop_zero, List.take_length, Nat.le_refl, gt_iff_lt, kR, hrx, lawake]
        | true =>
          obtain ⟨hsx, hvx, h0x, _⟩ := ready_of hrx
          have kF := fun {g1 g2 g3 g4 g5 : Bool × Bool} {Q : V → Prop} => lField (g1 := g1) (g2 := g2) (g3 := g3) (g4 := g4) (g5 := g5) (f := x) hsx (Q := Q)
          simp only [fieldV, hx.last, hx.base, x4, x5, x6, x7, xg, xw, xl] at kF
          obtain ⟨c1, hv1⟩ := vLeave (f := f) (g1 := (false, false)) (g2 := (false, false)) (g3 := (false, false)) (g4 := (false, false)) (g5 := (false, false)) hW
          have k1 := fun {Q : V → Prop} => CallP_of (Q := Q) hv1
          have hR1 : LeaveR c1 f = .tup [.c (L (c1, false) (leaveS f)), .c (.int .i64 0)] := if_neg (by rw [h0]; simp)
          rw [hR1] at k1
          obtain ⟨c2, hv2⟩ := vLeave (f := x) (g1 := (false, false)) (g2 := (false, false)) (g3 := (false, false)) (g4 := (false, false)) (g5 := (false, false)) hsx.fits
          have k2 := fun {Q : V → Prop} => CallP_of (Q := Q) hv2
          have hR2 : LeaveR c2 x = .tup [.c (L (c2, false) (leaveS x)), .c (.int .i64 0)] := if_neg (by rw [h0x]; simp)
          rw [hR2] at k2
          have hll := hx.leave hv hvx
          have n1 : ¬ (((leaveS f).length : Nat) : Int) < ((leaveS x).length : Nat) := by omega
          by_cases n2 : (0 : Int) < ((leaveS f).length : Nat)
          · simp (maxSteps := 1000000) only [go_sem, f7, lready, hr, e1, e2, e3, e4, e5, e6, e7, e8, e9', b1, b2, b3, zg, zw, hll0, zl, e10, hjl, atI_nat, ← hr0, e11, e12, setNth_lk, List.set_set, hn, hn0, hsl, htk, List.drop_zero, List.take_length, Nat.le_refl, gt_iff_lt, lField hs, kR, kF, hrx, k1, k2, gt_iff_lt, n1, n2, lawake]
          have hne := leave_pos hv (List.length_eq_zero_iff.1 (by omega))
          obtain ⟨t0, ht0⟩ := List.exists_mem_of_ne_nil _ hne
          have hne' : truthsL x [] ≠ [] := fun e => by have := hx.mem hv hvx ht0; rw [e] at this; cases this
          obtain ⟨p, hp0⟩ : ∃ p, p = plannedL f bn := ⟨_, rfl⟩
          have hpo : planOk f.last f.base p = true := by rw [hp0]; exact planned_ok hv
          have hPl := fun {Q : V → Prop} => lplanned (g1 := g1) (g2 := g2) (g3 := g3) (g4 := g4) (g5 := g5) hv (bits := bn) (by omega) (Q := Q)
          rw [← hp0] at hPl
          have hpx : planOk x.last x.base p = true := by rw [hx.last, hx.base]; exact hpo
          have hpl := plan_le hpo
          have aF : ∀ q, planOk f.last f.base q = true → askE f (planOk f.last f.base q) = 0 := fun q hq => by rw [hq, askE_ref hv h0]; simp [refTruths_nil hv, hne]
          have aX : ∀ q, planOk x.last x.base q = true → askE x (planOk x.last x.base q) = 0 := fun q hq => by rw [hq, askE_ref hvx h0x]; simp [refTruths_nil hvx, hne']
          have k4 := fun {g : Bool × Bool} {Q : V → Prop} => llist (g := g) (a := p) (by omega) (Q := Q)
          have k5 := fun {Q : V → Prop} => cWorth (f := f) (g1 := (false, false)) (g2 := (false, false)) (g3 := (false, false)) (g4 := (false, false)) (g5 := (false, false)) (g := (false, false)) (plan := p) hW (big_of (by omega)) (Q := Q)
          have hR5 : WorthR f p = .tup [.agg [.int .i64 (worthRg f p).lo, .int .i64 (worthRg f p).hi], .c (.int .i64 0)] := by rw [WorthR, if_pos (aF p hpo)]
          rw [hR5] at k5
          have k6 := fun {Q : V → Prop} => cWorth (f := x) (g1 := (false, false)) (g2 := (false, false)) (g3 := (false, false)) (g4 := (false, false)) (g5 := (false, false)) (g := (false, false)) (plan := p) hsx.fits (big_of (by omega)) (Q := Q)
          have hR6 : WorthR x p = .tup [.agg [.int .i64 (worthRg x p).lo, .int .i64 (worthRg x p).hi], .c (.int .i64 0)] := by rw [WorthR, if_pos (aX p hpx)]
          rw [hR6] at k6
          obtain ⟨c3, hv3⟩ := vBest (f := f) (g1 := (false, false)) (g2 := (false, false)) (g3 := (false, false)) (g4 := (false, false)) (g5 := (false, false)) hW
          have k7 := fun {Q : V → Prop} => CallP_of (Q := Q) hv3
          have hR7 : BestR c3 f = .tup [.c (L (c3, false) (bestS f).plan), .c (.int .i64 (bestS f).worth), .c (.int .i64 0)] := by rw [BestR, if_pos (aF [] (plan_nil hv))]
          rw [hR7] at k7
          obtain ⟨c4, hv4⟩ := vBest (f := x) (g1 := (false, false)) (g2 := (false, false)) (g3 := (false, false)) (g4 := (false, false)) (g5 := (false, false)) hsx.fits
          have k8 := fun {Q : V → Prop} => CallP_of (Q := Q) hv4
          have hR8 : BestR c4 x = .tup [.c (L (c4, false) (bestS x).plan), .c (.int .i64 (bestS x).worth), .c (.int .i64 0)] := by rw [BestR, if_pos (aX [] (plan_nil hvx))]
          rw [hR8] at k8
          obtain ⟨r1, r2⟩ := hx.rg hv hvx hne p
          have r3 := hx.best hv hvx hne
          have k9 := fun {Q : V → Prop} => linside (a := (worthRg f p).lo) (b := (worthRg f p).hi) (c := (worthRg x p).lo) (d := (worthRg x p).hi) r1 r2 (Q := Q)
          simp (maxSteps := 1000000) only [go_sem, f7, lready, hr, e1, e2, e3, e4, e5, e6, e7, e8, e9', b1, b2, b3, zg, zw, hll0, zl, e10, hjl, atI_nat, ← hr0, e11, e12, setNth_lk, List.set_set, hn, hn0, hsl, htk, List.drop_zero, List.take_length, Nat.le_refl, gt_iff_lt, lField hs, kR, kF, hrx, k1, k2, k4, k5, k6, k7, k8, k9, hPl, gt_iff_lt, n1, n2, r3, lawake]
      · have hll0 : ¬ (0 : Int) < (f.looks.length : Nat) := hlk
        have k9D := fun {p : List Int} {Q : V → Prop} => linside (a := (worthRg f p).lo) (b := (worthRg f p).hi) (c := (worthRg f p).lo) (d := (worthRg f p).hi) (Int.le_refl _) (Int.le_refl _) (Q := Q)
        obtain ⟨x, hx0⟩ : ∃ x, x = f := ⟨_, rfl⟩
        have hx : Wid f x := by rw [hx0]; exact ⟨rfl, rfl, fun _ _ => rfl, fun _ h => h, rfl, fun _ _ _ h => h⟩
        have x4 : x.crops = f.crops := by rw [hx0]
        have x5 : x.ripe = f.ripe := by rw [hx0]
        have x6 : x.late = f.late := by rw [hx0]
        have x7 : x.trod = f.trod := by rw [hx0]
        have xg : x.growth = f.growth := by rw [hx0]
        have xw : x.wet = f.wet := by rw [hx0]
        have xl : x.looks = f.looks := by rw [hx0]
        clear hx0
        have kR := fun {g1 g2 g3 g4 g5 : Bool × Bool} {Q : V → Prop} => lready (g1 := g1) (g2 := g2) (g3 := g3) (g4 := g4) (g5 := g5) (f := x) (Q := Q)
        simp only [fieldV, hx.last, hx.base, x4, x5, x6, x7, xg, xw, xl] at kR
        cases hrx : readyB x with
        | false => simp (maxSteps := 1000000) only [go_sem, f7, lready, hr, e1, e2, e3, e4, e5, e6, e7, e8, e9', b1, b2, b3, zg, zw, hll0, k9D, Nat.lt_irrefl, Int.le_refl, List.drop_zero, List.take_length, Nat.le_refl, gt_iff_lt, kR, hrx, lawake]
        | true =>
          obtain ⟨hsx, hvx, h0x, _⟩ := ready_of hrx
          have kF := fun {g1 g2 g3 g4 g5 : Bool × Bool} {Q : V → Prop} => lField (g1 := g1) (g2 := g2) (g3 := g3) (g4 := g4) (g5 := g5) (f := x) hsx (Q := Q)
          simp only [fieldV, hx.last, hx.base, x4, x5, x6, x7, xg, xw, xl] at kF
          obtain ⟨c1, hv1⟩ := vLeave (f := f) (g1 := (false, false)) (g2 := (false, false)) (g3 := (false, false)) (g4 := (false, false)) (g5 := (false, false)) hW
          have k1 := fun {Q : V → Prop} => CallP_of (Q := Q) hv1
          have hR1 : LeaveR c1 f = .tup [.c (L (c1, false) (leaveS f)), .c (.int .i64 0)] := if_neg (by rw [h0]; simp)
          rw [hR1] at k1
          obtain ⟨c2, hv2⟩ := vLeave (f := x) (g1 := (false, false)) (g2 := (false, false)) (g3 := (false, false)) (g4 := (false, false)) (g5 := (false, false)) hsx.fits
          have k2 := fun {Q : V → Prop} => CallP_of (Q := Q) hv2
          have hR2 : LeaveR c2 x = .tup [.c (L (c2, false) (leaveS x)), .c (.int .i64 0)] := if_neg (by rw [h0x]; simp)
          rw [hR2] at k2
          have hll := hx.leave hv hvx
          have n1 : ¬ (((leaveS f).length : Nat) : Int) < ((leaveS x).length : Nat) := by omega
          by_cases n2 : (0 : Int) < ((leaveS f).length : Nat)
          · simp (maxSteps := 1000000) only [go_sem, f7, lready, hr, e1, e2, e3, e4, e5, e6, e7, e8, e9', b1, b2, b3, zg, zw, hll0, k9D, Nat.lt_irrefl, Int.le_refl, List.drop_zero, List.take_length, Nat.le_refl, gt_iff_lt, lField hs, kR, kF, hrx, k1, k2, gt_iff_lt, n1, n2, lawake]
          have hne := leave_pos hv (List.length_eq_zero_iff.1 (by omega))
          obtain ⟨t0, ht0⟩ := List.exists_mem_of_ne_nil _ hne
          have hne' : truthsL x [] ≠ [] := fun e => by have := hx.mem hv hvx ht0; rw [e] at this; cases this
          obtain ⟨p, hp0⟩ : ∃ p, p = plannedL f bn := ⟨_, rfl⟩
          have hpo : planOk f.last f.base p = true := by rw [hp0]; exact planned_ok hv
          have hPl := fun {Q : V → Prop} => lplanned (g1 := g1) (g2 := g2) (g3 := g3) (g4 := g4) (g5 := g5) hv (bits := bn) (by omega) (Q := Q)
          rw [← hp0] at hPl
          have hpx : planOk x.last x.base p = true := by rw [hx.last, hx.base]; exact hpo
          have hpl := plan_le hpo
          have aF : ∀ q, planOk f.last f.base q = true → askE f (planOk f.last f.base q) = 0 := fun q hq => by rw [hq, askE_ref hv h0]; simp [refTruths_nil hv, hne]
          have aX : ∀ q, planOk x.last x.base q = true → askE x (planOk x.last x.base q) = 0 := fun q hq => by rw [hq, askE_ref hvx h0x]; simp [refTruths_nil hvx, hne']
          have k4 := fun {g : Bool × Bool} {Q : V → Prop} => llist (g := g) (a := p) (by omega) (Q := Q)
          have k5 := fun {Q : V → Prop} => cWorth (f := f) (g1 := (false, false)) (g2 := (false, false)) (g3 := (false, false)) (g4 := (false, false)) (g5 := (false, false)) (g := (false, false)) (plan := p) hW (big_of (by omega)) (Q := Q)
          have hR5 : WorthR f p = .tup [.agg [.int .i64 (worthRg f p).lo, .int .i64 (worthRg f p).hi], .c (.int .i64 0)] := by rw [WorthR, if_pos (aF p hpo)]
          rw [hR5] at k5
          have k6 := fun {Q : V → Prop} => cWorth (f := x) (g1 := (false, false)) (g2 := (false, false)) (g3 := (false, false)) (g4 := (false, false)) (g5 := (false, false)) (g := (false, false)) (plan := p) hsx.fits (big_of (by omega)) (Q := Q)
          have hR6 : WorthR x p = .tup [.agg [.int .i64 (worthRg x p).lo, .int .i64 (worthRg x p).hi], .c (.int .i64 0)] := by rw [WorthR, if_pos (aX p hpx)]
          rw [hR6] at k6
          obtain ⟨c3, hv3⟩ := vBest (f := f) (g1 := (false, false)) (g2 := (false, false)) (g3 := (false, false)) (g4 := (false, false)) (g5 := (false, false)) hW
          have k7 := fun {Q : V → Prop} => CallP_of (Q := Q) hv3
          have hR7 : BestR c3 f = .tup [.c (L (c3, false) (bestS f).plan), .c (.int .i64 (bestS f).worth), .c (.int .i64 0)] := by rw [BestR, if_pos (aF [] (plan_nil hv))]
          rw [hR7] at k7
          obtain ⟨c4, hv4⟩ := vBest (f := x) (g1 := (false, false)) (g2 := (false, false)) (g3 := (false, false)) (g4 := (false, false)) (g5 := (false, false)) hsx.fits
          have k8 := fun {Q : V → Prop} => CallP_of (Q := Q) hv4
          have hR8 : BestR c4 x = .tup [.c (L (c4, false) (bestS x).plan), .c (.int .i64 (bestS x).worth), .c (.int .i64 0)] := by rw [BestR, if_pos (aX [] (plan_nil hvx))]
          rw [hR8] at k8
          obtain ⟨r1, r2⟩ := hx.rg hv hvx hne p
          have r3 := hx.best hv hvx hne
          have k9 := fun {Q : V → Prop} => linside (a := (worthRg f p).lo) (b := (worthRg f p).hi) (c := (worthRg x p).lo) (d := (worthRg x p).hi) r1 r2 (Q := Q)
          simp (maxSteps := 1000000) only [go_sem, f7, lready, hr, e1, e2, e3, e4, e5, e6, e7, e8, e9', b1, b2, b3, zg, zw, hll0, k9D, Nat.lt_irrefl, Int.le_refl, List.drop_zero, List.take_length, Nat.le_refl, gt_iff_lt, lField hs, kR, kF, hrx, k1, k2, k4, k5, k6, k7, k8, k9, hPl, gt_iff_lt, n1, n2, r3, lawake]
end Am.Cr
