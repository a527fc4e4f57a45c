/-
  A part of the proof: the texts J1, J2 of this seat, joined.
-/
import Derived.Test.YtiblicjmmippnaaWalkX
import Derived.Test.YtiblicjmmippnaaWalkY
namespace Am.Cr
open Go Am
set_option maxRecDepth 100000
set_option maxHeartbeats 4000000
set_option linter.unusedSimpArgs false
set_option linter.unusedVariables false
variable {f : Field}
/-- the field with one more look -/
def plusF (f : Field) (k : Lk) : Field := { f with looks := f.looks ++ [k] }
theorem one_right {k : Lk} {t : Truth} {i : Nat} (hi : i < f.looks.length) : rightB (plusF f k) t i = rightB f t i := by
  have e : (f.looks ++ [k]).getD i default = f.looks.getD i default := by
    rw [List.getD_eq_getElem?_getD, List.getD_eq_getElem?_getD, List.getElem?_append_left hi]
  show (decide ((i : Int) ∈ ([] : List Int)) || inR (atI (standing t.growth f.crops) ((f.looks ++ [k]).getD i default).week) ((f.looks ++ [k]).getD i default).w.lo ((f.looks ++ [k]).getD i default).w.hi) = _
  rw [e]; rfl
theorem one_len {k : Lk} : (plusF f k).looks.length = f.looks.length + 1 := by simp [plusF]
theorem one_mem (hv : f.Valid) {k : Lk} (hx : (plusF f k).Valid) {t : Truth} (ht : t ∈ truthsL (plusF f k) []) : t ∈ truthsL f [] := by
  rw [truthsL, List.mem_filter, mem_listsA hx, rightL_iff, one_len] at ht
  rw [truthsL, List.mem_filter, mem_listsA hv, rightL_iff]
  refine ⟨⟨ht.1.1, ht.1.2, ht.1.3, ht.1.4⟩, fun i hi => ?_⟩
  have := ht.2 i (by omega)
  rwa [one_right hi] at this
theorem one_leave (hv : f.Valid) {k : Lk} (hx : (plusF f k).Valid) : (leaveS f).length ≤ (leaveS (plusF f k)).length ∧ (leaveS (plusF f k)).length ≤ (leaveS f).length + 1 := by
  obtain ⟨a1, a2, a3⟩ := leave_ok hv
  obtain ⟨b1, b2, b3⟩ := leave_ok hx
  rw [one_len] at b1 b3
  obtain ⟨s1, s2, s3⟩ := setsL_mem.1 b1
  obtain ⟨r1, r2, r3⟩ := setsL_mem.1 a1
  constructor
  · have hsub := List.filter_sublist (p := fun y => decide (y < (f.looks.length : Int))) (l := leaveS (plusF f k))
    have hlen := hsub.length_le
    have hw : (leaveS (plusF f k)).filter (fun y => decide (y < (f.looks.length : Int))) ∈ setsL f.looks.length := by
      have hm : ∀ y ∈ (leaveS (plusF f k)).filter (fun y => decide (y < (f.looks.length : Int))), 0 ≤ y ∧ y < f.looks.length := fun y hy => by
        rw [List.mem_filter, decide_eq_true_eq] at hy
        exact ⟨(s3 y hy.1).1, hy.2⟩
      have hs := s1.sublist hsub
      have v5 := hv.looks5
      obtain ⟨b, hb, e⟩ := bits_of (n := f.looks.length) (by omega) hs hm
      rw [← e]
      exact setsL_mem.2 ⟨bitsF_sorted, bitsF_len (by omega) hb, bitsF_in hb⟩
    have hp : posB f ((leaveS (plusF f k)).filter (fun y => decide (y < (f.looks.length : Int)))) = true := by
      rw [pos_iff hx, one_len] at b2
      rw [pos_iff hv]
      obtain ⟨t, h1, h2⟩ := b2
      refine ⟨t, ⟨h1.1, h1.2, h1.3, h1.4⟩, fun i hi => ?_⟩
      rcases h2 i (by omega) with h | h
      · left; rw [List.mem_filter, decide_eq_true_eq]; exact ⟨h, by omega⟩
      · right; rwa [one_right hi] at h
    rcases a3 _ hw hp with e | e
    · rw [← e]; exact hlen
    · exact Nat.le_trans (sh_len e) hlen
  · have hw : leaveS f ++ [(f.looks.length : Int)] ∈ setsL (f.looks.length + 1) := by
      rw [setsL_mem]
      refine ⟨?_, by simp; omega, fun y hy => ?_⟩
      · rw [List.pairwise_append]
        exact ⟨r1, by simp, fun y hy z hz => by rw [List.mem_singleton] at hz; subst hz; exact (r3 y hy).2⟩
      · rw [List.mem_append, List.mem_singleton] at hy
        rcases hy with hy | rfl
        · have := r3 y hy; omega
        · omega
    have hp : posB (plusF f k) (leaveS f ++ [(f.looks.length : Int)]) = true := by
      rw [pos_iff hv] at a2
      rw [pos_iff hx, one_len]
      obtain ⟨t, h1, h2⟩ := a2
      refine ⟨t, ⟨h1.1, h1.2, h1.3, h1.4⟩, fun i hi => ?_⟩
      by_cases hin : i < f.looks.length
      · rcases h2 i hin with h | h
        · left; simp [h]
        · right; rw [one_right hin]; exact h
      · left
        have : i = f.looks.length := by omega
        subst this; simp
    have hl : (leaveS f ++ [(f.looks.length : Int)]).length = (leaveS f).length + 1 := by simp
    rcases b3 _ hw hp with e | e
    · rw [← e, hl]; exact Nat.le_refl _
    · have := sh_len e; omega
/-- with fewer truths no bounds are wider -/
theorem sub_rg {f x : Field} (hw : ∀ t p, worthI x t p = worthI f t p) (hm : ∀ t, t ∈ truthsL x [] → t ∈ truthsL f []) (hne : truthsL x [] ≠ []) (p : List Int) : (worthRg f p).lo ≤ (worthRg x p).lo ∧ (worthRg x p).hi ≤ (worthRg f p).hi := by
  obtain ⟨t0, ht0⟩ := List.exists_mem_of_ne_nil _ hne
  have hne' : truthsL f [] ≠ [] := fun e => by have := hm t0 ht0; rw [e] at this; cases this
  obtain ⟨⟨a, a1, a2⟩, ⟨b, b1, b2⟩, _⟩ := bdL_IsRg (val := fun t => worthI x t p) hne
  obtain ⟨_, _, c⟩ := bdL_IsRg (val := fun t => worthI f t p) hne'
  have e1 := (c a (hm a a1)).1
  have e2 := (c b (hm b b1)).2
  simp only [hw] at a2 b2
  simp only at e1 e2
  constructor
  · show (bdL (fun t => worthI f t p) (truthsL f [])).lo ≤ (bdL (fun t => worthI x t p) (truthsL x [])).lo
    simp only [hw]; omega
  · show (bdL (fun t => worthI x t p) (truthsL x [])).hi ≤ (bdL (fun t => worthI f t p) (truthsL f [])).hi
    simp only [hw]; omega
theorem sub_best {f x : Field} (hl : x.last = f.last) (hb : x.base = f.base) (hw : ∀ t p, worthI x t p = worthI f t p) (hm : ∀ t, t ∈ truthsL x [] → t ∈ truthsL f []) (hv : f.Valid) (hx : x.Valid) (hne : truthsL x [] ≠ []) : (bestS f).worth ≤ (bestS x).worth := by
  obtain ⟨t0, ht0⟩ := List.exists_mem_of_ne_nil _ hne
  have hne' : truthsL f [] ≠ [] := fun e => by have := hm t0 ht0; rw [e] at this; cases this
  obtain ⟨a1, a2, a3⟩ := best_ok hv hne'
  obtain ⟨b1, b2, b3⟩ := best_ok hx hne
  rw [← hl, ← hb] at a1
  have h1 := (sub_rg hw hm hne (bestS f).plan).1
  change sureW f _ ≤ sureW x _ at h1
  rcases b3 _ a1 with e | ⟨e, _⟩ <;> omega
end Am.Cr
namespace Am.Cr
open Go Am
set_option maxRecDepth 100000
set_option maxHeartbeats 4000000
set_option linter.unusedSimpArgs false
set_option linter.unusedVariables false
variable {g1 g2 g3 g4 g5 : Bool × Bool} {f : Field}
theorem CropOne_val {m : Lk} {bits : Int} (hlk : f.looks.length ≤ 1048576) (hb0 : 0 ≤ bits) (hb1 : bits ≤ 65535) : Val tab 6 [fieldV g1 g2 g3 g4 g5 f, .agg [.int .i64 m.week, .int .i64 m.w.lo, .int .i64 m.w.hi], .c (.int .u16 bits)] (.c (.bool true)) := by
  obtain ⟨bn, rfl⟩ : ∃ n : Nat, bits = n := ⟨bits.toNat, by omega⟩
  refine Val_X (fn := f6) rfl ?_
  have b1 : f.looks.length * 24 ≤ 2 ^ 40 := by omega
  have b2 : (f.looks.length + 1) * 24 ≤ 2 ^ 40 := by omega
  obtain ⟨x, hx0⟩ : ∃ x, x = plusF f m := ⟨_, rfl⟩
  have x1 : x.last = f.last := by rw [hx0]; rfl
  have x2 : x.base = f.base := by rw [hx0]; rfl
  have x4 : x.crops = f.crops := by rw [hx0]; rfl
  have x5 : x.ripe = f.ripe := by rw [hx0]; rfl
  have x6 : x.late = f.late := by rw [hx0]; rfl
  have x7 : x.trod = f.trod := by rw [hx0]; rfl
  have xg : x.growth = f.growth := by rw [hx0]; rfl
  have xw : x.wet = f.wet := by rw [hx0]; rfl
  have xl : x.looks = f.looks ++ [m] := by rw [hx0]; rfl
  have hsl : (f.looks ++ [m]).length = f.looks.length + 1 := by simp
  have htk : (f.looks ++ [m]).take (f.looks.length + 1) = f.looks ++ [m] := List.take_of_length_le (by omega)
  have hmp : f.looks.map (Row.row (α := Lk)) ++ [[.int .i64 m.week, .int .i64 m.w.lo, .int .i64 m.w.hi]] = (f.looks ++ [m]).map Row.row := by rw [List.map_append]; rfl
  have kR := fun {g1 g2 g3 g4 g5 : Bool × Bool} {Q : V → Prop} => lready (g1 := g1) (g2 := g2) (g3 := g3) (g4 := g4) (g5 := g5) (f := x) (Q := Q)
  simp only [fieldV, x1, x2, x4, x5, x6, x7, xg, xw, xl] at kR
  cases hr : readyB f with
  | false => simp (maxSteps := 1000000) only [go_sem, f6, b1, b2, hmp, hsl, htk, List.drop_zero, Nat.le_refl, lready, hr, lawake]
  | true =>
    obtain ⟨hs, hv, h0, h100⟩ := ready_of hr
    have hW := hs.fits
    cases hrx : readyB x with
    | false => simp (maxSteps := 1000000) only [go_sem, f6, b1, b2, hmp, hsl, htk, List.drop_zero, Nat.le_refl, lready, hr, kR, hrx, lawake]
    | true =>
      obtain ⟨hsx, hvx, h0x, _⟩ := ready_of hrx
      have v5 := hv.looks5
      have v6 := hv.base3
      have kF := fun {g1 g2 g3 g4 g5 : Bool × Bool} {Q : V → Prop} => lField (g1 := g1) (g2 := g2) (g3 := g3) (g4 := g4) (g5 := g5) (f := x) hsx (Q := Q)
      simp only [fieldV, x1, x2, x4, x5, x6, x7, xg, xw, xl] at kF
      have hvp : (plusF f m).Valid := by rw [← hx0]; exact hvx
      have hll := one_leave hv hvp
      have hmem : ∀ t, t ∈ truthsL x [] → t ∈ truthsL f [] := fun t ht => by rw [hx0] at ht; exact one_mem hv hvp ht
      have hwt : ∀ t p, worthI x t p = worthI f t p := fun t p => by rw [hx0]; rfl
      rw [← hx0] at hll
      clear hx0 hvp
      obtain ⟨c1, hv1⟩ := vLeave (f := f) (g1 := (false, false)) (g2 := (false, false)) (g3 := (false, false)) (g4 := (false, false)) (g5 := (false, false)) hW
      have k1 := fun {Q : V → Prop} => CallP_of (Q := Q) hv1
      have hR1 : LeaveR c1 f = .tup [.c (L (c1, false) (leaveS f)), .c (.int .i64 0)] := if_neg (by rw [h0]; simp)
      rw [hR1] at k1
      obtain ⟨c2, hv2⟩ := vLeave (f := x) (g1 := (false, false)) (g2 := (false, false)) (g3 := (false, false)) (g4 := (false, false)) (g5 := (false, false)) hsx.fits
      have k2 := fun {Q : V → Prop} => CallP_of (Q := Q) hv2
      have hR2 : LeaveR c2 x = .tup [.c (L (c2, false) (leaveS x)), .c (.int .i64 0)] := if_neg (by rw [h0x]; simp)
      rw [hR2] at k2
      have hlf : (leaveS f).length ≤ 5 := by have := (setsL_mem.1 (leave_ok hv).1).2.1; omega
      have e1 : IntKind.i64.wrap (((leaveS f).length : Nat) + 1 : Int) = (((leaveS f).length + 1 : Nat) : Int) := by rw [wrapB (by omega) (by omega)]; omega
      have n1 : ¬ (((leaveS x).length : Nat) : Int) < ((leaveS f).length : Nat) := by omega
      have n3 : ¬ (((leaveS f).length + 1 : Nat) : Int) < ((leaveS x).length : Nat) := by omega
      by_cases n2 : (0 : Int) < ((leaveS x).length : Nat)
      · simp (maxSteps := 1000000) only [go_sem, f6, b1, b2, hmp, hsl, htk, List.drop_zero, Nat.le_refl, lready, hr, kR, hrx, lField hs, kF, k1, k2, gt_iff_lt, e1, n1, n2, n3, lawake]
      have hne := leave_pos hvx (List.length_eq_zero_iff.1 (by omega))
      obtain ⟨t0, ht0⟩ := List.exists_mem_of_ne_nil _ hne
      have hne' : truthsL f [] ≠ [] := fun e => by have := hmem t0 ht0; rw [e] at this; cases this
      obtain ⟨p, hp0⟩ : ∃ p, p = plannedL f bn := ⟨_, rfl⟩
      have hpo : planOk f.last f.base p = true := by rw [hp0]; exact planned_ok hv
      have hPl := fun {Q : V → Prop} => lplanned (g1 := g1) (g2 := g2) (g3 := g3) (g4 := g4) (g5 := g5) hv (bits := bn) (by omega) (Q := Q)
      rw [← hp0] at hPl
      have hpx : planOk x.last x.base p = true := by rw [x1, x2]; exact hpo
      have hpl := plan_le hpo
      have aF : ∀ q, planOk f.last f.base q = true → askE f (planOk f.last f.base q) = 0 := fun q hq => by rw [hq, askE_ref hv h0]; simp [refTruths_nil hv, hne']
      have aX : ∀ q, planOk x.last x.base q = true → askE x (planOk x.last x.base q) = 0 := fun q hq => by rw [hq, askE_ref hvx h0x]; simp [refTruths_nil hvx, hne]
      have k4 := fun {g : Bool × Bool} {Q : V → Prop} => llist (g := g) (a := p) (by omega) (Q := Q)
      have k5 := fun {Q : V → Prop} => cWorth (f := f) (g1 := (false, false)) (g2 := (false, false)) (g3 := (false, false)) (g4 := (false, false)) (g5 := (false, false)) (g := (false, false)) (plan := p) hW (big_of (by omega)) (Q := Q)
      have hR5 : WorthR f p = .tup [.agg [.int .i64 (worthRg f p).lo, .int .i64 (worthRg f p).hi], .c (.int .i64 0)] := by rw [WorthR, if_pos (aF p hpo)]
      rw [hR5] at k5
      have k6 := fun {Q : V → Prop} => cWorth (f := x) (g1 := (false, false)) (g2 := (false, false)) (g3 := (false, false)) (g4 := (false, false)) (g5 := (false, false)) (g := (false, false)) (plan := p) hsx.fits (big_of (by omega)) (Q := Q)
      have hR6 : WorthR x p = .tup [.agg [.int .i64 (worthRg x p).lo, .int .i64 (worthRg x p).hi], .c (.int .i64 0)] := by rw [WorthR, if_pos (aX p hpx)]
      rw [hR6] at k6
      obtain ⟨c3, hv3⟩ := vBest (f := f) (g1 := (false, false)) (g2 := (false, false)) (g3 := (false, false)) (g4 := (false, false)) (g5 := (false, false)) hW
      have k7 := fun {Q : V → Prop} => CallP_of (Q := Q) hv3
      have hR7 : BestR c3 f = .tup [.c (L (c3, false) (bestS f).plan), .c (.int .i64 (bestS f).worth), .c (.int .i64 0)] := by rw [BestR, if_pos (aF [] (plan_nil hv))]
      rw [hR7] at k7
      obtain ⟨c4, hv4⟩ := vBest (f := x) (g1 := (false, false)) (g2 := (false, false)) (g3 := (false, false)) (g4 := (false, false)) (g5 := (false, false)) hsx.fits
      have k8 := fun {Q : V → Prop} => CallP_of (Q := Q) hv4
      have hR8 : BestR c4 x = .tup [.c (L (c4, false) (bestS x).plan), .c (.int .i64 (bestS x).worth), .c (.int .i64 0)] := by rw [BestR, if_pos (aX [] (plan_nil hvx))]
      rw [hR8] at k8
      obtain ⟨r1, r2⟩ := sub_rg hwt hmem hne p
      have r3 := sub_best x1 x2 hwt hmem hv hvx hne
      have k9 := fun {Q : V → Prop} => linside (a := (worthRg x p).lo) (b := (worthRg x p).hi) (c := (worthRg f p).lo) (d := (worthRg f p).hi) r1 r2 (Q := Q)
      simp (maxSteps := 1000000) only [go_sem, f6, b1, b2, hmp, hsl, htk, List.drop_zero, Nat.le_refl, lready, hr, kR, hrx, lField hs, kF, k1, k2, k4, k5, k6, k7, k8, k9, hPl, gt_iff_lt, ge_iff_le, e1, n1, n2, n3, r3, lawake]
end Am.Cr
