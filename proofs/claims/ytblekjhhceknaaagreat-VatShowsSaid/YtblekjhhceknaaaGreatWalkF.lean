/-
  A part of the proof: the texts W9, W10, W11, W12 of this seat, joined.
-/
import Derived.Test.YtblekjhhceknaaaGreatWalkE
namespace Am.Vt
open Go Am
set_option maxRecDepth 100000
set_option maxHeartbeats 4000000
set_option linter.unusedSimpArgs false
set_option linter.unusedVariables false
variable {g1 g2 g3 g4 gt ga gb : Bool × Bool} {v : Vat} {t : Truth}
/-- does a proof show something, for the reference? -/
def refShows (v : Vat) (p : Prf) : Bool := ((inR p.over (-1) v.last && inR p.under (-1) v.last) && !(decide (p.over < 0) && decide (p.under < 0))) && (isTruthB v p.most && (isTruthB v p.least && showsB v p))
def RShowsR (v : Vat) (p : Prf) : V := .tup [.c (.bool (refShows v p)), .c (.int .i64 (if (((inR p.over (-1) v.last && inR p.under (-1) v.last) && !(decide (p.over < 0) && decide (p.under < 0))) && (isTruthB v p.most && isTruthB v p.least)) = true then max p.over p.under else 0))]
theorem isTruth_isT (h : isTruthB v t = true) : IsT v t := by
  simp only [isTruthB, Bool.and_eq_true] at h
  exact listed_iff.1 h.1
theorem rShows (hv : v.Valid) {p : Prf} {Q : V → Prop} : CallP tab 48 [vatV g1 g2 g3 g4 v, proofG ga gb p] Q ↔ Q (RShowsR v p) := CallP_of (by
  refine Val_X (fn := f48) rfl ?_
  have v1 := hv.drift
  have v4 := hv.last7
  have v5 := hv.last0
  have bb := hv.band
  have hT1 := fun {Q : V → Prop} => rIsTruth (g1 := g1) (g2 := g2) (g3 := g3) (g4 := g4) (gt := ga) (t := p.most) hv (Q := Q)
  have hT2 := fun {Q : V → Prop} => rIsTruth (g1 := g1) (g2 := g2) (g3 := g3) (g4 := g4) (gt := gb) (t := p.least) hv (Q := Q)
  simp only [vatV, truthG] at hT1 hT2
  obtain ⟨over, under, most, least⟩ := p
  simp only at hT1 hT2
  simp only [RShowsR, refShows, showsB, needB]
  cases a1 : inR over (-1) v.last with
  | false => simp only [go_sem, f48, rIn, a1, disj_nil]
  | true =>
  cases a2 : inR under (-1) v.last with
  | false => simp only [go_sem, f48, rIn, a1, a2, disj_nil]
  | true =>
  rw [inR_iff] at a1 a2
  by_cases a3 : over < 0 ∧ under < 0
  · have b1 : inR over (-1) v.last = true := inR_iff.2 a1
    have b2 : inR under (-1) v.last = true := inR_iff.2 a2
    have c1 := a3.1
    have c2 := a3.2
    simp only [go_sem, f48, rIn, b1, b2, c1, c2, disj_nil]
  have hneg : (decide (over < 0) && decide (under < 0)) = false := by
    rw [Bool.and_eq_false_iff, decide_eq_false_iff_not, decide_eq_false_iff_not]; omega
  have b1 : inR over (-1) v.last = true := inR_iff.2 a1
  have b2 : inR under (-1) v.last = true := inR_iff.2 a2
  cases t1 : isTruthB v most with
  | false =>
    by_cases c1 : over < 0
    · have c2 : ¬ under < 0 := by omega
      simp only [go_sem, f48, rIn, b1, b2, c1, c2, hT1, t1, disj_nil]
    · simp only [go_sem, f48, rIn, b1, b2, c1, hT1, t1, disj_nil]
  | true =>
  cases t2 : isTruthB v least with
  | false =>
    by_cases c1 : over < 0
    · have c2 : ¬ under < 0 := by omega
      simp only [go_sem, f48, rIn, b1, b2, c1, c2, hT1, t1, hT2, t2, disj_nil]
    · simp only [go_sem, f48, rIn, b1, b2, c1, hT1, t1, hT2, t2, disj_nil]
  | true =>
  have i1 := isTruth_isT t1
  have i2 := isTruth_isT t2
  have hB1 := fun {d : Int} (hd : d < v.drift.length) {Q : V → Prop} => rBare (gt := ga) hv i1 hd (Q := Q)
  have hB2 := fun {d : Int} (hd : d < v.drift.length) {Q : V → Prop} => rBare (gt := gb) hv i2 hd (Q := Q)
  simp only [truthG] at hB1 hB2
  have wo : IntKind.i64.wrap (over - under) = over - under := wrapB (by omega) (by omega)
  have wu : IntKind.i64.wrap (under - over) = under - over := wrapB (by omega) (by omega)
  have w9 : IntKind.i64.wrap (9 * max (over - under) (under - over)) = 9 * max (over - under) (under - over) := wrapB (by omega) (by omega)
  have w0 : IntKind.i64.wrap (0 - v.band) = -v.band := by rw [wrapB (by omega) (by omega)]; omega
  by_cases h1 : over ≥ 0
  · obtain ⟨o, rfl⟩ : ∃ o : Nat, over = o := ⟨over.toNat, by omega⟩
    have q1 : (o : Int) < v.drift.length := by omega
    have c1 : ¬ (o : Int) < 0 := by omega
    have e1 : bareI most o = bareS most (o + 1) := by rw [bareI, if_neg c1]; rfl
    have d1 := bareS_bd hv i1 (k := o + 1) (by omega)
    have w1 : IntKind.i64.wrap (bareS most (o + 1) - v.band) = bareS most (o + 1) - v.band := wrapB (by omega) (by omega)
    have w2 : IntKind.i64.wrap (0 + (bareS most (o + 1) - v.band)) = bareS most (o + 1) - v.band := by rw [wrapB (by omega) (by omega)]; omega
    by_cases h2 : under ≥ 0
    · obtain ⟨u, rfl⟩ : ∃ u : Nat, under = u := ⟨under.toNat, by omega⟩
      have q2 : (u : Int) < v.drift.length := by omega
      have c2 : ¬ (u : Int) < 0 := by omega
      have e2 : bareI least u = bareS least (u + 1) := by rw [bareI, if_neg c2]; rfl
      have d2 := bareS_bd hv i2 (k := u + 1) (by omega)
      have w3 : IntKind.i64.wrap (-v.band - bareS least (u + 1)) = -v.band - bareS least (u + 1) := wrapB (by omega) (by omega)
      have w4 : IntKind.i64.wrap (bareS most (o + 1) - v.band + (-v.band - bareS least (u + 1))) = bareS most (o + 1) - v.band - (v.band + bareS least (u + 1)) := by rw [wrapB (by omega) (by omega)]; omega
      simp only [go_sem, f48, rIn, b1, b2, c1, c2, h1, h2, hT1, t1, hT2, t2, hB1 q1, hB2 q2, e1, e2, w0, w1, w2, w3, w4, wo, wu, w9, ite_max, disj_nil, gt_iff_lt]
      by_cases hou : o < u
      · rw [if_pos hou]; omega
      · rw [if_neg hou]; omega
    · have c2 : under < 0 := by omega
      simp only [go_sem, f48, rIn, b1, b2, c1, c2, h1, h2, hT1, t1, hT2, t2, hB1 q1, e1, w0, w1, w2, wo, wu, w9, ite_max, disj_nil, gt_iff_lt, Int.sub_zero]
  · have c1 : over < 0 := by omega
    have h2 : under ≥ 0 := by omega
    obtain ⟨u, rfl⟩ : ∃ u : Nat, under = u := ⟨under.toNat, by omega⟩
    have q2 : (u : Int) < v.drift.length := by omega
    have c2 : ¬ (u : Int) < 0 := by omega
    have e2 : bareI least u = bareS least (u + 1) := by rw [bareI, if_neg c2]; rfl
    have d2 := bareS_bd hv i2 (k := u + 1) (by omega)
    have w3 : IntKind.i64.wrap (-v.band - bareS least (u + 1)) = -v.band - bareS least (u + 1) := wrapB (by omega) (by omega)
    have w4 : IntKind.i64.wrap (0 + (-v.band - bareS least (u + 1))) = 0 - (v.band + bareS least (u + 1)) := by rw [wrapB (by omega) (by omega)]; omega
    simp only [go_sem, f48, rIn, b1, b2, c1, c2, h1, h2, hT1, t1, hT2, t2, hB2 q2, e2, w0, w3, w4, wo, wu, w9, ite_max, disj_nil, gt_iff_lt])
end Am.Vt

namespace Am.Vt
open Go Am
set_option maxRecDepth 100000
set_option maxHeartbeats 4000000
set_option linter.unusedSimpArgs false
set_option linter.unusedVariables false
variable {g1 g2 g3 g4 gt ga gb : Bool × Bool} {v : Vat} {t : Truth}
/-- can so much have been fed up to the next day? -/
def canF (fed : List Int) (n : Int) : Bool := fed.any fun x => inR (n - x) (-9) 9
def nextP (v : Vat) (ts : List Truth) (d : Nat) (fed : List Int) (n : Int) : Bool := canF fed n && keptB v ts d n
/-- all that can have been fed up to a day, of the first numbers -/
def nextK (v : Vat) (ts : List Truth) (d : Nat) (fed : List Int) (j : Nat) : List Int := ((List.range j).map fun (i : Nat) => -9 * ((d : Int) + 1) + i).filter (nextP v ts d fed)
def nextL (v : Vat) (ts : List Truth) (d : Nat) (fed : List Int) : List Int := nextK v ts d fed (18 * (d + 1) + 1)
def mostF (v : Vat) (ts : List Truth) : Nat → Nat → List Int → Nat
  | 0, d, _ => d
  | n + 1, d, fed => if nextL v ts d fed = [] then d else mostF v ts n (d + 1) (nextL v ts d fed)
def mostR (v : Vat) (ts : List Truth) : Nat := mostF v ts v.drift.length 0 [0]
theorem nextK_succ {ts : List Truth} {d j : Nat} {fed : List Int} : nextK v ts d fed (j + 1) = if nextP v ts d fed (-9 * ((d : Int) + 1) + j) = true then nextK v ts d fed j ++ [-9 * ((d : Int) + 1) + (j : Nat)] else nextK v ts d fed j := by
  unfold nextK
  rw [List.range_succ, List.map_append, List.filter_append]
  by_cases h : nextP v ts d fed (-9 * ((d : Int) + 1) + j) = true
  · rw [if_pos h]; simp [h]
  · rw [if_neg h]; simp [h]
theorem nextK_len {ts : List Truth} {d j : Nat} {fed : List Int} : (nextK v ts d fed j).length ≤ j := by
  unfold nextK; exact Nat.le_trans (List.length_filter_le _ _) (by simp)
theorem nextL_bd {ts : List Truth} {d : Nat} {fed : List Int} : ∀ x ∈ nextL v ts d fed, -9 * ((d : Int) + 1) ≤ x ∧ x ≤ 9 * ((d : Int) + 1) := by
  intro x hx
  have := (List.mem_filter.1 hx).1
  simp only [List.mem_map, List.mem_range] at this
  obtain ⟨i, hi, rfl⟩ := this
  omega
theorem rMost (hv : v.Valid) {g : Bool × Bool} {ts : List Truth} (hts : ∀ t ∈ ts, IsT v t) (hl : ts.length ≤ 100000) {Q : V → Prop} : CallP tab 43 [vatV g1 g2 g3 g4 v, .c (L g ts)] Q ↔ Q (.c (.int .i64 (mostR v ts))) := CallP_of (by
  refine Val_X (fn := f43) rfl ?_
  have v1 := hv.drift
  have v4 := hv.last7
  have v0 := hv.last0
  simp only [go_sem, f43]
  refine RX_whileU (α := Nat × List Int × Nat × Nat × List Obj) (fun x => [(5, .c (.sl x.2.2.1 x.2.2.2.1 0 x.2.1.length)), (6, .c (.int .i64 x.1))]) (fun x => x.2.2.2.2) (fun x => x.1 ≤ v.drift.length ∧ (∀ y ∈ x.2.1, -100 ≤ y ∧ y ≤ 100) ∧ x.2.1.length ≤ 1000 ∧ mostR v ts = mostF v ts (v.drift.length - x.1) x.1 x.2.1 ∧ 2 ≤ x.2.2.2.2.length ∧ underH x.2.2.2.2.length x.2.2.2.2 = true ∧ getH x.2.2.2.2 0 = .cells (vatC g1 g2 g3 g4 v) ∧ getH x.2.2.2.2 x.2.2.1 = .arr false x.2.2.2.1 1 (x.2.1.map Row.row)) (fun x => v.drift.length - x.1) (0, [0], 1, 0, [.cells (vatC g1 g2 g3 g4 v), .arr false 0 1 [[.int .i64 0]]]) ⟨Nat.zero_le _, by simp, by simp, rfl, by simp, by simp only [go_sem, List.length_cons, List.length_nil], rfl, rfl⟩ (by simp only [go_sem] <;> first | rfl | exact ⟨rfl, rfl⟩) ?_
  rintro ⟨d, fed, o, ver, H⟩ ⟨hd, hfb, hfl, hm, h2, hu, e0, eo⟩
  simp only at hd hfb hfl hm h2 hu e0 eo
  have e4 : IntKind.i64.wrap ((d : Int) + 1) = ((d + 1 : Nat) : Int) := wrap_succ (n := 3000) (by omega) (by decide)
  by_cases hlt : d < v.drift.length
  · have hle : (d : Int) ≤ v.last := by omega
    have w1 : IntKind.i64.wrap (-9 * ((d + 1 : Nat) : Int)) = -9 * ((d : Int) + 1) := by rw [wrapB (by omega) (by omega)]; omega
    have w2 : IntKind.i64.wrap (9 * ((d + 1 : Nat) : Int)) = 9 * ((d : Int) + 1) := by rw [wrapB (by omega) (by omega)]; omega
    simp only [vatC] at e0
    have lo := lt_of_getH (h := H) (o := o) (by rw [eo]; simp)
    have l0 : 0 < H.length := by omega
    have tk : ∀ (a : Obj) (X : List Obj), List.take (H.length + 1) (H ++ a :: X) = H ++ [a] := by
      intro a X
      rw [show H ++ a :: X = (H ++ [a]) ++ X by simp, List.take_append_of_le_length (by simp), List.take_of_length_le (by simp)]
    have un : ∀ f w r, underH (H.length + 1) (H ++ [.arr f w 1 r]) = true := by
      intro f w r
      rw [underH_append, underH_mono (Nat.le_succ _) hu]; rfl
    have y0 : 0 < H.length + 1 := by omega
    have y1 : o < H.length + 1 := by omega
    have y2 : H.length < H.length + 1 := by omega
    have y3 : 1 < H.length + 1 := by omega
    simp only [go_sem, e0, hle, e4, w1]
    have nk0 : nextK v ts d fed 0 = [] := rfl
    refine RX_whileU (α := Nat) (fun j => [(7, .c (.sl H.length (nextK v ts d fed j).length 0 (nextK v ts d fed j).length)), (8, .c (.int .i64 (-9 * ((d : Int) + 1) + (j : Nat))))]) (fun j => H ++ [.arr false (nextK v ts d fed j).length 1 ((nextK v ts d fed j).map Row.row)]) (fun j => j ≤ 18 * (d + 1) + 1) (fun j => 18 * (d + 1) + 1 - j) 0 (Nat.zero_le _) (by simp only [go_sem, Int.add_zero, tk, un, y0, y1, y2, y3, nk0] <;> first | rfl | exact ⟨rfl, rfl⟩) ?_
    intro j hj
    have nl := nextK_len (v := v) (ts := ts) (d := d) (j := j) (fed := fed)
    obtain ⟨n, hn⟩ : ∃ n, n = -9 * ((d : Int) + 1) + (j : Nat) := ⟨_, rfl⟩
    have ns := nextK_succ (v := v) (ts := ts) (d := d) (j := j) (fed := fed)
    rw [← hn] at ns
    simp only [← hn]
    have w3 : IntKind.i64.wrap (n + 1) = n + 1 := wrapB (by omega) (by omega)
    by_cases hlt2 : j < 18 * (d + 1) + 1
    · have hle2 : n ≤ 9 * ((d : Int) + 1) := by omega
      simp only [go_sem, e4, w2, hle2]
      refine RX_forC fed.length (fun i => [(9, .c (.bool (canF (fed.take i) n))), (10, .c (.int .i64 i))]) (fun _ => True) rfl trivial (by simp only [go_sem] <;> first | rfl | exact ⟨rfl, rfl⟩) ?_
      intro i hi _
      have e5 : IntKind.i64.wrap ((i : Int) + 1) = ((i + 1 : Nat) : Int) := wrap_succ (n := 3000) (by omega) (by decide)
      by_cases hlt3 : i < fed.length
      · have hlt3' : (i : Int) < (fed.length : Nat) := by omega
        have i0 : (0 : Int) ≤ i := by omega
        have hn2 := nth_row (w := fed) (y := i) hlt3
        have fb := hfb (fed.getD i default) (getD_mem hlt3)
        have w4 : IntKind.i64.wrap (n - fed.getD i default) = n - fed.getD i default := wrapB (by omega) (by omega)
        have hst : canF (fed.take (i + 1)) n = (canF (fed.take i) n || inR (n - fed.getD i default) (-9) 9) := by
          unfold canF; rw [take_getD hlt3 default, List.any_append]; simp
        cases hc : canF (fed.take i) n with
        | true =>
          simp only [go_sem, hlt3', hlt3, i0, hc, e5, hst]
        | false =>
          simp only [go_sem, hlt3', hlt3, i0, getH_left, lo, eo, hn2, w4, rIn, hc, e5, hst]
      · have : i = fed.length := by omega
        subst this
        have hlt3' : ¬ (fed.length : Int) < (fed.length : Nat) := by omega
        rw [List.take_length]
        have hK := fun {g : Bool × Bool} {Q : V → Prop} => rKept (g1 := g1) (g2 := g2) (g3 := g3) (g4 := g4) (g := g) hv hts hl (d := d) hlt (n := n) (by omega) (Q := Q)
        simp only [vatV] at hK
        have b1 : ((nextK v ts d fed j).length + 1) * 8 ≤ 2 ^ 40 := by omega
        cases hc : canF fed n with
        | false =>
          have hp : nextP v ts d fed n = false := by rw [nextP, hc, Bool.false_and]
          rw [if_neg (by rw [hp]; simp)] at ns
          simp only [go_sem, hlt3', hc, w3, tk, un, y0, y1, y2, y3]
          refine ⟨j + 1, ⟨by omega, by omega⟩, ⟨by rw [ns], by omega⟩, by rw [ns]⟩
        | true =>
          cases hkp : keptB v ts d n with
          | false =>
            have hp : nextP v ts d fed n = false := by rw [nextP, hc, hkp]; rfl
            rw [if_neg (by rw [hp]; simp)] at ns
            simp only [go_sem, hlt3', hc, w3, getH_left, l0, e0, hK, hkp, tk, un, y0, y1, y2, y3]
            refine ⟨j + 1, ⟨by omega, by omega⟩, ⟨by rw [ns], by omega⟩, by rw [ns]⟩
          | true =>
            have hp : nextP v ts d fed n = true := by rw [nextP, hc, hkp]; rfl
            rw [if_pos hp] at ns
            simp only [go_sem, hlt3', hc, w3, getH_left, l0, e0, hK, hkp, b1, tk, un, y0, y1, y2, y3]
            refine ⟨j + 1, ⟨by omega, by omega⟩, ⟨by rw [ns, List.length_append]; rfl, by omega⟩, by rw [ns, List.length_append, List.map_append]; rfl⟩
    · have : j = 18 * (d + 1) + 1 := by omega
      subst this
      have hle2 : ¬ n ≤ 9 * ((d : Int) + 1) := by omega
      have hnl : nextK v ts d fed (18 * (d + 1) + 1) = nextL v ts d fed := rfl
      rw [hnl] at nl ⊢
      simp only [go_sem, e4, w2, hle2]
      have hst : mostF v ts (v.drift.length - d) d fed = if nextL v ts d fed = [] then d else mostF v ts (v.drift.length - (d + 1)) (d + 1) (nextL v ts d fed) := by
        rw [show v.drift.length - d = (v.drift.length - (d + 1)) + 1 by omega, mostF]
      rw [← hm] at hst
      refine ⟨fun hz => ?_, fun hz => ?_⟩
      · rw [hst, if_pos (List.length_eq_zero_iff.1 (by omega))]
      · rw [if_neg (fun h => hz (by rw [h]; rfl))] at hst
        refine ⟨(d + 1, nextL v ts d fed, H.length, _, _), ⟨by simp only; omega, by simp only; omega, fun y hy => ?_, by simp only; omega, hst, by simp only [List.length_append]; omega, ?_, getH_keep e0 (by simp), getH_atL0 rfl⟩, ⟨rfl, rfl⟩, rfl⟩
        · have := nextL_bd y hy
          omega
        · simp only [List.length_append, List.length_cons, List.length_nil]; exact un _ _ _
  · have : d = v.drift.length := by omega
    subst this
    have hle : ¬ (v.drift.length : Int) ≤ v.last := by omega
    have w1 : IntKind.i64.wrap (v.last + 1) = (v.drift.length : Nat) := by rw [wrapB (by omega) (by omega), v1]
    rw [Nat.sub_self, mostF] at hm
    simp only [vatC] at e0
    simp only [go_sem, e0, hle, w1, hm])
end Am.Vt

namespace Am.Vt
open Go Am
set_option maxRecDepth 100000
set_option maxHeartbeats 4000000
set_option linter.unusedSimpArgs false
set_option linter.unusedVariables false
variable {g1 g2 g3 g4 gt ga gb : Bool × Bool} {v : Vat} {t : Truth}
/-! what can be fed -/
theorem kept_room (hv : v.Valid) {ts : List Truth} (hm : ∀ t, t ∈ ts ↔ t ∈ truthsL v []) (hp : posB v [] = true) {d : Nat} (hd : d < v.drift.length) {n : Int} : keptB v ts d n = inR n (roomI v d).lo (roomI v d).hi := by
  have h := ext_ok hv hp
  rw [Bool.eq_iff_iff, keptB, List.all_eq_true, inR_iff]
  obtain ⟨a1, a2⟩ := h.ma d hd
  obtain ⟨b1, b2⟩ := h.la d hd
  simp only [roomI]
  constructor
  · intro hk
    have k1 := hk _ ((hm _).2 a1)
    have k2 := hk _ ((hm _).2 b1)
    rw [inR_iff] at k1 k2
    omega
  · intro hn t ht
    have k1 := h.mm d hd t ((hm t).1 ht)
    have k2 := h.lm d hd t ((hm t).1 ht)
    rw [inR_iff]
    omega
/-- lists of all numbers of a range -/
theorem canF_upTo {lo hi n : Int} (h : lo ≤ hi) : canF (upTo lo hi) n = true ↔ lo - 9 ≤ n ∧ n ≤ hi + 9 := by
  unfold canF
  rw [List.any_eq_true]
  constructor
  · rintro ⟨x, hx, hi⟩
    rw [upTo_mem] at hx
    rw [inR_iff] at hi
    omega
  · intro hn
    refine ⟨max lo (min hi n), upTo_mem.2 (by omega), ?_⟩
    rw [inR_iff]; omega
theorem upTo_empty {lo hi : Int} : upTo lo hi = [] ↔ hi < lo := by
  unfold upTo
  rw [List.map_eq_nil_iff, List.range_eq_nil]
  omega
theorem next_upTo (hv : v.Valid) {ts : List Truth} (hm : ∀ t, t ∈ ts ↔ t ∈ truthsL v []) (hp : posB v [] = true) {d : Nat} (hd : d < v.drift.length) {now : Rg} (h0 : now.lo ≤ now.hi) (hb : -9 * (d : Int) ≤ now.lo ∧ now.hi ≤ 9 * (d : Int)) : nextL v ts d (upTo now.lo now.hi) = upTo (nextR (roomI v d) now).lo (nextR (roomI v d) now).hi := by
  refine sorted_ext (List.Pairwise.filter _ ?_) upTo_sorted fun x => ?_
  · rw [List.pairwise_map]
    exact (List.pairwise_lt_range).imp fun h => by omega
  · rw [upTo_mem, nextL, nextK, List.mem_filter, List.mem_map, nextP, Bool.and_eq_true, canF_upTo h0, kept_room hv hm hp hd, inR_iff]
    simp only [nextR, List.mem_range]
    constructor
    · rintro ⟨⟨i, hi, rfl⟩, h1, h2⟩
      omega
    · intro h
      refine ⟨⟨(x + 9 * ((d : Int) + 1)).toNat, by omega, by omega⟩, by omega, by omega⟩
theorem most_reach (hv : v.Valid) {ts : List Truth} (hm : ∀ t, t ∈ ts ↔ t ∈ truthsL v []) (hp : posB v [] = true) : ∀ {n d : Nat} {now : Rg}, d + n = v.drift.length → now.lo ≤ now.hi → -9 * (d : Int) ≤ now.lo ∧ now.hi ≤ 9 * (d : Int) → mostF v ts n d (upTo now.lo now.hi) = d + (reachF (roomI v) n d now).length
  | 0, d, now, _, _, _ => rfl
  | n + 1, d, now, hd, h0, hb => by
    have hne := next_upTo hv hm hp (d := d) (by omega) h0 hb
    rw [mostF, reachF, hne]
    by_cases hg : (nextR (roomI v d) now).lo > (nextR (roomI v d) now).hi
    · rw [if_pos (upTo_empty.2 (by omega)), if_pos hg]; rfl
    · rw [if_neg (fun h => hg (upTo_empty.1 h)), if_neg hg, most_reach hv hm hp (by omega) (by omega) (by simp only [nextR]; omega), List.length_cons]
      omega
theorem most_eq (hv : v.Valid) {ts : List Truth} (hm : ∀ t, t ∈ ts ↔ t ∈ truthsL v []) (hp : posB v [] = true) : mostR v ts = (reachL v).length := by
  have := most_reach hv hm hp (n := v.drift.length) (d := 0) (now := ⟨0, 0⟩) (by omega) (by simp) (by simp)
  rw [Nat.zero_add] at this
  exact this
/-- all that was reached is in the rooms, and follows from what was reached before -/
structure ReachOk (room : Nat → Rg) (d : Nat) (now : Rg) (l : List Rg) : Prop where
  le : ∀ i, i < l.length → (l.getD i default).lo ≤ (l.getD i default).hi
  rm : ∀ i, i < l.length → (room (d + i)).lo ≤ (l.getD i default).lo ∧ (l.getD i default).hi ≤ (room (d + i)).hi
  st : ∀ i, i < l.length → (l.getD i default) = nextR (room (d + i)) (if i = 0 then now else l.getD (i - 1) default)
end Am.Vt

namespace Am.Vt
open Go Am
set_option maxRecDepth 100000
set_option maxHeartbeats 4000000
set_option linter.unusedSimpArgs false
set_option linter.unusedVariables false
variable {g1 g2 g3 g4 gt ga gb : Bool × Bool} {v : Vat} {t : Truth}
theorem isTruth_iff (hv : v.Valid) : isTruthB v t = true ↔ t ∈ truthsL v [] := by
  have v1 := hv.drift
  rw [mem_truths hv, isTruthB, Bool.and_eq_true, listed_iff, List.all_eq_true]
  constructor
  · rintro ⟨h1, h2⟩
    refine ⟨h1, ?_⟩
    rw [rightL, List.all_eq_true]
    intro i hi
    have hi := List.mem_range.1 hi
    rw [rightAt, Bool.or_eq_true]
    exact .inr (h2 _ (getD_mem hi))
  · rintro ⟨h1, h2⟩
    refine ⟨h1, fun k hk => ?_⟩
    rw [rightL, List.all_eq_true] at h2
    obtain ⟨i, hi, rfl⟩ := List.getElem_of_mem hk
    have := h2 i (List.mem_range.2 hi)
    rw [rightAt, Bool.or_eq_true] at this
    rcases this with h | h
    · simp at h
    · rwa [getD_lt _ _ _ hi] at h
theorem provesTruth_eq (h0 : checkVat v = 0) : provesTruth v t = isTruthB v t := by rw [provesTruth, h0]; simp [isTruthB]
/-- the proof that is found -/
theorem showP_ok (hv : v.Valid) (hp : posB v [] = true) (h : (reachL v).length < v.drift.length) : showsB v (showP v) = true ∧ (showP v).Ok v ∧ (showP v).most ∈ truthsL v [] ∧ (showP v).least ∈ truthsL v [] ∧ max (showP v).over (showP v).under = (reachL v).length := by
  have hx := ext_ok hv hp
  have v1 := hv.drift
  obtain ⟨a, e, he, b⟩ := showF_ok (show_ex hv hp h)
  rw [endsL, List.mem_map] at he
  obtain ⟨i, hi, rfl⟩ := he
  have hi := List.mem_range.1 hi
  refine ⟨a, ?_⟩
  change (showP v) = _ ∨ (showP v) = _ at b
  rcases b with b | b
  · rw [b]
    refine ⟨mkP_ok hv hp (by omega) (by omega), (hx.ma _ (by omega)).1, (hx.la _ (by omega)).1, ?_⟩
    simp only [mkP]; omega
  · rw [b]
    refine ⟨mkP_ok hv hp (by omega) (by omega), (hx.ma _ (by omega)).1, (hx.la _ (by omega)).1, ?_⟩
    simp only [mkP]; omega
end Am.Vt

