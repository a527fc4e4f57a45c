/-
  A part of the proof: the texts M29 of this seat, joined.
-/
import Derived.Test.YtgaifkhngaopgaaWalkH
namespace Am.Mv
open Go Am
set_option maxRecDepth 100000
set_option maxHeartbeats 4000000
set_option linter.unusedSimpArgs false
set_option linter.unusedVariables false
variable {l : Land} {g1 g2 : Bool × Bool}
theorem okW_all : (List.range 5).all (fun last => (List.range (last + 2)).all fun bad => (combW (last : Int) (bad : Int)).all fun w => decide ((w.length : Int) ≤ (bad : Int)) && weatherOk ((last : Int) + 1) (-1) w) = true := by decide +kernel
theorem wth_is (hv : l.Valid) {w : List Int} (h : w ∈ weathersL l) : isWeather l w (l.last + 1) = true ∧ w.length ≤ 5 := by
  have l0 := hv.last0
  have l4 := hv.last4
  have b0 := hv.bad0
  have b1 := hv.bad1
  have h1 := (List.all_eq_true.1 okW_all) l.last.toNat (by simp; omega)
  have h2 := (List.all_eq_true.1 h1) l.bad.toNat (by simp; omega)
  rw [show ((l.last.toNat : Nat) : Int) = l.last by omega, show ((l.bad.toNat : Nat) : Int) = l.bad by omega] at h2
  exact ⟨(List.all_eq_true.1 h2) w h, wthR_len ((wth_mem hv w).1 h)⟩
theorem yr_getD {w p : List Int} {k : Nat} (hk : k < p.length) : ((List.range p.length).map (yrAt l w p)).getD k default = yrAt l w p k := by
  rw [getD_lt _ _ _ (by simpa using hk)]; simp
theorem yr_last (hv : l.Valid) {w p : List Int} (hl : p.length = (l.last + 1).toNat) : (atI ((List.range p.length).map (yrAt l w p)) l.last).money = (stAt l w p p.length).money := by
  have l0 := hv.last0
  unfold atI
  rw [yr_getD (by omega)]
  have : p.length = l.last.toNat + 1 := by omega
  rw [this]
  rfl
theorem P24' (hv : l.Valid) {g4 : Bool × Bool} {bad : List Int} (hb : bad.length < Big) {Q : V → Prop} : CallP tab 24 [landV g1 g2 l, .c (L g4 bad), .c (.int .i64 (l.last + 1))] Q ↔ Q (.c (.bool (isWeather l bad (l.last + 1)))) := by
  have l0 := hv.last0
  have l4 := hv.last4
  rw [P24 (by omega) (by omega) hb, weather_same (by omega) (by omega)]
theorem MoveTruth_val {which : Int} (w0 : 0 ≤ which) (w1 : which ≤ 255) : Val tab 6 [landV g1 g2 l, .c (.int .u8 which)] (.c (.bool true)) := by
  refine Val_X (fn := f6) rfl ?_
  by_cases hr : (thin l && decide (checkLand l = 0)) = true
  · have hr' := hr
    simp only [Bool.and_eq_true, decide_eq_true_eq] at hr'
    obtain ⟨ht, h0⟩ := hr'
    have hs := thin_small ht
    have hv := valid_of h0
    have l0 := hv.last0
    have l4 := hv.last4
    obtain ⟨b2, P27⟩ := V27 (l := l) (g1 := (false, false)) (g2 := (false, false)) hs.fits
    cases hc : (bestL l (-1)).2.2 with
    | false => simp only [go_sem, f6, P37s, hr, ht, P17, P19 hs, P27, BestR, h0, hc]
    | true =>
      obtain ⟨q1, q2, q3, _⟩ := plans_mem hv (best_mem hc)
      have hip := isPlan_of hv q1 q2
      obtain ⟨z1, z2, z3, _⟩ := (best_is l (-1)).yes hc
      obtain ⟨y1, y2, y3, y4⟩ := (sureL_is hv q1 q3).yes z1
      have hwm := wthOf_mem hv which
      obtain ⟨t1, t2⟩ := wth_is hv hwm
      obtain ⟨u1, u2⟩ := wth_is hv y2
      have hfa := y1 _ hwm
      have hfb := y1 _ y2
      have hpr := y4 _ hwm
      have P38' := @P38 l g1 g2 hv which w0 (by omega)
      generalize wthOf l which = w at *
      obtain ⟨e1, e2, e3⟩ := prof_val hv q1 q3 hfa
      obtain ⟨d1, d2, d3⟩ := prof_val hv q1 q3 hfb
      obtain ⟨m1, m2, m3⟩ := money_next hv (ws := w) q1 q3 _ (Nat.le_refl _) (failAt_none.1 hfa)
      have z2' := z2.trans y3
      generalize hp : (bestL l (-1)).1 = p at *
      generalize hn : (bestL l (-1)).2.1 = n at *
      have hpB : p.length < Big := Nat.lt_of_le_of_lt q3 (by decide)
      have hwB : w.length < Big := Nat.lt_of_le_of_lt t2 (by decide)
      have huB : (sureL l p).2.1.length < Big := Nat.lt_of_le_of_lt u2 (by decide)
      have hw : IntKind.i64.wrap (l.last + 1) = l.last + 1 := wrapB (by omega) (by omega)
      have hpl : (p.length : Int) = l.last + 1 := by omega
      obtain ⟨b, P39⟩ := V39 (l := l) (g1 := (false, false)) (g2 := (false, false)) (g3 := (false, false)) (plan := p) hs.fits hpB
      have hpw : playR l p w = .tup [.c (L (false, false) ((List.range p.length).map (yrAt l w p))), .c (.int .i64 0)] := by simp only [playR, h0, hip, hw, t1, hfa, if_true]
      have hpu : playR l p (sureL l p).2.1 = .tup [.c (L (false, false) ((List.range p.length).map (yrAt l (sureL l p).2.1 p))), .c (.int .i64 0)] := by simp only [playR, h0, hip, hw, u1, hfb, if_true]
      have hyl := yr_last hv (w := (sureL l p).2.1) q2
      have hyk := @yr_getD l w p
      have hyn : ((List.range p.length).map (yrAt l w p)).length = p.length := by simp
      have hun : ((List.range p.length).map (yrAt l (sureL l p).2.1 p)).length = p.length := by simp
      generalize (List.range p.length).map (yrAt l w p) = ys at *
      generalize (List.range p.length).map (yrAt l (sureL l p).2.1 p) = us at *
      have hyn' : (ys.length : Int) = l.last + 1 := by omega
      have hun' : (us.length : Int) = l.last + 1 := by omega
      have hlt : l.last < l.last + 1 := by omega
      simp only [go_sem, f6, P37s, hr, ht, P17, P19 hs, P27, BestR, SureR, h0, hc, hp, hn, hip, P23 hs.fits.sites hpB, P38', P20 (show p.length ≤ 1000 by omega), P20 (show w.length ≤ 1000 by omega), P18 hs.fits hpB hwB, hpw, hw, P39, z1, P24' hv huB, u1, hyn', ← z2]
      refine RX_for p.length (fun k => [(13, .c (.int .i64 (stAt l w p k).money)), (14, .c (.int .i64 k))]) (fun _ => [.cells [.int .i64 l.last, .int .i64 l.home, .int .i64 l.purse, .int .i64 l.bad, .int .i64 l.rest, L g1 l.sites, L g2 l.roads]]) (fun k => True) trivial (by simp only [go_sem, stAt, startS] <;> rfl) ?_
      intro k hk _
      by_cases h1 : k < p.length
      · have h2 : (k : Int) < l.last + 1 := by omega
        have hyk' := hyk h1
        obtain ⟨i1, i2, i3, i4, i5, i6⟩ := m3 k h1
        have i7 : (yrAt l w p k).money = IntKind.i64.wrap (IntKind.i64.wrap ((stAt l w p k).money - (yrAt l w p k).cost) + (yrAt l w p k).crop) := rfl
        have i8 : (stAt l w p (k + 1)).money = (yrAt l w p k).money := rfl
        have j1 : ¬ (yrAt l w p k).cost < 0 := by omega
        have j2 : ¬ (yrAt l w p k).cost > (stAt l w p k).money := by omega
        have j3 : ¬ (yrAt l w p k).crop < 0 := by omega
        simp only [go_sem, h1, h2, hyn', hyk', j1, j2, j3, i8, i7, wrap_succ h1 hpB, atI_nat]
      · have : k = p.length := by omega
        subst this
        have h2 : ¬ (p.length : Int) < l.last + 1 := by omega
        have hge : prof l p w ≥ n := by rw [z2]; omega
        have hd1 : prof l p (sureL l p).2.1 = n := z2'.symm
        simp only [go_sem, P17, h1, h2, hyn', hw, l0, e1, d1, hge, hd1, P19 hs, P20 (show p.length ≤ 1000 by omega), P20 (show (sureL l p).2.1.length ≤ 1000 by omega), P18 hs.fits hpB huB, hpu, hun', hlt, hyl]
  · simp only [go_sem, f6, P37s, hr, P17]
end Am.Mv
