/-
  A part of the proof: the texts H4, H5, H6, K1, K3, K2 of this seat, joined.
-/
import Derived.Test.YtiblicjmmippnaaWalkU
namespace Am.Cr
open Go Am
set_option maxRecDepth 100000
set_option maxHeartbeats 4000000
set_option linter.unusedSimpArgs false
set_option linter.unusedVariables false
variable {g1 g2 g3 g4 g5 : Bool × Bool} {f : Field}
end Am.Cr

namespace Am.Cr
open Go Am
set_option maxRecDepth 100000
set_option maxHeartbeats 4000000
set_option linter.unusedSimpArgs false
set_option linter.unusedVariables false
variable {g1 g2 g3 g4 g5 : Bool × Bool} {f : Field}
end Am.Cr

namespace Am.Cr
open Go Am
set_option maxRecDepth 100000
set_option maxHeartbeats 4000000
set_option linter.unusedSimpArgs false
set_option linter.unusedVariables false
variable {g1 g2 g3 g4 g5 : Bool × Bool} {f : Field}
end Am.Cr

namespace Am.Cr
open Go Am
set_option maxRecDepth 100000
set_option maxHeartbeats 4000000
set_option linter.unusedSimpArgs false
set_option linter.unusedVariables false
variable {g1 g2 g3 g4 g5 : Bool × Bool} {f : Field}
def upT (t : Truth) (k : Nat) (g : Int) : Truth := ⟨t.growth.set k g, t.wet.set k 0⟩
theorem getD_set {l : List Int} {k i : Nat} {x : Int} (hk : k < l.length) : (l.set k x).getD i default = if i = k then x else l.getD i default := by
  rw [List.getD_eq_getElem?_getD, List.getElem?_set]
  by_cases h : k = i
  · subst h; rw [if_pos rfl, if_pos hk, if_pos rfl]; rfl
  · rw [if_neg h, if_neg (by omega), ← List.getD_eq_getElem?_getD]
theorem pre_set {l : List Int} {k : Nat} {x : Int} (hk : k < l.length) : ∀ {n : Nat}, n ≤ l.length → pre (l.set k x) n = pre l n + (if k < n then x - l.getD k default else 0)
  | 0, _ => by simp [pre]
  | n + 1, h => by
    have ih := pre_set (x := x) hk (n := n) (by omega)
    rw [pre_succ (by rw [List.length_set]; omega), pre_succ (by omega), ih, getD_set hk]
    by_cases h1 : k < n
    · have c1 : k < n + 1 := by omega
      have c2 : ¬ n = k := by omega
      rw [if_pos h1, if_pos c1, if_neg c2]; omega
    · by_cases h2 : n = k
      · subst h2
        have c1 : n < n + 1 := by omega
        rw [if_neg h1, if_pos c1, if_pos rfl]; omega
      · have c1 : ¬ k < n + 1 := by omega
        rw [if_neg h1, if_neg c1, if_neg h2]; omega
theorem up_isT {t : Truth} {k : Nat} {g : Int} (h : IsT f t) (hk : k < f.growth.length) (hkw : k < f.wet.length) (hw2 : f.wet.getD k default = 2) (hg : t.growth.getD k default ≤ g) (hg2 : g ≤ (f.growth.getD k default).hi) : IsT f (upT t k g) := by
  have a1 := h.gl
  have a2 := h.wl
  refine ⟨?_, ?_, fun i hi => ?_, fun i hi => ?_⟩
  · show (List.set _ _ _).length = _; rw [List.length_set, a1]
  · show (List.set _ _ _).length = _; rw [List.length_set, a2]
  · have hi' : i < (t.growth.set k g).length := hi
    rw [List.length_set] at hi'
    have hr := h.gr i hi'
    show _ ≤ (t.growth.set k g).getD i default ∧ (t.growth.set k g).getD i default ≤ _
    rw [getD_set (by omega)]
    by_cases e : i = k
    · subst e; rw [if_pos rfl]; exact ⟨by omega, hg2⟩
    · rw [if_neg e]; exact hr
  · have hi' : i < (t.wet.set k 0).length := hi
    rw [List.length_set] at hi'
    have hr := h.wr i hi'
    show _ ≤ (t.wet.set k 0).getD i default ∧ (t.wet.set k 0).getD i default ≤ _
    rw [getD_set (by omega)]
    by_cases e : i = k
    · subst e; rw [if_pos rfl, hw2]; exact ⟨by decide, by decide⟩
    · rw [if_neg e]; exact hr
theorem up_more (hv : f.Valid) {t : Truth} {p : List Int} {k : Nat} {g : Int} (ht : TOk f t) (hu : TOk f (upT t k g)) (hp : POk f p) (hk : k < t.growth.length) (hkw : k < t.wet.length) (hg : t.growth.getD k default ≤ g) {i : Nat} (hi : i < p.length) :
    0 ≤ wgtF f t p i ∧ wgtF f t p i ≤ wgtF f (upT t k g) p i ∧ wgtF f (upT t k g) p i ≤ 500 := by
  obtain ⟨o1, o2, o3, o4⟩ := onF_bound ht hp hi
  obtain ⟨u1, u2, u3, u4⟩ := onF_bound hu hp hi
  obtain ⟨p0, p1⟩ := hp.at hi
  have hgl := ht.gl
  have hon : onF t p i ≤ onF (upT t k g) p i := by
    show pre t.growth _ - pre t.growth _ ≤ pre (t.growth.set k g) _ - pre (t.growth.set k g) _
    rw [pre_set hk (by omega), pre_set hk (by omega)]
    split <;> split <;> omega
  have l1 := less_le (b := decide (t.wet.getD (p.getD i default).toNat default > 0)) hv.trod.1 hv.trod.2 o1
  have l2 := less_le (b := decide ((upT t k g).wet.getD (p.getD i default).toNat default > 0)) hv.trod.1 hv.trod.2 u1
  refine ⟨l1.1, ?_, by unfold wgtF; omega⟩
  have hm := less_mono (b := decide (t.wet.getD (p.getD i default).toNat default > 0)) hv.trod.1 hv.trod.2 hon
  have hw : (upT t k g).wet.getD (p.getD i default).toNat default = if (p.getD i default).toNat = k then 0 else t.wet.getD (p.getD i default).toNat default := getD_set hkw
  unfold wgtF
  rw [hw]
  by_cases e : (p.getD i default).toNat = k
  · rw [if_pos e]
    have : lessF f.trod (onF (upT t k g) p i) (decide ((0 : Int) > 0)) = onF (upT t k g) p i := by unfold lessF; simp
    rw [this]; omega
  · rw [if_neg e]; exact hm
end Am.Cr

namespace Am.Cr
open Go Am
set_option maxRecDepth 100000
set_option maxHeartbeats 4000000
set_option linter.unusedSimpArgs false
set_option linter.unusedVariables false
theorem FList {g : Bool × Bool} {a : List Int} {H : List Obj} {Q : V → List Obj → Prop} (ha : a.length ≤ 1000) : Fn tab (.f 17 [.c (L g a)] H) Q ↔ Q (.c (.sl (H.length) 0 0 a.length)) (H ++ [.arr false 0 1 (a.map Row.row)]) := Fn_iff (by
  have hb : a.length * 8 ≤ 2 ^ 40 := by omega
  refine Fn_X (fn := f17) rfl rfl ?_
  simp only [go_sem, f17, hb])
end Am.Cr

namespace Am.Cr
open Go Am
set_option maxRecDepth 100000
set_option maxHeartbeats 4000000
set_option linter.unusedSimpArgs false
set_option linter.unusedVariables false
variable {g1 g2 g3 g4 g5 : Bool × Bool} {f : Field}
theorem CropMore_val {which bits wi mi : Int} (hlk : f.wet.length ≤ 1048576) (hw0 : 0 ≤ which) (hw1 : which ≤ 65535) (hb0 : 0 ≤ bits) (hb1 : bits ≤ 65535) (hk0 : 0 ≤ wi) (hk1 : wi ≤ 255) (hm0 : 0 ≤ mi) (hm1 : mi ≤ 255) : Val tab 5 [fieldV g1 g2 g3 g4 g5 f, .c (.int .u16 which), .c (.int .u16 bits), .c (.int .u8 wi), .c (.int .u8 mi)] (.c (.bool true)) := by
  obtain ⟨wn, rfl⟩ : ∃ n : Nat, which = n := ⟨which.toNat, by omega⟩
  obtain ⟨bn, rfl⟩ : ∃ n : Nat, bits = n := ⟨bits.toNat, by omega⟩
  obtain ⟨kn, rfl⟩ : ∃ n : Nat, wi = n := ⟨wi.toNat, by omega⟩
  obtain ⟨mn, rfl⟩ : ∃ n : Nat, mi = n := ⟨mi.toNat, by omega⟩
  refine Val_X (fn := f5) rfl ?_
  have b1 : f.wet.length * 8 ≤ 2 ^ 40 := by omega
  have e1 : IntKind.i64.wrap (wn : Int) = (wn : Int) := wrapB (by omega) (by omega)
  have e1' : IntKind.i64.wrap (kn : Int) = (kn : Int) := wrapB (by omega) (by omega)
  have e1'' : IntKind.i64.wrap (mn : Int) = (mn : Int) := wrapB (by omega) (by omega)
  by_cases hz : f.wet.length = 0
  · have hwe : f.wet = [] := List.length_eq_zero_iff.1 hz
    have hr : readyB f = false := by
      cases hr : readyB f with
      | false => rfl
      | true =>
        obtain ⟨hs, hv, h0, h100⟩ := ready_of hr
        have := (rgsOk_of hv).l
        have := hv.growth
        have := hv.wet
        have := hv.last0
        omega
    have hR := fun {g1 g2 g3 g4 g5 : Bool × Bool} {Q : V → Prop} => lready (g1 := g1) (g2 := g2) (g3 := g3) (g4 := g4) (g5 := g5) (f := f) (Q := Q)
    rw [hr] at hR
    simp only [fieldV, hwe] at hR
    have hm : max (1 : Int) 0 = 1 := by decide
    simp only [go_sem, f5, e1', hz, hm, hwe, hR, lawake]
  · obtain ⟨k, hk⟩ : ∃ k, k = kn % f.wet.length := ⟨_, rfl⟩
    have hkl : k < f.wet.length := by rw [hk]; exact Nat.mod_lt _ (by omega)
    have hm : max (1 : Int) (f.wet.length : Int) = (f.wet.length : Int) := by omega
    have e2 : (kn : Int).tmod ((f.wet.length : Nat) : Int) = (k : Int) := by rw [hk]; rfl
    have hz' : ¬ ((f.wet.length : Nat) : Int) = 0 := by omega
    have hz2 : ((f.wet.length : Nat) : Int) > 0 := by omega
    have n1 : nth f.wet k = some (f.wet.getD k default) := nth_lt' hkl
    obtain ⟨w', hw'⟩ : ∃ w', w' = f.wet.set k 2 := ⟨_, rfl⟩
    have hwl : w'.length = f.wet.length := by rw [hw', List.length_set]
    obtain ⟨x, hx0⟩ : ∃ x : Field, x = { f with wet := w' } := ⟨_, rfl⟩
    have x1 : x.last = f.last := by rw [hx0]
    have x2 : x.base = f.base := by rw [hx0]
    have x4 : x.crops = f.crops := by rw [hx0]
    have x5 : x.ripe = f.ripe := by rw [hx0]
    have x6 : x.late = f.late := by rw [hx0]
    have x7 : x.trod = f.trod := by rw [hx0]
    have xg : x.growth = f.growth := by rw [hx0]
    have xw : x.wet = w' := by rw [hx0]
    have xl : x.looks = f.looks := by rw [hx0]
    have kR := fun {g1 g2 g3 g4 g5 : Bool × Bool} {Q : V → Prop} => lready (g1 := g1) (g2 := g2) (g3 := g3) (g4 := g4) (g5 := g5) (f := x) (Q := Q)
    simp only [fieldV, x1, x2, x4, x5, x6, x7, xg, xw, xl] at kR
    have T : takeN f.wet.length (w'.map (Row.row (α := Int))) = some (w'.map Row.row) := by rw [← hwl, takeN_L (Nat.le_refl _), List.take_length]
    have T0 : takeN f.wet.length (f.wet.map (Row.row (α := Int))) = some (f.wet.map Row.row) := by rw [takeN_L (Nat.le_refl _), List.take_length]
    cases hr : readyB f with
    | false =>
      by_cases h1 : f.wet.length ≤ 1
      all_goals simp (maxSteps := 1000000) only [go_sem, f5, e1', hm, hz', hz2, e2, b1, T, T0, hkl, n1, setNth_map, ← hw', lready, kR, h1, hr, lawake]
    | true =>
    cases hrx : readyB x with
    | false =>
      by_cases h1 : f.wet.length ≤ 1
      all_goals simp (maxSteps := 1000000) only [go_sem, f5, e1', hm, hz', hz2, e2, b1, T, T0, hkl, n1, setNth_map, ← hw', lready, kR, h1, hr, hrx, lawake]
    | true =>
      obtain ⟨hs, hv, h0, h100⟩ := ready_of hr
      obtain ⟨hsx, hvx, h0x, h100x⟩ := ready_of hrx
      have hro := rgsOk_of hvx
      have hpp := prodF_pos hvx
      have hmr := manyR_eq hvx
      have v1 := hvx.growth
      have v2 := hvx.wet
      have v4 := hvx.last9
      have v5 := hvx.base3
      obtain ⟨n, hn⟩ : ∃ n, n = wn % prodF x := ⟨_, rfl⟩
      have hnl : n < prodF x := by rw [hn]; exact Nat.mod_lt _ hpp
      have e3 : (wn : Int).tmod ((prodF x : Nat) : Int) = (n : Int) := by rw [hn]; rfl
      have e4 : ¬ ((prodF x : Nat) : Int) = 0 := by omega
      obtain ⟨t, ht⟩ : ∃ t, t = nthT x n := ⟨_, rfl⟩
      have hIt : IsT x t := by rw [ht]; exact nthT_isT hvx
      have hT := tok_of hvx hIt
      have hTg := hT.gl
      have hTw := hT.wl
      have g10 := hT.l10
      have kM := fun {g1 g2 g3 g4 g5 : Bool × Bool} {Q : V → Prop} => rMany (g1 := g1) (g2 := g2) (g3 := g3) (g4 := g4) (g5 := g5) (f := x) hro (Q := Q)
      have kN := fun {g1 g2 g3 g4 g5 : Bool × Bool} {Q : V → Prop} => rNth (g1 := g1) (g2 := g2) (g3 := g3) (g4 := g4) (g5 := g5) (f := x) hro (n := n) (by omega) (Q := Q)
      have kF := fun {g1 g2 g3 g4 g5 : Bool × Bool} {Q : V → Prop} => lField (g1 := g1) (g2 := g2) (g3 := g3) (g4 := g4) (g5 := g5) (f := x) hsx (Q := Q)
      rw [← ht] at kN
      obtain ⟨M, hM0⟩ : ∃ M, M = prodF x := ⟨_, rfl⟩
      rw [hmr] at kM
      rw [← hM0] at kM e3 e4
      simp only [fieldV, x1, x2, x4, x5, x6, x7, xg, xw, xl] at kM kN kF
      have hu1 : t.growth.length ≤ 1000 := by omega
      have hu2 : t.wet.length ≤ 1000 := by omega
      have kL1 := fun {g : Bool × Bool} {H : List Obj} {Q : V → List Obj → Prop} => FList (g := g) (a := t.growth) (H := H) (Q := Q) hu1
      have kL2 := fun {g : Bool × Bool} {H : List Obj} {Q : V → List Obj → Prop} => FList (g := g) (a := t.wet) (H := H) (Q := Q) hu2
      have wl : f.growth.length = f.wet.length := by rw [xg] at v1; rw [xw, hwl] at v2; omega
      rw [xg] at hTg hTw g10
      have kg : k < f.growth.length := by omega
      have kt : k < t.growth.length := by omega
      have kw : k < t.wet.length := by omega
      have n2 : nth t.growth k = some (t.growth.getD k default) := nth_lt' kt
      have n3 : nth t.wet k = some (t.wet.getD k default) := nth_lt' kw
      have n4 : nth f.growth k = some (f.growth.getD k default) := nth_lt' kg
      obtain ⟨d, hd⟩ : ∃ d, d = mn % 4 := ⟨_, rfl⟩
      have hd4 : d < 4 := by omega
      have d1 : (mn : Int).tmod 4 = (d : Int) := by rw [hd]; rfl
      have hg := hT.gr k kt
      have d2 : IntKind.i64.wrap (t.growth.getD k default + (d : Int)) = t.growth.getD k default + (d : Int) := wrapB (by omega) (by omega)
      have hgx := hIt.gr k kt
      rw [xg] at hgx
      obtain ⟨gg, hgg⟩ : ∃ g, g = min (f.growth.getD k default).hi (t.growth.getD k default + (d : Int)) := ⟨_, rfl⟩
      obtain ⟨u, hu⟩ : ∃ u, u = upT t k gg := ⟨_, rfl⟩
      have s1 : t.growth.set k gg = u.growth := by rw [hu]; rfl
      have s2 : t.wet.set k 0 = u.wet := by rw [hu]; rfl
      have hIu : IsT x u := by
        rw [hu]
        refine up_isT hIt (by rw [xg]; exact kg) (by rw [xw, hwl]; exact hkl) ?_ (by omega) (by rw [xg]; omega)
        rw [xw, hw', getD_set hkl, if_pos rfl]
      have hU := tok_of hvx hIu
      have hUg := hU.gl
      have hUw := hU.wl
      rw [xg] at hUg hUw
      obtain ⟨p, hp0⟩ : ∃ p, p = plannedL f bn := ⟨_, rfl⟩
      have hpo : planOk x.last x.base p = true := by rw [hp0, x1, x2]; exact planned_ok hv
      have hPl := fun {Q : V → Prop} => lplanned (g1 := g1) (g2 := g2) (g3 := g3) (g4 := g4) (g5 := g5) hv (bits := bn) (by omega) (Q := Q)
      rw [← hp0] at hPl
      have hP := pok_of hvx hpo
      have hpl := hP.l
      have R1 := play_ok h0x (listed_isT hvx hIt) hpo
      have R2 := play_ok h0x (listed_isT hvx hIu) hpo
      have k1 := fun {g : Bool × Bool} {Q : V → Prop} => cPlay (f := x) (g1 := (false, false)) (g2 := (false, false)) (g3 := (false, false)) (g4 := (false, false)) (g5 := (false, false)) (b6 := false) (b7 := false) (g := g) (t := t) (plan := p) hsx.fits (big_of (by omega)) (Q := Q)
      have k2 := fun {g : Bool × Bool} {Q : V → Prop} => cPlay (f := x) (g1 := (false, false)) (g2 := (false, false)) (g3 := (false, false)) (g4 := (false, false)) (g5 := (false, false)) (b6 := false) (b7 := false) (g := g) (t := u) (plan := p) hsx.fits (big_of (by omega)) (Q := Q)
      rw [R1] at k1
      rw [R2] at k2
      have k5 := fun {b6 b7 : Bool × Bool} {Q : V → Prop} => lTruth (b6 := b6) (b7 := b7) (t := t) (by omega) (by omega) (Q := Q)
      have k6 := fun {b6 b7 : Bool × Bool} {Q : V → Prop} => lTruth (b6 := b6) (b7 := b7) (t := u) (by omega) (by omega) (Q := Q)
      have hp1 : p.length ≤ 1000 := by omega
      have kL3 := fun {g : Bool × Bool} {H : List Obj} {Q : V → List Obj → Prop} => FList (g := g) (a := p) (H := H) (Q := Q) hp1
      have t1 : takeN t.growth.length (u.growth.map (Row.row (α := Int))) = some (u.growth.map Row.row) := by rw [show t.growth.length = u.growth.length by omega, takeN_L (Nat.le_refl _), List.take_length]
      have t2 : takeN t.wet.length (u.wet.map (Row.row (α := Int))) = some (u.wet.map Row.row) := by rw [show t.wet.length = u.wet.length by omega, takeN_L (Nat.le_refl _), List.take_length]
      have t3 : takeN p.length (p.map (Row.row (α := Int))) = some (p.map Row.row) := by rw [takeN_L (Nat.le_refl _), List.take_length]
      have hcl1 := cropsL_len (f := x) (t := t) (plan := p)
      have hcl2 := cropsL_len (f := x) (t := u) (plan := p)
      by_cases h1 : f.wet.length ≤ 1
      all_goals simp (maxSteps := 1000000) only [go_sem, f5, e1, e1', e1'', hm, hz', hz2, e2, b1, T, T0, hkl, n1, n2, n3, n4, kg, kt, kw, d1, d2, atI_nat, ← hgg, s1, s2, hPl, kL3, kF, k1, k2, k5, k6, t1, t2, t3, hcl1, hcl2, setNth_map, ← hw', lready, kR, h1, hr, hrx, kM, kN, e3, e4, kL1, kL2]
      all_goals
        refine RX_forC p.length (fun j => [(20, .c (.int .i64 j))]) (fun _ => True) rfl trivial (by simp only [go_sem] <;> first | rfl | exact ⟨rfl, rfl⟩ | exact ⟨rfl, rfl, rfl⟩) ?_
        intro j hj _
        by_cases hlt : j < p.length
        · have w1 : IntKind.i64.wrap ((j : Int) + 1) = ((j + 1 : Nat) : Int) := wrap_succ (n := 3000) (by omega) (by decide)
          have c1 : (cropsL x t p).getD j default = ⟨wgtF x t p j, strF x p j, wgtF x t p j * strF x p j⟩ := by
            rw [crops_getD hlt, cropAt_eq hvx hT hP hlt]
          have c2 : (cropsL x u p).getD j default = ⟨wgtF x u p j, strF x p j, wgtF x u p j * strF x p j⟩ := by
            rw [crops_getD hlt, cropAt_eq hvx hU hP hlt]
          have q1 : j < (cropsL x t p).length := by omega
          have q2 : j < (cropsL x u p).length := by omega
          obtain ⟨m0, m1, m2⟩ := up_more (f := x) hvx hT (by rw [← hu]; exact hU) hP kt kw (by omega) hlt (g := gg)
          rw [← hu] at m1 m2
          have hst : 0 ≤ strF x p j := by unfold strF; omega
          have m3 : wgtF x t p j * strF x p j ≤ wgtF x u p j * strF x p j := Int.mul_le_mul_of_nonneg_right m1 hst
          have f1 : ¬ wgtF x u p j < wgtF x t p j := by omega
          have f2 : ¬ wgtF x u p j * strF x p j < wgtF x t p j * strF x p j := by omega
          simp (maxSteps := 1000000) only [go_sem, hlt, q1, q2, hcl1, hcl2, atI_nat, c1, c2, f1, f2, w1]
          try exact 1
        · simp (maxSteps := 1000000) only [go_sem, hlt, lawake]
          try exact 1
end Am.Cr

