/-
  A part of the proof: the texts F13 of this seat, joined.
-/
import Derived.Test.YtiblicjmmippnaaGreatWalkQ
import Derived.Test.YtiblicjmmippnaaGreatWalkL
import Derived.Test.YtiblicjmmippnaaGreatWalkG
namespace Am.Cr
open Go Am
set_option maxRecDepth 100000
set_option maxHeartbeats 4000000
set_option linter.unusedSimpArgs false
set_option linter.unusedVariables false
variable {g1 g2 g3 g4 g5 : Bool × Bool} {f : Field}
theorem CropGreatest_val {which bits : Int} (hw0 : 0 ≤ which) (hw1 : which ≤ 65535) (hb0 : 0 ≤ bits) (hb1 : bits ≤ 65535) : Val tab 10 [fieldV g1 g2 g3 g4 g5 f, .c (.int .u16 which), .c (.int .u16 bits)] (.c (.bool true)) := by
  obtain ⟨wn, rfl⟩ : ∃ n : Nat, which = n := ⟨which.toNat, by omega⟩
  obtain ⟨bn, rfl⟩ : ∃ n : Nat, bits = n := ⟨bits.toNat, by omega⟩
  refine Val_X (fn := f10) rfl ?_
  cases hr : readyB f with
  | false => simp only [go_sem, f10, lready, hr, lawake]
  | true =>
    obtain ⟨hs, hv, h0, h100⟩ := ready_of hr
    have hW := hs.fits
    have v9 := hv.last9
    have v1 := hv.growth
    have v5 := hv.base3
    obtain ⟨b, hw⟩ := vBest (f := f) (g1 := (false, false)) (g2 := (false, false)) (g3 := (false, false)) (g4 := (false, false)) (g5 := (false, false)) hW
    have k1 := fun {Q : V → Prop} => CallP_of (Q := Q) hw
    have hnil : planOk f.last f.base [] = true := planOk_of hv.last9 (by simp) (by simp) (by simp)
    rcases askE_val hv h0 (planOk f.last f.base []) with ⟨e1, e2⟩ | ⟨e1, e2, e3⟩ | ⟨e1, e2, e3⟩
    · rw [hnil] at e2; cases e2
    · have hR : BestR b f = .tup [.c .nils, .c (.int .i64 0), .c (.int .i64 11)] := by rw [BestR, if_neg (by rw [e1]; simp), e1]
      rw [hR] at k1
      have hz : (((refTruths f).length : Nat) : Int) = 0 := by rw [e3]; rfl
      simp only [go_sem, f10, lready, hr, lField hs, k1, rTruths hv, hz, lawake]
    · have hR : BestR b f = .tup [.c (L (b, false) (bestS f).plan), .c (.int .i64 (bestS f).worth), .c (.int .i64 0)] := by rw [BestR, if_pos e1]
      rw [hR] at k1
      have hne : truthsL f [] ≠ [] := fun e => e3 ((refTruths_nil hv).2 e)
      obtain ⟨o1, o2, o3⟩ := best_ok hv hne
      obtain ⟨p, hp⟩ : ∃ p, p = (bestS f).plan := ⟨_, rfl⟩
      obtain ⟨n, hn⟩ : ∃ n, n = (bestS f).worth := ⟨_, rfl⟩
      rw [← hp, ← hn] at k1 o2 o3
      rw [← hp] at o1
      have hP := pok_of hv o1
      have hpl := plan_le o1
      have hask : ∀ q, planOk f.last f.base q = true → askE f (planOk f.last f.base q) = 0 := fun q hq => by rw [hq, ← hnil]; exact e1
      have hz : ¬ (((refTruths f).length : Nat) : Int) = 0 := fun h => e3 (List.length_eq_zero_iff.1 (by omega))
      have hlen := refTruths_len hv
      have hzn : 0 < (refTruths f).length := List.length_pos_iff.2 e3
      obtain ⟨j, hj⟩ : ∃ j, j = wn % (refTruths f).length := ⟨_, rfl⟩
      have hjl : j < (refTruths f).length := by rw [hj]; exact Nat.mod_lt _ hzn
      have e4 : IntKind.i64.wrap (wn : Int) = (wn : Int) := wrapB (by omega) (by omega)
      have e5 : (wn : Int).tmod (((refTruths f).length : Nat) : Int) = (j : Int) := by rw [hj]; rfl
      obtain ⟨t, ht⟩ : ∃ t, t = (refTruths f).getD j default := ⟨_, rfl⟩
      have htm : t ∈ refTruths f := by rw [ht, getD_lt _ _ _ hjl]; exact List.getElem_mem hjl
      have hT := refTruths_tok hv t htm
      have hRg : ∀ q, planOk f.last f.base q = true → ∀ t ∈ refTruths f, sureW f q ≤ worthI f t q := fun q hq t ht => by
        have := (bdL_IsRg (val := fun t => worthI f t q) hne).2.2 t ((mem_refTruths hv).1 ht)
        exact this.1
      have hle : ¬ worthI f t p < n := by have := hRg p o1 t htm; omega
      have k2 := fun {b6 b7 g : Bool × Bool} {Q : V → Prop} => rTotal (f := f) (g1 := g1) (g2 := g2) (g3 := g3) (g4 := g4) (g5 := g5) (b6 := b6) (b7 := b7) (g := g) hT hP (Q := Q)
      have k3 := fun {worth : Int} {Q : V → Prop} => cProveWorth (f := f) (g1 := (false, false)) (g2 := (false, false)) (g3 := (false, false)) (g4 := (false, false)) (g5 := (false, false)) (g := (false, false)) (plan := p) (worth := worth) hW (big_of (by omega)) (Q := Q)
      have k4 := fun {g : Bool × Bool} {Q : V → Prop} => llist (g := g) (a := p) (by omega) (Q := Q)
      have k5 := fun {g : Bool × Bool} {Q : V → Prop} => rIsPlan (g1 := g1) (g2 := g2) (g3 := g3) (g4 := g4) (g5 := g5) (f := f) hv.last9 (g := g) (l := p) (by omega) (Q := Q)
      have hnb : 0 ≤ n ∧ n ≤ 1000000 := by
        obtain ⟨a, a1, a2⟩ := (bdL_IsRg (val := fun t => worthI f t p) hne).1
        have := worth_bound hv (refTruths_tok hv a ((mem_refTruths hv).2 a1)) hP
        have : worthI f a p = n := by rw [o2]; exact a2
        omega
      have w1 : provesWorth f p n = true := by
        have : n ≤ (worthRg f p).lo := by rw [o2]; exact Int.le_refl _
        simp [provesWorth, hask p o1, this]
      have w2 : provesWorth f p (n + 1) = false := by
        have : ¬ n + 1 ≤ (worthRg f p).lo := by have : n = (worthRg f p).lo := o2; omega
        simp only [provesWorth, hask p o1, decide_true, Bool.true_and]; exact decide_eq_false this
      have e6 : IntKind.i64.wrap (n + 1) = n + 1 := wrapB (by omega) (by omega)
      obtain ⟨q, hq0⟩ : ∃ q, q = plannedL f bn := ⟨_, rfl⟩
      have hqo : planOk f.last f.base q = true := by rw [hq0]; exact planned_ok hv
      have hPl := fun {Q : V → Prop} => lplanned (g1 := g1) (g2 := g2) (g3 := g3) (g4 := g4) (g5 := g5) hv (bits := bn) (by omega) (Q := Q)
      rw [← hq0] at hPl
      have hQ := pok_of hv hqo
      have hql := plan_le hqo
      have k6 := fun {g : Bool × Bool} {Q : V → Prop} => llist (g := g) (a := q) (by omega) (Q := Q)
      have k7 := fun {Q : V → Prop} => cWorth (f := f) (g1 := (false, false)) (g2 := (false, false)) (g3 := (false, false)) (g4 := (false, false)) (g5 := (false, false)) (g := (false, false)) (plan := q) hW (big_of (by omega)) (Q := Q)
      have hR2 : WorthR f q = .tup [.agg [.int .i64 (worthRg f q).lo, .int .i64 (worthRg f q).hi], .c (.int .i64 0)] := by rw [WorthR, if_pos (hask q hqo)]
      rw [hR2] at k7
      obtain ⟨⟨b1, b2⟩, hwt⟩ := vWorst (f := f) (g1 := (false, false)) (g2 := (false, false)) (g3 := (false, false)) (g4 := (false, false)) (g5 := (false, false)) (g := (false, false)) (plan := q) hW (big_of (by omega))
      have k8 := fun {Q : V → Prop} => CallP_of (Q := Q) hwt
      have hR3 : WorstR (b1, b2) f q = .tup [.agg [L (b1, false) (worstL f q).growth, L (b2, false) (worstL f q).wet], .c (.int .i64 0)] := by rw [WorstR, if_pos (hask q hqo)]
      rw [hR3] at k8
      obtain ⟨x1, x2⟩ := worst_ok (f := f) (plan := q) hne
      obtain ⟨u, hu⟩ : ∃ u, u = worstL f q := ⟨_, rfl⟩
      rw [← hu] at k8 x1 x2
      have x3 := (truth_iff hv).1 x1
      have hlu : listedB f u = true := by rw [isTruthB, Bool.and_eq_true] at x3; exact x3.1
      have hU := tok_of hv (isT_listed hv hlu)
      have hpt : provesTruth f u = true := by
        have : provesTruth f u = (decide (checkField f = 0) && isTruthB f u) := rfl
        rw [this, h0, x3]; rfl
      have k9 := fun {b6 b7 : Bool} {Q : V → Prop} => cProveTruth (f := f) (g1 := (false, false)) (g2 := (false, false)) (g3 := (false, false)) (g4 := (false, false)) (g5 := (false, false)) (b6 := b6) (b7 := b7) (t := u) hW (Q := Q)
      rw [hpt] at k9
      have hPR := play_ok h0 hlu hqo
      have k10 := fun {b6 b7 : Bool} {Q : V → Prop} => cPlay (f := f) (g1 := (false, false)) (g2 := (false, false)) (g3 := (false, false)) (g4 := (false, false)) (g5 := (false, false)) (b6 := b6) (b7 := b7) (g := (false, false)) (t := u) (plan := q) hW (big_of (by omega)) (Q := Q)
      rw [hPR] at k10
      have hcl := cropsL_len (f := f) (t := u) (plan := q)
      have y1 : ¬ n < (worthRg f q).lo := by
        have : sureW f q = (worthRg f q).lo := rfl
        rcases o3 q hqo with h | h <;> omega
      have k11 := fun {g g' : Bool × Bool} {Q : V → Prop} => rBefore (g := g) (g' := g') (a := q) (b := p) (by omega) (by omega) (Q := Q)
      have y2 : (worthRg f q).lo = n → lexB q p = false := fun h => by
        rcases o3 q hqo with h' | ⟨_, h' | h'⟩
        · have : sureW f q = (worthRg f q).lo := rfl
          omega
        · rw [h', lex_irr]
        · rw [← Bool.not_eq_true]; exact lex_asym h'
      by_cases y3 : (worthRg f q).lo = n
      · have y4 := y2 y3
        have y5 : ¬ n < n := by omega
        simp (maxSteps := 1000000) only [go_sem, f10, lready, hr, lField hs, k1, rTruths hv, hz, e4, e5, hjl, atI_nat, ← ht, hle, k2, k3, k4, k5, o1, w1, w2, e6, hPl, k6, k7, k8, y3, y4, y5, k9, k10, k11, gt_iff_lt, hcl]
        refine RX_forC q.length (fun k => [(18, .c (.int .i64 (totK f u q k))), (19, .c (.int .i64 k))]) (fun _ => True) rfl trivial (by simp only [go_sem] <;> first | rfl | exact ⟨rfl, rfl⟩) ?_
        intro k hk _
        by_cases hlt : k < q.length
        · have e7 : IntKind.i64.wrap ((k : Int) + 1) = ((k + 1 : Nat) : Int) := wrap_succ (n := 3000) (by omega) (by decide)
          have hcr := crops_getD (f := f) (t := u) hlt
          have i1 : k < (cropsL f u q).length := by omega
          have hst : IntKind.i64.wrap (totK f u q k + (cropAt f u q k).worth) = totK f u q (k + 1) := rfl
          simp only [go_sem, hlt, i1, hcl, atI_nat, hcr, hst, e7]
        · have : k = q.length := by omega
          subst this
          have hx : totK f u q q.length = n := by rw [← worthI_tot, x2, y3]
          simp only [go_sem, hlt, hcl, hx, lawake]
      · simp (maxSteps := 1000000) only [go_sem, f10, lready, hr, lField hs, k1, rTruths hv, hz, e4, e5, hjl, atI_nat, ← ht, hle, k2, k3, k4, k5, o1, w1, w2, e6, hPl, k6, k7, k8, y1, y3, k9, k10, k11, gt_iff_lt, hcl]
        refine RX_forC q.length (fun k => [(18, .c (.int .i64 (totK f u q k))), (19, .c (.int .i64 k))]) (fun _ => True) rfl trivial (by simp only [go_sem] <;> first | rfl | exact ⟨rfl, rfl⟩) ?_
        intro k hk _
        by_cases hlt : k < q.length
        · have e7 : IntKind.i64.wrap ((k : Int) + 1) = ((k + 1 : Nat) : Int) := wrap_succ (n := 3000) (by omega) (by decide)
          have hcr := crops_getD (f := f) (t := u) hlt
          have i1 : k < (cropsL f u q).length := by omega
          have hst : IntKind.i64.wrap (totK f u q k + (cropAt f u q k).worth) = totK f u q (k + 1) := rfl
          simp only [go_sem, hlt, i1, hcl, atI_nat, hcr, hst, e7]
        · have : k = q.length := by omega
          subst this
          have hx : totK f u q q.length = (worthRg f q).lo := by rw [← worthI_tot, x2]
          simp only [go_sem, hlt, hcl, hx, lawake]
end Am.Cr
