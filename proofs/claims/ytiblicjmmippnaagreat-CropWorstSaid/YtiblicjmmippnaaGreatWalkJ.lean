/-
  A part of the proof: the texts F7 of this seat, joined.
-/
import Derived.Test.YtiblicjmmippnaaGreatWalkI
namespace Am.Cr
open Go Am
set_option maxRecDepth 100000
set_option maxHeartbeats 4000000
set_option linter.unusedSimpArgs false
set_option linter.unusedVariables false
variable {g1 g2 g3 g4 g5 : Bool × Bool} {f : Field}
theorem worthRg_ref (hv : f.Valid) {plan : List Int} (hp : POk f plan) (h : refTruths f ≠ []) : wdL (fun t => worthI f t plan) (refTruths f) = worthRg f plan := wd_bd hv h fun t ht => by
  have := worth_bound hv (refTruths_tok hv t ht) hp
  omega
theorem boundAt_ref (hv : f.Valid) {plan : List Int} (hp : POk f plan) (h : refTruths f ≠ []) {i : Nat} (hi : i < plan.length) : wdL (fun t => (cropAt f t plan i).weight) (refTruths f) = (boundAt f plan i).weight ∧ wdL (fun t => (cropAt f t plan i).worth) (refTruths f) = (boundAt f plan i).worth :=
  ⟨wd_bd hv h fun t ht => by have := crop_bound hv (refTruths_tok hv t ht) hp hi; omega, wd_bd hv h fun t ht => by have := crop_bound hv (refTruths_tok hv t ht) hp hi; omega⟩
theorem CropBounds_val {g : Bool × Bool} {plan : List Int} : Val tab 3 [fieldV g1 g2 g3 g4 g5 f, .c (L g plan)] (.c (.bool true)) := by
  refine Val_X (fn := f3) rfl ?_
  by_cases ht : thinB f = true
  · have hs := thin_small ht
    have hW := hs.fits
    by_cases h3 : (plan.length : Int) > 14
    · simp only [go_sem, f3, lThin, ht, h3, lawake]
    have c3 : plan.length ≤ 1000 := by omega
    have k1 := fun {Q : V → Prop} => cBounds (f := f) (g1 := (false, false)) (g2 := (false, false)) (g3 := (false, false)) (g4 := (false, false)) (g5 := (false, false)) (g := (false, false)) (plan := plan) hW (big_of c3) (Q := Q)
    have k3 := fun {Q : V → Prop} => cWorth (f := f) (g1 := (false, false)) (g2 := (false, false)) (g3 := (false, false)) (g4 := (false, false)) (g5 := (false, false)) (g := (false, false)) (plan := plan) hW (big_of c3) (Q := Q)
    have k2 := fun {Q : V → Prop} => lsure (f := f) (g1 := g1) (g2 := g2) (g3 := g3) (g4 := g4) (g5 := g5) hW (Q := Q)
    have k4 := fun {g : Bool × Bool} {Q : V → Prop} => llist (g := g) (a := plan) c3 (Q := Q)
    by_cases h0 : checkField f = 0
    · have hv := valid_of h0
      have v1 := hv.growth
      have k8 := fun {Q : V → Prop} => rIsPlan (g1 := g1) (g2 := g2) (g3 := g3) (g4 := g4) (g5 := g5) (f := f) hv.last9 (g := g) (l := plan) c3 (Q := Q)
      rcases askE_val hv h0 (planOk f.last f.base plan) with ⟨e1, e2⟩ | ⟨e1, e2, e3⟩ | ⟨e1, e2, e3⟩
      · have hR : BoundsR false f plan = .tup [.c .nils, .c (.int .i64 2)] := by rw [BoundsR, if_neg (by rw [e1]; simp), e1]
        have hR2 : WorthR f plan = .tup [.agg [.int .i64 0, .int .i64 0], .c (.int .i64 2)] := by rw [WorthR, if_neg (by rw [e1]; simp), e1]
        rw [hR] at k1
        rw [hR2] at k3
        by_cases h4 : refTruths f = []
        · have hS : SureR f = .tup [.c .nils, .c (.int .i64 11)] := by rw [SureR, if_neg (by rw [h0]; simp), if_pos h4]
          rw [hS] at k2
          simp only [go_sem, f3, lThin, ht, h3, lField hs, k1, k2, k3, k4, k8, lfault hW, h0, e2, lawake]
        · have hS : SureR f = .tup [.c (L (false, false) (refTruths f)), .c (.int .i64 0)] := by rw [SureR, if_neg (by rw [h0]; simp), if_neg h4]
          rw [hS] at k2
          simp only [go_sem, f3, lThin, ht, h3, lField hs, k1, k2, k3, k4, k8, lfault hW, h0, e2, lawake]
      · have hR : BoundsR false f plan = .tup [.c .nils, .c (.int .i64 11)] := by rw [BoundsR, if_neg (by rw [e1]; simp), e1]
        have hR2 : WorthR f plan = .tup [.agg [.int .i64 0, .int .i64 0], .c (.int .i64 11)] := by rw [WorthR, if_neg (by rw [e1]; simp), e1]
        have hS : SureR f = .tup [.c .nils, .c (.int .i64 11)] := by rw [SureR, if_neg (by rw [h0]; simp), if_pos e3]
        rw [hR] at k1
        rw [hR2] at k3
        rw [hS] at k2
        simp only [go_sem, f3, lThin, ht, h3, lField hs, k1, k2, k3, k4, k8, lfault hW, h0, e2, lawake]
      · have hR : BoundsR false f plan = .tup [.c (L (false, false) (boundsL f plan)), .c (.int .i64 0)] := by rw [BoundsR, if_pos e1]
        have hR2 : WorthR f plan = .tup [.agg [.int .i64 (worthRg f plan).lo, .int .i64 (worthRg f plan).hi], .c (.int .i64 0)] := by rw [WorthR, if_pos e1]
        have hS : SureR f = .tup [.c (L (false, false) (refTruths f)), .c (.int .i64 0)] := by rw [SureR, if_neg (by rw [h0]; simp), if_neg e3]
        rw [hR] at k1
        rw [hR2] at k3
        rw [hS] at k2
        have hP := pok_of hv e2
        have hlen := refTruths_len hv
        have hbl : (boundsL f plan).length = plan.length := by simp [boundsL]
        have v9 := hv.last9
        have k5 := fun {g g' : Bool × Bool} {Q : V → Prop} => rWorth (f := f) (g1 := g1) (g2 := g2) (g3 := g3) (g4 := g4) (g5 := g5) (g := g) (g' := g') (ts := refTruths f) (plan := plan) (refTruths_tok hv) (by omega) hP (Q := Q)
        rw [worthRg_ref hv hP e3] at k5
        simp only [go_sem, f3, lThin, ht, h3, lField hs, k1, k2, k3, k4, k5, k8, lto, lfault hW, h0, e2, hbl]
        refine RX_forC plan.length (fun k => [(11, .c (.int .i64 k))]) (fun _ => True) rfl trivial (by simp only [go_sem] <;> rfl) ?_
        intro k hk _
        by_cases hlt : k < plan.length
        · have e4 : IntKind.i64.wrap ((k : Int) + 1) = ((k + 1 : Nat) : Int) := wrap_succ (n := 3000) (by omega) (by decide)
          have hb : (boundsL f plan).getD k default = boundAt f plan k := by
            rw [getD_lt _ _ _ (by omega)]; simp [boundsL]
          have k6 := fun {g g' : Bool × Bool} {Q : V → Prop} => rBounds (f := f) (g1 := g1) (g2 := g2) (g3 := g3) (g4 := g4) (g5 := g5) (g := g) (g' := g') (ts := refTruths f) (plan := plan) (refTruths_tok hv) (by omega) hP (by omega) hlt (Q := Q)
          obtain ⟨a1, a2⟩ := boundAt_ref hv hP e3 hlt
          rw [a1, a2] at k6
          have hstr : (boundAt f plan k).strength = strengthI f.base f.late f.ripe plan k := rfl
          rw [← hstr] at k6
          have i1 : k < (boundsL f plan).length := by omega
          simp only [go_sem, hlt, i1, hbl, atI_nat, hb, k6, lto, e4]
        · have : k = plan.length := by omega
          subst this
          simp only [go_sem, hlt, hbl, lawake]
    · have hR : BoundsR false f plan = .tup [.c .nils, .c (.int .i64 (checkField f))] := by rw [BoundsR, askE_bad h0, if_neg h0]
      have hR2 : WorthR f plan = .tup [.agg [.int .i64 0, .int .i64 0], .c (.int .i64 (checkField f))] := by rw [WorthR, askE_bad h0, if_neg h0]
      have hS : SureR f = .tup [.c .nils, .c (.int .i64 (checkField f))] := if_pos h0
      rw [hR] at k1
      rw [hR2] at k3
      rw [hS] at k2
      simp only [go_sem, f3, lThin, ht, h3, lField hs, k1, k2, k3, k4, lfault hW, h0, lawake]
  · simp only [go_sem, f3, lThin, ht, lawake]
end Am.Cr
