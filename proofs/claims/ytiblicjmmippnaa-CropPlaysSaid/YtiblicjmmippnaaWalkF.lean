/-
  A part of the proof: the texts E3 of this seat, joined.
-/
import Derived.Test.YtiblicjmmippnaaWalkE
namespace Am.Cr
open Go Am
set_option maxRecDepth 100000
set_option maxHeartbeats 4000000
set_option linter.unusedSimpArgs false
set_option linter.unusedVariables false
variable {g1 g2 g3 g4 g5 : Bool × Bool} {f : Field}
theorem lsame {a b : Crop} {Q : V → Prop} : CallP tab 24 [cropV a, cropV b] Q ↔ Q (.c (.bool (decide (a = b)))) := CallP_of (by
  refine Val_X (fn := f24) rfl ?_
  obtain ⟨a1, a2, a3⟩ := a
  obtain ⟨b1, b2, b3⟩ := b
  simp only [go_sem, f24, cropV, Crop.mk.injEq]
  by_cases h1 : a1 = b1 <;> by_cases h2 : a2 = b2 <;> by_cases h3 : a3 = b3 <;> simp [h1, h2, h3])
theorem CropPlays_val {b6 b7 : Bool} {g : Bool × Bool} {t : Truth} {plan : List Int} : Val tab 3 [fieldV g1 g2 g3 g4 g5 f, .agg [L (b6, false) t.growth, L (b7, false) t.wet], .c (L g plan)] (.c (.bool true)) := by
  refine Val_X (fn := f3) rfl ?_
  by_cases ht : thinB f = true
  · have hs := thin_small ht
    by_cases h1 : (t.growth.length : Int) > 14
    · simp only [go_sem, f3, lThin, ht, h1, lawake]
    by_cases h2 : (t.wet.length : Int) > 14
    · simp only [go_sem, f3, lThin, ht, h1, h2, lawake]
    by_cases h3 : (plan.length : Int) > 14
    · simp only [go_sem, f3, lThin, ht, h1, h2, h3, lawake]
    have c1 : t.growth.length ≤ 1000 := by omega
    have c2 : t.wet.length ≤ 1000 := by omega
    have c3 : plan.length ≤ 1000 := by omega
    have hpt : provesTruth f t = (decide (checkField f = 0) && isTruthB f t) := rfl
    have hW := hs.fits
    have k1 := fun {Q : V → Prop} => cPlay (f := f) (g1 := (false, false)) (g2 := (false, false)) (g3 := (false, false)) (g4 := (false, false)) (g5 := (false, false)) (b6 := false) (b7 := false) (g := (false, false)) (t := t) (plan := plan) hW (big_of c3) (Q := Q)
    have k2 := fun {Q : V → Prop} => cProveTruth (f := f) (g1 := (false, false)) (g2 := (false, false)) (g3 := (false, false)) (g4 := (false, false)) (g5 := (false, false)) (b6 := false) (b7 := false) (t := t) hW (Q := Q)
    have k3 := fun {Q : V → Prop} => cCheckField (f := f) (g1 := (false, false)) (g2 := (false, false)) (g3 := (false, false)) (g4 := (false, false)) (g5 := (false, false)) hW (Q := Q)
    have k4 := fun {g : Bool × Bool} {Q : V → Prop} => llist (g := g) (a := plan) c3 (Q := Q)
    have k5 := fun {b6 b7 : Bool × Bool} {Q : V → Prop} => lTruth (b6 := b6) (b7 := b7) (t := t) c1 c2 (Q := Q)
    rw [hpt] at k2
    by_cases h0 : checkField f = 0
    · have hv := valid_of h0
      have k6 := fun {Q : V → Prop} => rIsTruth (g1 := g1) (g2 := g2) (g3 := g3) (g4 := g4) (g5 := g5) hv hW.crops (b6 := (b6, false)) (b7 := (b7, false)) (t := t) (Q := Q)
      have k7 := fun {Q : V → Prop} => rIsListed (g1 := g1) (g2 := g2) (g3 := g3) (g4 := g4) (g5 := g5) hv (b6 := (b6, false)) (b7 := (b7, false)) (t := t) (Q := Q)
      have k8 := fun {Q : V → Prop} => rIsPlan (g1 := g1) (g2 := g2) (g3 := g3) (g4 := g4) (g5 := g5) (f := f) hv.last9 (g := g) (l := plan) c3 (Q := Q)
      cases hl : listedB f t with
      | false =>
        have hR : PlayR false f t plan = .tup [.c .nils, .c (.int .i64 2)] := by rw [PlayR, if_neg (by rw [h0]; simp), if_pos (.inl hl)]
        rw [hR] at k1
        simp only [go_sem, f3, lThin, ht, h1, h2, h3, lField hs, k1, k2, k3, k4, k5, k6, k7, lfault hW, h0, hl, lawake]
      | true =>
        cases hp : planOk f.last f.base plan with
        | false =>
          have hR : PlayR false f t plan = .tup [.c .nils, .c (.int .i64 2)] := by rw [PlayR, if_neg (by rw [h0]; simp), if_pos (.inr hp)]
          rw [hR] at k1
          simp only [go_sem, f3, lThin, ht, h1, h2, h3, lField hs, k1, k2, k3, k4, k5, k6, k7, k8, lfault hW, h0, hl, hp, lawake]
        | true =>
          have hR : PlayR false f t plan = .tup [.c (L (false, false) (cropsL f t plan)), .c (.int .i64 0)] := by rw [PlayR, if_neg (by rw [h0]; simp), if_neg (by rw [hl, hp]; simp)]
          rw [hR] at k1
          have hT := tok_of hv (isT_listed hv hl)
          have hP := pok_of hv hp
          have hcl := cropsL_len (f := f) (t := t) (plan := plan)
          simp only [go_sem, f3, lThin, ht, h1, h2, h3, lField hs, k1, k2, k3, k4, k5, k6, k7, k8, lfault hW, h0, hl, hp, hcl]
          refine RX_forC plan.length (fun k => [(11, .c (.int .i64 k))]) (fun _ => True) rfl trivial (by simp only [go_sem] <;> rfl) ?_
          intro k hk _
          by_cases hlt : k < plan.length
          · have e4 : IntKind.i64.wrap ((k : Int) + 1) = ((k + 1 : Nat) : Int) := wrap_succ (n := 3000) (by omega) (by decide)
            have hcr : (cropsL f t plan).getD k default = cropAt f t plan k := by
              rw [getD_lt _ _ _ (by omega)]; simp [cropsL]
            have k9 := fun {b6 b7 g : Bool × Bool} {Q : V → Prop} => rCropped (g1 := g1) (g2 := g2) (g3 := g3) (g4 := g4) (g5 := g5) (b6 := b6) (b7 := b7) (g := g) hT hP hlt (Q := Q)
            have hk' : k < (cropsL f t plan).length := by omega
            have ls := fun {Q : V → Prop} => lsame (a := cropAt f t plan k) (b := cropAt f t plan k) (Q := Q)
            simp only [go_sem, hlt, hk', hcl, atI_nat, hcr, k9, ls, e4]
          · have : k = plan.length := by omega
            subst this
            simp only [go_sem, hlt, hcl, lawake]
    · have hR : PlayR false f t plan = .tup [.c .nils, .c (.int .i64 (checkField f))] := by rw [PlayR, if_pos h0]
      rw [hR] at k1
      simp only [go_sem, f3, lThin, ht, h1, h2, h3, lField hs, k1, k2, k3, k4, k5, lfault hW, h0, lawake]
  · simp only [go_sem, f3, lThin, ht, lawake]
end Am.Cr
