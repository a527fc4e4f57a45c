/-
  A part of the proof: the texts F6 of this seat, joined.
-/
import Derived.Test.YtiblicjmmippnaaGreatWalkH
namespace Am.Cr
open Go Am
set_option maxRecDepth 100000
set_option maxHeartbeats 4000000
set_option linter.unusedSimpArgs false
set_option linter.unusedVariables false
variable {g1 g2 g3 g4 g5 : Bool × Bool} {f : Field}
theorem askE_val (hv : f.Valid) (h0 : checkField f = 0) (b : Bool) : (askE f b = 2 ∧ b = false) ∨ (askE f b = 11 ∧ b = true ∧ refTruths f = []) ∨ (askE f b = 0 ∧ b = true ∧ refTruths f ≠ []) := by
  rw [askE_ref hv h0]
  cases b with
  | false => simp
  | true => by_cases h : refTruths f = [] <;> simp [h]
theorem CropStands_val {week : Int} : Val tab 4 [fieldV g1 g2 g3 g4 g5 f, .c (.int .i64 week)] (.c (.bool true)) := by
  refine Val_X (fn := f4) rfl ?_
  by_cases ht : thinB f = true
  · have hs := thin_small ht
    have hW := hs.fits
    have k1 := fun {Q : V → Prop} => cStanding (f := f) (g1 := (false, false)) (g2 := (false, false)) (g3 := (false, false)) (g4 := (false, false)) (g5 := (false, false)) (week := week) hW (Q := Q)
    have k2 := fun {Q : V → Prop} => lsure (f := f) (g1 := g1) (g2 := g2) (g3 := g3) (g4 := g4) (g5 := g5) hW (Q := Q)
    by_cases h0 : checkField f = 0
    · have hv := valid_of h0
      have v1 := hv.growth
      rcases askE_val hv h0 (inR week 0 f.last) with ⟨e1, e2⟩ | ⟨e1, e2, e3⟩ | ⟨e1, e2, e3⟩
      · have hR : StandR f week = .tup [.agg [.int .i64 0, .int .i64 0], .c (.int .i64 2)] := by rw [StandR, if_neg (by rw [e1]; simp), e1]
        rw [hR] at k1
        by_cases h3 : refTruths f = []
        · have hS : SureR f = .tup [.c .nils, .c (.int .i64 11)] := by rw [SureR, if_neg (by rw [h0]; simp), if_pos h3]
          rw [hS] at k2
          simp only [go_sem, f4, lThin, ht, lField hs, k1, k2, lfault hW, h0, rIn, e2, lawake]
        · have hS : SureR f = .tup [.c (L (false, false) (refTruths f)), .c (.int .i64 0)] := by rw [SureR, if_neg (by rw [h0]; simp), if_neg h3]
          rw [hS] at k2
          simp only [go_sem, f4, lThin, ht, lField hs, k1, k2, lfault hW, h0, rIn, e2, lawake]
      · have hR : StandR f week = .tup [.agg [.int .i64 0, .int .i64 0], .c (.int .i64 11)] := by rw [StandR, if_neg (by rw [e1]; simp), e1]
        have hS : SureR f = .tup [.c .nils, .c (.int .i64 11)] := by rw [SureR, if_neg (by rw [h0]; simp), if_pos e3]
        rw [hR] at k1
        rw [hS] at k2
        simp only [go_sem, f4, lThin, ht, lField hs, k1, k2, lfault hW, h0, rIn, e2, lawake]
      · have hR : StandR f week = .tup [.agg [.int .i64 (standRg f week).lo, .int .i64 (standRg f week).hi], .c (.int .i64 0)] := by rw [StandR, if_pos e1]
        have hS : SureR f = .tup [.c (L (false, false) (refTruths f)), .c (.int .i64 0)] := by rw [SureR, if_neg (by rw [h0]; simp), if_neg e3]
        rw [hR] at k1
        rw [hS] at k2
        have hw : 0 ≤ week ∧ week ≤ f.last := by simpa [inR_iff] using e2
        have hP := pok_of hv hv.crops
        have k3 := fun {g : Bool × Bool} {Q : V → Prop} => rOn (f := f) (g1 := g1) (g2 := g2) (g3 := g3) (g4 := g4) (g5 := g5) (g := g) (ts := refTruths f) (week := week) (refTruths_tok hv) (by have := refTruths_len hv; omega) hP hw.1 (by omega) (Q := Q)
        have hE : wdL (fun t => atI (standing t.growth f.crops) week) (refTruths f) = standRg f week := wd_bd hv e3 fun t ht => by
          have := stand_bound (refTruths_tok hv t ht) hP hw.1 (by omega)
          omega
        rw [hE] at k3
        simp only [go_sem, f4, lThin, ht, lField hs, k1, k2, k3, lto, lfault hW, h0, rIn, e2, lawake]
    · have hR : StandR f week = .tup [.agg [.int .i64 0, .int .i64 0], .c (.int .i64 (checkField f))] := by rw [StandR, askE_bad h0, if_neg h0]
      have hS : SureR f = .tup [.c .nils, .c (.int .i64 (checkField f))] := if_pos h0
      rw [hR] at k1
      rw [hS] at k2
      simp only [go_sem, f4, lThin, ht, lField hs, k1, k2, lfault hW, h0, lawake]
  · simp only [go_sem, f4, lThin, ht, lawake]
end Am.Cr
