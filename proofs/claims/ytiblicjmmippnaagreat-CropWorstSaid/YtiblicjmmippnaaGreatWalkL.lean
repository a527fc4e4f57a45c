/-
  A part of the proof: the texts F9 of this seat, joined.
-/
import Derived.Test.YtiblicjmmippnaaGreatWalkJ
namespace Am.Cr
open Go Am
set_option maxRecDepth 100000
set_option maxHeartbeats 4000000
set_option linter.unusedSimpArgs false
set_option linter.unusedVariables false
variable {g1 g2 g3 g4 g5 : Bool × Bool} {f : Field}
theorem truth_iff (hv : f.Valid) {t : Truth} : t ∈ truthsL f [] ↔ isTruthB f t = true := by
  rw [truthsL, List.mem_filter, mem_listsA hv]
  have hr : rightL f [] (standing t.growth f.crops) = f.looks.all fun k => inR (atI (standing t.growth f.crops) k.week) k.w.lo k.w.hi := by
    rw [Bool.eq_iff_iff, rightL, List.all_eq_true, List.all_eq_true]
    constructor
    · intro h k hk
      obtain ⟨i, hi, rfl⟩ := List.getElem_of_mem hk
      have := h i (List.mem_range.2 hi)
      simp only [rightAt, List.not_mem_nil, decide_false, Bool.false_or] at this
      rwa [getD_lt _ _ _ hi] at this
    · intro h i hi
      rw [List.mem_range] at hi
      simp only [rightAt, List.not_mem_nil, decide_false, Bool.false_or]
      rw [getD_lt _ _ _ hi]
      exact h _ (List.getElem_mem hi)
  rw [hr, isTruthB, Bool.and_eq_true]
  constructor
  · rintro ⟨a, b⟩; exact ⟨listed_isT hv a, b⟩
  · rintro ⟨a, b⟩; exact ⟨isT_listed hv a, b⟩
structure WsOk (f : Field) (plan : List Int) (ts : List Truth) (s : WS) : Prop where
  fd : s.found = true
  m : s.out ∈ ts
  l : s.least = worthI f s.out plan
  a : ∀ t ∈ ts, s.least ≤ worthI f t plan
theorem ws_ok {plan : List Int} : ∀ {ts l : List Truth} {s : WS}, WsOk f plan l s → WsOk f plan (l ++ ts) (foldY (wsStep f plan) s ts).1
  | [], l, s, h => by rw [List.append_nil]; exact h
  | t :: ts, l, s, h => by
    have key : WsOk f plan (l ++ [t]) (wsStep f plan s t).1 ∧ (wsStep f plan s t).2 = true := by
      unfold wsStep
      by_cases hc : s.found = false ∨ worthI f t plan < s.least
      · rw [if_pos hc]
        refine ⟨⟨rfl, by simp, rfl, fun x hx => ?_⟩, rfl⟩
        rw [List.mem_append, List.mem_singleton] at hx
        rcases hx with hx | rfl
        · have := h.a x hx
          rcases hc with hc | hc
          · rw [h.fd] at hc; cases hc
          · show worthI f t plan ≤ _; omega
        · exact Int.le_refl _
      · rw [if_neg hc]
        refine ⟨⟨h.fd, by simp [h.m], h.l, fun x hx => ?_⟩, rfl⟩
        rw [List.mem_append, List.mem_singleton] at hx
        rcases hx with hx | rfl
        · exact h.a x hx
        · simp only [not_or] at hc; show s.least ≤ _; omega
    have := ws_ok (ts := ts) key.1
    rw [List.append_assoc] at this
    simp only [foldY, key.2, if_true]
    exact this
theorem worst_ok {plan : List Int} (h : truthsL f [] ≠ []) : worstL f plan ∈ truthsL f [] ∧ worthI f (worstL f plan) plan = (worthRg f plan).lo := by
  unfold worstL worthRg
  have hB := bdL_IsRg (val := fun t => worthI f t plan) h
  generalize bdL (fun t => worthI f t plan) (truthsL f []) = r at hB
  have key : WsOk f plan (truthsL f []) (foldY (wsStep f plan) ⟨0, false, ⟨[], []⟩⟩ (truthsL f [])).1 := by
    cases ht : truthsL f [] with
    | nil => exact absurd ht h
    | cons t ts =>
      have : (foldY (wsStep f plan) ⟨0, false, ⟨[], []⟩⟩ (t :: ts)).1 = (foldY (wsStep f plan) ⟨worthI f t plan, true, t⟩ ts).1 := by
        simp [foldY, wsStep]
      rw [this]
      exact ws_ok (l := [t]) ⟨rfl, by simp, rfl, fun x hx => by rw [List.mem_singleton] at hx; subst hx; exact Int.le_refl _⟩
  obtain ⟨k1, k2, k3, k4⟩ := key
  refine ⟨k2, ?_⟩
  rw [← k3]
  obtain ⟨⟨a, a1, a2⟩, _, c⟩ := hB
  have e1 := k4 a a1
  have e2 := (c _ k2).1
  simp only at a2 e2
  omega
theorem CropWorst_val {g : Bool × Bool} {plan : List Int} {worth : Int} : Val tab 8 [fieldV g1 g2 g3 g4 g5 f, .c (L g plan), .c (.int .i64 worth)] (.c (.bool true)) := by
  refine Val_X (fn := f8) rfl ?_
  by_cases ht : thinB f = true
  · have hs := thin_small ht
    have hW := hs.fits
    by_cases h3 : (plan.length : Int) > 14
    · simp only [go_sem, f8, lThin, ht, h3, lawake]
    have c3 : plan.length ≤ 1000 := by omega
    obtain ⟨⟨b1, b2⟩, hw⟩ := vWorst (f := f) (g1 := (false, false)) (g2 := (false, false)) (g3 := (false, false)) (g4 := (false, false)) (g5 := (false, false)) (g := (false, false)) (plan := plan) hW (big_of c3)
    have k1 := fun {Q : V → Prop} => CallP_of (Q := Q) hw
    have k3 := fun {Q : V → Prop} => cProveWorth (f := f) (g1 := (false, false)) (g2 := (false, false)) (g3 := (false, false)) (g4 := (false, false)) (g5 := (false, false)) (g := (false, false)) (plan := plan) (worth := worth) hW (big_of c3) (Q := Q)
    have k2 := fun {Q : V → Prop} => lsure (f := f) (g1 := g1) (g2 := g2) (g3 := g3) (g4 := g4) (g5 := g5) hW (Q := Q)
    have k4 := fun {g : Bool × Bool} {Q : V → Prop} => llist (g := g) (a := plan) c3 (Q := Q)
    by_cases h0 : checkField f = 0
    · have hv := valid_of h0
      have v1 := hv.growth
      have v9 := hv.last9
      have k8 := fun {Q : V → Prop} => rIsPlan (g1 := g1) (g2 := g2) (g3 := g3) (g4 := g4) (g5 := g5) (f := f) hv.last9 (g := g) (l := plan) c3 (Q := Q)
      rcases askE_val hv h0 (planOk f.last f.base plan) with ⟨e1, e2⟩ | ⟨e1, e2, e3⟩ | ⟨e1, e2, e3⟩
      · have hR : WorstR (b1, b2) f plan = .tup [.agg [.nils, .nils], .c (.int .i64 2)] := by rw [WorstR, if_neg (by rw [e1]; simp), e1]
        have hR2 : provesWorth f plan worth = false := by simp [provesWorth, e1]
        rw [hR] at k1
        rw [hR2] at k3
        by_cases h4 : refTruths f = []
        · have hS : SureR f = .tup [.c .nils, .c (.int .i64 11)] := by rw [SureR, if_neg (by rw [h0]; simp), if_pos h4]
          rw [hS] at k2
          simp only [go_sem, f8, lThin, ht, h3, lField hs, k1, k2, k3, k4, k8, lfault hW, h0, e2, lawake]
        · have hS : SureR f = .tup [.c (L (false, false) (refTruths f)), .c (.int .i64 0)] := by rw [SureR, if_neg (by rw [h0]; simp), if_neg h4]
          rw [hS] at k2
          simp only [go_sem, f8, lThin, ht, h3, lField hs, k1, k2, k3, k4, k8, lfault hW, h0, e2, lawake]
      · have hR : WorstR (b1, b2) f plan = .tup [.agg [.nils, .nils], .c (.int .i64 11)] := by rw [WorstR, if_neg (by rw [e1]; simp), e1]
        have hR2 : provesWorth f plan worth = false := by simp [provesWorth, e1]
        have hS : SureR f = .tup [.c .nils, .c (.int .i64 11)] := by rw [SureR, if_neg (by rw [h0]; simp), if_pos e3]
        rw [hR] at k1
        rw [hR2] at k3
        rw [hS] at k2
        simp only [go_sem, f8, lThin, ht, h3, lField hs, k1, k2, k3, k4, k8, lfault hW, h0, e2, lawake]
      · have hR : WorstR (b1, b2) f plan = .tup [.agg [L (b1, false) (worstL f plan).growth, L (b2, false) (worstL f plan).wet], .c (.int .i64 0)] := by rw [WorstR, if_pos e1]
        have hR2 : provesWorth f plan worth = decide (worth ≤ (worthRg f plan).lo) := by simp [provesWorth, e1]
        have hS : SureR f = .tup [.c (L (false, false) (refTruths f)), .c (.int .i64 0)] := by rw [SureR, if_neg (by rw [h0]; simp), if_neg e3]
        rw [hR] at k1
        rw [hR2] at k3
        rw [hS] at k2
        have hP := pok_of hv e2
        have hlen := refTruths_len hv
        have k5 := fun {g g' : Bool × Bool} {Q : V → Prop} => rWorth (f := f) (g1 := g1) (g2 := g2) (g3 := g3) (g4 := g4) (g5 := g5) (g := g) (g' := g') (ts := refTruths f) (plan := plan) (refTruths_tok hv) (by omega) hP (Q := Q)
        rw [worthRg_ref hv hP e3] at k5
        obtain ⟨w1, w2⟩ := worst_ok (f := f) (plan := plan) fun h => e3 ((refTruths_nil hv).2 h)
        have hT := refTruths_tok hv _ ((mem_refTruths hv).2 w1)
        have w3 := (truth_iff hv).1 w1
        have hCr := pok_of hv hv.crops
        have hcl := hCr.len (by omega)
        have k6 := fun {b6 b7 : Bool × Bool} {Q : V → Prop} => rIsTruth (g1 := g1) (g2 := g2) (g3 := g3) (g4 := g4) (g5 := g5) hv (by omega) (b6 := b6) (b7 := b7) (t := worstL f plan) (Q := Q)
        have k7 := fun {b6 b7 g : Bool × Bool} {Q : V → Prop} => rTotal (f := f) (g1 := g1) (g2 := g2) (g3 := g3) (g4 := g4) (g5 := g5) (b6 := b6) (b7 := b7) (g := g) hT hP (Q := Q)
        simp only [go_sem, f8, lThin, ht, h3, lField hs, k1, k2, k3, k4, k5, k6, k7, k8, lfault hW, h0, e2, w2, w3, ge_iff_le, lawake]
    · have hR : WorstR (b1, b2) f plan = .tup [.agg [.nils, .nils], .c (.int .i64 (checkField f))] := by rw [WorstR, askE_bad h0, if_neg h0]
      have hR2 : provesWorth f plan worth = false := by simp [provesWorth, askE_bad h0, h0]
      have hS : SureR f = .tup [.c .nils, .c (.int .i64 (checkField f))] := if_pos h0
      rw [hR] at k1
      rw [hR2] at k3
      rw [hS] at k2
      simp only [go_sem, f8, lThin, ht, h3, lField hs, k1, k2, k3, k4, lfault hW, h0, lawake]
  · simp only [go_sem, f8, lThin, ht, lawake]
end Am.Cr
