/-
  A part of the proof: the texts F9 of this seat, joined.
-/
import Derived.Test.YtiblicjmmippnaaGreatWalkJ
namespace Am.Cr
open Go Am
set_option maxRecDepth 100000
set_option maxHeartbeats 4000000
set_option linter.unusedSimpArgs false
set_option linter.unusedVariables false
variable {g1 g2 g3 g4 g5 : Bool × Bool} {f : Field}
theorem truth_iff (hv : f.Valid) {t : Truth} : t ∈ truthsL f [] ↔ isTruthB f t = true := by
  rw [truthsL, List.mem_filter, mem_listsA hv]
  have hr : rightL f [] (standing t.growth f.crops) = f.looks.all fun k => inR (atI (standing t.growth f.crops) k.week) k.w.lo k.w.hi := by
    rw [Bool.eq_iff_iff, rightL, List.all_eq_true, List.all_eq_true]
    constructor
    · intro h k hk
      obtain ⟨i, hi, rfl⟩ := List.getElem_of_mem hk
      have := h i (List.mem_range.2 hi)
      simp only [rightAt, List.not_mem_nil, decide_false, Bool.false_or] at this
      rwa [getD_lt _ _ _ hi] at this
    · intro h i hi
      rw [List.mem_range] at hi
      simp only [rightAt, List.not_mem_nil, decide_false, Bool.false_or]
      rw [getD_lt _ _ _ hi]
      exact h _ (List.getElem_mem hi)
  rw [hr, isTruthB, Bool.and_eq_true]
  constructor
  · rintro ⟨a, b⟩; exact ⟨listed_isT hv a, b⟩
  · rintro ⟨a, b⟩; exact ⟨isT_listed hv a, b⟩
structure WsOk (f : Field) (plan : List Int) (ts : List Truth) (s : WS) : Prop where
  fd : s.found = true
  m : s.out ∈ ts
  l : s.least = worthI f s.out plan
  a : ∀ t ∈ ts, s.least ≤ worthI f t plan
theorem ws_ok {plan : List Int} : ∀ {ts l : List Truth} {s : WS}, WsOk f plan l s → WsOk f plan (l ++ ts) (foldY (wsStep f plan) s ts).1
  | [], l, s, h => by rw [List.append_nil]; exact h
  | t :: ts, l, s, h => by
    have key : WsOk f plan (l ++ [t]) (wsStep f plan s t).1 ∧ (wsStep f plan s t).2 = true := by
      unfold wsStep
      by_cases hc : s.found = false ∨ worthI f t plan < s.least
      · rw [if_pos hc]
        refine ⟨⟨rfl, by simp, rfl, fun x hx => ?_⟩, rfl⟩
        rw [List.mem_append, List.mem_singleton] at hx
        rcases hx with hx | rfl
        · have := h.a x hx
          rcases hc with hc | hc
          · rw [h.fd] at hc; cases hc
          · show worthI f t plan ≤ _; omega
        · exact Int.le_refl _
      · rw [if_neg hc]
        refine ⟨⟨h.fd, by simp [h.m], h.l, fun x hx => ?_⟩, rfl⟩
        rw [List.mem_append, List.mem_singleton] at hx
        rcases hx with hx | rfl
        · exact h.a x hx
        · simp only [not_or] at hc; show s.least ≤ _; omega
    have := ws_ok (ts := ts) key.1
    rw [List.append_assoc] at this
    simp only [foldY, key.2, if_true]
    exact this
theorem worst_ok {plan : List Int} (h : truthsL f [] ≠ []) : worstL f plan ∈ truthsL f [] ∧ worthI f (worstL f plan) plan = (worthRg f plan).lo := by
  unfold worstL worthRg
  have hB := bdL_IsRg (val := fun t => worthI f t plan) h
  generalize bdL (fun t => worthI f t plan) (truthsL f []) = r at hB
  have key : WsOk f plan (truthsL f []) (foldY (wsStep f plan) ⟨0, false, ⟨[], []⟩⟩ (truthsL f [])).1 := by
    cases ht : truthsL f [] with
    | nil => exact absurd ht h
    | cons t ts =>
      have : (foldY (wsStep f plan) ⟨0, false, ⟨[], []⟩⟩ (t :: ts)).1 = (foldY (wsStep f plan) ⟨worthI f t plan, true, t⟩ ts).1 := by
        simp [foldY, wsStep]
      rw [this]
      exact ws_ok (l := [t]) ⟨rfl, by simp, rfl, fun x hx => by rw [List.mem_singleton] at hx; subst hx; exact Int.le_refl _⟩
  obtain ⟨k1, k2, k3, k4⟩ := key
  refine ⟨k2, ?_⟩
  rw [← k3]
  obtain ⟨⟨a, a1, a2⟩, _, c⟩ := hB
  have e1 := k4 a a1
  have e2 := (c _ k2).1
  simp only at a2 e2
  omega
end Am.Cr
