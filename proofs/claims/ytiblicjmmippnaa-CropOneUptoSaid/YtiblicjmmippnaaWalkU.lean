/-
  A part of the proof: the texts H1 of this seat, joined.
-/
import Derived.Test.YtiblicjmmippnaaWalkM
import Derived.Test.YtiblicjmmippnaaWalkH
import Derived.Test.YtiblicjmmippnaaWalkG2
namespace Am.Cr
open Go Am
set_option maxRecDepth 100000
set_option maxHeartbeats 4000000
set_option linter.unusedSimpArgs false
set_option linter.unusedVariables false
variable {g1 g2 g3 g4 g5 : Bool × Bool} {f : Field}
/-- a field with other valid looks is valid -/
theorem check_with (h0 : checkField f = 0) {l : List Lk} (h1 : l.length ≤ 5) (h2 : ∀ k ∈ l, lookOk f.last k = true) : checkField (withL f l) = 0 := by
  have e : checkField (withL f l) = (if f.last > 9 then 3 else if (f.base.length : Int) > 3 then 3 else if (l.length : Int) > 5 then 3
    else if numbersOk f.last f.ripe f.late f.trod = false then 1
    else if ¬ (f.growth.length : Int) = IntKind.i64.wrap (f.last + 1) then 1 else if ¬ (f.wet.length : Int) = IntKind.i64.wrap (f.last + 1) then 1
    else if baseOk f.base = false then 1 else if planOk f.last f.base f.crops = false then 1
    else if f.growth.all (fun r => rgOf r.lo r.hi 50) = false then 1 else if f.wet.all (fun n => inR n 0 2) = false then 1
    else if l.all (lookOk f.last) = false then 1
    else if manyL (rangesL f.growth f.wet) > 2000 then 3 else 0) := rfl
  rw [e]
  unfold checkField at h0
  by_cases a0 : f.last > 9
  · rw [if_pos a0] at h0; exact absurd h0 (by decide)
  rw [if_neg a0] at h0 ⊢
  by_cases a1 : (f.base.length : Int) > 3
  · rw [if_pos a1] at h0; exact absurd h0 (by decide)
  rw [if_neg a1] at h0 ⊢
  by_cases a2 : (f.looks.length : Int) > 5
  · rw [if_pos a2] at h0; exact absurd h0 (by decide)
  rw [if_neg a2] at h0
  rw [if_neg (by omega)]
  by_cases a3 : numbersOk f.last f.ripe f.late f.trod = false
  · rw [if_pos a3] at h0; exact absurd h0 (by decide)
  rw [if_neg a3] at h0 ⊢
  by_cases a4 : ¬ (f.growth.length : Int) = IntKind.i64.wrap (f.last + 1)
  · rw [if_pos a4] at h0; exact absurd h0 (by decide)
  rw [if_neg a4] at h0 ⊢
  by_cases a5 : ¬ (f.wet.length : Int) = IntKind.i64.wrap (f.last + 1)
  · rw [if_pos a5] at h0; exact absurd h0 (by decide)
  rw [if_neg a5] at h0 ⊢
  by_cases a6 : baseOk f.base = false
  · rw [if_pos a6] at h0; exact absurd h0 (by decide)
  rw [if_neg a6] at h0 ⊢
  by_cases a7 : planOk f.last f.base f.crops = false
  · rw [if_pos a7] at h0; exact absurd h0 (by decide)
  rw [if_neg a7] at h0 ⊢
  by_cases a8 : f.growth.all (fun r => rgOf r.lo r.hi 50) = false
  · rw [if_pos a8] at h0; exact absurd h0 (by decide)
  rw [if_neg a8] at h0 ⊢
  by_cases a9 : f.wet.all (fun n => inR n 0 2) = false
  · rw [if_pos a9] at h0; exact absurd h0 (by decide)
  rw [if_neg a9] at h0 ⊢
  by_cases aL : f.looks.all (lookOk f.last) = false
  · rw [if_pos aL] at h0; exact absurd h0 (by decide)
  rw [if_neg aL] at h0
  rw [if_neg (by rw [List.all_eq_true.2 h2]; decide)]
  exact h0
theorem look_ok (hv : f.Valid) {k : Lk} (hk : k ∈ f.looks) : lookOk f.last k = true := by
  have := hv.looks k hk
  simp only [lookOk, Bool.and_eq_true, inR_iff, rgOf, decide_eq_true_eq]
  omega
/-- some of the looks (by bits) -/
def someK (f : Field) (m k : Nat) : List Lk := ((List.range k).filter fun i => m.testBit i).map fun i => f.looks.getD i default
def someL (f : Field) (m : Nat) : List Lk := someK f m f.looks.length
theorem someK_succ {m k : Nat} : someK f m (k + 1) = if m.testBit k = true then someK f m k ++ [f.looks.getD k default] else someK f m k := by
  unfold someK
  rw [List.range_succ, List.filter_append, List.map_append]
  by_cases h : m.testBit k = true
  · rw [if_pos h]; simp [h]
  · rw [if_neg h]; simp [h]
theorem someK_len {m k : Nat} : (someK f m k).length ≤ k := by
  unfold someK; rw [List.length_map]; exact Nat.le_trans (List.length_filter_le _ _) (by simp)
theorem someL_mem {m : Nat} {k : Lk} (h : k ∈ someL f m) : k ∈ f.looks := by
  simp only [someL, someK, List.mem_map, List.mem_filter, List.mem_range] at h
  obtain ⟨i, ⟨hi, _⟩, rfl⟩ := h
  rw [getD_lt _ _ _ hi]; exact List.getElem_mem hi
theorem rightL_all {own : List Int} : rightL f [] own = f.looks.all fun k => inR (atI own k.week) k.w.lo k.w.hi := by
  rw [Bool.eq_iff_iff, rightL, List.all_eq_true, List.all_eq_true]
  constructor
  · intro h k hk
    obtain ⟨i, hi, rfl⟩ := List.getElem_of_mem hk
    have := h i (List.mem_range.2 hi)
    simp only [rightAt, List.not_mem_nil, decide_false, Bool.false_or] at this
    rwa [getD_lt _ _ _ hi] at this
  · intro h i hi
    rw [List.mem_range] at hi
    simp only [rightAt, List.not_mem_nil, decide_false, Bool.false_or]
    rw [getD_lt _ _ _ hi]
    exact h _ (List.getElem_mem hi)
theorem some_valid (hv : f.Valid) {m : Nat} : (withL f (someL f m)).Valid := Field.Valid.withL hv (by have := someK_len (f := f) (m := m) (k := f.looks.length); have := hv.looks5; show (someK f m f.looks.length).length ≤ 5; omega) fun k hk => someL_mem hk
theorem some_check (hv : f.Valid) (h0 : checkField f = 0) {m : Nat} : checkField (withL f (someL f m)) = 0 := check_with h0 (some_valid hv (m := m)).looks5 fun k hk => look_ok hv (someL_mem hk)
theorem pos_some (hv : f.Valid) {m : Nat} (hm : m < 2 ^ f.looks.length) : posB (withL f (someL f m)) [] = canB f m := by
  rw [Bool.eq_iff_iff, can_iff hv hm]
  have hp : posB (withL f (someL f m)) [] = true ↔ ∃ t, IsT f t ∧ rightL (withL f (someL f m)) [] (standing t.growth f.crops) = true := by
    unfold posB
    have e : truthsL (withL f (someL f m)) [] = ((listsA f).map (tOf f)).filter fun t => rightL (withL f (someL f m)) [] (standing t.growth f.crops) := rfl
    constructor
    · intro h
      cases ht : truthsL (withL f (someL f m)) [] with
      | nil => rw [ht] at h; cases h
      | cons t ts =>
        have hm : t ∈ truthsL (withL f (someL f m)) [] := by rw [ht]; simp
        rw [e, List.mem_filter, mem_listsA hv] at hm
        exact ⟨t, hm⟩
    · rintro ⟨t, h1, h2⟩
      have hm : t ∈ truthsL (withL f (someL f m)) [] := by rw [e, List.mem_filter, mem_listsA hv]; exact ⟨h1, h2⟩
      cases ht : truthsL (withL f (someL f m)) [] with
      | nil => rw [ht] at hm; cases hm
      | cons t ts => rfl
  rw [hp]
  have key : ∀ t : Truth, rightL (withL f (someL f m)) [] (standing t.growth f.crops) = true ↔ ∀ i, m.testBit i = true → rightB f t i = true := by
    intro t
    rw [rightL_all, List.all_eq_true]
    have hrb : ∀ i, rightB f t i = inR (atI (standing t.growth f.crops) (f.looks.getD i default).week) (f.looks.getD i default).w.lo (f.looks.getD i default).w.hi := fun i => by simp [rightB, rightAt]
    constructor
    · intro h i hi
      rw [hrb]
      refine h _ ?_
      show f.looks.getD i default ∈ someK f m f.looks.length
      simp only [someK, List.mem_map, List.mem_filter, List.mem_range]
      exact ⟨i, ⟨lt_of_bit hm hi, hi⟩, rfl⟩
    · intro h k hk
      have hk : k ∈ someK f m f.looks.length := hk
      simp only [someK, List.mem_map, List.mem_filter, List.mem_range] at hk
      obtain ⟨i, ⟨_, hb⟩, rfl⟩ := hk
      have := h i hb
      rwa [hrb] at this
  constructor
  · rintro ⟨t, h1, h2⟩; exact ⟨t, h1, (key t).1 h2⟩
  · rintro ⟨t, h1, h2⟩; exact ⟨t, h1, (key t).2 h2⟩
theorem plan_nil (hv : f.Valid) : planOk f.last f.base [] = true := planOk_of hv.last9 (by simp) (by simp) (by simp)
theorem worthR_nil (hv : f.Valid) (h0 : checkField f = 0) : ∃ a b, WorthR f [] = .tup [.agg [.int .i64 a, .int .i64 b], .c (.int .i64 (if posB f [] = true then 0 else 11))] := by
  have e : askE f (planOk f.last f.base []) = if posB f [] = true then 0 else 11 := by
    unfold askE
    rw [if_neg (by rw [h0]; simp), if_neg (by rw [plan_nil hv]; simp)]
    cases posB f [] <;> simp
  unfold WorthR
  rw [e]
  cases posB f [] with
  | true => exact ⟨_, _, rfl⟩
  | false => exact ⟨0, 0, rfl⟩
theorem cWorth_nil (hf : f.Fits) {Q : V → Prop} : CallP tab 31 [fieldV g1 g2 g3 g4 g5 f, .c .nils] Q ↔ Q (WorthR f []) := cWorth (f := f) (g1 := g1) (g2 := g2) (g3 := g3) (g4 := g4) (g5 := g5) (g := (true, false)) (plan := []) hf (by decide)
end Am.Cr
