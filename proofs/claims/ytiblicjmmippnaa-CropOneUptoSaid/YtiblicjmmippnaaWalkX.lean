/-
  A part of the proof: the texts I1 of this seat, joined.
-/
import Derived.Test.YtiblicjmmippnaaWalkU
import Derived.Test.YtiblicjmmippnaaWalkP
namespace Am.Cr
open Go Am
set_option maxRecDepth 100000
set_option maxHeartbeats 4000000
set_option linter.unusedSimpArgs false
set_option linter.unusedVariables false
variable {f x : Field}
/-- a field of which less is known -/
structure Wid (f x : Field) : Prop where
  last : x.last = f.last
  base : x.base = f.base
  w : ∀ t p, worthI x t p = worthI f t p
  t : ∀ t, IsT f t → IsT x t
  ll : x.looks.length = f.looks.length
  r : ∀ t (i : Nat), i < f.looks.length → rightB f t i = true → rightB x t i = true
theorem Wid.pos (h : Wid f x) (hv : f.Valid) (hx : x.Valid) {out : List Int} (hp : posB f out = true) : posB x out = true := by
  rw [pos_iff hv] at hp
  rw [pos_iff hx, h.ll]
  obtain ⟨t, h1, h2⟩ := hp
  exact ⟨t, h.t t h1, fun i hi => (h2 i hi).imp id (h.r t i hi)⟩
theorem Wid.mem (h : Wid f x) (hv : f.Valid) (hx : x.Valid) {t : Truth} (ht : t ∈ truthsL f []) : t ∈ truthsL x [] := by
  rw [truthsL, List.mem_filter, mem_listsA hv, rightL_iff] at ht
  rw [truthsL, List.mem_filter, mem_listsA hx, rightL_iff, h.ll]
  exact ⟨h.t t ht.1, fun i hi => (ht.2 i hi).imp id (h.r t i hi)⟩
theorem sh_len {a b : List Int} (h : shB a b = true) : a.length ≤ b.length := by
  rcases sh_iff.1 h with h | h <;> omega
theorem Wid.leave (h : Wid f x) (hv : f.Valid) (hx : x.Valid) : (leaveS x).length ≤ (leaveS f).length := by
  obtain ⟨a1, a2, a3⟩ := leave_ok hv
  obtain ⟨b1, b2, b3⟩ := leave_ok hx
  rw [h.ll] at b3
  rcases b3 _ a1 (h.pos hv hx a2) with e | e
  · rw [e]; exact Nat.le_refl _
  · exact sh_len e
theorem Wid.rg (h : Wid f x) (hv : f.Valid) (hx : x.Valid) (hne : truthsL f [] ≠ []) (p : List Int) : (worthRg x p).lo ≤ (worthRg f p).lo ∧ (worthRg f p).hi ≤ (worthRg x p).hi := by
  obtain ⟨t0, ht0⟩ := List.exists_mem_of_ne_nil _ hne
  have hne' : truthsL x [] ≠ [] := fun e => by have := h.mem hv hx ht0; rw [e] at this; cases this
  obtain ⟨⟨a, a1, a2⟩, ⟨b, b1, b2⟩, _⟩ := bdL_IsRg (val := fun t => worthI f t p) hne
  obtain ⟨_, _, c⟩ := bdL_IsRg (val := fun t => worthI x t p) hne'
  have e1 := (c a (h.mem hv hx a1)).1
  have e2 := (c b (h.mem hv hx b1)).2
  simp only [h.w] at e1 e2
  simp only at a2 b2
  constructor
  · show (bdL (fun t => worthI x t p) (truthsL x [])).lo ≤ (bdL (fun t => worthI f t p) (truthsL f [])).lo
    simp only [h.w]; omega
  · show (bdL (fun t => worthI f t p) (truthsL f [])).hi ≤ (bdL (fun t => worthI x t p) (truthsL x [])).hi
    simp only [h.w]; omega
theorem Wid.best (h : Wid f x) (hv : f.Valid) (hx : x.Valid) (hne : truthsL f [] ≠ []) : (bestS x).worth ≤ (bestS f).worth := by
  obtain ⟨t0, ht0⟩ := List.exists_mem_of_ne_nil _ hne
  have hne' : truthsL x [] ≠ [] := fun e => by have := h.mem hv hx ht0; rw [e] at this; cases this
  obtain ⟨a1, a2, a3⟩ := best_ok hv hne
  obtain ⟨b1, b2, b3⟩ := best_ok hx hne'
  rw [h.last, h.base] at b1
  have h1 := (h.rg hv hx hne (bestS x).plan).1
  change sureW x _ ≤ sureW f _ at h1
  rcases a3 _ b1 with e | ⟨e, _⟩ <;> omega
theorem leave_pos (hv : f.Valid) (h : leaveS f = []) : truthsL f [] ≠ [] := by
  have := (leave_ok hv).2.1
  rw [h, posB] at this
  intro e
  rw [e] at this; cases this
theorem set_get {α : Type} [Inhabited α] {l : List α} {j i : Nat} {a : α} (hi : i < l.length) : (l.set j a).getD i default = if i = j then a else l.getD i default := by
  rw [getD_lt _ _ _ (by rw [List.length_set]; exact hi), getD_lt _ _ _ hi, List.getElem_set]
  by_cases h : j = i
  · rw [if_pos h, if_pos h.symm]
  · rw [if_neg h, if_neg fun e => h e.symm]
def widG (f : Field) (j : Nat) (lo hi : Int) : Field := { f with growth := f.growth.set j ⟨lo, hi⟩ }
def widW (f : Field) (j : Nat) : Field := { f with wet := f.wet.set j 2 }
def widL (f : Field) (j : Nat) (lo hi : Int) : Field := { f with looks := f.looks.set j ⟨(f.looks.getD j default).week, ⟨lo, hi⟩⟩ }
theorem widG_ok {j : Nat} {lo hi : Int} (hj : j < f.growth.length) (h1 : lo ≤ (f.growth.getD j default).lo) (h2 : (f.growth.getD j default).hi ≤ hi) : Wid f (widG f j lo hi) :=
  ⟨rfl, rfl, fun _ _ => rfl, fun t ht => ⟨by rw [ht.gl]; exact (List.length_set ..).symm, ht.wl, fun i hi' => by
    have hi2 : i < f.growth.length := by have := ht.gl; omega
    have := ht.gr i hi'
    show ((f.growth.set j _).getD i default).lo ≤ _ ∧ _ ≤ ((f.growth.set j _).getD i default).hi
    rw [set_get hi2]
    split
    · rename_i e; subst e; exact ⟨Int.le_trans h1 this.1, Int.le_trans this.2 h2⟩
    · exact this, ht.wr⟩, rfl, fun _ _ _ h => h⟩
theorem widW_ok {j : Nat} (hj : j < f.wet.length) (hw : ∀ n ∈ f.wet, 0 ≤ n ∧ n ≤ 2) : Wid f (widW f j) :=
  ⟨rfl, rfl, fun _ _ => rfl, fun t ht => ⟨ht.gl, by rw [ht.wl]; exact (List.length_set ..).symm, ht.gr, fun i hi' => by
    have hi2 : i < f.wet.length := by have := ht.wl; omega
    have := ht.wr i hi'
    show (wetR ((f.wet.set j 2).getD i default)).lo ≤ _ ∧ _ ≤ (wetR ((f.wet.set j 2).getD i default)).hi
    rw [set_get hi2]
    split
    · rename_i e
      subst e
      have hb := hw (f.wet.getD i default) (by rw [getD_lt _ _ _ hi2]; exact List.getElem_mem hi2)
      have e2 : wetR 2 = ⟨0, 1⟩ := rfl
      rw [e2]
      unfold wetR at this
      split at this
      · exact this
      · simp only at this ⊢; omega
    · exact this⟩, rfl, fun _ _ _ h => h⟩
theorem widL_ok {j : Nat} {lo hi : Int} (hj : j < f.looks.length) (h1 : lo ≤ (f.looks.getD j default).w.lo) (h2 : (f.looks.getD j default).w.hi ≤ hi) : Wid f (widL f j lo hi) :=
  ⟨rfl, rfl, fun _ _ => rfl, fun t ht => ⟨ht.1, ht.2, ht.3, ht.4⟩, by exact List.length_set .., fun t i hi' h => by
    have hb : rightB f t i = inR (atI (standing t.growth f.crops) (f.looks.getD i default).week) (f.looks.getD i default).w.lo (f.looks.getD i default).w.hi := by simp [rightB, rightAt]
    have hb' : rightB (widL f j lo hi) t i = inR (atI (standing t.growth f.crops) ((f.looks.set j ⟨(f.looks.getD j default).week, ⟨lo, hi⟩⟩).getD i default).week) ((f.looks.set j ⟨(f.looks.getD j default).week, ⟨lo, hi⟩⟩).getD i default).w.lo ((f.looks.set j ⟨(f.looks.getD j default).week, ⟨lo, hi⟩⟩).getD i default).w.hi := by simp [rightB, rightAt, widL]
    rw [hb', set_get hi']
    rw [hb, inR_iff] at h
    split
    · rename_i e; subst e; rw [inR_iff]; exact ⟨Int.le_trans h1 h.1, Int.le_trans h.2 h2⟩
    · rw [inR_iff]; exact h⟩
end Am.Cr
