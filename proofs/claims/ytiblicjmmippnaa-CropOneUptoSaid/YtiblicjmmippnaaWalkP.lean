/-
  A part of the proof: the texts G3 of this seat, joined.
-/
import Derived.Test.YtiblicjmmippnaaWalkM
import Derived.Test.YtiblicjmmippnaaWalkH
namespace Am.Cr
open Go Am
set_option maxRecDepth 100000
set_option maxHeartbeats 4000000
set_option linter.unusedSimpArgs false
set_option linter.unusedVariables false
variable {f : Field}
/-- the sure worth of a plan -/
def sureW (f : Field) (p : List Int) : Int := (bdL (fun t => worthI f t p) (truthsL f [])).lo
theorem sureI_eq {p : List Int} (h : truthsL f [] ≠ []) : sureI f (truthsL f []) p = sureW f p := by
  unfold sureW
  have hB := bdL_IsRg (val := fun t => worthI f t p) h
  generalize bdL (fun t => worthI f t p) (truthsL f []) = r at hB
  obtain ⟨⟨a, a1, a2⟩, _, c⟩ := hB
  simp only at a2 c
  have key : ∀ (ts : List Truth) (m : Int), (ts.foldl (fun m t => min m (worthI f t p)) m = m ∨ ∃ t ∈ ts, ts.foldl (fun m t => min m (worthI f t p)) m = worthI f t p) ∧ ts.foldl (fun m t => min m (worthI f t p)) m ≤ m ∧ ∀ t ∈ ts, ts.foldl (fun m t => min m (worthI f t p)) m ≤ worthI f t p := by
    intro ts
    induction ts with
    | nil => intro m; exact ⟨.inl rfl, Int.le_refl _, fun t ht => by cases ht⟩
    | cons t ts ih =>
      intro m
      simp only [List.foldl_cons]
      obtain ⟨i1, i2, i3⟩ := ih (min m (worthI f t p))
      refine ⟨?_, by omega, fun x hx => ?_⟩
      · rcases i1 with i1 | ⟨x, hx, i1⟩
        · by_cases hm : m ≤ worthI f t p
          · left; omega
          · right; exact ⟨t, by simp, by omega⟩
        · exact .inr ⟨x, by simp [hx], i1⟩
      · rcases List.mem_cons.1 hx with rfl | hx
        · omega
        · exact i3 x hx
  unfold sureI
  obtain ⟨k1, k2, k3⟩ := key (truthsL f []) (worthI f ((truthsL f []).getD 0 default) p)
  have h0 : (truthsL f []).getD 0 default ∈ truthsL f [] := by
    rw [getD_lt _ _ _ (List.length_pos_iff.2 h)]; exact List.getElem_mem _
  generalize (truthsL f []).foldl (fun m t => min m (worthI f t p)) (worthI f ((truthsL f []).getD 0 default) p) = z at k1 k2 k3
  have e1 := k3 a a1
  rcases k1 with k1 | ⟨x, hx, k1⟩
  · have := (c _ h0).1; omega
  · have := (c _ hx).1; omega
theorem worth_nil {t : Truth} : worthI f t [] = 0 := rfl
theorem sureW_nil (h : truthsL f [] ≠ []) : sureW f [] = 0 := by
  unfold sureW
  obtain ⟨⟨a, a1, a2⟩, _⟩ := bdL_IsRg (val := fun t => worthI f t []) h
  exact a2.symm.trans worth_nil
theorem plans_iff (hv : f.Valid) {x : List Int} : x ∈ plansD f.last f.base.length [] 0 ↔ planOk f.last f.base x = true := by
  rw [plansD_mem]
  constructor
  · rintro ⟨s, rfl, h1, h2, h3⟩
    exact planOk_of hv.last9 h1 h3 h2
  · intro h
    exact ⟨x, rfl, plan_le h, plan_sorted hv.last9 h, plan_mem hv.last9 h⟩
def BestOk (f : Field) (p : List Int) (n : Int) : Prop := planOk f.last f.base p = true ∧ n = sureW f p ∧ ∀ q, planOk f.last f.base q = true → sureW f q < n ∨ (sureW f q = n ∧ (q = p ∨ lexB p q = true))
theorem BestOk.uniq {p p' : List Int} {n n' : Int} (h : BestOk f p n) (h' : BestOk f p' n') : p = p' ∧ n = n' := by
  have a := h.2.2 p' h'.1
  have b := h'.2.2 p h.1
  rw [← h'.2.1] at a
  rw [← h.2.1] at b
  have e : n = n' := by omega
  refine ⟨?_, e⟩
  rcases a with a | ⟨_, a | a⟩
  · omega
  · exact a.symm
  · rcases b with b | ⟨_, b | b⟩
    · omega
    · exact b
    · exact absurd b (lex_asym a)
def BInv (f : Field) (P : List (List Int)) (p : List Int) (n : Int) : Prop := p ∈ P ∧ n = sureW f p ∧ ∀ w ∈ P, sureW f w < n ∨ (sureW f w = n ∧ (w = p ∨ lexB p w = true))
theorem ds_fold (h : truthsL f [] ≠ []) : ∀ {L P : List (List Int)} {s : DS}, BInv f P s.plan s.worth → (P ++ L).Pairwise (fun a b => lexB a b = true) → BInv f (P ++ L) (L.foldl (dsStep f (truthsL f [])) s).plan (L.foldl (dsStep f (truthsL f [])) s).worth
  | [], P, s, hi, _ => by rw [List.append_nil]; exact hi
  | x :: L, P, s, hi, hp => by
    have e : P ++ x :: L = (P ++ [x]) ++ L := by simp
    rw [e] at hp ⊢
    simp only [List.foldl_cons]
    refine ds_fold h ?_ hp
    have hb : ∀ w ∈ P, lexB w x = true := fun w hw => by
      rw [List.pairwise_append] at hp
      have := hp.1
      rw [List.pairwise_append] at this
      exact this.2.2 w hw x (by simp)
    obtain ⟨i1, i2, i3⟩ := hi
    have hs := sureI_eq (p := x) h
    unfold dsStep
    rw [hs]
    by_cases hc : s.worth < sureW f x
    · rw [if_pos hc]
      refine ⟨by simp, rfl, fun w hw => ?_⟩
      rw [List.mem_append, List.mem_singleton] at hw
      rcases hw with hw | rfl
      · left
        show _ < sureW f x
        rcases i3 w hw with h3 | h3 <;> omega
      · exact .inr ⟨rfl, .inl rfl⟩
    · rw [if_neg hc]
      refine ⟨by simp [i1], i2, fun w hw => ?_⟩
      rw [List.mem_append, List.mem_singleton] at hw
      rcases hw with hw | rfl
      · exact i3 w hw
      · by_cases he : sureW f w = s.worth
        · exact .inr ⟨he, .inr (hb _ i1)⟩
        · left; omega
theorem best_ok (hv : f.Valid) (h : truthsL f [] ≠ []) : BestOk f (bestS f).plan (bestS f).worth := by
  obtain ⟨L, hL⟩ : ∃ L, plansD f.last f.base.length [] 0 = [] :: L := by
    cases hk : f.base.length with
    | zero => exact ⟨[], rfl⟩
    | succ k => exact ⟨_, rfl⟩
  have hS := plansD_sorted (last := f.last) (k := f.base.length) (l := []) (fr := 0)
  have hM := fun x => plans_iff hv (x := x)
  have hstep : dsStep f (truthsL f []) ⟨[], 0⟩ [] = ⟨[], 0⟩ := by
    unfold dsStep
    rw [sureI_eq h, sureW_nil h, if_neg (by decide)]
  have key : bestS f = L.foldl (dsStep f (truthsL f [])) ⟨[], 0⟩ := by
    unfold bestS
    rw [hL, List.foldl_cons, hstep]
  rw [hL] at hS hM
  have := ds_fold h (L := L) (P := [[]]) (s := ⟨[], 0⟩) ⟨by simp, (sureW_nil h).symm, fun w hw => by
    rw [List.mem_singleton] at hw
    subst hw
    exact .inr ⟨sureW_nil h, .inl rfl⟩⟩ hS
  rw [← key] at this
  exact ⟨(hM _).1 this.1, this.2.1, fun q hq => this.2.2 q ((hM q).2 hq)⟩
/-- the reference's search -/
def rbK (f : Field) : Nat → List Int × Int
  | 0 => ([], sureW f [])
  | k + 1 => if (bitsF (k + 1)).length ≤ f.base.length ∧ ((rbK f k).2 < sureW f (bitsF (k + 1)) ∨ (sureW f (bitsF (k + 1)) = (rbK f k).2 ∧ lexB (bitsF (k + 1)) (rbK f k).1 = true)) then (bitsF (k + 1), sureW f (bitsF (k + 1))) else rbK f k
theorem bits_plan (hv : f.Valid) {b : Nat} (hb : b < 2 ^ (f.last + 1).toNat) (hl : (bitsF b).length ≤ f.base.length) : planOk f.last f.base (bitsF b) = true := by
  have v3 := hv.last0
  exact planOk_of hv.last9 hl (fun x hx => by have := bitsF_in hb x hx; omega) bitsF_sorted
theorem rbK_ok (hv : f.Valid) : ∀ {k : Nat}, k < 2 ^ (f.last + 1).toNat → planOk f.last f.base (rbK f k).1 = true ∧ (rbK f k).2 = sureW f (rbK f k).1 ∧ ∀ b, b ≤ k → (bitsF b).length ≤ f.base.length → sureW f (bitsF b) < (rbK f k).2 ∨ (sureW f (bitsF b) = (rbK f k).2 ∧ (bitsF b = (rbK f k).1 ∨ lexB (rbK f k).1 (bitsF b) = true))
  | 0, hk => by
    have e0 : bitsF 0 = [] := by
      have : bitsF 0 = bitsP 0 0 := bitsP_end (p := 0) (q := 62) (by omega) (by decide)
      rw [this]; rfl
    refine ⟨?_, rfl, fun b hb _ => ?_⟩
    · show planOk f.last f.base [] = true
      rw [← e0]; exact bits_plan hv hk (by rw [e0]; simp)
    · have : b = 0 := by omega
      subst this
      rw [e0]; exact .inr ⟨rfl, .inl rfl⟩
  | k + 1, hk => by
    obtain ⟨i1, i2, i3⟩ := rbK_ok hv (k := k) (by omega)
    simp only [rbK]
    by_cases h : (bitsF (k + 1)).length ≤ f.base.length ∧ ((rbK f k).2 < sureW f (bitsF (k + 1)) ∨ (sureW f (bitsF (k + 1)) = (rbK f k).2 ∧ lexB (bitsF (k + 1)) (rbK f k).1 = true))
    · rw [if_pos h]
      obtain ⟨h1, h2⟩ := h
      refine ⟨bits_plan hv hk h1, rfl, fun b hb hbl => ?_⟩
      by_cases hbk : b = k + 1
      · subst hbk; exact .inr ⟨rfl, .inl rfl⟩
      · have h3 := i3 b (by omega) hbl
        show sureW f (bitsF b) < sureW f (bitsF (k + 1)) ∨ _
        rcases h2 with h2 | ⟨h2, h4⟩
        · left; omega
        · rcases h3 with h3 | ⟨h3, h5⟩
          · left; omega
          · right
            refine ⟨by show sureW f (bitsF b) = sureW f (bitsF (k + 1)); omega, .inr ?_⟩
            rcases h5 with h5 | h5
            · rw [h5]; exact h4
            · exact lex_trans h4 h5
    · rw [if_neg h]
      refine ⟨i1, i2, fun b hb hbl => ?_⟩
      by_cases hbk : b = k + 1
      · subst hbk
        by_cases h1 : sureW f (bitsF (k + 1)) < (rbK f k).2
        · exact .inl h1
        · by_cases h2 : sureW f (bitsF (k + 1)) = (rbK f k).2
          · right
            refine ⟨h2, ?_⟩
            rcases lex_tri (a := bitsF (k + 1)) (b := (rbK f k).1) with h3 | h3 | h3
            · exact absurd ⟨hbl, .inr ⟨h2, h3⟩⟩ h
            · exact .inl h3
            · exact .inr h3
          · exact absurd ⟨hbl, .inl (by omega)⟩ h
      · exact i3 b (by omega) hbl
theorem best_ref (hv : f.Valid) (h : truthsL f [] ≠ []) : rbK f (2 ^ (f.last + 1).toNat - 1) = ((bestS f).plan, (bestS f).worth) := by
  have v3 := hv.last0
  have v4 := hv.last9
  have hp : 1 ≤ 2 ^ (f.last + 1).toNat := Nat.pow_pos (by omega)
  obtain ⟨i1, i2, i3⟩ := rbK_ok hv (k := 2 ^ (f.last + 1).toNat - 1) (by omega)
  have := BestOk.uniq (f := f) ⟨i1, i2, fun q hq => by
    have hm := plan_mem hv.last9 hq
    obtain ⟨b, hb, rfl⟩ := bits_of (n := (f.last + 1).toNat) (by omega) (plan_sorted hv.last9 hq) fun y hy => by have := hm y hy; omega
    exact i3 b (by omega) (plan_le hq)⟩ (best_ok hv h)
  exact Prod.ext this.1 this.2
end Am.Cr
