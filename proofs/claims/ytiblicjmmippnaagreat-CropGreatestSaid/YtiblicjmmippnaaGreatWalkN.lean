/-
  A part of the proof: the texts F10 of this seat, joined.
-/
import Derived.Test.YtiblicjmmippnaaGreatWalkM
import Derived.Test.YtiblicjmmippnaaGreatWalkH
namespace Am.Cr
open Go Am
set_option maxRecDepth 100000
set_option maxHeartbeats 4000000
set_option linter.unusedSimpArgs false
set_option linter.unusedVariables false
variable {g1 g2 g3 g4 g5 : Bool × Bool} {f : Field}
theorem rBefore {g g' : Bool × Bool} {a b : List Int} (ha : a.length ≤ 1000) (hb : b.length ≤ 1000) {Q : V → Prop} : CallP tab 48 [.c (L g a), .c (L g' b)] Q ↔ Q (.c (.bool (lexB a b))) := CallP_of (by
  refine Val_X (fn := f48) rfl ?_
  simp only [go_sem, f48]
  refine RX_forC (min a.length b.length) (fun k => [(5, .c (.int .i64 k))]) (fun k => ∀ i, i < k → a.getD i default = b.getD i default) rfl (fun i h => by omega) (by simp only [go_sem] <;> rfl) ?_
  intro k hk hP
  have hd := lex_drop (a := a) (b := b) (k := k) (by omega) (by omega) hP
  by_cases h1 : k < a.length
  · by_cases h2 : k < b.length
    · have e4 : IntKind.i64.wrap ((k : Int) + 1) = ((k + 1 : Nat) : Int) := wrap_succ (n := 3000) (by omega) (by decide)
      have h3 : k < min a.length b.length := by omega
      have d1 : a.drop k = a.getD k default :: a.drop (k + 1) := by rw [List.drop_eq_getElem_cons (by omega), getD_lt _ _ _ (by omega)]
      have d2 : b.drop k = b.getD k default :: b.drop (k + 1) := by rw [List.drop_eq_getElem_cons (by omega), getD_lt _ _ _ (by omega)]
      by_cases he : a.getD k default = b.getD k default
      · simp only [go_sem, h1, h2, h3, atI_nat, he, e4]
        intro i hi
        by_cases hik : i = k
        · subst hik; exact he
        · exact hP i (by omega)
      · have hl : lexB a b = decide (a.getD k default < b.getD k default) := by rw [hd, d1, d2, lexB, if_neg he]
        simp only [go_sem, h1, h2, atI_nat, he, hl]
    · have d2 : b.drop k = [] := List.drop_eq_nil_of_le (by omega)
      have d1 : a.drop k = a.getD k default :: a.drop (k + 1) := by rw [List.drop_eq_getElem_cons (by omega), getD_lt _ _ _ (by omega)]
      have hl : lexB a b = decide (a.length < b.length) := by
        rw [hd, d1, d2]
        simp only [lexB]
        symm; exact decide_eq_false (by omega)
      simp only [go_sem, h1, h2, hl]
  · have hl : lexB a b = decide (a.length < b.length) := by
      have d1 : a.drop k = [] := List.drop_eq_nil_of_le (by omega)
      rw [hd, d1]
      by_cases h2 : k < b.length
      · have d2 : b.drop k = b.getD k default :: b.drop (k + 1) := by rw [List.drop_eq_getElem_cons (by omega), getD_lt _ _ _ (by omega)]
        rw [d2]; simp only [lexB]; symm; exact decide_eq_true (by omega)
      · have d2 : b.drop k = [] := List.drop_eq_nil_of_le (by omega)
        rw [d2]; simp only [lexB]; symm; exact decide_eq_false (by omega)
    simp only [go_sem, h1, hl])
theorem rShorter {g g' : Bool × Bool} {a b : List Int} (ha : a.length ≤ 1000) (hb : b.length ≤ 1000) {Q : V → Prop} : CallP tab 82 [.c (L g a), .c (L g' b)] Q ↔ Q (.c (.bool (shB a b))) := CallP_of (by
  refine Val_X (fn := f82) rfl ?_
  by_cases h1 : a.length < b.length
  · have hl : shB a b = true := sh_iff.2 (.inl h1)
    simp only [go_sem, f82, h1, hl]
  · by_cases h2 : a.length = b.length
    · have hl : shB a b = lexB a b := by simp [shB, h2]
      have h2' : (a.length : Int) = b.length := by omega
      have h1' : ¬ (b.length : Int) < b.length := by omega
      simp only [go_sem, f82, h2', h1', rBefore ha hb, hl]
    · have hl : shB a b = false := by simp [shB, h1, h2]
      have h2' : ¬ (a.length : Int) = b.length := by omega
      simp only [go_sem, f82, h1, h2', hl])
theorem allL_len : (allL f).length = prodF f := by simp [allL]
theorem rCan (hv : f.Valid) {g : Bool × Bool} {m : Nat} (hm : m < 2 ^ 29) {Q : V → Prop} : CallP tab 83 [.c (L g (allL f)), .c (.int .i64 m)] Q ↔ Q (.c (.bool (canB f m))) := CallP_of (by
  refine Val_X (fn := f83) rfl ?_
  have hle := prodF_le hv
  have v5 := hv.looks5
  have hal := allL_len (f := f)
  simp only [go_sem, f83]
  refine RX_forC (prodF f) (fun k => [(5, .c (.int .i64 k))]) (fun k => ∀ i, i < k → ¬ maskT f (nthT f i) &&& m = m) rfl (fun i h => by omega) (by simp only [go_sem] <;> rfl) ?_
  intro k hk hP
  by_cases h1 : k < prodF f
  · have e4 : IntKind.i64.wrap ((k : Int) + 1) = ((k + 1 : Nat) : Int) := wrap_succ (n := 3000) (by omega) (by decide)
    have hg : (allL f).getD k default = (maskT f (nthT f k) : Int) := by
      rw [getD_lt _ _ _ (by omega)]; simp [allL]
    have hml : maskT f (nthT f k) < 2 ^ f.looks.length := maskN_lt
    have h2 : 2 ^ f.looks.length ≤ 2 ^ 5 := Nat.pow_le_pow_right (by omega) v5
    have e5 := andW (a := maskT f (nthT f k)) (b := m) (by omega) hm
    by_cases he : maskT f (nthT f k) &&& m = m
    · have hc : canB f m = true := by
        rw [canB, List.any_eq_true]; exact ⟨k, List.mem_range.2 h1, decide_eq_true he⟩
      simp only [go_sem, hal, h1, atI_nat, hg, e5, he, hc]
    · have he' : ¬ ((maskT f (nthT f k) &&& m : Nat) : Int) = (m : Int) := by omega
      simp only [go_sem, hal, h1, atI_nat, hg, e5, he', e4]
      intro i hi
      by_cases hik : i = k
      · subst hik; exact he
      · exact hP i (by omega)
  · have hc : canB f m = false := by
      rw [← Bool.not_eq_true, canB, List.any_eq_true]
      rintro ⟨i, hi, h⟩
      rw [List.mem_range] at hi
      exact hP i (by omega) (of_decide_eq_true h)
    simp only [go_sem, hal, h1, hc])
def firstI (f : Field) : Int := match firstO f with
  | some i => i
  | none => -1
theorem rFirst (hv : f.Valid) {g : Bool × Bool} {Q : V → Prop} : CallP tab 33 [fieldV g1 g2 g3 g4 g5 f, .c (L g (allL f))] Q ↔ Q (.c (.int .i64 (firstI f))) := CallP_of (by
  refine Val_X (fn := f33) rfl ?_
  have v5 := hv.looks5
  simp only [go_sem, f33]
  refine RX_forC f.looks.length (fun k => [(5, .c (.int .i64 k))]) (fun k => ∀ i, i < k → canB f (2 ^ (i + 1) - 1) = true) rfl (fun i h => by omega) (by simp only [go_sem] <;> rfl) ?_
  intro k hk hP
  by_cases h1 : k < f.looks.length
  · have e4 : IntKind.i64.wrap ((k : Int) + 1) = ((k + 1 : Nat) : Int) := wrap_succ (n := 3000) (by omega) (by decide)
    have e1 := u64W (k := k) (by omega)
    have e2 := shlW (a := 2) (k := k) (by omega) (by omega)
    have hpw : 2 * 2 ^ k = 2 ^ (k + 1) := by rw [Nat.pow_succ, Nat.mul_comm]
    rw [hpw, show ((2 : Nat) : Int) = 2 from rfl] at e2
    have p1 : 1 ≤ 2 ^ (k + 1) := Nat.pow_pos (by omega)
    have p2 : 2 ^ (k + 1) ≤ 2 ^ 5 := Nat.pow_le_pow_right (by omega) (by omega)
    have e3 : IntKind.i64.wrap (((2 ^ (k + 1) : Nat) : Int) - 1) = ((2 ^ (k + 1) - 1 : Nat) : Int) := by
      generalize 2 ^ (k + 1) = p at p1 p2
      rw [wrapB (by omega) (by omega)]; omega
    have a0 : ¬ (k : Int) < 0 := by omega
    have kc := fun {g : Bool × Bool} {Q : V → Prop} => rCan hv (g := g) (m := 2 ^ (k + 1) - 1) (by omega) (Q := Q)
    cases hc : canB f (2 ^ (k + 1) - 1) with
    | false =>
      have hf : firstI f = k := by
        unfold firstI
        rw [first_ref hv, find_range h1 (fun i hi => by rw [hP i hi]; rfl) (by rw [hc]; rfl)]
      simp only [go_sem, h1, e1, e2, a0, e3, kc, hc, hf]
    | true =>
      simp only [go_sem, h1, e1, e2, a0, e3, kc, hc, e4]
      intro i hi
      by_cases hik : i = k
      · subst hik; exact hc
      · exact hP i (by omega)
  · have hke : k = f.looks.length := by omega
    subst hke
    have hf : firstI f = -1 := by
      unfold firstI
      have : (List.range f.looks.length).find? (fun i => !canB f (2 ^ (i + 1) - 1)) = none := by
        rw [List.find?_eq_none]
        intro i hi
        rw [hP i (List.mem_range.1 hi)]; simp
      rw [first_ref hv, this]
    simp only [go_sem, h1, hf])
theorem rLeave (hv : f.Valid) {g : Bool × Bool} {Q : V → Prop} : CallP tab 32 [fieldV g1 g2 g3 g4 g5 f, .c (L g (allL f))] Q ↔ Q (.c (L (false, false) (leaveS f))) := CallP_of (by
  refine Val_X (fn := f32) rfl ?_
  have v5 := hv.looks5
  have h1 : 1 ≤ 2 ^ f.looks.length := Nat.pow_pos (by omega)
  have h2 : 2 ^ f.looks.length ≤ 2 ^ 5 := Nat.pow_le_pow_right (by omega) v5
  have hF := fun {g1 g2 g3 g4 g5 : Bool × Bool} {Q : V → Prop} => rFull (f := f) (g1 := g1) (g2 := g2) (g3 := g3) (g4 := g4) (g5 := g5) (by omega) (Q := Q)
  have hB := fun {Q : V → Prop} => rBits (n := 2 ^ f.looks.length - 1) (by omega) (Q := Q)
  have hb0 : bitsF (2 ^ f.looks.length - 1) = lvR f 0 := rfl
  rw [hb0] at hB
  simp only [go_sem, f32, hF, hB]
  refine RX_for (2 ^ f.looks.length) (fun k => [(5, .c (L (false, false) (lvR f k))), (6, .c (.int .i64 k))]) (fun k => [.cells (fieldC g1 g2 g3 g4 g5 f.last f.growth f.wet f.base f.crops f.ripe f.late f.trod f.looks)]) (fun _ => True) trivial (by simp only [go_sem] <;> first | rfl | exact ⟨rfl, rfl⟩) ?_
  intro k hk _
  by_cases h3 : k < 2 ^ f.looks.length
  · have e4 : IntKind.i64.wrap ((k : Int) + 1) = ((k + 1 : Nat) : Int) := wrap_succ (n := 3000) (by omega) (by decide)
    have c1 : (k : Int) ≤ ((2 ^ f.looks.length - 1 : Nat) : Int) := by omega
    have hBk := fun {Q : V → Prop} => rBits (n := k) (by omega) (Q := Q)
    have hl1 : (bitsF k).length ≤ 62 := bitsP_len
    have hl2 : (lvR f k).length ≤ 1000 := by
      have := (lvR_ok hv (k := k) (by omega)).1
      rw [setsL_mem] at this; omega
    have hS := fun {g g' : Bool × Bool} {Q : V → Prop} => rShorter (g := g) (g' := g') (a := bitsF k) (b := lvR f k) (by omega) hl2 (Q := Q)
    have e5 := andnW (a := 2 ^ f.looks.length - 1) (b := k) (by omega) (by omega)
    have hal : andn (2 ^ f.looks.length - 1) k ≤ 2 ^ f.looks.length - 1 := andn_le
    have kc := fun {g : Bool × Bool} {Q : V → Prop} => rCan hv (g := g) (m := andn (2 ^ f.looks.length - 1) k) (by omega) (Q := Q)
    have hst : lvR f (k + 1) = if (shB (bitsF k) (lvR f k) && canB f (andn (2 ^ f.looks.length - 1) k)) = true then bitsF k else lvR f k := rfl
    cases ha : shB (bitsF k) (lvR f k) with
    | false =>
      have hst : lvR f (k + 1) = lvR f k := by rw [hst, ha]; simp
      simp only [go_sem, hF, c1, hBk, hS, ha, e4, hst, h3]
    | true =>
      cases hb : canB f (andn (2 ^ f.looks.length - 1) k) with
      | false =>
        have hst : lvR f (k + 1) = lvR f k := by rw [hst, ha, hb]; simp
        simp only [go_sem, hF, c1, hBk, hS, ha, e5, kc, hb, e4, hst, h3]
      | true =>
        have hst : lvR f (k + 1) = bitsF k := by rw [hst, ha, hb]; simp
        simp only [go_sem, hF, c1, hBk, hS, ha, e5, kc, hb, e4, hst, h3]
  · have hke : k = 2 ^ f.looks.length := by omega
    have c1 : ¬ ((2 ^ f.looks.length : Nat) : Int) ≤ ((2 ^ f.looks.length - 1 : Nat) : Int) := by omega
    have hlr := leave_ref hv
    rw [hke]
    simp only [go_sem, hF, c1, hlr])
end Am.Cr
