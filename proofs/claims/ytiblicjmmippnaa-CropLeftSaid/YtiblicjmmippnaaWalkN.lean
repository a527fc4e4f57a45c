/-
  A part of the proof: the texts F10 of this seat, joined.
-/
import Derived.Test.YtiblicjmmippnaaWalkM
import Derived.Test.YtiblicjmmippnaaWalkH
namespace Am.Cr
open Go Am
set_option maxRecDepth 100000
set_option maxHeartbeats 4000000
set_option linter.unusedSimpArgs false
set_option linter.unusedVariables false
variable {g1 g2 g3 g4 g5 : Bool × Bool} {f : Field}
theorem rBefore {g g' : Bool × Bool} {a b : List Int} (ha : a.length ≤ 1000) (hb : b.length ≤ 1000) {Q : V → Prop} : CallP tab 84 [.c (L g a), .c (L g' b)] Q ↔ Q (.c (.bool (lexB a b))) := CallP_of (by
  refine Val_X (fn := f84) rfl ?_
  simp only [go_sem, f84]
  refine RX_forC (min a.length b.length) (fun k => [(5, .c (.int .i64 k))]) (fun k => ∀ i, i < k → a.getD i default = b.getD i default) rfl (fun i h => by omega) (by simp only [go_sem] <;> rfl) ?_
  intro k hk hP
  have hd := lex_drop (a := a) (b := b) (k := k) (by omega) (by omega) hP
  by_cases h1 : k < a.length
  · by_cases h2 : k < b.length
    · have e4 : IntKind.i64.wrap ((k : Int) + 1) = ((k + 1 : Nat) : Int) := wrap_succ (n := 3000) (by omega) (by decide)
      have h3 : k < min a.length b.length := by omega
      have d1 : a.drop k = a.getD k default :: a.drop (k + 1) := by rw [List.drop_eq_getElem_cons (by omega), getD_lt _ _ _ (by omega)]
      have d2 : b.drop k = b.getD k default :: b.drop (k + 1) := by rw [List.drop_eq_getElem_cons (by omega), getD_lt _ _ _ (by omega)]
      by_cases he : a.getD k default = b.getD k default
      · simp only [go_sem, h1, h2, h3, atI_nat, he, e4]
        intro i hi
        by_cases hik : i = k
        · subst hik; exact he
        · exact hP i (by omega)
      · have hl : lexB a b = decide (a.getD k default < b.getD k default) := by rw [hd, d1, d2, lexB, if_neg he]
        simp only [go_sem, h1, h2, atI_nat, he, hl]
    · have d2 : b.drop k = [] := List.drop_eq_nil_of_le (by omega)
      have d1 : a.drop k = a.getD k default :: a.drop (k + 1) := by rw [List.drop_eq_getElem_cons (by omega), getD_lt _ _ _ (by omega)]
      have hl : lexB a b = decide (a.length < b.length) := by
        rw [hd, d1, d2]
        simp only [lexB]
        symm; exact decide_eq_false (by omega)
      simp only [go_sem, h1, h2, hl]
  · have hl : lexB a b = decide (a.length < b.length) := by
      have d1 : a.drop k = [] := List.drop_eq_nil_of_le (by omega)
      rw [hd, d1]
      by_cases h2 : k < b.length
      · have d2 : b.drop k = b.getD k default :: b.drop (k + 1) := by rw [List.drop_eq_getElem_cons (by omega), getD_lt _ _ _ (by omega)]
        rw [d2]; simp only [lexB]; symm; exact decide_eq_true (by omega)
      · have d2 : b.drop k = [] := List.drop_eq_nil_of_le (by omega)
        rw [d2]; simp only [lexB]; symm; exact decide_eq_false (by omega)
    simp only [go_sem, h1, hl])
theorem rShorter {g g' : Bool × Bool} {a b : List Int} (ha : a.length ≤ 1000) (hb : b.length ≤ 1000) {Q : V → Prop} : CallP tab 38 [.c (L g a), .c (L g' b)] Q ↔ Q (.c (.bool (shB a b))) := CallP_of (by
  refine Val_X (fn := f38) rfl ?_
  by_cases h1 : a.length < b.length
  · have hl : shB a b = true := sh_iff.2 (.inl h1)
    simp only [go_sem, f38, h1, hl]
  · by_cases h2 : a.length = b.length
    · have hl : shB a b = lexB a b := by simp [shB, h2]
      have h2' : (a.length : Int) = b.length := by omega
      have h1' : ¬ (b.length : Int) < b.length := by omega
      simp only [go_sem, f38, h2', h1', rBefore ha hb, hl]
    · have hl : shB a b = false := by simp [shB, h1, h2]
      have h2' : ¬ (a.length : Int) = b.length := by omega
      simp only [go_sem, f38, h1, h2', hl])
theorem allL_len : (allL f).length = prodF f := by simp [allL]
def firstI (f : Field) : Int := match firstO f with
  | some i => i
  | none => -1
end Am.Cr
