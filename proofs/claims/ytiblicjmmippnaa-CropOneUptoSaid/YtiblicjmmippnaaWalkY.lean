/-
  A part of the proof: the texts I3 of this seat, joined.
-/
import Derived.Test.YtiblicjmmippnaaWalkX
namespace Am.Cr
open Go Am
set_option maxRecDepth 100000
set_option maxHeartbeats 4000000
set_option linter.unusedSimpArgs false
set_option linter.unusedVariables false
variable {g1 g2 g3 g4 g5 : Bool × Bool} {f x : Field}
theorem linside {a b c d : Int} (h1 : c ≤ a) (h2 : b ≤ d) {Q : V → Prop} : CallP tab 33 [.agg [.int .i64 a, .int .i64 b], .agg [.int .i64 c, .int .i64 d]] Q ↔ Q (.c (.bool true)) := CallP_of (by
  refine Val_X (fn := f33) rfl ?_
  simp only [go_sem, f33, ge_iff_le, h1, h2])
theorem setNth_gen {α : Type} [Row α] {l : List α} {j : Nat} {a : α} : setNth (l.map Row.row) j (Row.row a) = (l.set j a).map Row.row := by
  induction l generalizing j with
  | nil => cases j <;> rfl
  | cons x l ih => cases j with
    | zero => rfl
    | succ j => simp only [List.map_cons, setNth, List.set_cons_succ, ih]
theorem setNth_rg {l : List Rg} {j : Nat} {a b : Int} : setNth (l.map (Row.row (α := Rg))) j [.int .i64 a, .int .i64 b] = (l.set j ⟨a, b⟩).map Row.row := setNth_gen (a := (⟨a, b⟩ : Rg))
theorem setNth_lk {l : List Lk} {j : Nat} {a b c : Int} : setNth (l.map (Row.row (α := Lk))) j [.int .i64 a, .int .i64 b, .int .i64 c] = (l.set j ⟨a, ⟨b, c⟩⟩).map Row.row := setNth_gen (a := (⟨a, ⟨b, c⟩⟩ : Lk))
theorem nth_set {α : Type} {l : List α} {j : Nat} {a : α} (h : j < l.length) : nth (l.set j a) j = some a := by
  rw [nth_get, List.getElem?_set_self h]
end Am.Cr
