/-
  A part of the proof: the texts VtJP of this seat, joined.
-/
import Derived.Test.YtblekjhhceknaaaGreatJoin
import Derived.Test.YtblekjhhceknaaaGreatWalkD
open Go Go.Proofs Am
namespace Am.Vt
set_option maxRecDepth 1000000
set_option linter.unusedVariables false
instance : Row Prf := ⟨8, fun p => [.int .i64 p.over, .int .i64 p.under, .int .i64 p.most.start, .int .i64 p.most.blue, .lst (p.most.drift.map Row.row), .int .i64 p.least.start, .int .i64 p.least.blue, .lst (p.least.drift.map Row.row)], fun _ => rfl⟩
theorem reads_proof {w : World} : Reads Tryz.prog w 89 Prf := by
  intro H enc sp held fuel cs x h
  obtain ⟨xs, n, _, _, hl, hx, hf⟩ := DataW.trod_struct Tryz.underlying89 h
  have hlN : cs.length = 8 := hl.trans (by kernel_rfl)
  match cs, hlN with
  | [a0, a1, a2, a3, a4, a5, a6, a7], _ =>
    have hs0 : Tryz.prog.cellsOf 3 = 1 := by kernel_rfl
    have hs1 : Tryz.prog.cellsOf 31 = 3 := by kernel_rfl
    have key : ∀ (i : Nat) (f : Go.Field), (_ : Array Go.Field)[i]? = some f → ∃ y, DataW.trod enc Tryz.prog w 0 sp held n f.type ((([a0, a1, a2, a3, a4, a5, a6, a7] : List Value).drop f.offset).take (Tryz.prog.cellsOf f.type)) = some y := fun i f hi => by
      have := hf i f hi
      have hi' : i < xs.length := by rw [hx]; exact (Array.getElem?_eq_some_iff.1 hi).1
      rw [List.getElem?_eq_getElem hi'] at this
      exact ⟨_, this⟩
    obtain ⟨y0, k0⟩ : ∃ y, DataW.trod enc Tryz.prog w 0 sp held n 3 ((([a0, a1, a2, a3, a4, a5, a6, a7] : List Value).drop 0).take (Tryz.prog.cellsOf 3)) = some y := key 0 _ rfl
    obtain ⟨y1, k1⟩ : ∃ y, DataW.trod enc Tryz.prog w 0 sp held n 3 ((([a0, a1, a2, a3, a4, a5, a6, a7] : List Value).drop 1).take (Tryz.prog.cellsOf 3)) = some y := key 1 _ rfl
    obtain ⟨y2, k2⟩ : ∃ y, DataW.trod enc Tryz.prog w 0 sp held n 31 ((([a0, a1, a2, a3, a4, a5, a6, a7] : List Value).drop 2).take (Tryz.prog.cellsOf 31)) = some y := key 2 _ rfl
    obtain ⟨y3, k3⟩ : ∃ y, DataW.trod enc Tryz.prog w 0 sp held n 31 ((([a0, a1, a2, a3, a4, a5, a6, a7] : List Value).drop 5).take (Tryz.prog.cellsOf 31)) = some y := key 3 _ rfl
    simp only [hs0, hs1] at k0 k1 k2 k3
    obtain ⟨n0, e0⟩ := trod_int Tryz.underlying3 k0
    simp at e0
    subst e0
    obtain ⟨n1, e1⟩ := trod_int Tryz.underlying3 k1
    simp at e1
    subst e1
    obtain ⟨n2, _, r2⟩ := reads_truth k2
    obtain ⟨v2_0, f2_0, d2_0⟩ := r2 0 _ rfl
    simp at f2_0
    subst f2_0
    obtain ⟨v2_1, f2_1, d2_1⟩ := r2 1 _ rfl
    simp at f2_1
    subst f2_1
    obtain ⟨v2_2, f2_2, d2_2⟩ := r2 2 _ rfl
    simp at f2_2
    subst f2_2
    obtain ⟨n3, _, r3⟩ := reads_truth k3
    obtain ⟨v3_0, f3_0, d3_0⟩ := r3 0 _ rfl
    simp at f3_0
    subst f3_0
    obtain ⟨v3_1, f3_1, d3_1⟩ := r3 1 _ rfl
    simp at f3_1
    subst f3_1
    obtain ⟨v3_2, f3_2, d3_2⟩ := r3 2 _ rfl
    simp at f3_2
    subst f3_2
    refine ⟨⟨n0, n1, n2, n3⟩, rfl, fun j d hj => ?_⟩
    match j, hj with
    | 0, hj => cases hj; exact ⟨_, rfl, .int _ _⟩
    | 1, hj => cases hj; exact ⟨_, rfl, .int _ _⟩
    | 2, hj => cases hj; exact ⟨_, rfl, d2_0⟩
    | 3, hj => cases hj; exact ⟨_, rfl, d2_1⟩
    | 4, hj => cases hj; exact ⟨_, rfl, d2_2⟩
    | 5, hj => cases hj; exact ⟨_, rfl, d3_0⟩
    | 6, hj => cases hj; exact ⟨_, rfl, d3_1⟩
    | 7, hj => cases hj; exact ⟨_, rfl, d3_2⟩
theorem arg_proof {w : World} {H : Type} {enc : TypeId × Value → H} {v : Value} {d : DataW H} {ps : List MemPlace} {base : Nat} (hv : Value.okWide Tryz.prog w .any base 89 v) (h : DataW.Trod enc Tryz.prog w 0 (fun _ => true) true 89 v d ps) :
    ∃ x : Prf, RV (argE (fun _ => False) w) (proofG (false, false) (false, false) x) v := by
  obtain ⟨fuel, h⟩ := h
  unfold Value.okWide at hv
  rw [Tryz.underlying89] at hv
  obtain ⟨arr, rfl, _, _⟩ := hv
  obtain ⟨x, hl, hr⟩ := reads_proof h
  simp only [Value.cells] at hl hr
  exact ⟨x, agg_of (ds := Row.row x) (by rw [Row.len]; exact hl) hr⟩
end Am.Vt

