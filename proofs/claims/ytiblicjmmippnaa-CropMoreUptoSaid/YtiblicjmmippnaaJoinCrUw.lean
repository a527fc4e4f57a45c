/-
  A part of the proof: the texts CrUw of this seat, joined.
-/
import Derived.Test.YtiblicjmmippnaaJoin
import Derived.Test.YtiblicjmmippnaaRows
open Go Go.Proofs Am Go.Proofs.Ytiblicjmmippnaa
namespace Am.Cr
set_option maxRecDepth 1000000
set_option linter.unusedVariables false
theorem bulk_one {H : Type} (d : DataW H) : 1 ≤ Rows.uptoBulk d := by
  cases d with
  | lit l => cases l <;> simp [Rows.uptoBulk]
  | nil => simp [Rows.uptoBulk]
  | ptr d => simp [Rows.uptoBulk]
  | slice elems spare => simp [Rows.uptoBulk]
  | agg parts => simp [Rows.uptoBulk]
  | iface t d => simp [Rows.uptoBulk]
  | map entries => simp [Rows.uptoBulk]
  | held h => simp [Rows.uptoBulk]
theorem bulk_part {H : Type} {d : DataW H} {l : List (DataW H)} (h : d ∈ l) : Rows.uptoBulk d ≤ Rows.uptoBulkAll l := by
  induction l with
  | nil => cases h
  | cons x r ih =>
    simp only [Rows.uptoBulkAll]
    cases List.mem_cons.1 h with
    | inl e => subst e; omega
    | inr e => have := ih e; omega
theorem bulk_len {H : Type} (l : List (DataW H)) : l.length ≤ Rows.uptoBulkAll l := by
  induction l with
  | nil => simp [Rows.uptoBulkAll]
  | cons x r ih => have := bulk_one x; simp only [Rows.uptoBulkAll, List.length_cons]; omega
theorem field_bulk {w : World} {H : Type} {enc : TypeId × Value → H} {v : Value} {d : DataW H} {ps : List MemPlace} {f : Field} (hr : RV (argE (fun _ => False) w) (fieldV (false, false) (false, false) (false, false) (false, false) (false, false) f) v) (h : DataW.Trod enc Try.prog w 0 (fun _ => true) true 26 v d ps) :
    f.wet.length ≤ Rows.uptoBulk d := by
  obtain ⟨fuel, h⟩ := h
  cases hr with
  | @agg cs vs hn hc =>
    obtain ⟨xs, n, _, hd, hl, hx, hf⟩ := DataW.trod_struct Try.underlying26 h
    have hd1 : d = .agg (xs.map (·.1)) := congrArg Prod.fst hd
    have h8 := hc 2 (L (false, false) f.wet) rfl
    have k8 := hf 2 _ rfl
    obtain ⟨x8, hx8⟩ : ∃ y, xs[2]? = some y := by
      have : xs.length = 9 := hx
      exact ⟨_, List.getElem?_eq_getElem (by omega)⟩
    rw [hx8] at k8
    have hsz : Try.prog.cellsOf 23 = 1 := by kernel_rfl
    have hmem : Rows.uptoBulk x8.1 ≤ Rows.uptoBulk d := by
      have h1 : x8.1 ∈ xs.map (·.1) := List.mem_map.2 ⟨x8, List.mem_of_getElem? hx8, rfl⟩
      have := bulk_part h1
      rw [hd1]; simp only [Rows.uptoBulk]; omega
    refine Nat.le_trans ?_ hmem
    have hcell : ∀ u : Value, ((vs.toList.drop 2).take (Try.prog.cellsOf 23)) = [u] → vs.getD 2 undef = u := fun u hu => by
      rw [hsz] at hu
      have : vs.toList[2]? = some u := by
        have := congrArg (fun l : List Value => l[0]?) hu
        simpa using this
      rw [Array.getElem?_toList] at this
      simp [Array.getD_eq_getD_getElem?, this]
    have hL : L (false, false) f.wet = .lst false (f.wet.map Row.row) := rfl
    rw [hL] at h8
    rcases DataW.trod_slice Try.underlying23 k8 with ⟨hcs, e⟩ | ⟨a, len, cap, elems, rest, n', _, hcs, e, _, _, _, hel, _⟩
    · rw [hcell _ hcs] at h8
      cases h8 with
      | lst hrd =>
        generalize hrows : f.wet.map (Row.row (α := Int)) = rows at hrd
        have hl2 : f.wet.length = rows.length := by rw [← hrows, List.length_map]
        cases hrd with
        | nil => rw [hl2]; simp
    · rw [hcell _ hcs] at h8
      cases h8 with
      | lst hrd =>
        generalize hrows : f.wet.map (Row.row (α := Int)) = rows at hrd
        have hl2 : f.wet.length = rows.length := by rw [← hrows, List.length_map]
        cases hrd with
        | nil => rw [hl2]; simp
        | lst sz vs' hK hcap hs hc' hr' =>
          rw [hl2, e]
          simp only [Rows.uptoBulk]
          have := bulk_len (elems.map (·.1))
          rw [List.length_map] at this
          omega
end Am.Cr

