/-
  A part of the proof: the texts VtFirst of this seat, joined.
-/
import Derived.Test.YtblekjhhceknaaaJoin
import Derived.Test.YtblekjhhceknaaaWalkH
import Derived.Test.YtblekjhhceknaaaRows
namespace Go.Proofs.Ytblekjhhceknaaa
open Go.ChangeShapes Go.WideShapes Go.ChangeAt Go.RowKit Am
set_option linter.unusedVariables false
set_option maxRecDepth 1000000
theorem same_of {W W' : World} (hs : ∀ b, b < W.heap.size → W'.heap[b]? = W.heap[b]?) {p : MemPlace} (hp : p.block < W.heap.size) : W.sameAt W' p := by
  cases p with
  | cell b o => exact World.cell?_of_block (w := W) (hs b hp)
  | map b => exact hs b hp
theorem first_lifted (os : Os) (started : os.Started) (H : Type) (enc : TypeId × Value → H) :
    ReturnsInHanded {} Try.checked os 8 .any (Rows.vatFirstSpec.pre6 enc Try.prog Try.f8 Rows.vatFirstRow.domain false) (Rows.vatFirstSpec.post enc Try.prog Try.f8 false true false false) := by
  refine returnsInHanded_of_change (C := Try.checked) Vt.own started (by kernel_rfl) Try.func8
    (ChangeSpec.witness6 (enc := enc) (C := Try.checked) false ⟨#[], #[.agg #[.int .i64 0, .int .i64 0, .int .i64 0, .int .i64 0, .int .i64 0, .int .i64 0, .int .i64 0, .int .i64 0, .slice none 0 0, .slice none 0 0, .slice none 0 0, .slice none 0 0]], []⟩ 8 (by kernel_rfl) (by kernel_rfl) (by kernel_rfl) (by kernel_rfl)) ?_
  intro W base args ds gs before hval0 hW hcnd _
  have hval : ∀ (j : Nat) t v, Try.f8.params[j]? = some t → args[j]? = some v → Value.okWide Try.prog W .any base t v := hval0
  have hW' := hW
  obtain ⟨p, q, hA0, hV, rfl, hfz, hnd⟩ := hW
  have hA : DataW.TrodAll enc Try.prog W 0 (fun _ => true) true Try.f8.params.toList args.toList ds p := hA0
  rw [Try.params8] at hA hval
  have hst := hA
  obtain ⟨v0, vs0, d0, ds0, p0, q0, hargs, rfl, rfl, h0, r0⟩ := trodAll_cons hA
  obtain ⟨rfl, rfl, rfl⟩ := trodAll_nil r0
  obtain rfl : args = #[v0] := by cases args; simp_all
  obtain ⟨rfl, rfl⟩ := trodVars_none hV
  obtain ⟨x0, a0⟩ := Vt.arg_vat (hval 0 70 v0 rfl rfl) h0
  clear hA0 hval0
  simp only [List.append_nil] at hW'
  have hrv : RVs (argE (fun _ => False) W) [Vt.vatW0 x0] #[v0] := by
    refine RVs_of (vs := [v0]) rfl ?_
    intro i x v hx hv
    match i, hx, hv with
    | 0, hx, hv => cases hx; cases hv; exact a0
  have hlt := hst.lt
  refine (calls_true_same (fun k fn h => fnOk_of Vt.hclones Vt.mixed (Vt.hG k fn h)) Vt.hclones Vt.mixed (Vt.VatFirst_val ) hrv).mono fun e W' ⟨he, hg, hs⟩ => ?_
  subst he
  exact ⟨_, rfl, post_of_same (pa := _) (pv := []) hW' (fun _ _ _ => (trodAll_mk1 (shut_bool Try.underlying4 _))) (fun sp hsp => trodAll_stays Vt.laidOut (by
      intro t ht
      have : t = 70 := by (first | simpa using ht | (simp at ht; rcases ht with h | h | h | h | h | h <;> simp [h]) | (simp at ht; rcases ht with h | h | h | h <;> simp [h]) | (simp at ht; rcases ht with h | h | h <;> simp [h]))
      rcases this with rfl
      · exact ⟨by kernel_rfl, of_decide_eq_true (by kernel_rfl)⟩) hst (fun x hx => same_of hs (hlt x hx)) (fun x hx => hsp x (by simpa using hx))) (fun _ _ => rfl) (by simp)
    (hg.frame _) hg.2.1 (ok_one (by kernel_rfl) rfl (okWide_bool_mk Try.underlying4 _))⟩
theorem first_holds : Rows.VatFirstSaid :=
  OpenClaim.holds_of_wide 8 Try.f8 rfl rfl rfl rfl rfl rfl rfl ⟨rfl, rfl, rfl, rfl, rfl⟩ rfl rfl rfl rfl rfl (by kernel_rfl) Try.func8 (by kernel_rfl)
    (of_decide_eq_true (by kernel_rfl)) (by unfold Func.isWrapper; first | (rw [if_pos (by decide +kernel)]; kernel_rfl) | (rw [if_neg (by decide +kernel)]; exact ⟨rfl, rfl⟩))
    (fun os started H enc _ => first_lifted os started H enc)
end Go.Proofs.Ytblekjhhceknaaa

