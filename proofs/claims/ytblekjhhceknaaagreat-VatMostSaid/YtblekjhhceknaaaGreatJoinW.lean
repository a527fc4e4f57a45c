/-
  A part of the proof: the texts VtJW of this seat, joined.
-/
import Derived.Test.YtblekjhhceknaaaGreatJoin
import Derived.Test.YtblekjhhceknaaaGreatWalkH
open Go Go.Proofs Am
namespace Am.Vt
set_option maxRecDepth 1000000
set_option linter.unusedVariables false
theorem trod_int_wf {P:Program} {H:Type} {enc:TypeId × Value→H} {w:World} {sp:Nat→Bool} {held:Bool} {fuel:Nat} {t:TypeId} {cs:List Value} {x:DataW H × List MemPlace} {k:IntKind} (ht:P.underlying t=some (.int k)) (h:DataW.trod enc P w 0 sp held fuel t cs=some x):∃n,cs=[.int k n]∧(Lit.int k n).wf=true:=by
  obtain ⟨n,rfl⟩:=trod_int ht h
  refine ⟨n,rfl,?_⟩
  cases fuel with
  | zero=>cases h
  | succ m=>
    unfold DataW.trod at h
    rw [ht] at h
    simp only at h
    split at h<;>simp_all
theorem wd_range {n:Int} (h:(Lit.int .u16 n).wf=true):0≤n∧n≤65535:=by
  simp [Lit.wf,IntKind.min,IntKind.max,IntKind.bits,IntKind.signed] at h
  omega
theorem reads_word {w:World}:Reads Tryz.prog w 105 Wd:=by
  intro H enc sp held fuel cs x h
  obtain ⟨n,rfl,hw⟩:=trod_int_wf Tryz.underlying105 h
  have hr:=wd_range hw
  refine ⟨⟨n.toNat,by omega⟩,rfl,fun j d hj=>?_⟩
  cases j with
  | zero=>
    cases hj
    refine ⟨_,rfl,?_⟩
    have:((n.toNat:Nat):Int)=n:=by omega
    rw [this];exact .int _ _
  | succ j=>cases hj
theorem arg_words {w:World} {H:Type} {enc:TypeId × Value→H} {v:Value} {d:DataW H} {ps:List MemPlace} {base:Nat} (hv:Value.okWide Tryz.prog w .any base 106 v) (h:DataW.Trod enc Tryz.prog w 0 (fun _=>true) true 106 v d ps) :
    ∃l:List Wd,RV (argE (fun _=>False) w) (.c (L (false,false) l)) v:=arg_list (by decide) Tryz.underlying106 (by kernel_rfl) reads_word hv h
end Am.Vt
