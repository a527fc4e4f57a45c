/-
  From the arguments of a claim to the values of the abstract machine.
-/
import Derived.Test.YtgbcbeahnnjlfaaAmG
import Derived.Test.YtgbcbeahnnjlfaaAmI
import Derived.ProofKit
import Derived.Deep.Slices
import Derived.WideKeyArgs
namespace Am
open Go
set_option linter.unusedVariables false
set_option linter.unusedSimpArgs false
variable {P:Program} {cfg:Cfg}
theorem calls_true_same {G:Nat→Option AFunc} (hG:∀k fn,G k=some fn→FnOk P cfg k fn) (hcl:ClonesOk P cfg) (hm:P.follows .mixedOrders=true) {k:Nat} {args:List V} (h:Val G k args (.c (.bool true))) {vs:Array Value} {w:World} (ha:RVs (argE (fun _=>False) w) args vs) :
    Calls P k vs w fun e w'=>e = .returned (.bool true)∧RowKit.Grown w w'∧∀b,b<w.heap.size→w'.heap[b]?=w.heap[b]?:=by
  obtain ⟨n,hn⟩:=h
  obtain ⟨_,hall⟩:=(sound_ev hG hcl hm n).p hn ha (fun _ h=>h.elim)
  intro cs
  obtain ⟨cv,w',⟨fr,s,l,hfn⟩,hr,hst,hsame⟩:=hall cs
  refine ⟨.returned cv,w',fr,⟨?_,grown_of hst hsame,hsame⟩,s,hfn,l⟩
  rw [hr.c_inv.bool_inv]
theorem trodAll_stays {H:Type} {enc:TypeId × Value→H} (hl:laidOutB P=true) {W W':World} {sp':Nat→Bool}:∀{ts:List TypeId} {vs:List Value} {ds:List (DataW H)} {ps:List MemPlace},(∀t∈ts,P.readableRec t=true∧t<P.types.size)→DataW.TrodAll enc P W 0 (fun _=>true) true ts vs ds ps→(∀p∈ps,W.sameAt W' p)→(∀p∈ps,sp' p.block=true)→DataW.TrodAll enc P W' 0 sp' true ts vs ds ps
  | [],[],[],ps,_,h,_,_=>h
  | t::ts,v::vs,d::ds,ps,ht,h,h1,h2=>by
    obtain ⟨p,q,a,b,rfl⟩:=h
    have:=ht t (by simp)
    refine ⟨p,q,WideElems.Trod_stays hl this.1 this.2 a (fun x hx=>h1 x (by simp [hx])) (fun x hx=>h2 x (by simp [hx])),trodAll_stays hl (fun t h=>ht t (by simp [h])) b (fun x hx=>h1 x (by simp [hx])) (fun x hx=>h2 x (by simp [hx])),rfl⟩
  | [],_::_,_,_,_,h,_,_=>h.elim
  | [],[],_::_,_,_,h,_,_=>h.elim
  | _::_,[],_,_,_,h,_,_=>h.elim
  | _::_,_::_,[],_,_,h,_,_=>h.elim
theorem RVs_of {E:Env}:∀{xs:List V} {vs:List Value},xs.length=vs.length→(∀(i:Nat) (x:V) (v:Value),xs[i]?=some x→vs[i]?=some v→RV E x v)→RVs E xs vs.toArray:=by
  intro xs vs hl h
  refine ⟨by simp [hl],fun i x hx=>?_⟩
  rw [nth_get] at hx
  have hi:i<vs.length:=by rw [←hl];exact (List.getElem?_eq_some_iff.1 hx).1
  rw [show vs.toArray.getD i undef=vs[i] by simp [Array.getD_eq_getD_getElem?,hi]]
  exact h i x _ hx (List.getElem?_eq_getElem hi)
end Am
