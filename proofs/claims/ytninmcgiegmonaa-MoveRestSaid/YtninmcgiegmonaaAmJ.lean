/-
  From the arguments of a claim to the values of the abstract machine.
-/
import Derived.Test.YtninmcgiegmonaaAmG
import Derived.Test.YtninmcgiegmonaaAmI
import Derived.ProofKit
import Derived.Deep.Slices
import Derived.WideKeyArgs
namespace Am
open Go
set_option linter.unusedVariables false
set_option linter.unusedSimpArgs false
variable {P:Program} {cfg:Cfg}
theorem calls_true_same {G:Nat→Option AFunc} (hG:∀k fn,G k=some fn→FnOk P cfg k fn) (hcl:ClonesOk P cfg) (hm:P.follows .mixedOrders=true) {k:Nat} {args:List V} (h:Val G k args (.c (.bool true))) {vs:Array Value} {w:World} (ha:RVs (argE (fun _=>False) w) args vs) :
    Calls P k vs w fun e w'=>e = .returned (.bool true)∧RowKit.Grown w w'∧∀b,b<w.heap.size→w'.heap[b]?=w.heap[b]?:=by
  obtain ⟨n,hn⟩:=h
  obtain ⟨_,hall⟩:=(sound_ev hG hcl hm n).p hn ha (fun _ h=>h.elim)
  intro cs
  obtain ⟨cv,w',⟨fr,s,l,hfn⟩,hr,hst,hsame⟩:=hall cs
  refine ⟨.returned cv,w',fr,⟨?_,grown_of hst hsame,hsame⟩,s,hfn,l⟩
  rw [hr.c_inv.bool_inv]
abbrev anyK (w:World):Kept:=fun b=>b<w.heap.size
theorem owned_nil {pl:Nat→Pl} {b:Nat}:¬owned [] pl b:=by
  rintro ⟨o,hm,_⟩
  cases hm
theorem RD.arg {w:World} {d:D} {v:Value} (h:RD (anyK w) w d v) (t:Bool):RD ((argE (fun _=>False) w).kt t) w d v:=by
  refine h.mono (fun b hb=>?_) (fun _ _ _ _ e=>e)
  cases t
  · exact ⟨hb,owned_nil,fun h=>h⟩
  · exact ⟨hb,owned_nil⟩
def Reads (P:Program) (w:World) (t:TypeId) (α:Type) [Row α]:Prop:=
  ∀{H:Type} {enc:TypeId × Value→H} {sp:Nat→Bool} {held:Bool} {fuel:Nat} {cs:List Value} {x:DataW H × List MemPlace},DataW.trod enc P w 0 sp held fuel t cs=some x →
    ∃a:α,cs.length=Row.sz α∧∀(j:Nat) d,nth (Row.row a) j=some d→∃v,cs[j]?=some v∧RD (anyK w) w d v
theorem trod_int {H:Type} {enc:TypeId × Value→H} {w:World} {sp:Nat→Bool} {held:Bool} {fuel:Nat} {t:TypeId} {cs:List Value} {x:DataW H × List MemPlace} {k:IntKind} (ht:P.underlying t=some (.int k)) (h:DataW.trod enc P w 0 sp held fuel t cs=some x):∃n,cs=[.int k n]:=by
  cases fuel with
  | zero=>cases h
  | succ n=>
    unfold DataW.trod at h
    rw [ht] at h
    simp only at h
    split at h<;>simp_all
    all_goals (try (obtain ⟨⟨h1,_⟩,_⟩:=h;subst h1;simp_all))
theorem reads_int {w:World} {t:TypeId} (ht:P.underlying t=some (.int .i64)):Reads P w t Int:=by
  intro H enc sp held fuel cs x h
  obtain ⟨n,rfl⟩:=trod_int ht h
  refine ⟨n,rfl,fun j d hj=>?_⟩
  cases j with
  | zero=>cases hj;exact ⟨_,rfl,.int _ _⟩
  | succ j=>cases hj
theorem add_off {w:World} {a:Addr} (hs:a.spot=none) (i:Nat):a.add i=⟨a.block,a.off+i,none⟩:=by
  unfold Addr.add
  split
  · rename_i h;subst h;obtain ⟨b,o,s⟩:=a;simp only at hs;subst hs;rfl
  · rfl
theorem reads_list {w:World} {t e:TypeId} {α:Type} [Row α] (hpos:1≤Row.sz α) (ht:P.underlying t=some (.slice e)) (hc:P.cellsOf e=Row.sz α) (he:Reads P w e α):Reads P w t (List α):=by
  intro H enc sp held fuel cs x h
  rcases Go.Deep.open_slice ht h with ⟨rfl,_⟩ | ⟨a,len,cap,m,n,D,Pl,rfl,_,hlc,_,hm,_,hx⟩
  · refine ⟨[],rfl,fun j d hj=>?_⟩
    cases j with
    | zero=>cases hj;exact ⟨_,rfl,.nil _ _⟩
    | succ j=>cases hj
  · have hlm:len≤m:=by rw [hm];split<;>omega
    have hx':∀i,i<len→∃(cs':List Value),∃(z:α),w.cells? 0 (a.add (i*P.cellsOf e)) (P.cellsOf e)=some cs'∧cs'.length=Row.sz α∧∀(j:Nat) d,nth (Row.row z) j=some d→∃v,cs'[j]?=some v∧RD (anyK w) w d v:=by
      intro i hi
      obtain ⟨cs',h1,h2⟩:=hx i (by omega)
      obtain ⟨z,h3,h4⟩:=he h2
      exact ⟨cs',z,h1,h3,h4⟩
    by_cases hl0:len=0
    · subst hl0
      refine ⟨[],rfl,fun j d hj=>?_⟩
      cases j with
      | zero=>cases hj;exact ⟨_,rfl,.nil _ _⟩
      | succ j=>cases hj
    · have hne:Nonempty α:=by obtain ⟨_,z,_⟩:=hx' 0 (by omega);exact ⟨z⟩
      have:Inhabited α:=⟨Classical.choice hne⟩
      obtain ⟨f,hf⟩:=Go.Deep.choose_lt (α:=List Value × α) (n:=len) (p:=fun i z=>w.cells? 0 (a.add (i*P.cellsOf e)) (P.cellsOf e)=some z.1∧z.1.length=Row.sz α∧∀(j:Nat) d,nth (Row.row z.2) j=some d→∃v,z.1[j]?=some v∧RD (anyK w) w d v) (fun i hi=>by
        obtain ⟨cs',z,h1,h2,h3⟩:=hx' i hi
        exact ⟨(cs',z),h1,h2,h3⟩)
      have hspot:a.spot=none:=by
        obtain ⟨h1,h2,_⟩:=hf 0 (by omega)
        have:=(World.cells?_some h1).2.2 0 (by omega)
        have hz:a.add (0*P.cellsOf e)=a:=by rw [Nat.zero_mul];rfl
        rw [hz,show a.add 0=a from rfl,List.getElem?_eq_getElem (by omega)] at this
        unfold World.cell? at this
        split at this
        · split at this
          · cases this
          · rename_i h;cases hs:a.spot with
            | none=>rfl
            | some s=>rw [hs] at h;exact absurd rfl h
        · cases this
      have hcell:∀i,i<len→∀j,j<Row.sz α→cellAt w a.block (a.off+i*Row.sz α+j)=(f i).1[j]?:=by
        intro i hi j hj
        obtain ⟨h1,h2,_⟩:=hf i hi
        have:=(World.cells?_some h1).2.2 j (by omega)
        rw [add_off (w:=w) hspot] at this
        rw [add_off (w:=w) rfl] at this
        rw [hc] at this
        exact this
      have hblk:a.block<w.heap.size:=by
        obtain ⟨h1,h2,_⟩:=hf 0 (by omega)
        have:=hcell 0 (by omega) 0 (by omega)
        rw [List.getElem?_eq_getElem (by omega)] at this
        unfold cellAt World.cell? at this
        split at this
        · rename_i c _ _ hb
          exact (Array.getElem?_eq_some_iff.1 hb).1
        · cases this
      refine ⟨(List.range len).map fun i=>(f i).2,rfl,fun j d hj=>?_⟩
      cases j with
      | succ j=>cases hj
      | zero=>
        cases hj
        refine ⟨_,rfl,?_⟩
        have hrl:(((List.range len).map fun i=>(f i).2).map Row.row).length=len:=by simp
        have key:=RD.lst (K:=anyK w) (w:=w) (rows:=((List.range len).map fun i=>(f i).2).map Row.row) (b:=a.block) (off:=a.off) (cap:=cap) (Row.sz α) (fun i j=>(cellAt w a.block (a.off+i*Row.sz α+j)).getD undef) hblk (by rw [hrl];exact hlc) ?_ ?_ ?_
        · rw [hrl] at key
          have ha:(⟨a.block,a.off,none⟩:Addr)=a:=by obtain ⟨b,o,s⟩:=a;simp only at hspot;subst hspot;rfl
          rw [ha] at key
          exact key
        all_goals
          intro i row
          have hrow:nth (((List.range len).map fun i=>(f i).2).map Row.row) i=some row→i<len∧row=Row.row (f i).2:=by
            intro h
            rw [nth_get] at h
            obtain ⟨hi,e⟩:=List.getElem?_eq_some_iff.1 h
            have hi':i<len:=by simpa using hi
            exact ⟨hi',by rw [←e];simp⟩
        · intro h
          obtain ⟨_,rfl⟩:=hrow h
          exact Row.len _
        · intro j d h h'
          obtain ⟨hi,rfl⟩:=hrow h
          obtain ⟨_,h2,h3⟩:=hf i hi
          obtain ⟨v,hv,_⟩:=h3 j d h'
          have hj:j<Row.sz α:=by rw [←h2];exact (List.getElem?_eq_some_iff.1 hv).1
          rw [hcell i hi j hj,hv];rfl
        · intro j d h h'
          obtain ⟨hi,rfl⟩:=hrow h
          obtain ⟨_,h2,h3⟩:=hf i hi
          obtain ⟨v,hv,hrd⟩:=h3 j d h'
          have hj:j<Row.sz α:=by rw [←h2];exact (List.getElem?_eq_some_iff.1 hv).1
          rw [hcell i hi j hj,hv];exact hrd
theorem arg_int {w:World} {t:TypeId} {k:IntKind} (ht:P.underlying t=some (.int k)) {H:Type} {enc:TypeId × Value→H} {v:Value} {d:DataW H} {ps:List MemPlace} {base:Nat} (hv:Value.okWide P w .any base t v) (h:DataW.Trod enc P w 0 (fun _=>true) true t v d ps) :
    ∃n,(Lit.int k n).wf=true∧RV (argE (fun _=>False) w) (.c (.int k n)) v:=by
  obtain ⟨a,rfl,rfl,rfl,wa⟩:=ChangeShapes.open_int ht hv h
  exact ⟨a,wa,.c (.int _ _)⟩
theorem trodAll_stays {H:Type} {enc:TypeId × Value→H} (hl:laidOutB P=true) {W W':World} {sp':Nat→Bool}:∀{ts:List TypeId} {vs:List Value} {ds:List (DataW H)} {ps:List MemPlace},(∀t∈ts,P.readableRec t=true∧t<P.types.size)→DataW.TrodAll enc P W 0 (fun _=>true) true ts vs ds ps→(∀p∈ps,W.sameAt W' p)→(∀p∈ps,sp' p.block=true)→DataW.TrodAll enc P W' 0 sp' true ts vs ds ps
  | [],[],[],ps,_,h,_,_=>h
  | t::ts,v::vs,d::ds,ps,ht,h,h1,h2=>by
    obtain ⟨p,q,a,b,rfl⟩:=h
    have:=ht t (by simp)
    refine ⟨p,q,WideElems.Trod_stays hl this.1 this.2 a (fun x hx=>h1 x (by simp [hx])) (fun x hx=>h2 x (by simp [hx])),trodAll_stays hl (fun t h=>ht t (by simp [h])) b (fun x hx=>h1 x (by simp [hx])) (fun x hx=>h2 x (by simp [hx])),rfl⟩
  | [],_::_,_,_,_,h,_,_=>h.elim
  | [],[],_::_,_,_,h,_,_=>h.elim
  | _::_,[],_,_,_,h,_,_=>h.elim
  | _::_,_::_,[],_,_,h,_,_=>h.elim
theorem RVs_of {E:Env}:∀{xs:List V} {vs:List Value},xs.length=vs.length→(∀(i:Nat) (x:V) (v:Value),xs[i]?=some x→vs[i]?=some v→RV E x v)→RVs E xs vs.toArray:=by
  intro xs vs hl h
  refine ⟨by simp [hl],fun i x hx=>?_⟩
  rw [nth_get] at hx
  have hi:i<vs.length:=by rw [←hl];exact (List.getElem?_eq_some_iff.1 hx).1
  rw [show vs.toArray.getD i undef=vs[i] by simp [Array.getD_eq_getD_getElem?,hi]]
  exact h i x _ hx (List.getElem?_eq_getElem hi)
end Am
