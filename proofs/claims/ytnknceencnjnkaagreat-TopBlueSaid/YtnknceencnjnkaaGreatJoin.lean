/-
  A part of the proof: the texts VtJ of this seat, joined.
-/
import Derived.Test.YtnknceencnjnkaaGreatEqs
import Derived.Test.YtnknceencnjnkaaGreatAmJ
import Derived.Test.YtnknceencnjnkaaGreatAmL
import Derived.Test.YtnknceencnjnkaaGreatWalkA
import Derived.Test.YtnknceencnjnkaaGreatWalkK
open Go Go.Proofs Am
namespace Am.Vt
set_option maxRecDepth 1000000
set_option linter.unusedVariables false
theorem hgrows : GrowsOk Tryz.prog cfg:=by
  intro f e h sz by_ hs hb
  have h':cloneAt f growL=some e:=h
  cases h'
theorem hclones : ClonesOk Tryz.prog cfg:=by
  refine clonesOk_of mixed hgrows ?_
  intro f e h
  have h':cloneAt f cloneL=some e:=h
  cases h'
theorem own : ownKnob Tryz.prog.godebug=none:=by kernel_rfl
theorem laidOut : laidOutB Tryz.prog=true:=by kernel_rfl
theorem reads3 {w:World}:Reads Tryz.prog w 3 Int:=reads_int Tryz.underlying3
theorem trod_bool {P:Program} {H:Type} {enc:TypeId × Value→H} {w:World} {sp:Nat→Bool} {held:Bool} {fuel:Nat} {t:TypeId} {cs:List Value} {x:DataW H × List MemPlace} (ht:P.underlying t=some .bool) (h:DataW.trod enc P w 0 sp held fuel t cs=some x):∃b,cs=[.bool b]:=by
  cases fuel with
  | zero=>cases h
  | succ n=>
    unfold DataW.trod at h
    rw [ht] at h
    simp only at h
    split at h<;>simp_all
    all_goals (try (obtain ⟨h1,_⟩:=h;subst h1;simp_all))
def dC : D→C
  | .int k n=>.int k n
  | .bool b=>.bool b
  | .lst rows=>.lst false rows
theorem r_of {w:World} {d:D} {v:Value} (h:RD (anyK w) w d v):R (argE (fun _=>False) w) (dC d) v:=by
  cases d with
  | int k n=>cases h;exact .int _ _
  | bool b=>cases h;exact .bool _
  | lst rows=>exact .lst (h.arg false)
theorem agg_of {w:World} {ds:List D} {vs:Array Value} (hl:vs.size=ds.length) (hr:∀(j:Nat) d,nth ds j=some d→∃v,vs.toList[j]?=some v∧RD (anyK w) w d v):RV (argE (fun _=>False) w) (.agg (ds.map dC)) (.agg vs):=by
  refine .agg (by rw [List.length_map];exact hl) fun i c hi=>?_
  rw [nth_get,List.getElem?_map] at hi
  cases hd:ds[i]? with
  | none=>rw [hd] at hi;cases hi
  | some d=>
    rw [hd] at hi
    cases hi
    obtain ⟨v,hv,h⟩:=hr i d (by rw [nth_get];exact hd)
    have:vs.getD i undef=v:=by
      rw [Array.getD_eq_getD_getElem?,←Array.getElem?_toList,hv];rfl
    rw [this]
    exact r_of h
theorem reads_range {w:World}:Reads Tryz.prog w 28 Rg:=by
  intro H enc sp held fuel cs x h
  obtain ⟨xs,n,_,_,hl,hx,hf⟩:=DataW.trod_struct Tryz.underlying28 h
  have hlN:cs.length=2:=hl.trans (by kernel_rfl)
  match cs,hlN with
  | [a0,a1],_=>
    have hs0:Tryz.prog.cellsOf 3=1:=by kernel_rfl
    have key:∀(i:Nat) (f:Go.Field),(_:Array Go.Field)[i]?=some f→∃y,DataW.trod enc Tryz.prog w 0 sp held n f.type ((([a0,a1]:List Value).drop f.offset).take (Tryz.prog.cellsOf f.type))=some y:=fun i f hi=>by
      have:=hf i f hi
      have hi':i<xs.length:=by rw [hx];exact (Array.getElem?_eq_some_iff.1 hi).1
      rw [List.getElem?_eq_getElem hi'] at this
      exact ⟨_,this⟩
    obtain ⟨y0,k0⟩:∃y,DataW.trod enc Tryz.prog w 0 sp held n 3 ((([a0,a1]:List Value).drop 0).take (Tryz.prog.cellsOf 3))=some y:=key 0 _ rfl
    obtain ⟨y1,k1⟩:∃y,DataW.trod enc Tryz.prog w 0 sp held n 3 ((([a0,a1]:List Value).drop 1).take (Tryz.prog.cellsOf 3))=some y:=key 1 _ rfl
    simp only [hs0] at k0 k1
    obtain ⟨n0,e0⟩:=trod_int Tryz.underlying3 k0
    simp at e0
    subst e0
    obtain ⟨n1,e1⟩:=trod_int Tryz.underlying3 k1
    simp at e1
    subst e1
    refine ⟨⟨n0,n1⟩,rfl,fun j d hj=>?_⟩
    match j,hj with
    | 0,hj=>cases hj;exact ⟨_,rfl,.int _ _⟩
    | 1,hj=>cases hj;exact ⟨_,rfl,.int _ _⟩
theorem reads_feed {w:World}:Reads Tryz.prog w 88 Fd:=by
  intro H enc sp held fuel cs x h
  obtain ⟨xs,n,_,_,hl,hx,hf⟩:=DataW.trod_struct Tryz.underlying88 h
  have hlN:cs.length=3:=hl.trans (by kernel_rfl)
  match cs,hlN with
  | [a0,a1,a2],_=>
    have hs0:Tryz.prog.cellsOf 3=1:=by kernel_rfl
    have key:∀(i:Nat) (f:Go.Field),(_:Array Go.Field)[i]?=some f→∃y,DataW.trod enc Tryz.prog w 0 sp held n f.type ((([a0,a1,a2]:List Value).drop f.offset).take (Tryz.prog.cellsOf f.type))=some y:=fun i f hi=>by
      have:=hf i f hi
      have hi':i<xs.length:=by rw [hx];exact (Array.getElem?_eq_some_iff.1 hi).1
      rw [List.getElem?_eq_getElem hi'] at this
      exact ⟨_,this⟩
    obtain ⟨y0,k0⟩:∃y,DataW.trod enc Tryz.prog w 0 sp held n 3 ((([a0,a1,a2]:List Value).drop 0).take (Tryz.prog.cellsOf 3))=some y:=key 0 _ rfl
    obtain ⟨y1,k1⟩:∃y,DataW.trod enc Tryz.prog w 0 sp held n 3 ((([a0,a1,a2]:List Value).drop 1).take (Tryz.prog.cellsOf 3))=some y:=key 1 _ rfl
    obtain ⟨y2,k2⟩:∃y,DataW.trod enc Tryz.prog w 0 sp held n 3 ((([a0,a1,a2]:List Value).drop 2).take (Tryz.prog.cellsOf 3))=some y:=key 2 _ rfl
    simp only [hs0] at k0 k1 k2
    obtain ⟨n0,e0⟩:=trod_int Tryz.underlying3 k0
    simp at e0
    subst e0
    obtain ⟨n1,e1⟩:=trod_int Tryz.underlying3 k1
    simp at e1
    subst e1
    obtain ⟨n2,e2⟩:=trod_int Tryz.underlying3 k2
    simp at e2
    subst e2
    refine ⟨⟨n0,n1,n2⟩,rfl,fun j d hj=>?_⟩
    match j,hj with
    | 0,hj=>cases hj;exact ⟨_,rfl,.int _ _⟩
    | 1,hj=>cases hj;exact ⟨_,rfl,.int _ _⟩
    | 2,hj=>cases hj;exact ⟨_,rfl,.int _ _⟩
theorem reads_look {w:World}:Reads Tryz.prog w 90 Lk:=by
  intro H enc sp held fuel cs x h
  obtain ⟨xs,n,_,_,hl,hx,hf⟩:=DataW.trod_struct Tryz.underlying90 h
  have hlN:cs.length=4:=hl.trans (by kernel_rfl)
  match cs,hlN with
  | [a0,a1,a2,a3],_=>
    have hs0:Tryz.prog.cellsOf 3=1:=by kernel_rfl
    have hs1:Tryz.prog.cellsOf 4=1:=by kernel_rfl
    have hs2:Tryz.prog.cellsOf 28=2:=by kernel_rfl
    have key:∀(i:Nat) (f:Go.Field),(_:Array Go.Field)[i]?=some f→∃y,DataW.trod enc Tryz.prog w 0 sp held n f.type ((([a0,a1,a2,a3]:List Value).drop f.offset).take (Tryz.prog.cellsOf f.type))=some y:=fun i f hi=>by
      have:=hf i f hi
      have hi':i<xs.length:=by rw [hx];exact (Array.getElem?_eq_some_iff.1 hi).1
      rw [List.getElem?_eq_getElem hi'] at this
      exact ⟨_,this⟩
    obtain ⟨y0,k0⟩:∃y,DataW.trod enc Tryz.prog w 0 sp held n 3 ((([a0,a1,a2,a3]:List Value).drop 0).take (Tryz.prog.cellsOf 3))=some y:=key 0 _ rfl
    obtain ⟨y1,k1⟩:∃y,DataW.trod enc Tryz.prog w 0 sp held n 4 ((([a0,a1,a2,a3]:List Value).drop 1).take (Tryz.prog.cellsOf 4))=some y:=key 1 _ rfl
    obtain ⟨y2,k2⟩:∃y,DataW.trod enc Tryz.prog w 0 sp held n 28 ((([a0,a1,a2,a3]:List Value).drop 2).take (Tryz.prog.cellsOf 28))=some y:=key 2 _ rfl
    simp only [hs0,hs1,hs2] at k0 k1 k2
    obtain ⟨n0,e0⟩:=trod_int Tryz.underlying3 k0
    simp at e0
    subst e0
    obtain ⟨n1,e1⟩:=trod_bool Tryz.underlying4 k1
    simp at e1
    subst e1
    obtain ⟨n2,_,r2⟩:=reads_range k2
    obtain ⟨v2_0,f2_0,d2_0⟩:=r2 0 _ rfl
    simp at f2_0
    subst f2_0
    obtain ⟨v2_1,f2_1,d2_1⟩:=r2 1 _ rfl
    simp at f2_1
    subst f2_1
    refine ⟨⟨n0,n1,n2⟩,rfl,fun j d hj=>?_⟩
    match j,hj with
    | 0,hj=>cases hj;exact ⟨_,rfl,.int _ _⟩
    | 1,hj=>cases hj;exact ⟨_,rfl,.bool _⟩
    | 2,hj=>cases hj;exact ⟨_,rfl,d2_0⟩
    | 3,hj=>cases hj;exact ⟨_,rfl,d2_1⟩
instance : Row Vat:=⟨12,fun v=>[.int .i64 v.last,.int .i64 v.band,.int .i64 v.start.lo,.int .i64 v.start.hi,.int .i64 v.blue.lo,.int .i64 v.blue.hi,.int .i64 v.gain,.int .i64 v.take,.lst (v.drift.map Row.row),.lst (v.feeds.map Row.row),.lst (v.dips.map Row.row),.lst (v.looks.map Row.row)],fun _=>rfl⟩
theorem reads_vat {w:World}:Reads Tryz.prog w 34 Vat:=by
  intro H enc sp held fuel cs x h
  obtain ⟨xs,n,_,_,hl,hx,hf⟩:=DataW.trod_struct Tryz.underlying34 h
  have hlN:cs.length=12:=hl.trans (by kernel_rfl)
  match cs,hlN with
  | [a0,a1,a2,a3,a4,a5,a6,a7,a8,a9,a10,a11],_=>
    have hs0:Tryz.prog.cellsOf 3=1:=by kernel_rfl
    have hs1:Tryz.prog.cellsOf 28=2:=by kernel_rfl
    have hs2:Tryz.prog.cellsOf 29=1:=by kernel_rfl
    have hs3:Tryz.prog.cellsOf 30=1:=by kernel_rfl
    have hs4:Tryz.prog.cellsOf 31=1:=by kernel_rfl
    have hs5:Tryz.prog.cellsOf 32=1:=by kernel_rfl
    have key:∀(i:Nat) (f:Go.Field),(_:Array Go.Field)[i]?=some f→∃y,DataW.trod enc Tryz.prog w 0 sp held n f.type ((([a0,a1,a2,a3,a4,a5,a6,a7,a8,a9,a10,a11]:List Value).drop f.offset).take (Tryz.prog.cellsOf f.type))=some y:=fun i f hi=>by
      have:=hf i f hi
      have hi':i<xs.length:=by rw [hx];exact (Array.getElem?_eq_some_iff.1 hi).1
      rw [List.getElem?_eq_getElem hi'] at this
      exact ⟨_,this⟩
    obtain ⟨y0,k0⟩:∃y,DataW.trod enc Tryz.prog w 0 sp held n 3 ((([a0,a1,a2,a3,a4,a5,a6,a7,a8,a9,a10,a11]:List Value).drop 0).take (Tryz.prog.cellsOf 3))=some y:=key 0 _ rfl
    obtain ⟨y1,k1⟩:∃y,DataW.trod enc Tryz.prog w 0 sp held n 3 ((([a0,a1,a2,a3,a4,a5,a6,a7,a8,a9,a10,a11]:List Value).drop 1).take (Tryz.prog.cellsOf 3))=some y:=key 1 _ rfl
    obtain ⟨y2,k2⟩:∃y,DataW.trod enc Tryz.prog w 0 sp held n 28 ((([a0,a1,a2,a3,a4,a5,a6,a7,a8,a9,a10,a11]:List Value).drop 2).take (Tryz.prog.cellsOf 28))=some y:=key 2 _ rfl
    obtain ⟨y3,k3⟩:∃y,DataW.trod enc Tryz.prog w 0 sp held n 28 ((([a0,a1,a2,a3,a4,a5,a6,a7,a8,a9,a10,a11]:List Value).drop 4).take (Tryz.prog.cellsOf 28))=some y:=key 3 _ rfl
    obtain ⟨y4,k4⟩:∃y,DataW.trod enc Tryz.prog w 0 sp held n 3 ((([a0,a1,a2,a3,a4,a5,a6,a7,a8,a9,a10,a11]:List Value).drop 6).take (Tryz.prog.cellsOf 3))=some y:=key 4 _ rfl
    obtain ⟨y5,k5⟩:∃y,DataW.trod enc Tryz.prog w 0 sp held n 3 ((([a0,a1,a2,a3,a4,a5,a6,a7,a8,a9,a10,a11]:List Value).drop 7).take (Tryz.prog.cellsOf 3))=some y:=key 5 _ rfl
    obtain ⟨y6,k6⟩:∃y,DataW.trod enc Tryz.prog w 0 sp held n 29 ((([a0,a1,a2,a3,a4,a5,a6,a7,a8,a9,a10,a11]:List Value).drop 8).take (Tryz.prog.cellsOf 29))=some y:=key 6 _ rfl
    obtain ⟨y7,k7⟩:∃y,DataW.trod enc Tryz.prog w 0 sp held n 30 ((([a0,a1,a2,a3,a4,a5,a6,a7,a8,a9,a10,a11]:List Value).drop 9).take (Tryz.prog.cellsOf 30))=some y:=key 7 _ rfl
    obtain ⟨y8,k8⟩:∃y,DataW.trod enc Tryz.prog w 0 sp held n 31 ((([a0,a1,a2,a3,a4,a5,a6,a7,a8,a9,a10,a11]:List Value).drop 10).take (Tryz.prog.cellsOf 31))=some y:=key 8 _ rfl
    obtain ⟨y9,k9⟩:∃y,DataW.trod enc Tryz.prog w 0 sp held n 32 ((([a0,a1,a2,a3,a4,a5,a6,a7,a8,a9,a10,a11]:List Value).drop 11).take (Tryz.prog.cellsOf 32))=some y:=key 9 _ rfl
    simp only [hs0,hs1,hs2,hs3,hs4,hs5] at k0 k1 k2 k3 k4 k5 k6 k7 k8 k9
    obtain ⟨n0,e0⟩:=trod_int Tryz.underlying3 k0
    simp at e0
    subst e0
    obtain ⟨n1,e1⟩:=trod_int Tryz.underlying3 k1
    simp at e1
    subst e1
    obtain ⟨n2,_,r2⟩:=reads_range k2
    obtain ⟨v2_0,f2_0,d2_0⟩:=r2 0 _ rfl
    simp at f2_0
    subst f2_0
    obtain ⟨v2_1,f2_1,d2_1⟩:=r2 1 _ rfl
    simp at f2_1
    subst f2_1
    obtain ⟨n3,_,r3⟩:=reads_range k3
    obtain ⟨v3_0,f3_0,d3_0⟩:=r3 0 _ rfl
    simp at f3_0
    subst f3_0
    obtain ⟨v3_1,f3_1,d3_1⟩:=r3 1 _ rfl
    simp at f3_1
    subst f3_1
    obtain ⟨n4,e4⟩:=trod_int Tryz.underlying3 k4
    simp at e4
    subst e4
    obtain ⟨n5,e5⟩:=trod_int Tryz.underlying3 k5
    simp at e5
    subst e5
    obtain ⟨n6,_,r6⟩:=reads_list (α:=Rg) (by decide) Tryz.underlying29 (by kernel_rfl) reads_range k6
    obtain ⟨v6,f6,d6⟩:=r6 0 _ rfl
    simp at f6
    subst f6
    obtain ⟨n7,_,r7⟩:=reads_list (α:=Fd) (by decide) Tryz.underlying30 (by kernel_rfl) reads_feed k7
    obtain ⟨v7,f7,d7⟩:=r7 0 _ rfl
    simp at f7
    subst f7
    obtain ⟨n8,_,r8⟩:=reads_list (α:=Int) (by decide) Tryz.underlying31 (by kernel_rfl) reads3 k8
    obtain ⟨v8,f8,d8⟩:=r8 0 _ rfl
    simp at f8
    subst f8
    obtain ⟨n9,_,r9⟩:=reads_list (α:=Lk) (by decide) Tryz.underlying32 (by kernel_rfl) reads_look k9
    obtain ⟨v9,f9,d9⟩:=r9 0 _ rfl
    simp at f9
    subst f9
    refine ⟨⟨n0,n1,n2,n3,n4,n5,n6,n7,n8,n9⟩,rfl,fun j d hj=>?_⟩
    match j,hj with
    | 0,hj=>cases hj;exact ⟨_,rfl,.int _ _⟩
    | 1,hj=>cases hj;exact ⟨_,rfl,.int _ _⟩
    | 2,hj=>cases hj;exact ⟨_,rfl,d2_0⟩
    | 3,hj=>cases hj;exact ⟨_,rfl,d2_1⟩
    | 4,hj=>cases hj;exact ⟨_,rfl,d3_0⟩
    | 5,hj=>cases hj;exact ⟨_,rfl,d3_1⟩
    | 6,hj=>cases hj;exact ⟨_,rfl,.int _ _⟩
    | 7,hj=>cases hj;exact ⟨_,rfl,.int _ _⟩
    | 8,hj=>cases hj;exact ⟨_,rfl,d6⟩
    | 9,hj=>cases hj;exact ⟨_,rfl,d7⟩
    | 10,hj=>cases hj;exact ⟨_,rfl,d8⟩
    | 11,hj=>cases hj;exact ⟨_,rfl,d9⟩
abbrev vatW0 (v:Vat):V:=vatV (false,false) (false,false) (false,false) (false,false) v
theorem arg_vat {w:World} {H:Type} {enc:TypeId × Value→H} {v:Value} {d:DataW H} {ps:List MemPlace} {base:Nat} (hv:Value.okWide Tryz.prog w .any base 34 v) (h:DataW.Trod enc Tryz.prog w 0 (fun _=>true) true 34 v d ps) :
    ∃x:Vat,RV (argE (fun _=>False) w) (vatW0 x) v:=by
  obtain ⟨fuel,h⟩:=h
  unfold Value.okWide at hv
  rw [Tryz.underlying34] at hv
  obtain ⟨arr,rfl,_,_⟩:=hv
  obtain ⟨x,hl,hr⟩:=reads_vat h
  simp only [Value.cells] at hl hr
  exact ⟨x,agg_of (ds:=Row.row x) (by rw [Row.len];exact hl) hr⟩
theorem reads_range5 {w:World}:Reads Tryz.prog w 81 Rg:=by
  intro H enc sp held fuel cs x h
  obtain ⟨xs,n,_,_,hl,hx,hf⟩:=DataW.trod_struct Tryz.underlying81 h
  have hlN:cs.length=2:=hl.trans (by kernel_rfl)
  match cs,hlN with
  | [a0,a1],_=>
    have hs0:Tryz.prog.cellsOf 3=1:=by kernel_rfl
    have key:∀(i:Nat) (f:Go.Field),(_:Array Go.Field)[i]?=some f→∃y,DataW.trod enc Tryz.prog w 0 sp held n f.type ((([a0,a1]:List Value).drop f.offset).take (Tryz.prog.cellsOf f.type))=some y:=fun i f hi=>by
      have:=hf i f hi
      have hi':i<xs.length:=by rw [hx];exact (Array.getElem?_eq_some_iff.1 hi).1
      rw [List.getElem?_eq_getElem hi'] at this
      exact ⟨_,this⟩
    obtain ⟨y0,k0⟩:∃y,DataW.trod enc Tryz.prog w 0 sp held n 3 ((([a0,a1]:List Value).drop 0).take (Tryz.prog.cellsOf 3))=some y:=key 0 _ rfl
    obtain ⟨y1,k1⟩:∃y,DataW.trod enc Tryz.prog w 0 sp held n 3 ((([a0,a1]:List Value).drop 1).take (Tryz.prog.cellsOf 3))=some y:=key 1 _ rfl
    simp only [hs0] at k0 k1
    obtain ⟨n0,e0⟩:=trod_int Tryz.underlying3 k0
    simp at e0
    subst e0
    obtain ⟨n1,e1⟩:=trod_int Tryz.underlying3 k1
    simp at e1
    subst e1
    refine ⟨⟨n0,n1⟩,rfl,fun j d hj=>?_⟩
    match j,hj with
    | 0,hj=>cases hj;exact ⟨_,rfl,.int _ _⟩
    | 1,hj=>cases hj;exact ⟨_,rfl,.int _ _⟩
theorem reads_trial5 {w:World}:Reads Tryz.prog w 84 Tr:=by
  intro H enc sp held fuel cs x h
  obtain ⟨xs,n,_,_,hl,hx,hf⟩:=DataW.trod_struct Tryz.underlying84 h
  have hlN:cs.length=4:=hl.trans (by kernel_rfl)
  match cs,hlN with
  | [a0,a1,a2,a3],_=>
    have hs0:Tryz.prog.cellsOf 4=1:=by kernel_rfl
    have hs1:Tryz.prog.cellsOf 3=1:=by kernel_rfl
    have hs2:Tryz.prog.cellsOf 81=2:=by kernel_rfl
    have key:∀(i:Nat) (f:Go.Field),(_:Array Go.Field)[i]?=some f→∃y,DataW.trod enc Tryz.prog w 0 sp held n f.type ((([a0,a1,a2,a3]:List Value).drop f.offset).take (Tryz.prog.cellsOf f.type))=some y:=fun i f hi=>by
      have:=hf i f hi
      have hi':i<xs.length:=by rw [hx];exact (Array.getElem?_eq_some_iff.1 hi).1
      rw [List.getElem?_eq_getElem hi'] at this
      exact ⟨_,this⟩
    obtain ⟨y0,k0⟩:∃y,DataW.trod enc Tryz.prog w 0 sp held n 4 ((([a0,a1,a2,a3]:List Value).drop 0).take (Tryz.prog.cellsOf 4))=some y:=key 0 _ rfl
    obtain ⟨y1,k1⟩:∃y,DataW.trod enc Tryz.prog w 0 sp held n 3 ((([a0,a1,a2,a3]:List Value).drop 1).take (Tryz.prog.cellsOf 3))=some y:=key 1 _ rfl
    obtain ⟨y2,k2⟩:∃y,DataW.trod enc Tryz.prog w 0 sp held n 81 ((([a0,a1,a2,a3]:List Value).drop 2).take (Tryz.prog.cellsOf 81))=some y:=key 2 _ rfl
    simp only [hs0,hs1,hs2] at k0 k1 k2
    obtain ⟨n0,e0⟩:=trod_bool Tryz.underlying4 k0
    simp at e0
    subst e0
    obtain ⟨n1,e1⟩:=trod_int Tryz.underlying3 k1
    simp at e1
    subst e1
    obtain ⟨n2,_,r2⟩:=reads_range5 k2
    obtain ⟨v2_0,f2_0,d2_0⟩:=r2 0 _ rfl
    simp at f2_0
    subst f2_0
    obtain ⟨v2_1,f2_1,d2_1⟩:=r2 1 _ rfl
    simp at f2_1
    subst f2_1
    refine ⟨⟨n0,n1,n2⟩,rfl,fun j d hj=>?_⟩
    match j,hj with
    | 0,hj=>cases hj;exact ⟨_,rfl,.bool _⟩
    | 1,hj=>cases hj;exact ⟨_,rfl,.int _ _⟩
    | 2,hj=>cases hj;exact ⟨_,rfl,d2_0⟩
    | 3,hj=>cases hj;exact ⟨_,rfl,d2_1⟩
theorem reads_ints {w:World}:Reads Tryz.prog w 31 (List Int):=reads_list (α:=Int) (by decide) Tryz.underlying31 (by kernel_rfl) reads3
instance : Row Cellar:=⟨3,fun c=>[.lst (c.heaps.map Row.row),.lst (c.casks.map Row.row),.lst (c.trials.map Row.row)],fun _=>rfl⟩
theorem reads_cell {w:World}:Reads Tryz.prog w 26 Cellar:=by
  intro H enc sp held fuel cs x h
  obtain ⟨xs,n,_,_,hl,hx,hf⟩:=DataW.trod_struct Tryz.underlying26 h
  have hlN:cs.length=3:=hl.trans (by kernel_rfl)
  match cs,hlN with
  | [a0,a1,a2],_=>
    have hs0:Tryz.prog.cellsOf 22=1:=by kernel_rfl
    have hs1:Tryz.prog.cellsOf 23=1:=by kernel_rfl
    have hs2:Tryz.prog.cellsOf 24=1:=by kernel_rfl
    have key:∀(i:Nat) (f:Go.Field),(_:Array Go.Field)[i]?=some f→∃y,DataW.trod enc Tryz.prog w 0 sp held n f.type ((([a0,a1,a2]:List Value).drop f.offset).take (Tryz.prog.cellsOf f.type))=some y:=fun i f hi=>by
      have:=hf i f hi
      have hi':i<xs.length:=by rw [hx];exact (Array.getElem?_eq_some_iff.1 hi).1
      rw [List.getElem?_eq_getElem hi'] at this
      exact ⟨_,this⟩
    obtain ⟨y0,k0⟩:∃y,DataW.trod enc Tryz.prog w 0 sp held n 22 ((([a0,a1,a2]:List Value).drop 0).take (Tryz.prog.cellsOf 22))=some y:=key 0 _ rfl
    obtain ⟨y1,k1⟩:∃y,DataW.trod enc Tryz.prog w 0 sp held n 23 ((([a0,a1,a2]:List Value).drop 1).take (Tryz.prog.cellsOf 23))=some y:=key 1 _ rfl
    obtain ⟨y2,k2⟩:∃y,DataW.trod enc Tryz.prog w 0 sp held n 24 ((([a0,a1,a2]:List Value).drop 2).take (Tryz.prog.cellsOf 24))=some y:=key 2 _ rfl
    simp only [hs0,hs1,hs2] at k0 k1 k2
    obtain ⟨n0,_,r0⟩:=reads_list (α:=Rg) (by decide) Tryz.underlying22 (by kernel_rfl) reads_range5 k0
    obtain ⟨v0,f0,d0⟩:=r0 0 _ rfl
    simp at f0
    subst f0
    obtain ⟨n1,_,r1⟩:=reads_list (α:=(List Int)) (by decide) Tryz.underlying23 (by kernel_rfl) reads_ints k1
    obtain ⟨v1,f1,d1⟩:=r1 0 _ rfl
    simp at f1
    subst f1
    obtain ⟨n2,_,r2⟩:=reads_list (α:=Tr) (by decide) Tryz.underlying24 (by kernel_rfl) reads_trial5 k2
    obtain ⟨v2,f2,d2⟩:=r2 0 _ rfl
    simp at f2
    subst f2
    refine ⟨⟨n0,n1,n2⟩,rfl,fun j d hj=>?_⟩
    match j,hj with
    | 0,hj=>cases hj;exact ⟨_,rfl,d0⟩
    | 1,hj=>cases hj;exact ⟨_,rfl,d1⟩
    | 2,hj=>cases hj;exact ⟨_,rfl,d2⟩
theorem arg_cell {w:World} {H:Type} {enc:TypeId × Value→H} {v:Value} {d:DataW H} {ps:List MemPlace} {base:Nat} (hv:Value.okWide Tryz.prog w .any base 26 v) (h:DataW.Trod enc Tryz.prog w 0 (fun _=>true) true 26 v d ps) :
    ∃x:Cellar,RV (argE (fun _=>False) w) (cellV (false,false) (false,false) (false,false) x) v:=by
  obtain ⟨fuel,h⟩:=h
  unfold Value.okWide at hv
  rw [Tryz.underlying26] at hv
  obtain ⟨arr,rfl,_,_⟩:=hv
  obtain ⟨x,hl,hr⟩:=reads_cell h
  simp only [Value.cells] at hl hr
  exact ⟨x,agg_of (ds:=Row.row x) (by rw [Row.len];exact hl) hr⟩
end Am.Vt
