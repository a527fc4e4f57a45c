/-
  A part of the proof: the texts TmJH of this seat, joined.
-/
import Derived.Test.YtaegabccdfhfgaaGreatJoin
import Derived.Test.YtaegabccdfhfgaaGreatWalkH
open Go Go.Proofs Am Am.Tm Am.Cr
namespace Am.Hp
set_option maxRecDepth 1000000
set_option linter.unusedVariables false
theorem reads3 {w:World}:Reads Tryz.prog w 3 Int:=reads_int Tryz.underlying3
theorem reads_range {w:World}:Reads Tryz.prog w 28 Rg:=by
  intro H enc sp held fuel cs x h
  obtain ⟨xs,n,_,_,hl,hx,hf⟩:=DataW.trod_struct Tryz.underlying28 h
  have hl2:cs.length=2:=hl.trans (by kernel_rfl)
  match cs,hl2 with
  | [a,b],_=>
    have hsz:Tryz.prog.cellsOf 3=1:=by kernel_rfl
    have key:∀(i:Nat) (f:Go.Field),(_:Array Go.Field)[i]?=some f→∃y,DataW.trod enc Tryz.prog w 0 sp held n f.type ((([a,b]:List Value).drop f.offset).take (Tryz.prog.cellsOf f.type))=some y:=fun i f hi=>by
      have:=hf i f hi
      have hi':i<xs.length:=by rw [hx];exact (Array.getElem?_eq_some_iff.1 hi).1
      rw [List.getElem?_eq_getElem hi'] at this
      exact ⟨_,this⟩
    obtain ⟨y0,k0⟩:∃y,DataW.trod enc Tryz.prog w 0 sp held n 3 ((([a,b]:List Value).drop 0).take (Tryz.prog.cellsOf 3))=some y:=key 0 _ rfl
    obtain ⟨y1,k1⟩:∃y,DataW.trod enc Tryz.prog w 0 sp held n 3 ((([a,b]:List Value).drop 1).take (Tryz.prog.cellsOf 3))=some y:=key 1 _ rfl
    simp only [hsz] at k0 k1
    obtain ⟨n0,e0⟩:=trod_int Tryz.underlying3 k0
    obtain ⟨n1,e1⟩:=trod_int Tryz.underlying3 k1
    simp at e0 e1
    subst e0;subst e1
    refine ⟨⟨n0,n1⟩,rfl,fun j d hj=>?_⟩
    match j,hj with
    | 0,hj=>cases hj;exact ⟨_,rfl,.int _ _⟩
    | 1,hj=>cases hj;exact ⟨_,rfl,.int _ _⟩
theorem reads_rd {w:World}:Reads Tryz.prog w 77 Rd:=by
  intro H enc sp held fuel cs x h
  obtain ⟨xs,n,_,_,hl,hx,hf⟩:=DataW.trod_struct Tryz.underlying77 h
  have hl3:cs.length=3:=hl.trans (by kernel_rfl)
  match cs,hl3 with
  | [a,b,c],_=>
    have hsz:Tryz.prog.cellsOf 3=1:=by kernel_rfl
    have key:∀(i:Nat) (f:Go.Field),(_:Array Go.Field)[i]?=some f→∃y,DataW.trod enc Tryz.prog w 0 sp held n f.type ((([a,b,c]:List Value).drop f.offset).take (Tryz.prog.cellsOf f.type))=some y:=fun i f hi=>by
      have:=hf i f hi
      have hi':i<xs.length:=by rw [hx];exact (Array.getElem?_eq_some_iff.1 hi).1
      rw [List.getElem?_eq_getElem hi'] at this
      exact ⟨_,this⟩
    obtain ⟨y0,k0⟩:∃y,DataW.trod enc Tryz.prog w 0 sp held n 3 ((([a,b,c]:List Value).drop 0).take (Tryz.prog.cellsOf 3))=some y:=key 0 _ rfl
    obtain ⟨y1,k1⟩:∃y,DataW.trod enc Tryz.prog w 0 sp held n 3 ((([a,b,c]:List Value).drop 1).take (Tryz.prog.cellsOf 3))=some y:=key 1 _ rfl
    obtain ⟨y2,k2⟩:∃y,DataW.trod enc Tryz.prog w 0 sp held n 3 ((([a,b,c]:List Value).drop 2).take (Tryz.prog.cellsOf 3))=some y:=key 2 _ rfl
    simp only [hsz] at k0 k1 k2
    obtain ⟨n0,e0⟩:=trod_int Tryz.underlying3 k0
    obtain ⟨n1,e1⟩:=trod_int Tryz.underlying3 k1
    obtain ⟨n2,e2⟩:=trod_int Tryz.underlying3 k2
    simp at e0 e1 e2
    subst e0;subst e1;subst e2
    refine ⟨⟨n0,n1,n2⟩,rfl,fun j d hj=>?_⟩
    match j,hj with
    | 0,hj=>cases hj;exact ⟨_,rfl,.int _ _⟩
    | 1,hj=>cases hj;exact ⟨_,rfl,.int _ _⟩
    | 2,hj=>cases hj;exact ⟨_,rfl,.int _ _⟩
theorem arg_heap {w:World} {H:Type} {enc:TypeId × Value→H} {v:Value} {d:DataW H} {ps:List MemPlace} {base:Nat} (hv:Value.okWide Tryz.prog w .any base 32 v) (h:DataW.Trod enc Tryz.prog w 0 (fun _=>true) true 32 v d ps) :
    ∃x:Heap,RV (argE (fun _=>False) w) (heapV (false,false) (false,false) (false,false) x) v:=by
  obtain ⟨fuel,h⟩:=h
  unfold Value.okWide at hv
  rw [Tryz.underlying32] at hv
  obtain ⟨arr,rfl,_,_⟩:=hv
  obtain ⟨xs,n,_,_,hl,hx,hf⟩:=DataW.trod_struct Tryz.underlying32 h
  have hlN:arr.toList.length=10:=hl.trans (by kernel_rfl)
  obtain ⟨cs⟩:=arr
  simp only [Value.cells] at hf hlN ⊢
  match cs,hlN with
  | [a0,a1,a2,a3,a4,a5,a6,a7,a8,a9],_=>
    have hs3:Tryz.prog.cellsOf 3=1:=by kernel_rfl
    have hsI:Tryz.prog.cellsOf 23=1:=by kernel_rfl
    have hsR:Tryz.prog.cellsOf 28=2:=by kernel_rfl
    have hsL:Tryz.prog.cellsOf 29=1:=by kernel_rfl
    have hsK:Tryz.prog.cellsOf 30=1:=by kernel_rfl
    have hsk:Tryz.prog.cellsOf 77=3:=by kernel_rfl
    have key:∀(i:Nat) (f:Go.Field),(_:Array Go.Field)[i]?=some f→∃y,DataW.trod enc Tryz.prog w 0 (fun _=>true) true n f.type ((([a0,a1,a2,a3,a4,a5,a6,a7,a8,a9]:List Value).drop f.offset).take (Tryz.prog.cellsOf f.type))=some y:=fun i f hi=>by
      have:=hf i f hi
      have hi':i<xs.length:=by rw [hx];exact (Array.getElem?_eq_some_iff.1 hi).1
      rw [List.getElem?_eq_getElem hi'] at this
      exact ⟨_,this⟩
    obtain ⟨y0,k0⟩:∃y,DataW.trod enc Tryz.prog w 0 (fun _=>true) true n 3 ((([a0,a1,a2,a3,a4,a5,a6,a7,a8,a9]:List Value).drop 0).take (Tryz.prog.cellsOf 3))=some y:=key 0 _ rfl
    obtain ⟨y1,k1⟩:∃y,DataW.trod enc Tryz.prog w 0 (fun _=>true) true n 3 ((([a0,a1,a2,a3,a4,a5,a6,a7,a8,a9]:List Value).drop 1).take (Tryz.prog.cellsOf 3))=some y:=key 1 _ rfl
    obtain ⟨y2,k2⟩:∃y,DataW.trod enc Tryz.prog w 0 (fun _=>true) true n 3 ((([a0,a1,a2,a3,a4,a5,a6,a7,a8,a9]:List Value).drop 2).take (Tryz.prog.cellsOf 3))=some y:=key 2 _ rfl
    obtain ⟨y3,k3⟩:∃y,DataW.trod enc Tryz.prog w 0 (fun _=>true) true n 3 ((([a0,a1,a2,a3,a4,a5,a6,a7,a8,a9]:List Value).drop 3).take (Tryz.prog.cellsOf 3))=some y:=key 3 _ rfl
    obtain ⟨y4,k4⟩:∃y,DataW.trod enc Tryz.prog w 0 (fun _=>true) true n 3 ((([a0,a1,a2,a3,a4,a5,a6,a7,a8,a9]:List Value).drop 4).take (Tryz.prog.cellsOf 3))=some y:=key 4 _ rfl
    obtain ⟨y5,k5⟩:∃y,DataW.trod enc Tryz.prog w 0 (fun _=>true) true n 28 ((([a0,a1,a2,a3,a4,a5,a6,a7,a8,a9]:List Value).drop 5).take (Tryz.prog.cellsOf 28))=some y:=key 5 _ rfl
    obtain ⟨y6,k6⟩:∃y,DataW.trod enc Tryz.prog w 0 (fun _=>true) true n 29 ((([a0,a1,a2,a3,a4,a5,a6,a7,a8,a9]:List Value).drop 7).take (Tryz.prog.cellsOf 29))=some y:=key 6 _ rfl
    obtain ⟨y7,k7⟩:∃y,DataW.trod enc Tryz.prog w 0 (fun _=>true) true n 23 ((([a0,a1,a2,a3,a4,a5,a6,a7,a8,a9]:List Value).drop 8).take (Tryz.prog.cellsOf 23))=some y:=key 7 _ rfl
    obtain ⟨y8,k8⟩:∃y,DataW.trod enc Tryz.prog w 0 (fun _=>true) true n 30 ((([a0,a1,a2,a3,a4,a5,a6,a7,a8,a9]:List Value).drop 9).take (Tryz.prog.cellsOf 30))=some y:=key 8 _ rfl
    simp only [hs3,hsI,hsR,hsL,hsK] at k0 k1 k2 k3 k4 k5 k6 k7 k8
    obtain ⟨n0,e0⟩:=trod_int Tryz.underlying3 k0
    obtain ⟨n1,e1⟩:=trod_int Tryz.underlying3 k1
    obtain ⟨n2,e2⟩:=trod_int Tryz.underlying3 k2
    obtain ⟨n3,e3⟩:=trod_int Tryz.underlying3 k3
    obtain ⟨n4,e4⟩:=trod_int Tryz.underlying3 k4
    simp at e0 e1 e2 e3 e4
    subst e0;subst e1;subst e2;subst e3;subst e4
    obtain ⟨r,_,r5⟩:=reads_range k5
    obtain ⟨x6,_,r6⟩:=reads_list (α:=Rg) (by decide) Tryz.underlying29 hsR reads_range k6
    obtain ⟨x7,_,r7⟩:=reads_list (α:=Int) (by decide) Tryz.underlying23 hs3 reads3 k7
    obtain ⟨x8,_,r8⟩:=reads_list (α:=Rd) (by decide) Tryz.underlying30 hsk reads_rd k8
    obtain ⟨v5,f5,d5⟩:=r5 0 _ rfl
    obtain ⟨v5',f5',d5'⟩:=r5 1 _ rfl
    obtain ⟨v6,f6,d6⟩:=r6 0 _ rfl
    obtain ⟨v7,f7,d7⟩:=r7 0 _ rfl
    obtain ⟨v8,f8,d8⟩:=r8 0 _ rfl
    simp at f5 f5' f6 f7 f8
    subst f5;subst f5';subst f6;subst f7;subst f8
    have d5:=rd_int d5
    have d5':=rd_int d5'
    subst d5;subst d5'
    refine ⟨⟨n0,n1,n2,n3,n4,r,x6,x7,x8⟩,.agg rfl fun i c hi=>?_⟩
    match i,hi with
    | 0,hi=>cases hi;exact .int _ _
    | 1,hi=>cases hi;exact .int _ _
    | 2,hi=>cases hi;exact .int _ _
    | 3,hi=>cases hi;exact .int _ _
    | 4,hi=>cases hi;exact .int _ _
    | 5,hi=>cases hi;exact .int _ _
    | 6,hi=>cases hi;exact .int _ _
    | 7,hi=>cases hi;exact .lst (d6.arg false)
    | 8,hi=>cases hi;exact .lst (d7.arg false)
    | 9,hi=>cases hi;exact .lst (d8.arg false)
end Am.Hp
