/-
  A part of the proof: the texts TmJM of this seat, joined.
-/
import Derived.Test.YthngdnopngphfaaGreatJoin
import Derived.Test.YthngdnopngphfaaGreatWalkM
open Go Go.Proofs Am Am.Tm
namespace Am.Mv
set_option maxRecDepth 1000000
set_option linter.unusedVariables false
theorem reads3 {w:World}:Reads Tryz.prog w 3 Int:=reads_int Tryz.underlying3
theorem reads_site {w:World}:Reads Tryz.prog w 70 Site:=by
  intro H enc sp held fuel cs x h
  obtain ⟨xs,n,_,_,hl,hx,hf⟩:=DataW.trod_struct Tryz.underlying70 h
  have hl3:cs.length=3:=hl.trans (by kernel_rfl)
  match cs,hl3 with
  | [a,b,c],_=>
    have hsz:Tryz.prog.cellsOf 3=1:=by kernel_rfl
    have key:∀(i:Nat) (f:Go.Field),(_:Array Go.Field)[i]?=some f→∃y,DataW.trod enc Tryz.prog w 0 sp held n f.type ((([a,b,c]:List Value).drop f.offset).take (Tryz.prog.cellsOf f.type))=some y:=fun i f hi=>by
      have:=hf i f hi
      have hi':i<xs.length:=by rw [hx];exact (Array.getElem?_eq_some_iff.1 hi).1
      rw [List.getElem?_eq_getElem hi'] at this
      exact ⟨_,this⟩
    obtain ⟨y0,k0⟩:∃y,DataW.trod enc Tryz.prog w 0 sp held n 3 ((([a,b,c]:List Value).drop 0).take (Tryz.prog.cellsOf 3))=some y:=key 0 _ rfl
    obtain ⟨y1,k1⟩:∃y,DataW.trod enc Tryz.prog w 0 sp held n 3 ((([a,b,c]:List Value).drop 1).take (Tryz.prog.cellsOf 3))=some y:=key 1 _ rfl
    obtain ⟨y2,k2⟩:∃y,DataW.trod enc Tryz.prog w 0 sp held n 3 ((([a,b,c]:List Value).drop 2).take (Tryz.prog.cellsOf 3))=some y:=key 2 _ rfl
    simp only [hsz] at k0 k1 k2
    obtain ⟨n0,e0⟩:=trod_int Tryz.underlying3 k0
    obtain ⟨n1,e1⟩:=trod_int Tryz.underlying3 k1
    obtain ⟨n2,e2⟩:=trod_int Tryz.underlying3 k2
    simp at e0 e1 e2
    subst e0;subst e1;subst e2
    refine ⟨⟨n0,n1,n2⟩,rfl,fun j d hj=>?_⟩
    match j,hj with
    | 0,hj=>cases hj;exact ⟨_,rfl,.int _ _⟩
    | 1,hj=>cases hj;exact ⟨_,rfl,.int _ _⟩
    | 2,hj=>cases hj;exact ⟨_,rfl,.int _ _⟩
theorem arg_land {w:World} {H:Type} {enc:TypeId × Value→H} {v:Value} {d:DataW H} {ps:List MemPlace} {base:Nat} (hv:Value.okWide Tryz.prog w .any base 30 v) (h:DataW.Trod enc Tryz.prog w 0 (fun _=>true) true 30 v d ps) :
    ∃l:Land,RV (argE (fun _=>False) w) (.agg [.int .i64 l.last,.int .i64 l.home,.int .i64 l.purse,.int .i64 l.bad,.int .i64 l.rest,L (false,false) l.sites,L (false,false) l.roads]) v:=by
  obtain ⟨fuel,h⟩:=h
  unfold Value.okWide at hv
  rw [Tryz.underlying30] at hv
  obtain ⟨arr,rfl,_,_⟩:=hv
  obtain ⟨xs,n,_,_,hl,hx,hf⟩:=DataW.trod_struct Tryz.underlying30 h
  have hl7:arr.toList.length=7:=hl.trans (by kernel_rfl)
  obtain ⟨cs⟩:=arr
  simp only [Value.cells] at hf hl7 ⊢
  match cs,hl7 with
  | [a0,a1,a2,a3,a4,a5,a6],_=>
    have hs3:Tryz.prog.cellsOf 3=1:=by kernel_rfl
    have hs22:Tryz.prog.cellsOf 27=1:=by kernel_rfl
    have hs23:Tryz.prog.cellsOf 28=1:=by kernel_rfl
    have hs74:Tryz.prog.cellsOf 70=3:=by kernel_rfl
    have hs26:Tryz.prog.cellsOf 23=1:=by kernel_rfl
    have key:∀(i:Nat) (f:Go.Field),(_:Array Go.Field)[i]?=some f→∃y,DataW.trod enc Tryz.prog w 0 (fun _=>true) true n f.type ((([a0,a1,a2,a3,a4,a5,a6]:List Value).drop f.offset).take (Tryz.prog.cellsOf f.type))=some y:=fun i f hi=>by
      have:=hf i f hi
      have hi':i<xs.length:=by rw [hx];exact (Array.getElem?_eq_some_iff.1 hi).1
      rw [List.getElem?_eq_getElem hi'] at this
      exact ⟨_,this⟩
    obtain ⟨y0,k0⟩:∃y,DataW.trod enc Tryz.prog w 0 (fun _=>true) true n 3 ((([a0,a1,a2,a3,a4,a5,a6]:List Value).drop 0).take (Tryz.prog.cellsOf 3))=some y:=key 0 _ rfl
    obtain ⟨y1,k1⟩:∃y,DataW.trod enc Tryz.prog w 0 (fun _=>true) true n 3 ((([a0,a1,a2,a3,a4,a5,a6]:List Value).drop 1).take (Tryz.prog.cellsOf 3))=some y:=key 1 _ rfl
    obtain ⟨y2,k2⟩:∃y,DataW.trod enc Tryz.prog w 0 (fun _=>true) true n 3 ((([a0,a1,a2,a3,a4,a5,a6]:List Value).drop 2).take (Tryz.prog.cellsOf 3))=some y:=key 2 _ rfl
    obtain ⟨y3,k3⟩:∃y,DataW.trod enc Tryz.prog w 0 (fun _=>true) true n 3 ((([a0,a1,a2,a3,a4,a5,a6]:List Value).drop 3).take (Tryz.prog.cellsOf 3))=some y:=key 3 _ rfl
    obtain ⟨y4,k4⟩:∃y,DataW.trod enc Tryz.prog w 0 (fun _=>true) true n 3 ((([a0,a1,a2,a3,a4,a5,a6]:List Value).drop 4).take (Tryz.prog.cellsOf 3))=some y:=key 4 _ rfl
    obtain ⟨y5,k5⟩:∃y,DataW.trod enc Tryz.prog w 0 (fun _=>true) true n 27 ((([a0,a1,a2,a3,a4,a5,a6]:List Value).drop 5).take (Tryz.prog.cellsOf 27))=some y:=key 5 _ rfl
    obtain ⟨y6,k6⟩:∃y,DataW.trod enc Tryz.prog w 0 (fun _=>true) true n 28 ((([a0,a1,a2,a3,a4,a5,a6]:List Value).drop 6).take (Tryz.prog.cellsOf 28))=some y:=key 6 _ rfl
    simp only [hs3,hs22,hs23] at k0 k1 k2 k3 k4 k5 k6
    obtain ⟨n0,e0⟩:=trod_int Tryz.underlying3 k0
    obtain ⟨n1,e1⟩:=trod_int Tryz.underlying3 k1
    obtain ⟨n2,e2⟩:=trod_int Tryz.underlying3 k2
    obtain ⟨n3,e3⟩:=trod_int Tryz.underlying3 k3
    obtain ⟨n4,e4⟩:=trod_int Tryz.underlying3 k4
    simp at e0 e1 e2 e3 e4
    subst e0;subst e1;subst e2;subst e3;subst e4
    obtain ⟨sites,_,r5⟩:=reads_list (α:=Site) (by decide) Tryz.underlying27 hs74 reads_site k5
    obtain ⟨roads,_,r6⟩:=reads_list (α:=List Int) (by decide) Tryz.underlying28 hs26 (reads_list (α:=Int) (by decide) Tryz.underlying23 hs3 reads3) k6
    obtain ⟨v5,f5,d5⟩:=r5 0 _ rfl
    obtain ⟨v6,f6,d6⟩:=r6 0 _ rfl
    simp at f5 f6
    subst f5;subst f6
    refine ⟨⟨n0,n1,n2,n3,n4,sites,roads⟩,.agg rfl fun i c hi=>?_⟩
    match i,hi with
    | 0,hi=>cases hi;exact .int _ _
    | 1,hi=>cases hi;exact .int _ _
    | 2,hi=>cases hi;exact .int _ _
    | 3,hi=>cases hi;exact .int _ _
    | 4,hi=>cases hi;exact .int _ _
    | 5,hi=>cases hi;exact .lst (d5.arg false)
    | 6,hi=>cases hi;exact .lst (d6.arg false)
end Am.Mv
