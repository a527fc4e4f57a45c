/-
  A part of the proof: the texts TmJ, TmJM of this seat, joined.
-/
import Derived.Test.YtninmcgiegmonaaEqs
import Derived.Test.YtninmcgiegmonaaAmJ
import Derived.Test.YtninmcgiegmonaaAmL
import Derived.Test.YtninmcgiegmonaaWalkA
open Go Go.Proofs Am Am.Tm
namespace Am.Mv
set_option maxRecDepth 1000000
set_option linter.unusedVariables false
noncomputable def cloneI : CloneCode Try.prog 52 3 1 8 where
  fn:=Try.f52
  i0:=(cloneParts Try.f52.body).1.1
  i1:=(cloneParts Try.f52.body).2.1.1
  i2:=(cloneParts Try.f52.body).2.2.1.1
  i3:=(cloneParts Try.f52.body).2.2.2.1
  ops0:=(cloneParts Try.f52.body).1.2
  ops1:=(cloneParts Try.f52.body).2.1.2
  ops2:=(cloneParts Try.f52.body).2.2.1.2
  ops3:=(cloneParts Try.f52.body).2.2.2.2
  o1:=(cloneParts Try.f52.body).2.1.2.getD 0 default
  o2:=(cloneParts Try.f52.body).2.1.2.getD 1 default
  t:=29
  u:=29
  e':=3
  z:=[.int .i64 0]
  zd:=[.int .i64 0]
  hf:=Try.func52
  hn:=by kernel_rfl
  hb:=by kernel_rfl
  hr:=by kernel_rfl
  ht:=by kernel_rfl
  h0:=by kernel_rfl
  h2:=by kernel_rfl
  h3:=by kernel_rfl
  h1:=by kernel_rfl
  k1:=⟨by kernel_rfl,by kernel_rfl,by kernel_rfl⟩
  k2:=⟨by kernel_rfl,by kernel_rfl,by kernel_rfl⟩
  hu:=by kernel_rfl
  hz:=fun h=>rfl
  hzl:=rfl
theorem hgrows : GrowsOk Try.prog cfg:=by
  intro f e h sz by_ hs hb
  have h':cloneAt f growL=some e:=h
  simp only [growL,cloneAt] at h'
  cases h'
theorem hclones : ClonesOk Try.prog cfg:=by
  refine clonesOk_of mixed hgrows ?_
  intro f e h
  have h':cloneAt f cloneL=some e:=h
  simp only [cloneL,cloneAt] at h'
  cases hf:Nat.beq f 52 with
  | true=>
    rw [hf] at h'
    simp only [cond_true,Option.some.injEq] at h'
    have:=Nat.eq_of_beq_eq_true hf
    subst this;subst h'
    exact ⟨1,8,by kernel_rfl,by kernel_rfl,⟨cloneI⟩⟩
  | false=>rw [hf] at h';cases h'
theorem own : ownKnob Try.prog.godebug=none:=by kernel_rfl
theorem laidOut : laidOutB Try.prog=true:=by kernel_rfl
end Am.Mv
open Go Go.Proofs Am Am.Tm
namespace Am.Mv
set_option maxRecDepth 1000000
set_option linter.unusedVariables false
theorem reads3 {w:World}:Reads Try.prog w 3 Int:=reads_int Try.underlying3
theorem reads_site {w:World}:Reads Try.prog w 34 Site:=by
  intro H enc sp held fuel cs x h
  obtain ⟨xs,n,_,_,hl,hx,hf⟩:=DataW.trod_struct Try.underlying34 h
  have hl3:cs.length=3:=hl.trans (by kernel_rfl)
  match cs,hl3 with
  | [a,b,c],_=>
    have hsz:Try.prog.cellsOf 3=1:=by kernel_rfl
    have key:∀(i:Nat) (f:Go.Field),(_:Array Go.Field)[i]?=some f→∃y,DataW.trod enc Try.prog w 0 sp held n f.type ((([a,b,c]:List Value).drop f.offset).take (Try.prog.cellsOf f.type))=some y:=fun i f hi=>by
      have:=hf i f hi
      have hi':i<xs.length:=by rw [hx];exact (Array.getElem?_eq_some_iff.1 hi).1
      rw [List.getElem?_eq_getElem hi'] at this
      exact ⟨_,this⟩
    obtain ⟨y0,k0⟩:∃y,DataW.trod enc Try.prog w 0 sp held n 3 ((([a,b,c]:List Value).drop 0).take (Try.prog.cellsOf 3))=some y:=key 0 _ rfl
    obtain ⟨y1,k1⟩:∃y,DataW.trod enc Try.prog w 0 sp held n 3 ((([a,b,c]:List Value).drop 1).take (Try.prog.cellsOf 3))=some y:=key 1 _ rfl
    obtain ⟨y2,k2⟩:∃y,DataW.trod enc Try.prog w 0 sp held n 3 ((([a,b,c]:List Value).drop 2).take (Try.prog.cellsOf 3))=some y:=key 2 _ rfl
    simp only [hsz] at k0 k1 k2
    obtain ⟨n0,e0⟩:=trod_int Try.underlying3 k0
    obtain ⟨n1,e1⟩:=trod_int Try.underlying3 k1
    obtain ⟨n2,e2⟩:=trod_int Try.underlying3 k2
    simp at e0 e1 e2
    subst e0;subst e1;subst e2
    refine ⟨⟨n0,n1,n2⟩,rfl,fun j d hj=>?_⟩
    match j,hj with
    | 0,hj=>cases hj;exact ⟨_,rfl,.int _ _⟩
    | 1,hj=>cases hj;exact ⟨_,rfl,.int _ _⟩
    | 2,hj=>cases hj;exact ⟨_,rfl,.int _ _⟩
theorem arg_land {w:World} {H:Type} {enc:TypeId × Value→H} {v:Value} {d:DataW H} {ps:List MemPlace} {base:Nat} (hv:Value.okWide Try.prog w .any base 25 v) (h:DataW.Trod enc Try.prog w 0 (fun _=>true) true 25 v d ps) :
    ∃l:Land,RV (argE (fun _=>False) w) (.agg [.int .i64 l.last,.int .i64 l.home,.int .i64 l.purse,.int .i64 l.bad,.int .i64 l.rest,L (false,false) l.sites,L (false,false) l.roads]) v:=by
  obtain ⟨fuel,h⟩:=h
  unfold Value.okWide at hv
  rw [Try.underlying25] at hv
  obtain ⟨arr,rfl,_,_⟩:=hv
  obtain ⟨xs,n,_,_,hl,hx,hf⟩:=DataW.trod_struct Try.underlying25 h
  have hl7:arr.toList.length=7:=hl.trans (by kernel_rfl)
  obtain ⟨cs⟩:=arr
  simp only [Value.cells] at hf hl7 ⊢
  match cs,hl7 with
  | [a0,a1,a2,a3,a4,a5,a6],_=>
    have hs3:Try.prog.cellsOf 3=1:=by kernel_rfl
    have hs22:Try.prog.cellsOf 22=1:=by kernel_rfl
    have hs23:Try.prog.cellsOf 23=1:=by kernel_rfl
    have hs74:Try.prog.cellsOf 34=3:=by kernel_rfl
    have hs26:Try.prog.cellsOf 29=1:=by kernel_rfl
    have key:∀(i:Nat) (f:Go.Field),(_:Array Go.Field)[i]?=some f→∃y,DataW.trod enc Try.prog w 0 (fun _=>true) true n f.type ((([a0,a1,a2,a3,a4,a5,a6]:List Value).drop f.offset).take (Try.prog.cellsOf f.type))=some y:=fun i f hi=>by
      have:=hf i f hi
      have hi':i<xs.length:=by rw [hx];exact (Array.getElem?_eq_some_iff.1 hi).1
      rw [List.getElem?_eq_getElem hi'] at this
      exact ⟨_,this⟩
    obtain ⟨y0,k0⟩:∃y,DataW.trod enc Try.prog w 0 (fun _=>true) true n 3 ((([a0,a1,a2,a3,a4,a5,a6]:List Value).drop 0).take (Try.prog.cellsOf 3))=some y:=key 0 _ rfl
    obtain ⟨y1,k1⟩:∃y,DataW.trod enc Try.prog w 0 (fun _=>true) true n 3 ((([a0,a1,a2,a3,a4,a5,a6]:List Value).drop 1).take (Try.prog.cellsOf 3))=some y:=key 1 _ rfl
    obtain ⟨y2,k2⟩:∃y,DataW.trod enc Try.prog w 0 (fun _=>true) true n 3 ((([a0,a1,a2,a3,a4,a5,a6]:List Value).drop 2).take (Try.prog.cellsOf 3))=some y:=key 2 _ rfl
    obtain ⟨y3,k3⟩:∃y,DataW.trod enc Try.prog w 0 (fun _=>true) true n 3 ((([a0,a1,a2,a3,a4,a5,a6]:List Value).drop 3).take (Try.prog.cellsOf 3))=some y:=key 3 _ rfl
    obtain ⟨y4,k4⟩:∃y,DataW.trod enc Try.prog w 0 (fun _=>true) true n 3 ((([a0,a1,a2,a3,a4,a5,a6]:List Value).drop 4).take (Try.prog.cellsOf 3))=some y:=key 4 _ rfl
    obtain ⟨y5,k5⟩:∃y,DataW.trod enc Try.prog w 0 (fun _=>true) true n 22 ((([a0,a1,a2,a3,a4,a5,a6]:List Value).drop 5).take (Try.prog.cellsOf 22))=some y:=key 5 _ rfl
    obtain ⟨y6,k6⟩:∃y,DataW.trod enc Try.prog w 0 (fun _=>true) true n 23 ((([a0,a1,a2,a3,a4,a5,a6]:List Value).drop 6).take (Try.prog.cellsOf 23))=some y:=key 6 _ rfl
    simp only [hs3,hs22,hs23] at k0 k1 k2 k3 k4 k5 k6
    obtain ⟨n0,e0⟩:=trod_int Try.underlying3 k0
    obtain ⟨n1,e1⟩:=trod_int Try.underlying3 k1
    obtain ⟨n2,e2⟩:=trod_int Try.underlying3 k2
    obtain ⟨n3,e3⟩:=trod_int Try.underlying3 k3
    obtain ⟨n4,e4⟩:=trod_int Try.underlying3 k4
    simp at e0 e1 e2 e3 e4
    subst e0;subst e1;subst e2;subst e3;subst e4
    obtain ⟨sites,_,r5⟩:=reads_list (α:=Site) (by decide) Try.underlying22 hs74 reads_site k5
    obtain ⟨roads,_,r6⟩:=reads_list (α:=List Int) (by decide) Try.underlying23 hs26 (reads_list (α:=Int) (by decide) Try.underlying29 hs3 reads3) k6
    obtain ⟨v5,f5,d5⟩:=r5 0 _ rfl
    obtain ⟨v6,f6,d6⟩:=r6 0 _ rfl
    simp at f5 f6
    subst f5;subst f6
    refine ⟨⟨n0,n1,n2,n3,n4,sites,roads⟩,.agg rfl fun i c hi=>?_⟩
    match i,hi with
    | 0,hi=>cases hi;exact .int _ _
    | 1,hi=>cases hi;exact .int _ _
    | 2,hi=>cases hi;exact .int _ _
    | 3,hi=>cases hi;exact .int _ _
    | 4,hi=>cases hi;exact .int _ _
    | 5,hi=>cases hi;exact .lst (d5.arg false)
    | 6,hi=>cases hi;exact .lst (d6.arg false)
end Am.Mv
