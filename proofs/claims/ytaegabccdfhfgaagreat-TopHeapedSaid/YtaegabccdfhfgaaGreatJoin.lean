/-
  A part of the proof: the texts TmJ of this seat, joined.
-/
import Derived.Test.YtaegabccdfhfgaaGreatEqs
import Derived.Test.YtaegabccdfhfgaaGreatAmJ
import Derived.Test.YtaegabccdfhfgaaGreatAmL
import Derived.Test.YtaegabccdfhfgaaGreatWalkA
open Go Go.Proofs Am Am.Tm
namespace Am.Cr
set_option maxRecDepth 1000000
set_option linter.unusedVariables false
noncomputable def cloneI : CloneCode Tryz.prog 52 3 1 8 where
  fn:=Tryz.f52
  i0:=(cloneParts Tryz.f52.body).1.1
  i1:=(cloneParts Tryz.f52.body).2.1.1
  i2:=(cloneParts Tryz.f52.body).2.2.1.1
  i3:=(cloneParts Tryz.f52.body).2.2.2.1
  ops0:=(cloneParts Tryz.f52.body).1.2
  ops1:=(cloneParts Tryz.f52.body).2.1.2
  ops2:=(cloneParts Tryz.f52.body).2.2.1.2
  ops3:=(cloneParts Tryz.f52.body).2.2.2.2
  o1:=(cloneParts Tryz.f52.body).2.1.2.getD 0 default
  o2:=(cloneParts Tryz.f52.body).2.1.2.getD 1 default
  t:=23
  u:=23
  e':=3
  z:=[.int .i64 0]
  zd:=[.int .i64 0]
  hf:=Tryz.func52
  hn:=by kernel_rfl
  hb:=by kernel_rfl
  hr:=by kernel_rfl
  ht:=by kernel_rfl
  h0:=by kernel_rfl
  h2:=by kernel_rfl
  h3:=by kernel_rfl
  h1:=by kernel_rfl
  k1:=⟨by kernel_rfl,by kernel_rfl,by kernel_rfl⟩
  k2:=⟨by kernel_rfl,by kernel_rfl,by kernel_rfl⟩
  hu:=by kernel_rfl
  hz:=fun h=>rfl
  hzl:=rfl
noncomputable def cloneR : CloneCode Tryz.prog 106 62 2 16 where
  fn:=Tryz.f106
  i0:=(cloneParts Tryz.f106.body).1.1
  i1:=(cloneParts Tryz.f106.body).2.1.1
  i2:=(cloneParts Tryz.f106.body).2.2.1.1
  i3:=(cloneParts Tryz.f106.body).2.2.2.1
  ops0:=(cloneParts Tryz.f106.body).1.2
  ops1:=(cloneParts Tryz.f106.body).2.1.2
  ops2:=(cloneParts Tryz.f106.body).2.2.1.2
  ops3:=(cloneParts Tryz.f106.body).2.2.2.2
  o1:=(cloneParts Tryz.f106.body).2.1.2.getD 0 default
  o2:=(cloneParts Tryz.f106.body).2.1.2.getD 1 default
  t:=47
  u:=47
  e':=62
  z:=[.int .i64 0,.int .i64 0]
  zd:=[.int .i64 0,.int .i64 0]
  hf:=Tryz.func106
  hn:=by kernel_rfl
  hb:=by kernel_rfl
  hr:=by kernel_rfl
  ht:=by kernel_rfl
  h0:=by kernel_rfl
  h2:=by kernel_rfl
  h3:=by kernel_rfl
  h1:=by kernel_rfl
  k1:=⟨by kernel_rfl,by kernel_rfl,by kernel_rfl⟩
  k2:=⟨by kernel_rfl,by kernel_rfl,by kernel_rfl⟩
  hu:=by kernel_rfl
  hz:=fun h=>rfl
  hzl:=rfl
def growI_ren : Go.Shelf.Ren:=⟨fun | 4=>108 | n=>n,fun | 22=>23 | 25=>3 | 3=>3 | 4=>4 | 9=>9 | 20=>20 | 0=>0 | n=>n,fun | n=>n⟩
theorem growI : Go.Proofs.Lays8.n4 Tryz.prog growI_ren:={
  mixed:=by kernel_rfl
  f4:=⟨Tryz.f108.name,by decide,Tryz.func108.trans (congrArg some (by kernel_rfl))⟩
  t0:=Tryz.underlying0
  a0:=Tryz.isAgg0
  z0:=Tryz.sizeOf0
  v0:=Tryz.zeroValue0
  t3:=Tryz.underlying3
  a3:=Tryz.isAgg3
  z3:=Tryz.sizeOf3
  v3:=Tryz.zeroValue3
  t4:=Tryz.underlying4
  a4:=Tryz.isAgg4
  z4:=Tryz.sizeOf4
  v4:=Tryz.zeroValue4
  t9:=Tryz.underlying9
  a9:=Tryz.isAgg9
  z9:=Tryz.sizeOf9
  v9:=Tryz.zeroValue9
  t20:=Tryz.underlying20
  a20:=Tryz.isAgg20
  z20:=Tryz.sizeOf20
  v20:=Tryz.zeroValue20
  t22:=Tryz.underlying23
  a22:=Tryz.isAgg23
  z22:=Tryz.sizeOf23
  v22:=Tryz.zeroValue23 }
theorem hgrows : GrowsOk Tryz.prog cfg:=by
  intro f e h sz by_ hs hb
  have h':cloneAt f growL=some e:=h
  simp only [growL,cloneAt] at h'
  cases hf:Nat.beq f 108 with
  | false=>rw [hf] at h';cases h'
  | true=>
    rw [hf] at h'
    simp only [cond_true,Option.some.injEq] at h'
    have:=Nat.eq_of_beq_eq_true hf
    subst this;subst h'
    have e1:sizeT Tryz.prog 3=some 1:=by kernel_rfl
    have e2:bytesT Tryz.prog 3=some 8:=by kernel_rfl
    rw [e1] at hs;rw [e2] at hb
    cases hs;cases hb
    refine ⟨⟨Tryz.f108,Tryz.f108.body.getD .skip,Tryz.func108,by kernel_rfl,by kernel_rfl⟩,?_⟩
    intro n hn w cs
    have hn2:n≤2^40:=by omega
    obtain ⟨i0,hi0⟩:∃i0,i0=(Tryz.prog.info? 3).getD default:=⟨_,rfl⟩
    have h1:Tryz.prog.info? 3=some i0:=by rw [hi0];kernel_rfl
    have h2:i0.zero=some (.int .i64 0):=by rw [hi0];kernel_rfl
    have h3:i0.size=1:=by rw [hi0];kernel_rfl
    have h4:i0.bytes=8:=by rw [hi0];kernel_rfl
    have:=grow_of_lays growI i0 (.int .i64 0) h1 h2 (by omega) (by rw [h3];rfl) (n:=n) (by rw [h4];exact hn) hn2 w cs
    rw [h3] at this
    exact this
theorem hclones : ClonesOk Tryz.prog cfg:=by
  refine clonesOk_of mixed hgrows ?_
  intro f e h
  have h':cloneAt f cloneL=some e:=h
  simp only [cloneL,cloneAt] at h'
  cases hf:Nat.beq f 52 with
  | true=>
    rw [hf] at h'
    simp only [cond_true,Option.some.injEq] at h'
    have:=Nat.eq_of_beq_eq_true hf
    subst this;subst h'
    exact ⟨1,8,by kernel_rfl,by kernel_rfl,⟨cloneI⟩⟩
  | false=>
    rw [hf] at h'
    simp only [cond_false] at h'
    cases hf2:Nat.beq f 106 with
    | true=>
      rw [hf2] at h'
      simp only [cond_true,Option.some.injEq] at h'
      have:=Nat.eq_of_beq_eq_true hf2
      subst this;subst h'
      exact ⟨2,16,by kernel_rfl,by kernel_rfl,⟨cloneR⟩⟩
    | false=>rw [hf2] at h';cases h'
theorem own : ownKnob Tryz.prog.godebug=none:=by kernel_rfl
theorem laidOut : laidOutB Tryz.prog=true:=by kernel_rfl
theorem reads3 {w:World}:Reads Tryz.prog w 3 Int:=reads_int Tryz.underlying3
theorem reads_range {w:World}:Reads Tryz.prog w 71 Rg:=by
  intro H enc sp held fuel cs x h
  obtain ⟨xs,n,_,_,hl,hx,hf⟩:=DataW.trod_struct Tryz.underlying71 h
  have hl2:cs.length=2:=hl.trans (by kernel_rfl)
  match cs,hl2 with
  | [a,b],_=>
    have hsz:Tryz.prog.cellsOf 3=1:=by kernel_rfl
    have key:∀(i:Nat) (f:Go.Field),(_:Array Go.Field)[i]?=some f→∃y,DataW.trod enc Tryz.prog w 0 sp held n f.type ((([a,b]:List Value).drop f.offset).take (Tryz.prog.cellsOf f.type))=some y:=fun i f hi=>by
      have:=hf i f hi
      have hi':i<xs.length:=by rw [hx];exact (Array.getElem?_eq_some_iff.1 hi).1
      rw [List.getElem?_eq_getElem hi'] at this
      exact ⟨_,this⟩
    obtain ⟨y0,k0⟩:∃y,DataW.trod enc Tryz.prog w 0 sp held n 3 ((([a,b]:List Value).drop 0).take (Tryz.prog.cellsOf 3))=some y:=key 0 _ rfl
    obtain ⟨y1,k1⟩:∃y,DataW.trod enc Tryz.prog w 0 sp held n 3 ((([a,b]:List Value).drop 1).take (Tryz.prog.cellsOf 3))=some y:=key 1 _ rfl
    simp only [hsz] at k0 k1
    obtain ⟨n0,e0⟩:=trod_int Tryz.underlying3 k0
    obtain ⟨n1,e1⟩:=trod_int Tryz.underlying3 k1
    simp at e0 e1
    subst e0;subst e1
    refine ⟨⟨n0,n1⟩,rfl,fun j d hj=>?_⟩
    match j,hj with
    | 0,hj=>cases hj;exact ⟨_,rfl,.int _ _⟩
    | 1,hj=>cases hj;exact ⟨_,rfl,.int _ _⟩
theorem rd_int {w:World} {n:Int} {v:Value} (h:RD (anyK w) w (.int .i64 n) v):v = .int .i64 n:=by cases h;rfl
theorem look_cells {w:World} {H:Type} {enc:TypeId × Value→H} {sp:Nat→Bool} {held:Bool} {fuel:Nat} {cs:List Value} {x:DataW H × List MemPlace} (h:DataW.trod enc Tryz.prog w 0 sp held fuel 73 cs=some x):∃k:Lk,cs=[.int .i64 k.week,.int .i64 k.w.lo,.int .i64 k.w.hi]:=by
  obtain ⟨xs,n,_,_,hl,hx,hf⟩:=DataW.trod_struct Tryz.underlying73 h
  have hl3:cs.length=3:=hl.trans (by kernel_rfl)
  match cs,hl3 with
  | [a,b,c],_=>
    have hsz:Tryz.prog.cellsOf 3=1:=by kernel_rfl
    have hsr:Tryz.prog.cellsOf 71=2:=by kernel_rfl
    have key:∀(i:Nat) (f:Go.Field),(_:Array Go.Field)[i]?=some f→∃y,DataW.trod enc Tryz.prog w 0 sp held n f.type ((([a,b,c]:List Value).drop f.offset).take (Tryz.prog.cellsOf f.type))=some y:=fun i f hi=>by
      have:=hf i f hi
      have hi':i<xs.length:=by rw [hx];exact (Array.getElem?_eq_some_iff.1 hi).1
      rw [List.getElem?_eq_getElem hi'] at this
      exact ⟨_,this⟩
    obtain ⟨y0,k0⟩:∃y,DataW.trod enc Tryz.prog w 0 sp held n 3 ((([a,b,c]:List Value).drop 0).take (Tryz.prog.cellsOf 3))=some y:=key 0 _ rfl
    obtain ⟨y1,k1⟩:∃y,DataW.trod enc Tryz.prog w 0 sp held n 71 ((([a,b,c]:List Value).drop 1).take (Tryz.prog.cellsOf 71))=some y:=key 1 _ rfl
    simp only [hsz,hsr] at k0 k1
    obtain ⟨n0,e0⟩:=trod_int Tryz.underlying3 k0
    obtain ⟨r,_,r2⟩:=reads_range k1
    obtain ⟨v0,f0,d0⟩:=r2 0 _ rfl
    obtain ⟨v1,f1,d1⟩:=r2 1 _ rfl
    simp at e0 f0 f1
    subst e0;subst f0;subst f1
    exact ⟨⟨n0,r⟩,by rw [rd_int d0,rd_int d1]⟩
theorem reads_look {w:World}:Reads Tryz.prog w 73 Lk:=by
  intro H enc sp held fuel cs x h
  obtain ⟨k,rfl⟩:=look_cells h
  refine ⟨k,rfl,fun j d hj=>?_⟩
  match j,hj with
  | 0,hj=>cases hj;exact ⟨_,rfl,.int _ _⟩
  | 1,hj=>cases hj;exact ⟨_,rfl,.int _ _⟩
  | 2,hj=>cases hj;exact ⟨_,rfl,.int _ _⟩
theorem arg_field {w:World} {H:Type} {enc:TypeId × Value→H} {v:Value} {d:DataW H} {ps:List MemPlace} {base:Nat} (hv:Value.okWide Tryz.prog w .any base 26 v) (h:DataW.Trod enc Tryz.prog w 0 (fun _=>true) true 26 v d ps) :
    ∃f:Field,RV (argE (fun _=>False) w) (fieldV (false,false) (false,false) (false,false) (false,false) (false,false) f) v:=by
  obtain ⟨fuel,h⟩:=h
  unfold Value.okWide at hv
  rw [Tryz.underlying26] at hv
  obtain ⟨arr,rfl,_,_⟩:=hv
  obtain ⟨xs,n,_,_,hl,hx,hf⟩:=DataW.trod_struct Tryz.underlying26 h
  have hl9:arr.toList.length=9:=hl.trans (by kernel_rfl)
  obtain ⟨cs⟩:=arr
  simp only [Value.cells] at hf hl9 ⊢
  match cs,hl9 with
  | [a0,a1,a2,a3,a4,a5,a6,a7,a8],_=>
    have hs3:Tryz.prog.cellsOf 3=1:=by kernel_rfl
    have hsG:Tryz.prog.cellsOf 22=1:=by kernel_rfl
    have hsI:Tryz.prog.cellsOf 23=1:=by kernel_rfl
    have hsK:Tryz.prog.cellsOf 24=1:=by kernel_rfl
    have hsr:Tryz.prog.cellsOf 71=2:=by kernel_rfl
    have hsl:Tryz.prog.cellsOf 73=3:=by kernel_rfl
    have key:∀(i:Nat) (f:Go.Field),(_:Array Go.Field)[i]?=some f→∃y,DataW.trod enc Tryz.prog w 0 (fun _=>true) true n f.type ((([a0,a1,a2,a3,a4,a5,a6,a7,a8]:List Value).drop f.offset).take (Tryz.prog.cellsOf f.type))=some y:=fun i f hi=>by
      have:=hf i f hi
      have hi':i<xs.length:=by rw [hx];exact (Array.getElem?_eq_some_iff.1 hi).1
      rw [List.getElem?_eq_getElem hi'] at this
      exact ⟨_,this⟩
    obtain ⟨y0,k0⟩:∃y,DataW.trod enc Tryz.prog w 0 (fun _=>true) true n 3 ((([a0,a1,a2,a3,a4,a5,a6,a7,a8]:List Value).drop 0).take (Tryz.prog.cellsOf 3))=some y:=key 0 _ rfl
    obtain ⟨y1,k1⟩:∃y,DataW.trod enc Tryz.prog w 0 (fun _=>true) true n 22 ((([a0,a1,a2,a3,a4,a5,a6,a7,a8]:List Value).drop 1).take (Tryz.prog.cellsOf 22))=some y:=key 1 _ rfl
    obtain ⟨y2,k2⟩:∃y,DataW.trod enc Tryz.prog w 0 (fun _=>true) true n 23 ((([a0,a1,a2,a3,a4,a5,a6,a7,a8]:List Value).drop 2).take (Tryz.prog.cellsOf 23))=some y:=key 2 _ rfl
    obtain ⟨y3,k3⟩:∃y,DataW.trod enc Tryz.prog w 0 (fun _=>true) true n 23 ((([a0,a1,a2,a3,a4,a5,a6,a7,a8]:List Value).drop 3).take (Tryz.prog.cellsOf 23))=some y:=key 3 _ rfl
    obtain ⟨y4,k4⟩:∃y,DataW.trod enc Tryz.prog w 0 (fun _=>true) true n 23 ((([a0,a1,a2,a3,a4,a5,a6,a7,a8]:List Value).drop 4).take (Tryz.prog.cellsOf 23))=some y:=key 4 _ rfl
    obtain ⟨y5,k5⟩:∃y,DataW.trod enc Tryz.prog w 0 (fun _=>true) true n 3 ((([a0,a1,a2,a3,a4,a5,a6,a7,a8]:List Value).drop 5).take (Tryz.prog.cellsOf 3))=some y:=key 5 _ rfl
    obtain ⟨y6,k6⟩:∃y,DataW.trod enc Tryz.prog w 0 (fun _=>true) true n 3 ((([a0,a1,a2,a3,a4,a5,a6,a7,a8]:List Value).drop 6).take (Tryz.prog.cellsOf 3))=some y:=key 6 _ rfl
    obtain ⟨y7,k7⟩:∃y,DataW.trod enc Tryz.prog w 0 (fun _=>true) true n 3 ((([a0,a1,a2,a3,a4,a5,a6,a7,a8]:List Value).drop 7).take (Tryz.prog.cellsOf 3))=some y:=key 7 _ rfl
    obtain ⟨y8,k8⟩:∃y,DataW.trod enc Tryz.prog w 0 (fun _=>true) true n 24 ((([a0,a1,a2,a3,a4,a5,a6,a7,a8]:List Value).drop 8).take (Tryz.prog.cellsOf 24))=some y:=key 8 _ rfl
    simp only [hs3,hsG,hsI,hsK] at k0 k1 k2 k3 k4 k5 k6 k7 k8
    obtain ⟨n0,e0⟩:=trod_int Tryz.underlying3 k0
    obtain ⟨n5,e5⟩:=trod_int Tryz.underlying3 k5
    obtain ⟨n6,e6⟩:=trod_int Tryz.underlying3 k6
    obtain ⟨n7,e7⟩:=trod_int Tryz.underlying3 k7
    simp at e0 e5 e6 e7
    subst e0;subst e5;subst e6;subst e7
    obtain ⟨x1,_,r1⟩:=reads_list (α:=Rg) (by decide) Tryz.underlying22 hsr reads_range k1
    obtain ⟨x2,_,r2⟩:=reads_list (α:=Int) (by decide) Tryz.underlying23 hs3 reads3 k2
    obtain ⟨x3,_,r3⟩:=reads_list (α:=Int) (by decide) Tryz.underlying23 hs3 reads3 k3
    obtain ⟨x4,_,r4⟩:=reads_list (α:=Int) (by decide) Tryz.underlying23 hs3 reads3 k4
    obtain ⟨x8,_,r8⟩:=reads_list (α:=Lk) (by decide) Tryz.underlying24 hsl reads_look k8
    obtain ⟨v1,f1,d1⟩:=r1 0 _ rfl
    obtain ⟨v2,f2,d2⟩:=r2 0 _ rfl
    obtain ⟨v3,f3,d3⟩:=r3 0 _ rfl
    obtain ⟨v4,f4,d4⟩:=r4 0 _ rfl
    obtain ⟨v8,f8,d8⟩:=r8 0 _ rfl
    simp at f1 f2 f3 f4 f8
    subst f1;subst f2;subst f3;subst f4;subst f8
    refine ⟨⟨n0,x1,x2,x3,x4,n5,n6,n7,x8⟩,.agg rfl fun i c hi=>?_⟩
    match i,hi with
    | 0,hi=>cases hi;exact .int _ _
    | 1,hi=>cases hi;exact .lst (d1.arg false)
    | 2,hi=>cases hi;exact .lst (d2.arg false)
    | 3,hi=>cases hi;exact .lst (d3.arg false)
    | 4,hi=>cases hi;exact .lst (d4.arg false)
    | 5,hi=>cases hi;exact .int _ _
    | 6,hi=>cases hi;exact .int _ _
    | 7,hi=>cases hi;exact .int _ _
    | 8,hi=>cases hi;exact .lst (d8.arg false)
end Am.Cr
