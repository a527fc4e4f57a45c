/-
  A part of the proof: the texts Y1, Y2, Y3, Y4, Y5, Z3, T1 of this seat, joined.
-/
import Derived.Test.YtnknceencnjnkaaGreatWalkE
import Derived.KernelRfl
namespace Am.Vt
open Go Am
set_option maxRecDepth 100000
set_option maxHeartbeats 4000000
set_option linter.unusedSimpArgs false
set_option linter.unusedVariables false
variable {g1 g2 g3 g4 gt:Bool × Bool} {v:Vat} {t:Truth}
structure Vat.Small (v:Vat):Prop where
  drift:v.drift.length≤10
  feeds:v.feeds.length≤10
  dips:v.dips.length≤10
  looks:v.looks.length≤7
instance : Decidable v.Small:=decidable_of_iff (v.drift.length≤10∧v.feeds.length≤10∧v.dips.length≤10∧v.looks.length≤7) ⟨fun h=>⟨h.1,h.2.1,h.2.2.1,h.2.2.2⟩,fun h=>⟨h.drift,h.feeds,h.dips,h.looks⟩⟩
theorem Vat.Small.fits (h:v.Small):v.Fits:=⟨by have:=h.drift;omega,by have:=h.feeds;omega,by have:=h.dips;omega,by have:=h.looks;omega⟩
def thinB (v:Vat):Bool:=decide v.Small&&(decide (checkVat v≠0)||decide (manyF (rangesL v)≤150))
theorem rManyV (hv:v.Valid) {Q:V→Prop}:CallP tab 14 [vatV g1 g2 g3 g4 v] Q↔Q (.c (.int .i64 (manyF (rangesL v)))):=by
  have v1:=hv.drift
  have v4:=hv.last7
  exact rMany (fun r hr=>by have:=hv.size r hr;have:=hv.lohi r hr;omega) (by omega)
theorem lThin {Q:V→Prop}:CallP tab 6 [vatV g1 g2 g3 g4 v] Q↔Q (.c (.bool (thinB v))):=CallP_of (by
  refine Val_X (fn:=f6) rfl ?_
  by_cases h1:(v.drift.length:Int)≤10
  · by_cases h2:(v.feeds.length:Int)≤10
    · by_cases h3:(v.dips.length:Int)≤10
      · by_cases h5:(v.looks.length:Int)≤7
        · have hs:v.Small:=⟨by omega,by omega,by omega,by omega⟩
          by_cases h0:checkVat v=0
          · have:(((manyF (rangesL v):Nat):Int)≤150)↔manyF (rangesL v)≤150:=by omega
            simp only [go_sem,f6,h1,h2,h3,h5,rFault hs.fits,rManyV (valid_of h0),h0]
            simp [thinB,hs,h0,this]
          · simp only [go_sem,f6,h1,h2,h3,h5,rFault hs.fits,h0]
            simp [thinB,hs,h0]
        · have hs:¬v.Small:=fun h=>h5 (by have:=h.looks;omega)
          simp only [go_sem,f6,h1,h2,h3,h5]
          simp [thinB,hs]
      · have hs:¬v.Small:=fun h=>h3 (by have:=h.dips;omega)
        simp only [go_sem,f6,h1,h2,h3]
        simp [thinB,hs]
    · have hs:¬v.Small:=fun h=>h2 (by have:=h.feeds;omega)
      simp only [go_sem,f6,h1,h2]
      simp [thinB,hs]
  · have hs:¬v.Small:=fun h=>h1 (by have:=h.drift;omega)
    simp only [go_sem,f6,h1]
    simp [thinB,hs])
theorem thin_small (h:thinB v=true):v.Small:=by
  simp only [thinB,Bool.and_eq_true,decide_eq_true_eq] at h;exact h.1
abbrev vatW (v:Vat):V:=vatV (false,false) (false,false) (false,false) (false,false) v
theorem lVat (hs:v.Small) {Q:V→Prop}:CallP tab 16 [vatV g1 g2 g3 g4 v] Q↔Q (vatW v):=CallP_of (by
  refine Val_X (fn:=f16) rfl ?_
  have c1:=hs.drift
  have c2:=hs.feeds
  have c3:=hs.dips
  have c4:=hs.looks
  simp only [go_sem,f16,llist (a:=v.dips) (by omega),lto,disj_nil]
  refine RX_for v.drift.length (fun k=>[(4,.c (.int .i64 k))]) (fun k=>[.cells (vatC g1 g2 g3 g4 v),.cells [.int .i64 0,.int .i64 0,.int .i64 0,.int .i64 0,.int .i64 0,.int .i64 0,.int .i64 0,.int .i64 0,.nils,.nils,.nils,.nils],.cells [.int .i64 v.last,.int .i64 v.band,.int .i64 v.start.lo,.int .i64 v.start.hi,.int .i64 v.blue.lo,.int .i64 v.blue.hi,.int .i64 v.gain,.int .i64 v.take,.sl 3 k 0 k,.nils,L (false,false) v.dips,.nils],.arr false k 2 ((v.drift.take k).map Row.row)]) (fun _=>True) trivial (by simp only [go_sem,List.take_zero]<;>rfl) ?_
  intro k hk _
  by_cases h3:k<v.drift.length
  · have hl:(v.drift.take k).length=k:=by simp;omega
    have b7:(k+1)*16≤2^40:=by omega
    have e4:IntKind.i64.wrap ((k:Int)+1)=((k+1:Nat):Int):=wrap_succ (n:=3000) (by omega) (by decide)
    simp only [go_sem,h3,hl,b7,atI_nat,e4,lto,take_getD h3 default,List.map_append,disj_nil]
  · have:k=v.drift.length:=by omega
    subst this
    simp only [go_sem,h3,List.take_length]
    refine RX_for v.feeds.length (fun k=>[(5,.c (.int .i64 k))]) (fun k=>[.cells (vatC g1 g2 g3 g4 v),.cells [.int .i64 0,.int .i64 0,.int .i64 0,.int .i64 0,.int .i64 0,.int .i64 0,.int .i64 0,.int .i64 0,.nils,.nils,.nils,.nils],.cells [.int .i64 v.last,.int .i64 v.band,.int .i64 v.start.lo,.int .i64 v.start.hi,.int .i64 v.blue.lo,.int .i64 v.blue.hi,.int .i64 v.gain,.int .i64 v.take,.sl 3 v.drift.length 0 v.drift.length,.sl 4 k 0 k,L (false,false) v.dips,.nils],.arr false v.drift.length 2 (v.drift.map Row.row),.arr false k 3 ((v.feeds.take k).map Row.row)]) (fun _=>True) trivial (by simp only [go_sem,List.take_zero]<;>rfl) ?_
    intro k hk _
    by_cases h4:k<v.feeds.length
    · have hl:(v.feeds.take k).length=k:=by simp;omega
      have b7:(k+1)*24≤2^40:=by omega
      have e4:IntKind.i64.wrap ((k:Int)+1)=((k+1:Nat):Int):=wrap_succ (n:=3000) (by omega) (by decide)
      simp only [go_sem,h4,hl,b7,atI_nat,e4,take_getD h4 default,List.map_append,disj_nil]
    · have:k=v.feeds.length:=by omega
      subst this
      simp only [go_sem,h4,List.take_length]
      refine RX_for v.looks.length (fun k=>[(7,.c (.int .i64 k))]) (fun k=>[.cells (vatC g1 g2 g3 g4 v),.cells [.int .i64 0,.int .i64 0,.int .i64 0,.int .i64 0,.int .i64 0,.int .i64 0,.int .i64 0,.int .i64 0,.nils,.nils,.nils,.nils],.cells [.int .i64 v.last,.int .i64 v.band,.int .i64 v.start.lo,.int .i64 v.start.hi,.int .i64 v.blue.lo,.int .i64 v.blue.hi,.int .i64 v.gain,.int .i64 v.take,.sl 3 v.drift.length 0 v.drift.length,.sl 4 v.feeds.length 0 v.feeds.length,L (false,false) v.dips,.sl 5 k 0 k],.arr false v.drift.length 2 (v.drift.map Row.row),.arr false v.feeds.length 3 (v.feeds.map Row.row),.arr false k 4 ((v.looks.take k).map Row.row)]) (fun _=>True) trivial (by simp only [go_sem,List.take_zero]<;>rfl) ?_
      intro k hk _
      by_cases h5:k<v.looks.length
      · have hl:(v.looks.take k).length=k:=by simp;omega
        have b7:(k+1)*32≤2^40:=by omega
        have e4:IntKind.i64.wrap ((k:Int)+1)=((k+1:Nat):Int):=wrap_succ (n:=3000) (by omega) (by decide)
        simp only [go_sem,h5,hl,b7,atI_nat,e4,lto,take_getD h5 default,List.map_append,disj_nil]
      · have:k=v.looks.length:=by omega
        subst this
        simp only [go_sem,h5,List.take_length])
theorem lTruth (h1:t.drift.length≤1000) {Q:V→Prop}:CallP tab 17 [truthG gt t] Q↔Q (truthG (false,false) t):=CallP_of (by
  refine Val_X (fn:=f17) rfl ?_
  simp only [go_sem,f17,llist h1,disj_nil])
end Am.Vt
namespace Am.Vt
open Go Am
set_option maxRecDepth 100000
set_option maxHeartbeats 4000000
set_option linter.unusedSimpArgs false
set_option linter.unusedVariables false
def oneF (b:Int) (n:Nat):Vat:=⟨3,b,⟨0,2⟩,⟨100,100⟩,10,5,[⟨1,2⟩,⟨1,1⟩,⟨2,3⟩,⟨0,0⟩],[⟨0,0,0⟩,⟨0,2,0⟩,⟨0,0,1⟩,⟨0,0,0⟩],[1,1,1,1],([⟨0,true,⟨4,9⟩⟩,⟨3,true,⟨2,3⟩⟩]:List Lk).take n⟩
def coolT : Truth:=⟨0,100,[1,1,2,0]⟩
def proofV (p:Prf):V:=proofG (false,false) (false,false) p
set_option maxRecDepth 1000000
theorem w1 : PlayR (oneF 4 0) coolT = .tup [.c (L (false,false) [St.mk 1 95,St.mk 0 90,St.mk 2 95,St.mk 2 90]),.c (.int .i64 0)]:=by kernel_rfl
theorem w2 : ShadesR (oneF 4 0) coolT 2 2 = .tup [.c (L (false,false) ([9,9]:List Int)),.c (.int .i64 0)]:=by kernel_rfl
theorem w3 : ShadeR (oneF 4 0) 2 2 = .tup [.agg [.int .i64 8,.int .i64 18],.c (.int .i64 0)]:=by kernel_rfl
theorem w5 : OrderR (oneF 4 1) 2 = .tup [.c (.int .i64 2),.c (.int .i64 0)]:=by kernel_rfl
theorem w6 : KeepR (oneF 4 0) = .tup [.c (L (false,false) (keepL (oneF 4 0))),.c (.int .i64 0)]:=by kernel_rfl
theorem w7 : ShowR (oneF 1 0) = .tup [proofV (showP (oneF 1 0)),.c (.int .i64 0)]:=by kernel_rfl
theorem w8 : FirstR (oneF 4 2) = .tup [.c (.int .i64 1),.c (.int .i64 0)]:=by kernel_rfl
theorem w9 (b:Bool):LeaveR b (oneF 4 2) = .tup [.c (L (b,false) ([0]:List Int)),.c (.int .i64 0)]:=by kernel_rfl
theorem w4 : BoundsR (oneF 4 0) = .tup [.c (L (false,false) (boundsL (oneF 4 0))),.c (.int .i64 0)]:=by kernel_rfl
set_option maxRecDepth 100000
end Am.Vt
namespace Am.Vt
open Go Am
set_option maxRecDepth 100000
set_option maxHeartbeats 4000000
set_option linter.unusedSimpArgs false
set_option linter.unusedVariables false
variable {g1 g2 g3 g4 gt:Bool × Bool} {v:Vat} {t:Truth}
end Am.Vt
namespace Am.Vt
open Go Am
set_option maxRecDepth 100000
set_option maxHeartbeats 4000000
set_option linter.unusedSimpArgs false
set_option linter.unusedVariables false
variable {g1 g2 g3 g4 gt:Bool × Bool} {v:Vat} {t:Truth}
end Am.Vt
namespace Am.Vt
open Go Am
set_option maxRecDepth 100000
set_option maxHeartbeats 4000000
set_option linter.unusedSimpArgs false
set_option linter.unusedVariables false
variable {g1 g2 g3 g4 gt:Bool × Bool} {v:Vat} {t:Truth}
end Am.Vt
namespace Am.Vt
open Go Am
set_option maxRecDepth 100000
set_option maxHeartbeats 4000000
set_option linter.unusedSimpArgs false
set_option linter.unusedVariables false
variable {g1 g2 g3 g4 gt:Bool × Bool} {v x:Vat} {t:Truth}
def withU (t:Truth) (b:Int):Truth:={ t with blue:=b }
theorem dipN_mono {take b c:Int} (h:b≤c):∀{n:Nat},dipN take n b≤dipN take n c
  | 0=>h
  | n+1=>by have:=dipN_mono h (take:=take) (n:=n);simp only [dipN];omega
theorem stAt_withU {b:Int} (h:t.blue≤b):∀{d:Nat},(stAt v (withU t b) d).bal=(stAt v t d).bal∧(stAt v t d).blue≤(stAt v (withU t b) d).blue
  | 0=>⟨rfl,h⟩
  | d+1=>by
    obtain ⟨h1,h2⟩:=stAt_withU h (d:=d)
    simp only [stAt]
    rw [h1]
    exact ⟨rfl,dipN_mono (by omega)⟩
theorem isT_withU {b:Int} (h:IsT v t) (hb:t.blue≤b∧b≤v.blue.hi):IsT v (withU t b):=⟨h.st,⟨by have:=h.bl.1;show v.blue.lo≤b;omega,hb.2⟩,h.dl,h.dr⟩
theorem shade_mono {n m:Int} (h0:0≤n) (h:n≤m) (h1:m≤1000000) (b:Bool):shadeI n b≤shadeI m b:=by
  rw [(shade_bd h0 (by omega) b).2.2,(shade_bd (by omega) h1 b).2.2,Int.tdiv_eq_ediv_of_nonneg h0,Int.tdiv_eq_ediv_of_nonneg (by omega)]
  cases b<;>simp<;>omega
end Am.Vt
namespace Am.Vt
open Go Am
set_option maxRecDepth 100000
set_option maxHeartbeats 4000000
set_option linter.unusedSimpArgs false
set_option linter.unusedVariables false
variable {v x:Vat} {t:Truth}
def blueV (v:Vat) (a b:Int):Vat:={ v with blue:=⟨a,b⟩,looks:=[] }
theorem blue_st {a b:Int}:∀{d:Nat},stAt (blueV v a b) t d=stAt v t d
  | 0=>rfl
  | d+1=>by simp only [stAt,blue_st (d:=d)];rfl
theorem blue_isT {a b:Int}:IsT (blueV v a b) t↔(v.start.lo≤t.start∧t.start≤v.start.hi)∧(a≤t.blue∧t.blue≤b)∧t.drift.length=v.drift.length∧∀i,i<t.drift.length→(v.drift.getD i default).lo≤t.drift.getD i default∧t.drift.getD i default≤(v.drift.getD i default).hi:=
  ⟨fun h=>⟨h.st,h.bl,h.dl,h.dr⟩,fun h=>⟨h.1,h.2.1,h.2.2.1,h.2.2.2⟩⟩
theorem blue_mem {a b:Int} (hv:(blueV v a b).Valid):t∈truthsL (blueV v a b) []↔IsT (blueV v a b) t:=by
  rw [mem_truths hv]
  exact ⟨fun h=>h.1,fun h=>⟨h,rfl⟩⟩
theorem blue_check {a b a' b':Int} (h:checkVat (blueV v a b)=0) (h1:a≤a') (h2:a'≤b') (h3:b'≤b):checkVat (blueV v a' b')=0:=by
  have hv:=valid_of h
  have a1:¬(blueV v a b).last>7:=by have:=hv.last7;omega
  have a3:¬((blueV v a b).looks.length:Int)>5:=by simp [blueV]
  have e:=check_eq a1 a3
  have e':=check_eq (v:=blueV v a' b') a1 a3
  rw [h] at e
  have hg:goodB (blueV v a b)=true:=by
    cases hb:goodB (blueV v a b) with
    | true=>rfl
    | false=>rw [hb] at e;simp at e
  have hb:=hv.blue
  have hbl:(blueV v a b).blue=⟨a,b⟩:=rfl
  rw [hbl] at hb
  have hg':goodB (blueV v a' b')=true:=by
    have hn:numbersOk (blueV v a' b')=true:=by
      simp only [goodB,Bool.and_eq_true] at hg
      have:=hg.1
      simp only [numbersOk,Bool.and_eq_true,rgOf,decide_eq_true_eq] at this ⊢
      refine ⟨this.1,this.2.1,this.2.2.1,?_,this.2.2.2.2⟩
      show 0≤a'∧a'≤b'∧b'≤999
      simp only at hb
      omega
    simp only [goodB,Bool.and_eq_true] at hg ⊢
    exact ⟨hn,hg.2⟩
  have hm:=hv.many
  have hlohi:=hv.lohi
  have hm1:=many_min (rs:=rangesL (blueV v a b)) (m:=1) (fun r hr=>by have:=hv.size r hr;have:=hlohi r hr;omega) (by omega) (by omega)
  have hs':∀r∈rangesL (blueV v a' b'),-100000≤r.lo∧r.lo≤r.hi∧r.hi≤100000:=by
    intro r hr
    simp only [rangesL,List.mem_cons] at hr
    rcases hr with rfl | rfl | hr
    · have:=hv.start;simp only [blueV] at this ⊢;omega
    · simp only [blueV] at hb ⊢;omega
    · have:=hv.driftO r hr;omega
  have hm2:=many_min (rs:=rangesL (blueV v a' b')) (m:=1) hs' (by omega) (by omega)
  have hp:prodN (rangesL (blueV v a' b'))≤prodN (rangesL (blueV v a b)):=by
    show szN v.start*(szN ⟨a',b'⟩*prodN v.drift)≤szN v.start*(szN ⟨a,b⟩*prodN v.drift)
    exact Nat.mul_le_mul (Nat.le_refl _) (Nat.mul_le_mul (by unfold szN;simp only;omega) (Nat.le_refl _))
  have k1:manyL (rangesL (blueV v a b))=((min (1*prodN (rangesL (blueV v a b))) 2001:Nat):Int):=hm1
  have k2:manyL (rangesL (blueV v a' b'))=((min (1*prodN (rangesL (blueV v a' b'))) 2001:Nat):Int):=hm2
  rw [e',hg']
  rw [k1] at hm
  rw [k2]
  rw [if_neg (by simp),if_neg (by omega)]
theorem blue_pos {a b:Int} (h:checkVat (blueV v a b)=0):truthsL (blueV v a b) []≠[]:=by
  have hv:=valid_of h
  intro e
  have:=(blue_mem hv).2 (nthT_isT hv (n:=0))
  rw [e] at this;cases this
theorem blue_ask {a b:Int} (h:checkVat (blueV v a b)=0):askE (blueV v a b) true=0:=by
  have hp:posB (blueV v a b) []=true:=by
    rw [pos_mem]
    exact ⟨_,(blue_mem (valid_of h)).2 (nthT_isT (valid_of h) (n:=0))⟩
  simp [askE,h,hp]
theorem sum_mono {f g:Nat→Int} {n:Nat} (h:∀i,i<n→f i≤g i):sumI ((List.range n).map f)≤sumI ((List.range n).map g):=by
  induction n with
  | zero=>exact Int.le_refl _
  | succ n ih=>
    rw [List.range_succ,List.map_append,List.map_append,List.map_cons,List.map_nil,List.map_cons,List.map_nil,sumI_snoc,sumI_snoc]
    have:=ih fun i hi=>h i (by omega)
    have:=h n (by omega)
    omega
def sumS (v:Vat) (d m:Nat) (t:Truth):Int:=sumI (shadesL v (stAt v t (d+1)) m)
theorem blue_sum {a b:Int} {d m:Nat}:sumS (blueV v a b) d m t=sumS v d m t:=by
  unfold sumS;rw [blue_st];rfl
theorem sumS_mono (hv:x.Valid) (hT:IsT x t) {b:Int} (hb:t.blue≤b∧b≤x.blue.hi) {d m:Nat} (hd:d<x.drift.length):sumS x d m t≤sumS x d m (withU t b):=by
  obtain ⟨h1,h2⟩:=stAt_withU (v:=x) hb.1 (d:=d+1)
  have v1:=hv.drift
  have v4:=hv.last7
  have k1:=stAt_bd hv hT (d:=d+1) (by omega)
  have k2:=stAt_bd hv (isT_withU hT hb) (d:=d+1) (by omega)
  unfold sumS shadesL
  rw [h1]
  refine sum_mono fun i _=>?_
  have q1:=dipN_bd hv.take.1 (n:=i) (b:=(stAt x t (d+1)).blue) (by omega)
  have q2:=dipN_bd hv.take.1 (n:=i) (b:=(stAt x (withU t b) (d+1)).blue) (by omega)
  have q3:=dipN_mono h2 (take:=x.take) (n:=i)
  exact shade_mono q1.1 q3 (by omega) _
theorem shade_is {a b:Int} (h:checkVat (blueV v a b)=0) {d m:Nat}:IsRg (sumS v d m) (truthsL (blueV v a b) []) (shadeRg (blueV v a b) d m):=by
  have:=bdL_IsRg (val:=sumS (blueV v a b) d m) (blue_pos h)
  have e:sumS (blueV v a b) d m=sumS v d m:=funext fun t=>blue_sum
  rw [e] at this
  have e2:shadeRg (blueV v a b) d m=bdL (sumS v d m) (truthsL (blueV v a b) []):=by rw [←e];rfl
  rw [e2];exact this
theorem shade_ends {a b:Int} (h:checkVat (blueV v a b)=0) {d m:Nat} (hd:d<v.drift.length) :
    (shadeRg (blueV v a b) d m).lo=(shadeRg (blueV v a a) d m).lo∧(shadeRg (blueV v a b) d m).hi=(shadeRg (blueV v b b) d m).hi:=by
  have hv:=valid_of h
  have hb:a≤b:=hv.blue.2.1
  have hy:=blue_check h (Int.le_refl a) (Int.le_refl a) hb
  have hz:=blue_check h hb (Int.le_refl b) (Int.le_refl b)
  obtain ⟨⟨t1,m1,e1⟩,⟨t2,m2,e2⟩,B⟩:=shade_is h (d:=d) (m:=m)
  obtain ⟨⟨u1,n1,f1⟩,⟨u2,n2,f2⟩,C⟩:=shade_is hy (d:=d) (m:=m)
  obtain ⟨⟨w1,p1,i1⟩,⟨w2,p2,i2⟩,D⟩:=shade_is hz (d:=d) (m:=m)
  have eb:∀{a b:Int} {t:Truth},sumS (blueV v a b) d m t=sumS v d m t:=fun {a b t}=>blue_sum
  rw [blue_mem hv] at m1 m2
  have n1':=(blue_mem (valid_of hy)).1 n1
  have p2':=(blue_mem (valid_of hz)).1 p2
  constructor
  · have hu:u1∈truthsL (blueV v a b) []:=by
      rw [blue_mem hv,blue_isT]
      rw [blue_isT] at n1'
      exact ⟨n1'.1,⟨n1'.2.1.1,by omega⟩,n1'.2.2⟩
    have c1:=(B u1 hu).1
    have ht:withU t1 a∈truthsL (blueV v a a) []:=by
      rw [blue_mem (valid_of hy),blue_isT]
      rw [blue_isT] at m1
      exact ⟨m1.1,⟨Int.le_refl _,Int.le_refl _⟩,m1.2.2⟩
    have c2:=(C _ ht).1
    have hx:IsT (blueV v a b) (withU t1 a):=by
      rw [blue_isT] at m1 ⊢
      exact ⟨m1.1,⟨Int.le_refl _,hb⟩,m1.2.2⟩
    have c3:=sumS_mono hv hx (b:=t1.blue) (d:=d) (m:=m) ⟨by have:=m1.bl.1;exact this,m1.bl.2⟩ hd
    have c4:withU (withU t1 a) t1.blue=t1:=rfl
    rw [c4,eb,eb] at c3
    omega
  · have hw:w2∈truthsL (blueV v a b) []:=by
      rw [blue_mem hv,blue_isT]
      rw [blue_isT] at p2'
      exact ⟨p2'.1,⟨by omega,p2'.2.1.2⟩,p2'.2.2⟩
    have c1:=(B w2 hw).2
    have ht:withU t2 b∈truthsL (blueV v b b) []:=by
      rw [blue_mem (valid_of hz),blue_isT]
      rw [blue_isT] at m2
      exact ⟨m2.1,⟨Int.le_refl _,Int.le_refl _⟩,m2.2.2⟩
    have c2:=(D _ ht).2
    have c3:=sumS_mono hv m2 (b:=b) (d:=d) (m:=m) ⟨m2.bl.2,Int.le_refl _⟩ hd
    rw [eb,eb] at c3
    omega
theorem blue_day {a b:Int} (h:checkVat (blueV v a b)=0) (hT:IsT (blueV v a b) t) {d:Nat}:(bdAt (blueV v a b) d).blue.lo≤(stAt v t (d+1)).blue∧(stAt v t (d+1)).blue≤(bdAt (blueV v a b) d).blue.hi:=by
  have:=(bdL_IsRg (val:=fun t=>(stAt (blueV v a b) t (d+1)).blue) (blue_pos h)).2.2 t ((blue_mem (valid_of h)).2 hT)
  simp only [blue_st] at this
  have e:(bdAt (blueV v a b) d).blue=bdL (fun t=>(stAt v t (d+1)).blue) (truthsL (blueV v a b) []):=by
    show bdL (fun t=>(stAt (blueV v a b) t (d+1)).blue) _=_
    simp only [blue_st]
  rw [e];exact this
end Am.Vt
