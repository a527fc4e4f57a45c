/-
  A part of the proof: the texts Y1, Y2 of this seat, joined.
-/
import Derived.Test.YtblekjhhceknaaaGreatWalkF
import Derived.KernelRfl
namespace Am.Vt
open Go Am
set_option maxRecDepth 100000
set_option maxHeartbeats 4000000
set_option linter.unusedSimpArgs false
set_option linter.unusedVariables false
variable {g1 g2 g3 g4 gt:Bool × Bool} {v:Vat} {t:Truth}
structure Vat.Small (v:Vat):Prop where
  drift:v.drift.length≤10
  feeds:v.feeds.length≤10
  dips:v.dips.length≤10
  looks:v.looks.length≤7
instance : Decidable v.Small:=decidable_of_iff (v.drift.length≤10∧v.feeds.length≤10∧v.dips.length≤10∧v.looks.length≤7) ⟨fun h=>⟨h.1,h.2.1,h.2.2.1,h.2.2.2⟩,fun h=>⟨h.drift,h.feeds,h.dips,h.looks⟩⟩
theorem Vat.Small.fits (h:v.Small):v.Fits:=⟨by have:=h.drift;omega,by have:=h.feeds;omega,by have:=h.dips;omega,by have:=h.looks;omega⟩
def thinB (v:Vat):Bool:=decide v.Small&&(decide (checkVat v≠0)||decide (manyF (rangesL v)≤150))
theorem rManyV (hv:v.Valid) {Q:V→Prop}:CallP tab 67 [vatV g1 g2 g3 g4 v] Q↔Q (.c (.int .i64 (manyF (rangesL v)))):=by
  have v1:=hv.drift
  have v4:=hv.last7
  exact rMany (fun r hr=>by have:=hv.size r hr;have:=hv.lohi r hr;omega) (by omega)
theorem lThin {Q:V→Prop}:CallP tab 14 [vatV g1 g2 g3 g4 v] Q↔Q (.c (.bool (thinB v))):=CallP_of (by
  refine Val_X (fn:=f14) rfl ?_
  by_cases h1:(v.drift.length:Int)≤10
  · by_cases h2:(v.feeds.length:Int)≤10
    · by_cases h3:(v.dips.length:Int)≤10
      · by_cases h5:(v.looks.length:Int)≤7
        · have hs:v.Small:=⟨by omega,by omega,by omega,by omega⟩
          by_cases h0:checkVat v=0
          · have:(((manyF (rangesL v):Nat):Int)≤150)↔manyF (rangesL v)≤150:=by omega
            simp only [go_sem,f14,h1,h2,h3,h5,rFault hs.fits,rManyV (valid_of h0),h0]
            simp [thinB,hs,h0,this]
          · simp only [go_sem,f14,h1,h2,h3,h5,rFault hs.fits,h0]
            simp [thinB,hs,h0]
        · have hs:¬v.Small:=fun h=>h5 (by have:=h.looks;omega)
          simp only [go_sem,f14,h1,h2,h3,h5]
          simp [thinB,hs]
      · have hs:¬v.Small:=fun h=>h3 (by have:=h.dips;omega)
        simp only [go_sem,f14,h1,h2,h3]
        simp [thinB,hs]
    · have hs:¬v.Small:=fun h=>h2 (by have:=h.feeds;omega)
      simp only [go_sem,f14,h1,h2]
      simp [thinB,hs]
  · have hs:¬v.Small:=fun h=>h1 (by have:=h.drift;omega)
    simp only [go_sem,f14,h1]
    simp [thinB,hs])
theorem thin_small (h:thinB v=true):v.Small:=by
  simp only [thinB,Bool.and_eq_true,decide_eq_true_eq] at h;exact h.1
abbrev vatW (v:Vat):V:=vatV (false,false) (false,false) (false,false) (false,false) v
theorem lVat (hs:v.Small) {Q:V→Prop}:CallP tab 18 [vatV g1 g2 g3 g4 v] Q↔Q (vatW v):=CallP_of (by
  refine Val_X (fn:=f18) rfl ?_
  have c1:=hs.drift
  have c2:=hs.feeds
  have c3:=hs.dips
  have c4:=hs.looks
  simp only [go_sem,f18,llist (a:=v.dips) (by omega),lto,disj_nil]
  refine RX_for v.drift.length (fun k=>[(4,.c (.int .i64 k))]) (fun k=>[.cells (vatC g1 g2 g3 g4 v),.cells [.int .i64 0,.int .i64 0,.int .i64 0,.int .i64 0,.int .i64 0,.int .i64 0,.int .i64 0,.int .i64 0,.nils,.nils,.nils,.nils],.cells [.int .i64 v.last,.int .i64 v.band,.int .i64 v.start.lo,.int .i64 v.start.hi,.int .i64 v.blue.lo,.int .i64 v.blue.hi,.int .i64 v.gain,.int .i64 v.take,.sl 3 k 0 k,.nils,L (false,false) v.dips,.nils],.arr false k 2 ((v.drift.take k).map Row.row)]) (fun _=>True) trivial (by simp only [go_sem,List.take_zero]<;>rfl) ?_
  intro k hk _
  by_cases h3:k<v.drift.length
  · have hl:(v.drift.take k).length=k:=by simp;omega
    have b7:(k+1)*16≤2^40:=by omega
    have e4:IntKind.i64.wrap ((k:Int)+1)=((k+1:Nat):Int):=wrap_succ (n:=3000) (by omega) (by decide)
    simp only [go_sem,h3,hl,b7,atI_nat,e4,lto,take_getD h3 default,List.map_append,disj_nil]
  · have:k=v.drift.length:=by omega
    subst this
    simp only [go_sem,h3,List.take_length]
    refine RX_for v.feeds.length (fun k=>[(5,.c (.int .i64 k))]) (fun k=>[.cells (vatC g1 g2 g3 g4 v),.cells [.int .i64 0,.int .i64 0,.int .i64 0,.int .i64 0,.int .i64 0,.int .i64 0,.int .i64 0,.int .i64 0,.nils,.nils,.nils,.nils],.cells [.int .i64 v.last,.int .i64 v.band,.int .i64 v.start.lo,.int .i64 v.start.hi,.int .i64 v.blue.lo,.int .i64 v.blue.hi,.int .i64 v.gain,.int .i64 v.take,.sl 3 v.drift.length 0 v.drift.length,.sl 4 k 0 k,L (false,false) v.dips,.nils],.arr false v.drift.length 2 (v.drift.map Row.row),.arr false k 3 ((v.feeds.take k).map Row.row)]) (fun _=>True) trivial (by simp only [go_sem,List.take_zero]<;>rfl) ?_
    intro k hk _
    by_cases h4:k<v.feeds.length
    · have hl:(v.feeds.take k).length=k:=by simp;omega
      have b7:(k+1)*24≤2^40:=by omega
      have e4:IntKind.i64.wrap ((k:Int)+1)=((k+1:Nat):Int):=wrap_succ (n:=3000) (by omega) (by decide)
      simp only [go_sem,h4,hl,b7,atI_nat,e4,take_getD h4 default,List.map_append,disj_nil]
    · have:k=v.feeds.length:=by omega
      subst this
      simp only [go_sem,h4,List.take_length]
      refine RX_for v.looks.length (fun k=>[(7,.c (.int .i64 k))]) (fun k=>[.cells (vatC g1 g2 g3 g4 v),.cells [.int .i64 0,.int .i64 0,.int .i64 0,.int .i64 0,.int .i64 0,.int .i64 0,.int .i64 0,.int .i64 0,.nils,.nils,.nils,.nils],.cells [.int .i64 v.last,.int .i64 v.band,.int .i64 v.start.lo,.int .i64 v.start.hi,.int .i64 v.blue.lo,.int .i64 v.blue.hi,.int .i64 v.gain,.int .i64 v.take,.sl 3 v.drift.length 0 v.drift.length,.sl 4 v.feeds.length 0 v.feeds.length,L (false,false) v.dips,.sl 5 k 0 k],.arr false v.drift.length 2 (v.drift.map Row.row),.arr false v.feeds.length 3 (v.feeds.map Row.row),.arr false k 4 ((v.looks.take k).map Row.row)]) (fun _=>True) trivial (by simp only [go_sem,List.take_zero]<;>rfl) ?_
      intro k hk _
      by_cases h5:k<v.looks.length
      · have hl:(v.looks.take k).length=k:=by simp;omega
        have b7:(k+1)*32≤2^40:=by omega
        have e4:IntKind.i64.wrap ((k:Int)+1)=((k+1:Nat):Int):=wrap_succ (n:=3000) (by omega) (by decide)
        simp only [go_sem,h5,hl,b7,atI_nat,e4,lto,take_getD h5 default,List.map_append,disj_nil]
      · have:k=v.looks.length:=by omega
        subst this
        simp only [go_sem,h5,List.take_length])
theorem lints {g g':Bool × Bool} {a b:List Int} (ha:a.length<Big) {Q:V→Prop}:CallP tab 30 [.c (L g a),.c (L g' b)] Q↔Q (.c (.bool (decide (a=b)))):=CallP_of (by
  refine Val_X (fn:=f30) rfl ?_
  simp only [go_sem,f30]
  refine ⟨fun h e=>h (by rw [e]),fun h=>?_⟩
  refine RX_for a.length (fun k=>[(5,.c (.int .i64 k))]) (fun _=>[]) (fun k=>∀i,i<k→a.getD i default=b.getD i default) (fun i h=>by omega) (by simp only [go_sem]<;>rfl) ?_
  intro k hk hP
  by_cases h1:k<a.length
  · have h2:k<b.length:=by omega
    simp only [go_sem,h1,h2,wrap_succ h1 ha,atI_nat]
    refine ⟨fun e hab=>?_,fun e i hi=>?_⟩
    · subst hab;exact e rfl
    · by_cases hik:i=k
      · subst hik;exact e
      · exact hP i (by omega)
  · simp only [go_sem,h1]
    apply List.ext_getElem h
    intro i hi hi'
    have:=hP i (by omega)
    rwa [getD_lt _ _ _ hi,getD_lt _ _ _ hi'] at this)
def readyB (v:Vat):Bool:=thinB v&&decide (checkVat v=0)
theorem lready {Q:V→Prop}:CallP tab 55 [vatV g1 g2 g3 g4 v] Q↔Q (.c (.bool (readyB v))):=CallP_of (by
  refine Val_X (fn:=f55) rfl ?_
  cases ht:thinB v with
  | false=>simp only [go_sem,f55,lThin,ht,readyB]
  | true=>simp only [go_sem,f55,lThin,ht,rFault (thin_small ht).fits,readyB])
theorem ready_of (h:readyB v=true):v.Small∧v.Valid∧checkVat v=0∧prodN (rangesL v)≤150:=by
  simp only [readyB,Bool.and_eq_true,decide_eq_true_eq] at h
  obtain ⟨h1,h2⟩:=h
  have hv:=valid_of h2
  have hm:=many_eq hv
  simp only [thinB,Bool.and_eq_true,Bool.or_eq_true,decide_eq_true_eq,h2] at h1
  refine ⟨h1.1,hv,h2,?_⟩
  rcases h1.2 with h | h
  · exact absurd rfl h
  · omega
end Am.Vt
namespace Am.Vt
open Go Am
set_option maxRecDepth 100000
set_option maxHeartbeats 4000000
set_option linter.unusedSimpArgs false
set_option linter.unusedVariables false
def oneF (b:Int) (n:Nat):Vat:=⟨3,b,⟨0,2⟩,⟨100,100⟩,10,5,[⟨1,2⟩,⟨1,1⟩,⟨2,3⟩,⟨0,0⟩],[⟨0,0,0⟩,⟨0,2,0⟩,⟨0,0,1⟩,⟨0,0,0⟩],[1,1,1,1],([⟨0,true,⟨4,9⟩⟩,⟨3,true,⟨2,3⟩⟩]:List Lk).take n⟩
def oneV (b:Int) (n:Nat):V:=vatW (oneF b n)
def coolT : Truth:=⟨0,100,[1,1,2,0]⟩
def truthV (t:Truth):V:=truthG (false,false) t
def proofV (p:Prf):V:=proofG (false,false) (false,false) p
theorem toArg_oneV {h:List Obj} {b:Int} {n:Nat}:toArg h (oneV b n)=some (oneV b n):=by
  simp only [oneV,go_sem]
theorem objs_oneV {b:Int} {n:Nat}:objsV (oneV b n)=[]:=by
  simp only [oneV,go_sem]
theorem toArg_truthV {h:List Obj} {t:Truth}:toArg h (truthV t)=some (truthV t):=by
  simp only [truthV,go_sem]
theorem objs_truthV {t:Truth}:objsV (truthV t)=[]:=by
  simp only [truthV,go_sem]
theorem lone {b:Int} {n:Nat} (hn:n≤2) {Q:V→Prop}:CallP tab 68 [.c (.int .i64 b),.c (.int .i64 n)] Q↔Q (oneV b n):=CallP_of (by
  refine Val_X (fn:=f68) rfl ?_
  have h0:(0:Int)≤n:=by omega
  have:n=0∨n=1∨n=2:=by omega
  have h12:1≤2:=by decide
  rcases this with rfl | rfl | rfl<;>(simp only [go_sem,f68,lbetween,h12,disj_nil]<;>rfl))
theorem lcool {Q:V→Prop}:CallP tab 69 [] Q↔Q (truthV coolT):=CallP_of (by
  refine Val_X (fn:=f69) rfl ?_
  simp only [go_sem,f69]
  rfl)
theorem one_fits {b:Int} {n:Nat}:(oneF b n).Fits:=⟨by show 4≤1000;decide,by show 4≤1000;decide,by show 4≤1000;decide,by
  show (List.take n _).length≤1000
  rw [List.length_take];simp;omega⟩
set_option maxRecDepth 1000000
theorem w1 : PlayR (oneF 4 0) coolT = .tup [.c (L (false,false) [St.mk 1 95,St.mk 0 90,St.mk 2 95,St.mk 2 90]),.c (.int .i64 0)]:=by kernel_rfl
theorem w2 : ShadesR (oneF 4 0) coolT 2 2 = .tup [.c (L (false,false) ([9,9]:List Int)),.c (.int .i64 0)]:=by kernel_rfl
theorem w3 : ShadeR (oneF 4 0) 2 2 = .tup [.agg [.int .i64 8,.int .i64 18],.c (.int .i64 0)]:=by kernel_rfl
theorem w5 : OrderR (oneF 4 1) 2 = .tup [.c (.int .i64 2),.c (.int .i64 0)]:=by kernel_rfl
theorem w6 : KeepR (oneF 4 0) = .tup [.c (L (false,false) (keepL (oneF 4 0))),.c (.int .i64 0)]:=by kernel_rfl
theorem w6' : (keepL (oneF 4 0)).length=4:=by kernel_rfl
theorem w7 : ShowR (oneF 1 0) = .tup [proofV (showP (oneF 1 0)),.c (.int .i64 0)]:=by kernel_rfl
theorem w8 : FirstR (oneF 4 2) = .tup [.c (.int .i64 1),.c (.int .i64 0)]:=by kernel_rfl
theorem w9 (b:Bool):LeaveR b (oneF 4 2) = .tup [.c (L (b,false) ([0]:List Int)),.c (.int .i64 0)]:=by kernel_rfl
theorem w10 : provesKeep (oneF 4 0) (keepL (oneF 4 0))=true:=by kernel_rfl
theorem w11 : provesShow (oneF 1 0) (showP (oneF 1 0))=true:=by kernel_rfl
theorem w4 : BoundsR (oneF 4 0) = .tup [.c (L (false,false) (boundsL (oneF 4 0))),.c (.int .i64 0)]:=by kernel_rfl
theorem w4' : (boundsL (oneF 4 0)).length=4:=by kernel_rfl
theorem w4'' : atI (boundsL (oneF 4 0)) 2=Bound.mk ⟨2,6⟩ ⟨95,95⟩:=by kernel_rfl
theorem lst2 {t:Bool} {a b:Int}:C.lst t [[.int .i64 a],[.int .i64 b]]=L (false,t) [a,b]:=rfl
theorem lst1 {t:Bool} {a:Int}:C.lst t [[.int .i64 a]]=L (false,t) [a]:=rfl
theorem toArg_proofV {h:List Obj} {p:Prf}:toArg h (proofV p)=some (proofV p):=by
  simp only [proofV,go_sem]
theorem objs_proofV {p:Prf}:objsV (proofV p)=[]:=by
  simp only [proofV,go_sem]
set_option maxRecDepth 100000
theorem awake_val : Val tab 16 [] (.c (.bool true)):=by
  have h1:=fun Q=>cPlay (v:=oneF 4 0) (g1:=(false,false)) (g2:=(false,false)) (g3:=(false,false)) (g4:=(false,false)) (gt:=(false,false)) (t:=coolT) one_fits (Q:=Q)
  have h2:=fun Q=>cShades (v:=oneF 4 0) (g1:=(false,false)) (g2:=(false,false)) (g3:=(false,false)) (g4:=(false,false)) (gt:=(false,false)) (t:=coolT) (day:=2) (many:=2) one_fits (Q:=Q)
  have h3:=fun Q=>cShade (v:=oneF 4 0) (g1:=(false,false)) (g2:=(false,false)) (g3:=(false,false)) (g4:=(false,false)) (day:=2) (many:=2) one_fits (Q:=Q)
  have h4:=fun Q=>cBounds (v:=oneF 4 0) (g1:=(false,false)) (g2:=(false,false)) (g3:=(false,false)) (g4:=(false,false)) one_fits (Q:=Q)
  have h5:=fun Q=>cOrder (v:=oneF 4 1) (g1:=(false,false)) (g2:=(false,false)) (g3:=(false,false)) (g4:=(false,false)) (day:=2) one_fits (Q:=Q)
  have h6:=fun Q=>cKeep (v:=oneF 4 0) (g1:=(false,false)) (g2:=(false,false)) (g3:=(false,false)) (g4:=(false,false)) one_fits (Q:=Q)
  have h7:=fun Q=>cShow (v:=oneF 1 0) (g1:=(false,false)) (g2:=(false,false)) (g3:=(false,false)) (g4:=(false,false)) one_fits (Q:=Q)
  have h8:=fun Q=>cFirst (v:=oneF 4 2) (g1:=(false,false)) (g2:=(false,false)) (g3:=(false,false)) (g4:=(false,false)) one_fits (Q:=Q)
  obtain ⟨b9,h9⟩:=vLeave (v:=oneF 4 2) (g1:=(false,false)) (g2:=(false,false)) (g3:=(false,false)) (g4:=(false,false)) one_fits
  have h9':=fun Q=>CallP_of h9 (Q:=Q)
  have h10:=fun Q=>cProveKeep (v:=oneF 4 0) (g1:=(false,false)) (g2:=(false,false)) (g3:=(false,false)) (g4:=(false,false)) (gt:=(false,false)) (l:=keepL (oneF 4 0)) one_fits (by rw [w6'];decide) (Q:=Q)
  have h11:=fun Q=>cProveShow (v:=oneF 1 0) (g1:=(false,false)) (g2:=(false,false)) (g3:=(false,false)) (g4:=(false,false)) (ga:=(false,false)) (gb:=(false,false)) (p:=showP (oneF 1 0)) one_fits (Q:=Q)
  rw [w1] at h1
  rw [w2] at h2
  rw [w3] at h3
  rw [w4] at h4
  rw [w5] at h5
  rw [w6] at h6
  rw [w7] at h7
  rw [w8] at h8
  rw [w9] at h9'
  rw [w10] at h10
  rw [w11] at h11
  change ∀Q,CallP tab 17 [oneV 4 0,truthV coolT] Q↔_ at h1
  change ∀Q,CallP tab 26 [oneV 4 0,truthV coolT,_,_] Q↔_ at h2
  change ∀Q,CallP tab 27 [oneV 4 0,_,_] Q↔_ at h3
  change ∀Q,CallP tab 34 [oneV 4 0] Q↔_ at h4
  change ∀Q,CallP tab 35 [oneV 4 1,_] Q↔_ at h5
  change ∀Q,CallP tab 38 [oneV 4 0] Q↔_ at h6
  change ∀Q,CallP tab 44 [oneV 1 0] Q↔_ at h7
  change ∀Q,CallP tab 50 [oneV 4 2] Q↔_ at h8
  change ∀Q,CallP tab 51 [oneV 4 2] Q↔_ at h9'
  change ∀Q,CallP tab 39 [oneV 4 0,_] Q↔_ at h10
  change ∀Q,CallP tab 45 [oneV 1 0,proofV (showP (oneF 1 0))] Q↔_ at h11
  have o0:=fun b Q=>lone (b:=b) (n:=0) (by decide) (Q:=Q)
  have o1:=fun b Q=>lone (b:=b) (n:=1) (by decide) (Q:=Q)
  have o2:=fun b Q=>lone (b:=b) (n:=2) (by decide) (Q:=Q)
  change ∀b Q,CallP tab 68 [_,.c (.int .i64 0)] Q↔_ at o0
  change ∀b Q,CallP tab 68 [_,.c (.int .i64 1)] Q↔_ at o1
  change ∀b Q,CallP tab 68 [_,.c (.int .i64 2)] Q↔_ at o2
  have q1:=fun g g' b Q=>lints (g:=g) (g':=g') (a:=[9,9]) (b:=b) (show 2<Big by decide) (Q:=Q)
  have q2:=fun g g' b Q=>lints (g:=g) (g':=g') (a:=[0]) (b:=b) (show 1<Big by decide) (Q:=Q)
  have x1:atI [St.mk 1 95,St.mk 0 90,St.mk 2 95,St.mk 2 90] 1=St.mk 0 90:=rfl
  have x2:atI [St.mk 1 95,St.mk 0 90,St.mk 2 95,St.mk 2 90] 2=St.mk 2 95:=rfl
  have x3:=w4''
  have x4:=w4'
  have x5:=w6'
  generalize showP (oneF 1 0)=pr at *
  generalize boundsL (oneF 4 0)=bl at *
  generalize keepL (oneF 4 0)=kl at *
  simp only [proofV,proofG] at h7 h11
  refine Val_X (fn:=f16) rfl ?_
  simp only [go_sem,f16,o0,o1,o2,lcool,toArg_oneV,objs_oneV,toArg_truthV,objs_truthV,toArg_proofV,objs_proofV,lst1,lst2,lbetween,h1,h2,h3,h4,h5,h6,h7,h8,h9',h10,h11,q1,q2,x1,x2,x3,x4,x5,decide_true]
theorem lawake {Q:V→Prop}:CallP tab 16 [] Q↔Q (.c (.bool true)):=CallP_of awake_val
end Am.Vt
