/-
  A part of the proof: the texts Y1n, Y2n of this seat, joined.
-/
import Derived.Test.YtblekjhhceknaaaWalkD
import Derived.KernelRfl
namespace Am.Vt
open Go Am
set_option maxRecDepth 100000
set_option maxHeartbeats 4000000
set_option linter.unusedSimpArgs false
set_option linter.unusedVariables false
abbrev vatW (v:Vat):V:=vatV (false,false) (false,false) (false,false) (false,false) v
theorem lints {g g':Bool × Bool} {a b:List Int} (ha:a.length<Big) {Q:V→Prop}:CallP tab 36 [.c (L g a),.c (L g' b)] Q↔Q (.c (.bool (decide (a=b)))):=CallP_of (by
  refine Val_X (fn:=f36) rfl ?_
  simp only [go_sem,f36]
  refine ⟨fun h e=>h (by rw [e]),fun h=>?_⟩
  refine RX_for a.length (fun k=>[(5,.c (.int .i64 k))]) (fun _=>[]) (fun k=>∀i,i<k→a.getD i default=b.getD i default) (fun i h=>by omega) (by simp only [go_sem]<;>rfl) ?_
  intro k hk hP
  by_cases h1:k<a.length
  · have h2:k<b.length:=by omega
    simp only [go_sem,h1,h2,wrap_succ h1 ha,atI_nat]
    refine ⟨fun e hab=>?_,fun e i hi=>?_⟩
    · subst hab;exact e rfl
    · by_cases hik:i=k
      · subst hik;exact e
      · exact hP i (by omega)
  · simp only [go_sem,h1]
    apply List.ext_getElem h
    intro i hi hi'
    have:=hP i (by omega)
    rwa [getD_lt _ _ _ hi,getD_lt _ _ _ hi'] at this)
end Am.Vt
namespace Am.Vt
open Go Am
set_option maxRecDepth 100000
set_option maxHeartbeats 4000000
set_option linter.unusedSimpArgs false
set_option linter.unusedVariables false
def oneF (b:Int) (n:Nat):Vat:=⟨3,b,⟨0,2⟩,⟨100,100⟩,10,5,[⟨1,2⟩,⟨1,1⟩,⟨2,3⟩,⟨0,0⟩],[⟨0,0,0⟩,⟨0,2,0⟩,⟨0,0,1⟩,⟨0,0,0⟩],[1,1,1,1],([⟨0,true,⟨4,9⟩⟩,⟨3,true,⟨2,3⟩⟩]:List Lk).take n⟩
def oneV (b:Int) (n:Nat):V:=vatW (oneF b n)
def coolT : Truth:=⟨0,100,[1,1,2,0]⟩
def truthV (t:Truth):V:=truthG (false,false) t
def proofV (p:Prf):V:=proofG (false,false) (false,false) p
theorem toArg_oneV {h:List Obj} {b:Int} {n:Nat}:toArg h (oneV b n)=some (oneV b n):=by
  simp only [oneV,go_sem]
theorem objs_oneV {b:Int} {n:Nat}:objsV (oneV b n)=[]:=by
  simp only [oneV,go_sem]
theorem toArg_truthV {h:List Obj} {t:Truth}:toArg h (truthV t)=some (truthV t):=by
  simp only [truthV,go_sem]
theorem objs_truthV {t:Truth}:objsV (truthV t)=[]:=by
  simp only [truthV,go_sem]
theorem lone {b:Int} {n:Nat} (hn:n≤2) {Q:V→Prop}:CallP tab 11 [.c (.int .i64 b),.c (.int .i64 n)] Q↔Q (oneV b n):=CallP_of (by
  refine Val_X (fn:=f11) rfl ?_
  have h0:(0:Int)≤n:=by omega
  have:n=0∨n=1∨n=2:=by omega
  have h12:1≤2:=by decide
  rcases this with rfl | rfl | rfl<;>(simp only [go_sem,f11,lbetween,h12,disj_nil]<;>rfl))
theorem lcool {Q:V→Prop}:CallP tab 16 [] Q↔Q (truthV coolT):=CallP_of (by
  refine Val_X (fn:=f16) rfl ?_
  simp only [go_sem,f16]
  rfl)
theorem one_fits {b:Int} {n:Nat}:(oneF b n).Fits:=⟨by show 4≤1000;decide,by show 4≤1000;decide,by show 4≤1000;decide,by
  show (List.take n _).length≤1000
  rw [List.length_take];simp;omega⟩
set_option maxRecDepth 1000000
theorem w1 : PlayR (oneF 4 0) coolT = .tup [.c (L (false,false) [St.mk 1 95,St.mk 0 90,St.mk 2 95,St.mk 2 90]),.c (.int .i64 0)]:=by kernel_rfl
theorem w2 : ShadesR (oneF 4 0) coolT 2 2 = .tup [.c (L (false,false) ([9,9]:List Int)),.c (.int .i64 0)]:=by kernel_rfl
theorem w3 : ShadeR (oneF 4 0) 2 2 = .tup [.agg [.int .i64 8,.int .i64 18],.c (.int .i64 0)]:=by kernel_rfl
theorem w5 : OrderR (oneF 4 1) 2 = .tup [.c (.int .i64 2),.c (.int .i64 0)]:=by kernel_rfl
theorem w6 : KeepR (oneF 4 0) = .tup [.c (L (false,false) (keepL (oneF 4 0))),.c (.int .i64 0)]:=by kernel_rfl
theorem w6' : (keepL (oneF 4 0)).length=4:=by kernel_rfl
theorem w7 : ShowR (oneF 1 0) = .tup [proofV (showP (oneF 1 0)),.c (.int .i64 0)]:=by kernel_rfl
theorem w8 : FirstR (oneF 4 2) = .tup [.c (.int .i64 1),.c (.int .i64 0)]:=by kernel_rfl
theorem w9 (b:Bool):LeaveR b (oneF 4 2) = .tup [.c (L (b,false) ([0]:List Int)),.c (.int .i64 0)]:=by kernel_rfl
theorem w10 : provesKeep (oneF 4 0) (keepL (oneF 4 0))=true:=by kernel_rfl
theorem w11 : provesShow (oneF 1 0) (showP (oneF 1 0))=true:=by kernel_rfl
theorem w4 : BoundsR (oneF 4 0) = .tup [.c (L (false,false) (boundsL (oneF 4 0))),.c (.int .i64 0)]:=by kernel_rfl
theorem w4' : (boundsL (oneF 4 0)).length=4:=by kernel_rfl
theorem w4'' : atI (boundsL (oneF 4 0)) 2=Bound.mk ⟨2,6⟩ ⟨95,95⟩:=by kernel_rfl
theorem lst2 {t:Bool} {a b:Int}:C.lst t [[.int .i64 a],[.int .i64 b]]=L (false,t) [a,b]:=rfl
theorem lst1 {t:Bool} {a:Int}:C.lst t [[.int .i64 a]]=L (false,t) [a]:=rfl
theorem toArg_proofV {h:List Obj} {p:Prf}:toArg h (proofV p)=some (proofV p):=by
  simp only [proofV,go_sem]
theorem objs_proofV {p:Prf}:objsV (proofV p)=[]:=by
  simp only [proofV,go_sem]
set_option maxRecDepth 100000
theorem awake_val : Val tab 26 [] (.c (.bool true)):=by
  have h1:=fun Q=>cPlay (v:=oneF 4 0) (g1:=(false,false)) (g2:=(false,false)) (g3:=(false,false)) (g4:=(false,false)) (gt:=(false,false)) (t:=coolT) one_fits (Q:=Q)
  have h2:=fun Q=>cShades (v:=oneF 4 0) (g1:=(false,false)) (g2:=(false,false)) (g3:=(false,false)) (g4:=(false,false)) (gt:=(false,false)) (t:=coolT) (day:=2) (many:=2) one_fits (Q:=Q)
  have h3:=fun Q=>cShade (v:=oneF 4 0) (g1:=(false,false)) (g2:=(false,false)) (g3:=(false,false)) (g4:=(false,false)) (day:=2) (many:=2) one_fits (Q:=Q)
  have h4:=fun Q=>cBounds (v:=oneF 4 0) (g1:=(false,false)) (g2:=(false,false)) (g3:=(false,false)) (g4:=(false,false)) one_fits (Q:=Q)
  have h5:=fun Q=>cOrder (v:=oneF 4 1) (g1:=(false,false)) (g2:=(false,false)) (g3:=(false,false)) (g4:=(false,false)) (day:=2) one_fits (Q:=Q)
  have h6:=fun Q=>cKeep (v:=oneF 4 0) (g1:=(false,false)) (g2:=(false,false)) (g3:=(false,false)) (g4:=(false,false)) one_fits (Q:=Q)
  have h7:=fun Q=>cShow (v:=oneF 1 0) (g1:=(false,false)) (g2:=(false,false)) (g3:=(false,false)) (g4:=(false,false)) one_fits (Q:=Q)
  have h8:=fun Q=>cFirst (v:=oneF 4 2) (g1:=(false,false)) (g2:=(false,false)) (g3:=(false,false)) (g4:=(false,false)) one_fits (Q:=Q)
  obtain ⟨b9,h9⟩:=vLeave (v:=oneF 4 2) (g1:=(false,false)) (g2:=(false,false)) (g3:=(false,false)) (g4:=(false,false)) one_fits
  have h9':=fun Q=>CallP_of h9 (Q:=Q)
  have h10:=fun Q=>cProveKeep (v:=oneF 4 0) (g1:=(false,false)) (g2:=(false,false)) (g3:=(false,false)) (g4:=(false,false)) (gt:=(false,false)) (l:=keepL (oneF 4 0)) one_fits (by rw [w6'];decide) (Q:=Q)
  have h11:=fun Q=>cProveShow (v:=oneF 1 0) (g1:=(false,false)) (g2:=(false,false)) (g3:=(false,false)) (g4:=(false,false)) (ga:=(false,false)) (gb:=(false,false)) (p:=showP (oneF 1 0)) one_fits (Q:=Q)
  rw [w1] at h1
  rw [w2] at h2
  rw [w3] at h3
  rw [w4] at h4
  rw [w5] at h5
  rw [w6] at h6
  rw [w7] at h7
  rw [w8] at h8
  rw [w9] at h9'
  rw [w10] at h10
  rw [w11] at h11
  change ∀Q,CallP tab 10 [oneV 4 0,truthV coolT] Q↔_ at h1
  change ∀Q,CallP tab 20 [oneV 4 0,truthV coolT,_,_] Q↔_ at h2
  change ∀Q,CallP tab 21 [oneV 4 0,_,_] Q↔_ at h3
  change ∀Q,CallP tab 22 [oneV 4 0] Q↔_ at h4
  change ∀Q,CallP tab 12 [oneV 4 1,_] Q↔_ at h5
  change ∀Q,CallP tab 13 [oneV 4 0] Q↔_ at h6
  change ∀Q,CallP tab 14 [oneV 1 0] Q↔_ at h7
  change ∀Q,CallP tab 23 [oneV 4 2] Q↔_ at h8
  change ∀Q,CallP tab 15 [oneV 4 2] Q↔_ at h9'
  change ∀Q,CallP tab 18 [oneV 4 0,_] Q↔_ at h10
  change ∀Q,CallP tab 19 [oneV 1 0,proofV (showP (oneF 1 0))] Q↔_ at h11
  have o0:=fun b Q=>lone (b:=b) (n:=0) (by decide) (Q:=Q)
  have o1:=fun b Q=>lone (b:=b) (n:=1) (by decide) (Q:=Q)
  have o2:=fun b Q=>lone (b:=b) (n:=2) (by decide) (Q:=Q)
  change ∀b Q,CallP tab 11 [_,.c (.int .i64 0)] Q↔_ at o0
  change ∀b Q,CallP tab 11 [_,.c (.int .i64 1)] Q↔_ at o1
  change ∀b Q,CallP tab 11 [_,.c (.int .i64 2)] Q↔_ at o2
  have q1:=fun g g' b Q=>lints (g:=g) (g':=g') (a:=[9,9]) (b:=b) (show 2<Big by decide) (Q:=Q)
  have q2:=fun g g' b Q=>lints (g:=g) (g':=g') (a:=[0]) (b:=b) (show 1<Big by decide) (Q:=Q)
  have x1:atI [St.mk 1 95,St.mk 0 90,St.mk 2 95,St.mk 2 90] 1=St.mk 0 90:=rfl
  have x2:atI [St.mk 1 95,St.mk 0 90,St.mk 2 95,St.mk 2 90] 2=St.mk 2 95:=rfl
  have x3:=w4''
  have x4:=w4'
  have x5:=w6'
  generalize showP (oneF 1 0)=pr at *
  generalize boundsL (oneF 4 0)=bl at *
  generalize keepL (oneF 4 0)=kl at *
  simp only [proofV,proofG] at h7 h11
  refine Val_X (fn:=f26) rfl ?_
  simp only [go_sem,f26,o0,o1,o2,lcool,toArg_oneV,objs_oneV,toArg_truthV,objs_truthV,toArg_proofV,objs_proofV,lst1,lst2,lbetween,h1,h2,h3,h4,h5,h6,h7,h8,h9',h10,h11,q1,q2,x1,x2,x3,x4,x5,decide_true]
theorem lawake {Q:V→Prop}:CallP tab 26 [] Q↔Q (.c (.bool true)):=CallP_of awake_val
end Am.Vt
