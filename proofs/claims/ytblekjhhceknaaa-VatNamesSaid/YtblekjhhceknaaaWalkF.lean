/-
  A part of the proof: the texts NV, NW of this seat, joined.
-/
import Derived.Test.YtblekjhhceknaaaWalkE
namespace Am.Vt
open Go Am
set_option maxRecDepth 1000000
set_option maxHeartbeats 4000000
set_option linter.unusedSimpArgs false
set_option linter.unusedVariables false
abbrev vatL (la ba s1 s2 b1 b2 ga:Int) (dr fe di lk:C):V:=.agg [C.int .i64 la,.int .i64 ba,.int .i64 s1,.int .i64 s2,.int .i64 b1,.int .i64 b2,.int .i64 ga,.int .i64 5,dr,fe,di,lk]
abbrev drC : C:=.lst false [[.int .i64 1,.int .i64 2],[.int .i64 1,.int .i64 1],[.int .i64 2,.int .i64 3],[.int .i64 0,.int .i64 0]]
abbrev feC (t:Bool) (m:Int):C:=.lst t [[.int .i64 0,.int .i64 0,.int .i64 m],[.int .i64 0,.int .i64 2,.int .i64 0],[.int .i64 0,.int .i64 0,.int .i64 1],[.int .i64 0,.int .i64 0,.int .i64 0]]
abbrev diC : C:=.lst false [[.int .i64 1],[.int .i64 1],[.int .i64 1],[.int .i64 1]]
abbrev drT (t:Bool):C:=.lst t [[.int .i64 1,.int .i64 2],[.int .i64 1,.int .i64 1],[.int .i64 2,.int .i64 3],[.int .i64 0,.int .i64 0]]
abbrev diT (t:Bool):C:=.lst t [[.int .i64 1],[.int .i64 1],[.int .i64 1],[.int .i64 1]]
abbrev lk0 : C:=.lst false []
abbrev lk1 (t:Bool) (d:Int):C:=.lst t [[.int .i64 d,.bool true,.int .i64 4,.int .i64 9]]
abbrev lk2 : C:=.lst false [[.int .i64 0,.bool true,.int .i64 4,.int .i64 9],[.int .i64 3,.bool true,.int .i64 2,.int .i64 3]]
abbrev oneL (b:Int) (lk:C):V:=vatL 3 b 0 2 100 100 10 drC (feC false 0) diC lk
abbrev coolL (t:Bool):V:=.agg [.int .i64 0,.int .i64 100,.lst t [[.int .i64 1],[.int .i64 1],[.int .i64 2],[.int .i64 0]]]
abbrev sharpT : Truth:=⟨2,100,[2,1,3,0]⟩
abbrev sharpL (t:Bool):V:=.agg [.int .i64 2,.int .i64 100,.lst t [[.int .i64 2],[.int .i64 1],[.int .i64 3],[.int .i64 0]]]
abbrev prfX : Prf:=⟨0,0,⟨2,100,[2,1,2,0]⟩,coolT⟩
abbrev prfL (t u:Bool):V:=.agg [.int .i64 0,.int .i64 0,.int .i64 2,.int .i64 100,.lst t [[.int .i64 2],[.int .i64 1],[.int .i64 2],[.int .i64 0]],.int .i64 0,.int .i64 100,.lst u [[.int .i64 1],[.int .i64 1],[.int .i64 2],[.int .i64 0]]]
theorem one0L {b:Int} {Q:V→Prop}:CallP tab 11 [.c (.int .i64 b),.c (.int .i64 0)] Q↔Q (oneL b lk0):=lone (b:=b) (n:=0) (by decide)
theorem one1L {b:Int} {Q:V→Prop}:CallP tab 11 [.c (.int .i64 b),.c (.int .i64 1)] Q↔Q (oneL b (lk1 false 0)):=lone (b:=b) (n:=1) (by decide)
theorem one2L {b:Int} {Q:V→Prop}:CallP tab 11 [.c (.int .i64 b),.c (.int .i64 2)] Q↔Q (oneL b lk2):=lone (b:=b) (n:=2) (by decide)
theorem coolLL {Q:V→Prop}:CallP tab 16 [] Q↔Q (coolL false):=lcool
theorem fitsV (v:Vat) (h1:v.drift.length≤10) (h2:v.feeds.length≤10) (h3:v.dips.length≤10) (h4:v.looks.length≤10):v.Fits:=⟨Nat.le_trans h1 (by decide),Nat.le_trans h2 (by decide),Nat.le_trans h3 (by decide),Nat.le_trans h4 (by decide)⟩
theorem v1 : PlayR (oneF 4 0) sharpT = .tup [.c (L (false,false) [St.mk 4 95,St.mk 3 90,St.mk 6 95,St.mk 6 90]),.c (.int .i64 0)]:=by kernel_rfl
theorem v1C {t:Bool} {Q:V→Prop}:CallP tab 10 [oneL 4 lk0,sharpL t] Q↔Q (.tup [.c (L (false,false) [St.mk 4 95,St.mk 3 90,St.mk 6 95,St.mk 6 90]),.c (.int .i64 0)]):=by
  have h:=cPlay (v:=oneF 4 0) (g1:=(false,false)) (g2:=(false,false)) (g3:=(false,false)) (g4:=(false,false)) (gt:=(false,t)) (t:=sharpT) one_fits (Q:=Q)
  rw [v1] at h
  exact h
theorem v2 : OrderR (oneF 4 0) 0 = .tup [.c (.int .i64 1),.c (.int .i64 0)]:=by kernel_rfl
theorem v2C {Q:V→Prop}:CallP tab 12 [oneL 4 lk0,.c (.int .i64 0)] Q↔Q (.tup [.c (.int .i64 1),.c (.int .i64 0)]):=by
  have h:=cOrder (v:=oneF 4 0) (g1:=(false,false)) (g2:=(false,false)) (g3:=(false,false)) (g4:=(false,false)) (day:=0) one_fits (Q:=Q)
  rw [v2] at h
  exact h
theorem v3 : OrderR (oneF 4 0) 2 = .tup [.c (.int .i64 3),.c (.int .i64 0)]:=by kernel_rfl
theorem v3C {Q:V→Prop}:CallP tab 12 [oneL 4 lk0,.c (.int .i64 2)] Q↔Q (.tup [.c (.int .i64 3),.c (.int .i64 0)]):=by
  have h:=cOrder (v:=oneF 4 0) (g1:=(false,false)) (g2:=(false,false)) (g3:=(false,false)) (g4:=(false,false)) (day:=2) one_fits (Q:=Q)
  rw [v3] at h
  exact h
theorem v4 : OrderR (oneF 4 2) (-1) = .tup [.c (.int .i64 0),.c (.int .i64 2)]:=by kernel_rfl
theorem v4C {Q:V→Prop}:CallP tab 12 [oneL 4 lk2,.c (.int .i64 (-1))] Q↔Q (.tup [.c (.int .i64 0),.c (.int .i64 2)]):=by
  have h:=cOrder (v:=oneF 4 2) (g1:=(false,false)) (g2:=(false,false)) (g3:=(false,false)) (g4:=(false,false)) (day:=(-1)) one_fits (Q:=Q)
  rw [v4] at h
  exact h
theorem v5 : KeepR (oneF 1 0) = .tup [.c (L (false,false) ([]:List Int)),.c (.int .i64 0)]:=by kernel_rfl
theorem v5C {Q:V→Prop}:CallP tab 13 [oneL 1 lk0] Q↔Q (.tup [.c (L (false,false) ([]:List Int)),.c (.int .i64 0)]):=by
  have h:=cKeep (v:=oneF 1 0) (g1:=(false,false)) (g2:=(false,false)) (g3:=(false,false)) (g4:=(false,false))  one_fits (Q:=Q)
  rw [v5] at h
  exact h
theorem v6 : ShowR (oneF 4 0) = .tup [proofG (true,false) (true,false) ⟨0,0,T0,T0⟩,.c (.int .i64 7)]:=by kernel_rfl
theorem v6C {Q:V→Prop}:CallP tab 14 [oneL 4 lk0] Q↔Q (.tup [proofG (true,false) (true,false) ⟨0,0,T0,T0⟩,.c (.int .i64 7)]):=by
  have h:=cShow (v:=oneF 4 0) (g1:=(false,false)) (g2:=(false,false)) (g3:=(false,false)) (g4:=(false,false))  one_fits (Q:=Q)
  rw [v6] at h
  exact h
theorem v7 (b:Bool):LeaveR b (oneF 4 1) = .tup [.c (L (b,false) ([]:List Int)),.c (.int .i64 0)]:=by kernel_rfl
theorem v7C : ∃b:Bool,∀{Q:V→Prop},CallP tab 15 [oneL 4 (lk1 false 0)] Q↔Q (.tup [.c (L (b,false) ([]:List Int)),.c (.int .i64 0)]):=by
  obtain ⟨b,h⟩:=vLeave (v:=oneF 4 1) (g1:=(false,false)) (g2:=(false,false)) (g3:=(false,false)) (g4:=(false,false)) one_fits
  rw [v7] at h
  exact ⟨b,fun {Q}=>CallP_of h (Q:=Q)⟩
theorem v8 : provesTruth (oneF 4 1) sharpT=true:=by kernel_rfl
theorem v8C {t:Bool} {Q:V→Prop}:CallP tab 17 [oneL 4 (lk1 false 0),sharpL t] Q↔Q (.c (.bool true)):=by
  have h:=cProveTruth (v:=oneF 4 1) (g1:=(false,false)) (g2:=(false,false)) (g3:=(false,false)) (g4:=(false,false)) (gt:=(false,t)) (t:=sharpT) one_fits (Q:=Q)
  rw [v8] at h
  exact h
theorem v9 : provesTruth (oneF 4 1) coolT=false:=by kernel_rfl
theorem v9C {t:Bool} {Q:V→Prop}:CallP tab 17 [oneL 4 (lk1 false 0),coolL t] Q↔Q (.c (.bool false)):=by
  have h:=cProveTruth (v:=oneF 4 1) (g1:=(false,false)) (g2:=(false,false)) (g3:=(false,false)) (g4:=(false,false)) (gt:=(false,t)) (t:=coolT) one_fits (Q:=Q)
  rw [v9] at h
  exact h
theorem v10 : provesKeep (oneF 4 0) [0,-1,-3,0]=true:=by kernel_rfl
theorem v10C {t:Bool} {Q:V→Prop}:CallP tab 18 [oneL 4 lk0,.c (.lst t [[.int .i64 0],[.int .i64 (-1)],[.int .i64 (-3)],[.int .i64 0]])] Q↔Q (.c (.bool true)):=by
  have h:=cProveKeep (v:=oneF 4 0) (g1:=(false,false)) (g2:=(false,false)) (g3:=(false,false)) (g4:=(false,false)) (gt:=(false,t)) (l:=[0,-1,-3,0]) one_fits (by decide) (Q:=Q)
  rw [v10] at h
  exact h
theorem v11 : provesKeep (oneF 4 0) [1]=false:=by kernel_rfl
theorem v11C {t:Bool} {Q:V→Prop}:CallP tab 18 [oneL 4 lk0,.c (.lst t [[.int .i64 1]])] Q↔Q (.c (.bool false)):=by
  have h:=cProveKeep (v:=oneF 4 0) (g1:=(false,false)) (g2:=(false,false)) (g3:=(false,false)) (g4:=(false,false)) (gt:=(false,t)) (l:=[1]) one_fits (by decide) (Q:=Q)
  rw [v11] at h
  exact h
theorem v12 : provesKeep (oneF 1 0) []=true:=by kernel_rfl
theorem v12C {Q:V→Prop}:CallP tab 18 [oneL 1 lk0,.c .nils] Q↔Q (.c (.bool true)):=by
  have h:=cProveKeep (v:=oneF 1 0) (g1:=(false,false)) (g2:=(false,false)) (g3:=(false,false)) (g4:=(false,false)) (gt:=(true,false)) (l:=[]) one_fits (by decide) (Q:=Q)
  rw [v12] at h
  exact h
theorem v13 : provesShow (oneF 1 0) prfX=true:=by kernel_rfl
theorem v13C {t u:Bool} {Q:V→Prop}:CallP tab 19 [oneL 1 lk0,prfL t u] Q↔Q (.c (.bool true)):=by
  have h:=cProveShow (v:=oneF 1 0) (g1:=(false,false)) (g2:=(false,false)) (g3:=(false,false)) (g4:=(false,false)) (ga:=(false,t)) (gb:=(false,u)) (p:=prfX) one_fits (Q:=Q)
  rw [v13] at h
  exact h
theorem v14 : provesShow (oneF 4 0) prfX=false:=by kernel_rfl
theorem v14C {t u:Bool} {Q:V→Prop}:CallP tab 19 [oneL 4 lk0,prfL t u] Q↔Q (.c (.bool false)):=by
  have h:=cProveShow (v:=oneF 4 0) (g1:=(false,false)) (g2:=(false,false)) (g3:=(false,false)) (g4:=(false,false)) (ga:=(false,t)) (gb:=(false,u)) (p:=prfX) one_fits (Q:=Q)
  rw [v14] at h
  exact h
theorem v15 : PlayR (oneF 4 0) ⟨3,100,[1,1,2,0]⟩ = .tup [.c .nils,.c (.int .i64 2)]:=by kernel_rfl
theorem v15C {t:Bool} {Q:V→Prop}:CallP tab 10 [oneL 4 lk0,.agg [.int .i64 3,.int .i64 100,.lst t [[.int .i64 1],[.int .i64 1],[.int .i64 2],[.int .i64 0]]]] Q↔Q (.tup [.c .nils,.c (.int .i64 2)]):=by
  have h:=cPlay (v:=oneF 4 0) (g1:=(false,false)) (g2:=(false,false)) (g3:=(false,false)) (g4:=(false,false)) (gt:=(false,t)) (t:=⟨3,100,[1,1,2,0]⟩) one_fits (Q:=Q)
  rw [v15] at h
  exact h
theorem v16 : PlayR (oneF 4 0) ⟨0,100,[1,1,2]⟩ = .tup [.c .nils,.c (.int .i64 2)]:=by kernel_rfl
theorem v16C {t:Bool} {Q:V→Prop}:CallP tab 10 [oneL 4 lk0,.agg [.int .i64 0,.int .i64 100,.lst t [[.int .i64 1],[.int .i64 1],[.int .i64 2]]]] Q↔Q (.tup [.c .nils,.c (.int .i64 2)]):=by
  have h:=cPlay (v:=oneF 4 0) (g1:=(false,false)) (g2:=(false,false)) (g3:=(false,false)) (g4:=(false,false)) (gt:=(false,t)) (t:=⟨0,100,[1,1,2]⟩) one_fits (Q:=Q)
  rw [v16] at h
  exact h
theorem v17 : ShadesR (oneF 4 0) coolT 4 1 = .tup [.c .nils,.c (.int .i64 2)]:=by kernel_rfl
theorem v17C {t:Bool} {Q:V→Prop}:CallP tab 20 [oneL 4 lk0,coolL t,.c (.int .i64 4),.c (.int .i64 1)] Q↔Q (.tup [.c .nils,.c (.int .i64 2)]):=by
  have h:=cShades (v:=oneF 4 0) (g1:=(false,false)) (g2:=(false,false)) (g3:=(false,false)) (g4:=(false,false)) (gt:=(false,t)) (t:=coolT) (day:=4) (many:=1) one_fits (Q:=Q)
  rw [v17] at h
  exact h
theorem v18 : ShadeR (oneF 4 2) 0 21 = .tup [.agg [.int .i64 0,.int .i64 0],.c (.int .i64 2)]:=by kernel_rfl
theorem v18C {Q:V→Prop}:CallP tab 21 [oneL 4 lk2,.c (.int .i64 0),.c (.int .i64 21)] Q↔Q (.tup [.agg [.int .i64 0,.int .i64 0],.c (.int .i64 2)]):=by
  have h:=cShade (v:=oneF 4 2) (g1:=(false,false)) (g2:=(false,false)) (g3:=(false,false)) (g4:=(false,false)) (day:=0) (many:=21) one_fits (Q:=Q)
  rw [v18] at h
  exact h
theorem v19 : BoundsR (oneF 4 2) = .tup [.c .nils,.c (.int .i64 11)]:=by kernel_rfl
theorem v19C {Q:V→Prop}:CallP tab 22 [oneL 4 lk2] Q↔Q (.tup [.c .nils,.c (.int .i64 11)]):=by
  have h:=cBounds (v:=oneF 4 2) (g1:=(false,false)) (g2:=(false,false)) (g3:=(false,false)) (g4:=(false,false))  one_fits (Q:=Q)
  rw [v19] at h
  exact h
theorem v20 : FirstR (oneF 4 1) = .tup [.c (.int .i64 0),.c (.int .i64 7)]:=by kernel_rfl
theorem v20C {Q:V→Prop}:CallP tab 23 [oneL 4 (lk1 false 0)] Q↔Q (.tup [.c (.int .i64 0),.c (.int .i64 7)]):=by
  have h:=cFirst (v:=oneF 4 1) (g1:=(false,false)) (g2:=(false,false)) (g3:=(false,false)) (g4:=(false,false))  one_fits (Q:=Q)
  rw [v20] at h
  exact h
theorem u1 : checkVat (⟨8,4,⟨0,2⟩,⟨100,100⟩,10,5,[⟨1,2⟩,⟨1,1⟩,⟨2,3⟩,⟨0,0⟩],[⟨0,0,0⟩,⟨0,2,0⟩,⟨0,0,1⟩,⟨0,0,0⟩],[1,1,1,1],[⟨0,true,⟨4,9⟩⟩]⟩:Vat)=3:=by kernel_rfl
theorem u1C {t1 t2 t3 t4:Bool} {Q:V→Prop}:CallP tab 25 [vatL 8 4 0 2 100 100 10 (drT t1) (feC t2 0) (diT t3) (lk1 t4 0)] Q↔Q (.c (.int .i64 3)):=by
  have h:=cCheckVat (v:=(⟨8,4,⟨0,2⟩,⟨100,100⟩,10,5,[⟨1,2⟩,⟨1,1⟩,⟨2,3⟩,⟨0,0⟩],[⟨0,0,0⟩,⟨0,2,0⟩,⟨0,0,1⟩,⟨0,0,0⟩],[1,1,1,1],[⟨0,true,⟨4,9⟩⟩]⟩:Vat)) (g1:=(false,t1)) (g2:=(false,t2)) (g3:=(false,t3)) (g4:=(false,t4)) (fitsV _ (by decide) (by decide) (by decide) (by decide)) (Q:=Q)
  rw [u1] at h
  exact h
theorem u2 : checkVat (⟨3,21,⟨0,2⟩,⟨100,100⟩,10,5,[⟨1,2⟩,⟨1,1⟩,⟨2,3⟩,⟨0,0⟩],[⟨0,0,0⟩,⟨0,2,0⟩,⟨0,0,1⟩,⟨0,0,0⟩],[1,1,1,1],[⟨0,true,⟨4,9⟩⟩]⟩:Vat)=1:=by kernel_rfl
theorem u2C {t1 t2 t3 t4:Bool} {Q:V→Prop}:CallP tab 25 [vatL 3 21 0 2 100 100 10 (drT t1) (feC t2 0) (diT t3) (lk1 t4 0)] Q↔Q (.c (.int .i64 1)):=by
  have h:=cCheckVat (v:=(⟨3,21,⟨0,2⟩,⟨100,100⟩,10,5,[⟨1,2⟩,⟨1,1⟩,⟨2,3⟩,⟨0,0⟩],[⟨0,0,0⟩,⟨0,2,0⟩,⟨0,0,1⟩,⟨0,0,0⟩],[1,1,1,1],[⟨0,true,⟨4,9⟩⟩]⟩:Vat)) (g1:=(false,t1)) (g2:=(false,t2)) (g3:=(false,t3)) (g4:=(false,t4)) (fitsV _ (by decide) (by decide) (by decide) (by decide)) (Q:=Q)
  rw [u2] at h
  exact h
theorem u3 : checkVat (⟨3,4,⟨0,51⟩,⟨100,100⟩,10,5,[⟨1,2⟩,⟨1,1⟩,⟨2,3⟩,⟨0,0⟩],[⟨0,0,0⟩,⟨0,2,0⟩,⟨0,0,1⟩,⟨0,0,0⟩],[1,1,1,1],[⟨0,true,⟨4,9⟩⟩]⟩:Vat)=1:=by kernel_rfl
theorem u3C {t1 t2 t3 t4:Bool} {Q:V→Prop}:CallP tab 25 [vatL 3 4 0 51 100 100 10 (drT t1) (feC t2 0) (diT t3) (lk1 t4 0)] Q↔Q (.c (.int .i64 1)):=by
  have h:=cCheckVat (v:=(⟨3,4,⟨0,51⟩,⟨100,100⟩,10,5,[⟨1,2⟩,⟨1,1⟩,⟨2,3⟩,⟨0,0⟩],[⟨0,0,0⟩,⟨0,2,0⟩,⟨0,0,1⟩,⟨0,0,0⟩],[1,1,1,1],[⟨0,true,⟨4,9⟩⟩]⟩:Vat)) (g1:=(false,t1)) (g2:=(false,t2)) (g3:=(false,t3)) (g4:=(false,t4)) (fitsV _ (by decide) (by decide) (by decide) (by decide)) (Q:=Q)
  rw [u3] at h
  exact h
theorem u4 : checkVat (⟨3,4,⟨0,2⟩,⟨-1,5⟩,10,5,[⟨1,2⟩,⟨1,1⟩,⟨2,3⟩,⟨0,0⟩],[⟨0,0,0⟩,⟨0,2,0⟩,⟨0,0,1⟩,⟨0,0,0⟩],[1,1,1,1],[⟨0,true,⟨4,9⟩⟩]⟩:Vat)=1:=by kernel_rfl
theorem u4C {t1 t2 t3 t4:Bool} {Q:V→Prop}:CallP tab 25 [vatL 3 4 0 2 (-1) 5 10 (drT t1) (feC t2 0) (diT t3) (lk1 t4 0)] Q↔Q (.c (.int .i64 1)):=by
  have h:=cCheckVat (v:=(⟨3,4,⟨0,2⟩,⟨-1,5⟩,10,5,[⟨1,2⟩,⟨1,1⟩,⟨2,3⟩,⟨0,0⟩],[⟨0,0,0⟩,⟨0,2,0⟩,⟨0,0,1⟩,⟨0,0,0⟩],[1,1,1,1],[⟨0,true,⟨4,9⟩⟩]⟩:Vat)) (g1:=(false,t1)) (g2:=(false,t2)) (g3:=(false,t3)) (g4:=(false,t4)) (fitsV _ (by decide) (by decide) (by decide) (by decide)) (Q:=Q)
  rw [u4] at h
  exact h
theorem u5 : checkVat (⟨3,4,⟨0,2⟩,⟨100,100⟩,51,5,[⟨1,2⟩,⟨1,1⟩,⟨2,3⟩,⟨0,0⟩],[⟨0,0,0⟩,⟨0,2,0⟩,⟨0,0,1⟩,⟨0,0,0⟩],[1,1,1,1],[⟨0,true,⟨4,9⟩⟩]⟩:Vat)=1:=by kernel_rfl
theorem u5C {t1 t2 t3 t4:Bool} {Q:V→Prop}:CallP tab 25 [vatL 3 4 0 2 100 100 51 (drT t1) (feC t2 0) (diT t3) (lk1 t4 0)] Q↔Q (.c (.int .i64 1)):=by
  have h:=cCheckVat (v:=(⟨3,4,⟨0,2⟩,⟨100,100⟩,51,5,[⟨1,2⟩,⟨1,1⟩,⟨2,3⟩,⟨0,0⟩],[⟨0,0,0⟩,⟨0,2,0⟩,⟨0,0,1⟩,⟨0,0,0⟩],[1,1,1,1],[⟨0,true,⟨4,9⟩⟩]⟩:Vat)) (g1:=(false,t1)) (g2:=(false,t2)) (g3:=(false,t3)) (g4:=(false,t4)) (fitsV _ (by decide) (by decide) (by decide) (by decide)) (Q:=Q)
  rw [u5] at h
  exact h
theorem u6 : checkVat (⟨3,4,⟨0,2⟩,⟨100,100⟩,10,5,[⟨1,2⟩,⟨1,1⟩,⟨2,3⟩,⟨0,0⟩],[⟨0,0,10⟩,⟨0,2,0⟩,⟨0,0,1⟩,⟨0,0,0⟩],[1,1,1,1],[⟨0,true,⟨4,9⟩⟩]⟩:Vat)=1:=by kernel_rfl
theorem u6C {t1 t2 t3 t4:Bool} {Q:V→Prop}:CallP tab 25 [vatL 3 4 0 2 100 100 10 (drT t1) (feC t2 10) (diT t3) (lk1 t4 0)] Q↔Q (.c (.int .i64 1)):=by
  have h:=cCheckVat (v:=(⟨3,4,⟨0,2⟩,⟨100,100⟩,10,5,[⟨1,2⟩,⟨1,1⟩,⟨2,3⟩,⟨0,0⟩],[⟨0,0,10⟩,⟨0,2,0⟩,⟨0,0,1⟩,⟨0,0,0⟩],[1,1,1,1],[⟨0,true,⟨4,9⟩⟩]⟩:Vat)) (g1:=(false,t1)) (g2:=(false,t2)) (g3:=(false,t3)) (g4:=(false,t4)) (fitsV _ (by decide) (by decide) (by decide) (by decide)) (Q:=Q)
  rw [u6] at h
  exact h
theorem u7 : checkVat (⟨3,4,⟨0,2⟩,⟨100,100⟩,10,5,[⟨1,2⟩,⟨1,1⟩,⟨2,3⟩,⟨0,0⟩],[⟨0,0,0⟩,⟨0,2,0⟩,⟨0,0,1⟩,⟨0,0,0⟩],[1,1,1],[⟨0,true,⟨4,9⟩⟩]⟩:Vat)=1:=by kernel_rfl
theorem u7C {t1 t2 t3 t4:Bool} {Q:V→Prop}:CallP tab 25 [vatL 3 4 0 2 100 100 10 (drT t1) (feC t2 0) (.lst t3 [[.int .i64 1],[.int .i64 1],[.int .i64 1]]) (lk1 t4 0)] Q↔Q (.c (.int .i64 1)):=by
  have h:=cCheckVat (v:=(⟨3,4,⟨0,2⟩,⟨100,100⟩,10,5,[⟨1,2⟩,⟨1,1⟩,⟨2,3⟩,⟨0,0⟩],[⟨0,0,0⟩,⟨0,2,0⟩,⟨0,0,1⟩,⟨0,0,0⟩],[1,1,1],[⟨0,true,⟨4,9⟩⟩]⟩:Vat)) (g1:=(false,t1)) (g2:=(false,t2)) (g3:=(false,t3)) (g4:=(false,t4)) (fitsV _ (by decide) (by decide) (by decide) (by decide)) (Q:=Q)
  rw [u7] at h
  exact h
theorem u8 : checkVat (⟨3,4,⟨0,2⟩,⟨100,100⟩,10,5,[⟨1,2⟩,⟨1,1⟩,⟨2,3⟩,⟨0,0⟩],[⟨0,0,0⟩,⟨0,2,0⟩,⟨0,0,1⟩,⟨0,0,0⟩],[1,1,1,1],[⟨4,true,⟨4,9⟩⟩]⟩:Vat)=1:=by kernel_rfl
theorem u8C {t1 t2 t3 t4:Bool} {Q:V→Prop}:CallP tab 25 [vatL 3 4 0 2 100 100 10 (drT t1) (feC t2 0) (diT t3) (lk1 t4 4)] Q↔Q (.c (.int .i64 1)):=by
  have h:=cCheckVat (v:=(⟨3,4,⟨0,2⟩,⟨100,100⟩,10,5,[⟨1,2⟩,⟨1,1⟩,⟨2,3⟩,⟨0,0⟩],[⟨0,0,0⟩,⟨0,2,0⟩,⟨0,0,1⟩,⟨0,0,0⟩],[1,1,1,1],[⟨4,true,⟨4,9⟩⟩]⟩:Vat)) (g1:=(false,t1)) (g2:=(false,t2)) (g3:=(false,t3)) (g4:=(false,t4)) (fitsV _ (by decide) (by decide) (by decide) (by decide)) (Q:=Q)
  rw [u8] at h
  exact h
theorem u9 : checkVat (⟨3,4,⟨-50,50⟩,⟨0,9⟩,10,5,[⟨1,2⟩,⟨1,1⟩,⟨2,3⟩,⟨0,0⟩],[⟨0,0,0⟩,⟨0,2,0⟩,⟨0,0,1⟩,⟨0,0,0⟩],[1,1,1,1],[⟨0,true,⟨4,9⟩⟩]⟩:Vat)=3:=by kernel_rfl
theorem u9C {t1 t2 t3 t4:Bool} {Q:V→Prop}:CallP tab 25 [vatL 3 4 (-50) 50 0 9 10 (drT t1) (feC t2 0) (diT t3) (lk1 t4 0)] Q↔Q (.c (.int .i64 3)):=by
  have h:=cCheckVat (v:=(⟨3,4,⟨-50,50⟩,⟨0,9⟩,10,5,[⟨1,2⟩,⟨1,1⟩,⟨2,3⟩,⟨0,0⟩],[⟨0,0,0⟩,⟨0,2,0⟩,⟨0,0,1⟩,⟨0,0,0⟩],[1,1,1,1],[⟨0,true,⟨4,9⟩⟩]⟩:Vat)) (g1:=(false,t1)) (g2:=(false,t2)) (g3:=(false,t3)) (g4:=(false,t4)) (fitsV _ (by decide) (by decide) (by decide) (by decide)) (Q:=Q)
  rw [u9] at h
  exact h
theorem u10 : checkVat (⟨0,0,⟨0,0⟩,⟨0,0⟩,0,0,[],[],[],[]⟩:Vat)=1:=by kernel_rfl
theorem u10C {Q:V→Prop}:CallP tab 25 [.agg [.int .i64 0,.int .i64 0,.int .i64 0,.int .i64 0,.int .i64 0,.int .i64 0,.int .i64 0,.int .i64 0,.nils,.nils,.nils,.nils]] Q↔Q (.c (.int .i64 1)):=by
  have h:=cCheckVat (v:=(⟨0,0,⟨0,0⟩,⟨0,0⟩,0,0,[],[],[],[]⟩:Vat)) (g1:=(true,false)) (g2:=(true,false)) (g3:=(true,false)) (g4:=(true,false)) (fitsV _ (by decide) (by decide) (by decide) (by decide)) (Q:=Q)
  rw [u10] at h
  exact h
end Am.Vt
namespace Am.Vt
open Go Am
set_option maxRecDepth 1000000
set_option maxHeartbeats 4000000
set_option linter.unusedSimpArgs false
set_option linter.unusedVariables false
theorem FOne {H:List Obj} {Q:V→List Obj→Prop}:Fn tab (.f 11 [.c (.int .i64 4),.c (.int .i64 1)] H) Q↔Q (.agg [C.int .i64 3,.int .i64 4,.int .i64 0,.int .i64 2,.int .i64 100,.int .i64 100,.int .i64 10,.int .i64 5,.sl (H.length+2) 0 0 4,.sl (H.length+3) 0 0 4,.sl (H.length+4) 0 0 4,.sl (H.length+1) 0 0 1]) (H++[.cells [C.int .i64 3,.int .i64 4,.int .i64 0,.int .i64 2,.int .i64 100,.int .i64 100,.int .i64 10,.int .i64 5,.sl (H.length+2) 0 0 4,.sl (H.length+3) 0 0 4,.sl (H.length+4) 0 0 4,.sl (H.length+1) 0 0 1],
    .arr false 0 4 [[.int .i64 0,.bool true,.int .i64 4,.int .i64 9],[.int .i64 3,.bool true,.int .i64 2,.int .i64 3]],
    .arr false 0 2 [[.int .i64 1,.int .i64 2],[.int .i64 1,.int .i64 1],[.int .i64 2,.int .i64 3],[.int .i64 0,.int .i64 0]],
    .arr false 0 3 [[.int .i64 0,.int .i64 0,.int .i64 0],[.int .i64 0,.int .i64 2,.int .i64 0],[.int .i64 0,.int .i64 0,.int .i64 1],[.int .i64 0,.int .i64 0,.int .i64 0]],
    .arr false 0 1 [[.int .i64 1],[.int .i64 1],[.int .i64 1],[.int .i64 1]]]):=Fn_iff (by
  refine Fn_X (fn:=f11) rfl rfl ?_
  have h12:1≤2:=by decide
  simp only [go_sem,f11,lbetween,h12,disj_nil])
theorem VatNames_val : Val tab 3 [] (.c (.bool true)):=by
  obtain ⟨lb,hLeave⟩:=v7C
  have x0:atI [St.mk 4 95,St.mk 3 90,St.mk 6 95,St.mk 6 90] 0=St.mk 4 95:=rfl
  have x2:atI [St.mk 4 95,St.mk 3 90,St.mk 6 95,St.mk 6 90] 2=St.mk 6 95:=rfl
  have x3:atI [St.mk 4 95,St.mk 3 90,St.mk 6 95,St.mk 6 90] 3=St.mk 6 90:=rfl
  have h34:3≤4:=by decide
  refine Val_X (fn:=f3) rfl ?_
  simp (maxSteps:=1000000) only [go_sem,f3,FOne,one0L,one1L,one2L,coolLL,lbetween,v1C,v2C,v3C,v4C,v5C,v6C,hLeave,v8C,v9C,v10C,v11C,v12C,v13C,v14C,v15C,v16C,v17C,v18C,v19C,v20C,u1C,u2C,u3C,u4C,u5C,u6C,u7C,u8C,u9C,u10C,x0,x2,x3,h34,lawake,disj_nil,List.length_cons,List.length_nil]
end Am.Vt
