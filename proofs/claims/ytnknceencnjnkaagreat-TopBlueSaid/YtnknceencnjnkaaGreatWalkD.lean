/-
  A part of the proof: the texts V15, V16, V17, V18, V19, V20, V21, V22, V23, V24, V25, V26, V27 of this seat, joined.
-/
import Derived.Test.YtnknceencnjnkaaGreatWalkC
namespace Am.Vt
open Go Am
set_option maxRecDepth 100000
set_option maxHeartbeats 4000000
set_option linter.unusedSimpArgs false
set_option linter.unusedVariables false
variable {g1 g2 g3 g4 gt:Bool × Bool} {v:Vat} {t:Truth}
def bareS (t:Truth):Nat→Int
  | 0=>t.start
  | k+1=>bareS t k+t.drift.getD k 0
def bareK (t:Truth):Nat→List Int
  | 0=>List.replicate 8 0
  | k+1=>(bareK t k).set k (bareS t (k+1))
def bareL (v:Vat) (t:Truth):List Int:=bareK t v.drift.length
end Am.Vt
namespace Am.Vt
open Go Am
set_option maxRecDepth 100000
set_option maxHeartbeats 4000000
set_option linter.unusedSimpArgs false
set_option linter.unusedVariables false
variable {g1 g2 g3 g4 gt:Bool × Bool} {v:Vat} {t:Truth}
theorem splice_app {α:Type}:∀{a b x:List α} {i:Nat},splice (a.length+i) x (a++b)=(splice i x b).map (a++·)
  | [],b,x,i=>by simp
  | y::a,b,x,i=>by
    rw [List.length_cons,Nat.add_right_comm,List.cons_append]
    show (splice (a.length+i) x (a++b)).map (y::·)=_
    rw [splice_app,Option.map_map];rfl
theorem splice_left0 {α:Type}:∀{a b x:List α},x.length≤a.length→splice 0 x (a++b)=(splice 0 x a).map (·++b)
  | [],b,[],_=>by cases b<;>rfl
  | [],b,_::_,h=>by simp at h
  | y::a,b,[],_=>rfl
  | y::a,b,z::x,h=>by
    rw [List.cons_append]
    show (splice 0 x (a++b)).map (z::·)=((splice 0 x a).map (z::·)).map (·++b)
    rw [splice_left0 (by simpa using h),Option.map_map,Option.map_map];rfl
theorem splice_left {α:Type}:∀{a b x:List α} {i:Nat},i+x.length≤a.length→splice i x (a++b)=(splice i x a).map (·++b)
  | a,b,x,0,h=>splice_left0 (by omega)
  | [],b,x,i+1,h=>by simp at h
  | y::a,b,x,i+1,h=>by
    rw [List.cons_append]
    show (splice i x (a++b)).map (y::·)=((splice i x a).map (y::·)).map (·++b)
    rw [splice_left (by simp at h;omega),Option.map_map,Option.map_map];rfl
abbrev TC := Truth × C
def tc (p:TC):List C:=[.int .i64 p.1.start,.int .i64 p.1.blue,p.2]
theorem tc_len {A:List TC}:(A.flatMap tc).length=A.length*3:=by
  induction A with
  | nil=>rfl
  | cons a A ih=>rw [List.flatMap_cons,List.length_append,ih,List.length_cons,Nat.succ_mul,Nat.add_comm];rfl
theorem tc_splice : ∀{A:List TC} {d:Nat} {q:TC},d<A.length→splice (d*3) (tc q) (A.flatMap tc)=some ((A.set d q).flatMap tc)
  | [],d,_,h=>by simp at h
  | a::A,0,q,_=>by
    rw [List.flatMap_cons,Nat.zero_mul,splice_left0 (by simp [tc])]
    rfl
  | a::A,d+1,q,h=>by
    have:splice ((tc a).length+d*3) (tc q) (tc a++A.flatMap tc)=(splice (d*3) (tc q) (A.flatMap tc)).map (tc a++·):=splice_app
    rw [Nat.succ_mul,Nat.add_comm (d*3) 3,List.flatMap_cons]
    refine this.trans ?_
    rw [tc_splice (by simpa using h)];rfl
structure XC where
  most:List Int
  least:List Int
  A:List TC
  B:List TC
structure XC.Ok (x:XC):Prop where
  m:x.most.length=8
  l:x.least.length=8
  a:x.A.length=8
  b:x.B.length=8
def XC.cells (x:XC):List C:=x.most.map intC++(x.least.map intC++(x.A.flatMap tc++x.B.flatMap tc))
section
variable {x:XC}
theorem XC.Ok.len (h:x.Ok):x.cells.length=64:=by
  unfold XC.cells;rw [List.length_append,List.length_append,List.length_append,List.length_map,List.length_map,tc_len,tc_len,h.m,h.l,h.a,h.b]
theorem XC.Ok.all (h:x.Ok):takeN 64 x.cells=some x.cells:=by
  have:=takeN_whole x.cells
  rwa [h.len] at this
theorem XC.Ok.sA (h:x.Ok) {d:Nat} (hd:d<8) {a b:Int} {c:C} {q:Truth} (ha:a=q.start) (hb:b=q.blue):splice (16+d*3) [.int .i64 a,.int .i64 b,c] x.cells=some (XC.cells { x with A:=x.A.set d (q,c) }):=by
  subst ha;subst hb
  have e:=splice_app (a:=x.most.map intC++x.least.map intC) (b:=x.A.flatMap tc++x.B.flatMap tc) (i:=d*3) (x:=tc (q,c))
  rw [List.length_append,List.length_map,List.length_map,h.m,h.l] at e
  rw [XC.cells,←List.append_assoc]
  refine e.trans ?_
  rw [splice_left (by rw [tc_len,h.a];simp [tc];omega),tc_splice (by rw [h.a];exact hd)]
  simp [XC.cells]
end
end Am.Vt
namespace Am.Vt
open Go Am
set_option maxRecDepth 100000
set_option maxHeartbeats 4000000
set_option linter.unusedSimpArgs false
set_option linter.unusedVariables false
variable {g1 g2 g3 g4 gt:Bool × Bool} {v:Vat} {t:Truth}
structure XS where
  first:Bool
  last:List Int
  most:List Int
  least:List Int
  ab:List Truth
  be:List Truth
def updS (f:Bool) (b:List Int) (t:Truth) (x:XS) (d:Nat):XS:=
  let y:=if (f||decide (b.getD d 0>x.most.getD d 0))=true then { x with most:=x.most.set d (b.getD d 0),ab:=x.ab.set d t } else x
  if (f||decide (b.getD d 0<y.least.getD d 0))=true then { y with least:=y.least.set d (b.getD d 0),be:=y.be.set d t } else y
def exStep (v:Vat) (x:XS) (t:Truth):XS × Bool:=if x.first=false∧bareL v t=x.last then (x,true) else ({ (List.range v.drift.length).foldl (updS x.first (bareL v t) t) x with first:=false,last:=bareL v t },true)
def XS0 : XS:=⟨true,List.replicate 8 0,List.replicate 8 0,List.replicate 8 0,List.replicate 8 ⟨0,0,[]⟩,List.replicate 8 ⟨0,0,[]⟩⟩
def extS (v:Vat):XS:=(foldY (exStep v) XS0 (truthsL v [])).1
def XC.rel (c:XC) (s:XS):Prop:=c.most=s.most∧c.least=s.least∧c.A.map (·.1)=s.ab∧c.B.map (·.1)=s.be
def XC.In (own:Nat→Prop) (H:List Obj) (x:XC):Prop:=∀p∈x.A++x.B,LstIn 1 own H p.2 p.1.drift
theorem XC.In.keep {own:Nat→Prop} {H H':List Obj} {x:XC} (h:x.In own H) (hk:Keep own H H'):x.In own H':=fun p hp=>(h p hp).keep hk
abbrev exOwn (n:Nat) (o:Nat):Prop:=o=n+1∨o=n+2∨o=n+3∨o=n+6
structure exR (g1 g2 g3 g4:Bool × Bool) (v:Vat) (wo mo n:Nat) (lp:ALoop) (s:XS) (H:List Obj):Prop where
  wi:WInv g1 g2 g3 g4 v wo mo H
  wb:getH H n = .cells [.ptr wo 0]
  x:∃c:XC,c.Ok∧c.rel s∧c.In (fun o=>exOwn n o∨o=mo∨(n+7≤o∧o<n+14)) H∧getH H (n+1) = .cells c.cells
  fi:getH H (n+2) = .cells [.bool s.first]
  la:getH H (n+3) = .cells (s.last.map intC)
  ll:s.last.length=8
  lp:getH H (n+6) = .loop lp
end Am.Vt
namespace Am.Vt
open Go Am
set_option maxRecDepth 100000
set_option maxHeartbeats 4000000
set_option linter.unusedSimpArgs false
set_option linter.unusedVariables false
variable {g1 g2 g3 g4 gt:Bool × Bool} {v:Vat} {t:Truth}
abbrev T0 : Truth:=⟨0,0,[]⟩
structure XS.Len (x:XS):Prop where
  m:x.most.length=8
  l:x.least.length=8
  a:x.ab.length=8
  b:x.be.length=8
structure UpdOk (f:Bool) (b:List Int) (t:Truth) (x y:XS) (k:Nat):Prop where
  len:y.Len
  fi:y.first=x.first
  la:y.last=x.last
  m:∀d,d<8→(y.most.getD d 0=if d<k∧(f=true∨b.getD d 0>x.most.getD d 0) then b.getD d 0 else x.most.getD d 0)
  a:∀d,d<8→(y.ab.getD d T0=if d<k∧(f=true∨b.getD d 0>x.most.getD d 0) then t else x.ab.getD d T0)
  l:∀d,d<8→(y.least.getD d 0=if d<k∧(f=true∨b.getD d 0<x.least.getD d 0) then b.getD d 0 else x.least.getD d 0)
  b:∀d,d<8→(y.be.getD d T0=if d<k∧(f=true∨b.getD d 0<x.least.getD d 0) then t else x.be.getD d T0)
structure ExtOk (v:Vat) (ts:List Truth) (x:XS):Prop where
  len:x.Len
  ma:∀d,d<v.drift.length→x.ab.getD d T0∈ts∧x.most.getD d 0=bareS (x.ab.getD d T0) (d+1)
  mm:∀d,d<v.drift.length→∀t∈ts,bareS t (d+1)≤x.most.getD d 0
  la:∀d,d<v.drift.length→x.be.getD d T0∈ts∧x.least.getD d 0=bareS (x.be.getD d T0) (d+1)
  lm:∀d,d<v.drift.length→∀t∈ts,x.least.getD d 0≤bareS t (d+1)
structure ExtI (v:Vat) (ts:List Truth) (x:XS):Prop where
  ok:ExtOk v ts x
  fi:x.first=false
  la:∃t∈ts,x.last=bareL v t
end Am.Vt
namespace Am.Vt
open Go Am
set_option maxRecDepth 100000
set_option maxHeartbeats 4000000
set_option linter.unusedSimpArgs false
set_option linter.unusedVariables false
variable {g1 g2 g3 g4 gt:Bool × Bool} {v:Vat} {t:Truth}
theorem LstIn.mono {own own':Nat→Prop} {H:List Obj} {c:C} {l:List Int} (h:LstIn 1 own H c l) (hm:∀o,own' o→own o):LstIn 1 own' H c l:=by
  cases h with
  | nils=>exact .nils
  | sl o ver fr w ho hg=>exact .sl o ver fr _ (fun e=>ho (hm _ e)) hg
structure XMem (v:Vat) (mo:Nat) (c:XC) (H:List Obj):Prop where
  ok:c.Ok
  rel:c.rel (extS v)
  inn:c.In (fun o=>o=mo) H
theorem XMem.keep {mo:Nat} {c:XC} {H H':List Obj} (h:XMem v mo c H) (hk:Keep (fun o=>o=mo) H H'):XMem v mo c H':=⟨h.ok,h.rel,h.inn.keep hk⟩
theorem known_app : ∀{a b:List C},known a=true→known b=true→known (a++b)=true
  | [],_,_,h=>h
  | c::a,b,h,h'=>by
    have:known a=true:=by cases c<;>first | exact h | cases h
    have ih:=known_app this h'
    cases c<;>first | exact ih | cases h
theorem known_tc {own:Nat→Prop} {H:List Obj}:∀{A:List TC},(∀p∈A,LstIn 1 own H p.2 p.1.drift)→known (A.flatMap tc)=true
  | [],_=>rfl
  | a::A,h=>by
    rw [List.flatMap_cons]
    exact known_app (h a (by simp)).known (known_tc fun p hp=>h p (by simp [hp]))
theorem XMem.kn {mo:Nat} {c:XC} {H:List Obj} (h:XMem v mo c H):known c.cells=true:=
  known_app known_ints (known_app known_ints (known_app (known_tc fun p hp=>h.inn p (by simp [hp])) (known_tc fun p hp=>h.inn p (by simp [hp]))))
def roomI (v:Vat) (d:Nat):Rg:=⟨-v.band-(extS v).least.getD d 0,v.band-(extS v).most.getD d 0⟩
end Am.Vt
namespace Am.Vt
open Go Am
set_option maxRecDepth 100000
set_option maxHeartbeats 4000000
set_option linter.unusedSimpArgs false
set_option linter.unusedVariables false
variable {g1 g2 g3 g4 gt:Bool × Bool} {v:Vat} {t:Truth}
def nextR (r now:Rg):Rg:=⟨max (now.lo-9) r.lo,min (now.hi+9) r.hi⟩
def reachF (room:Nat→Rg):Nat→Nat→Rg→List Rg
  | 0,_,_=>[]
  | n+1,d,now=>if (nextR (room d) now).lo>(nextR (room d) now).hi then [] else nextR (room d) now::reachF room n (d+1) (nextR (room d) now)
def reachL (v:Vat):List Rg:=reachF (roomI v) v.drift.length 0 ⟨0,0⟩
end Am.Vt
namespace Am.Vt
open Go Am
set_option maxRecDepth 100000
set_option maxHeartbeats 4000000
set_option linter.unusedSimpArgs false
set_option linter.unusedVariables false
variable {g1 g2 g3 g4 gt:Bool × Bool} {v:Vat} {t:Truth}
def fedS : List Rg→Int
  | []=>0
  | [r]=>r.lo
  | r::s::l=>max r.lo (min r.hi (fedS (s::l)))
def fedD (l:List Rg) (d:Nat):Int:=fedS (l.drop d)
def keepI (l:List Rg) (d:Nat):Int:=fedD l d-(if d=0 then 0 else fedD l (d-1))
def keepOf (l:List Rg):List Int:=(List.range l.length).map (keepI l)
def keepL (v:Vat):List Int:=keepOf (reachL v)
def KeepR (v:Vat):V:=if askE v true=0 then .tup [.c (L (false,false) (keepL v)),.c (.int .i64 0)] else .tup [.c .nils,.c (.int .i64 (askE v true))]
end Am.Vt
namespace Am.Vt
open Go Am
set_option maxRecDepth 100000
set_option maxHeartbeats 4000000
set_option linter.unusedSimpArgs false
set_option linter.unusedVariables false
variable {g1 g2 g3 g4 gt:Bool × Bool} {v:Vat} {t:Truth}
end Am.Vt
namespace Am.Vt
open Go Am
set_option maxRecDepth 100000
set_option maxHeartbeats 4000000
set_option linter.unusedSimpArgs false
set_option linter.unusedVariables false
variable {g1 g2 g3 g4 ga gb:Bool × Bool} {v:Vat}
def endsL (d:Nat):List Int:=(List.range (d+2)).map fun i=>(d:Int)-(i:Nat)
structure Prf where
  over:Int
  under:Int
  most:Truth
  least:Truth
abbrev proofC (ga gb:Bool × Bool) (p:Prf):List C:=[.int .i64 p.over,.int .i64 p.under,.int .i64 p.most.start,.int .i64 p.most.blue,L ga p.most.drift,.int .i64 p.least.start,.int .i64 p.least.blue,L gb p.least.drift]
abbrev proofG (ga gb:Bool × Bool) (p:Prf):V:=.agg [.int .i64 p.over,.int .i64 p.under,.int .i64 p.most.start,.int .i64 p.most.blue,L ga p.most.drift,.int .i64 p.least.start,.int .i64 p.least.blue,L gb p.least.drift]
attribute [go_sem] proofC proofG
def needB (v:Vat) (p:Prf):Int:=(if p.over≥0 then bareS p.most (p.over.toNat+1)-v.band else 0)-(if p.under≥0 then v.band+bareS p.least (p.under.toNat+1) else 0)
def showsB (v:Vat) (p:Prf):Bool:=decide (needB v p>9*max (p.over-p.under) (p.under-p.over))
structure Prf.Ok (v:Vat) (p:Prf):Prop where
  o : -1≤p.over∧p.over≤v.last
  u : -1≤p.under∧p.under≤v.last
  m:IsT v p.most
  l:IsT v p.least
end Am.Vt
namespace Am.Vt
open Go Am
set_option maxRecDepth 100000
set_option maxHeartbeats 4000000
set_option linter.unusedSimpArgs false
set_option linter.unusedVariables false
variable {g1 g2 g3 g4 ga gb:Bool × Bool} {v:Vat}
def mkP (v:Vat) (o u:Int):Prf:=⟨o,u,(extS v).ab.getD (max 0 o).toNat T0,(extS v).be.getD (max 0 u).toNat T0⟩
end Am.Vt
namespace Am.Vt
open Go Am
set_option maxRecDepth 100000
set_option maxHeartbeats 4000000
set_option linter.unusedSimpArgs false
set_option linter.unusedVariables false
variable {g1 g2 g3 g4 ga gb:Bool × Bool} {v:Vat}
def showF (v:Vat) (n:Nat):List Int→Prf
  | []=>⟨0,0,T0,T0⟩
  | e::l=>if showsB v (mkP v n e)=true then mkP v n e else if showsB v (mkP v e n)=true then mkP v e n else showF v n l
def showP (v:Vat):Prf:=showF v (reachL v).length (endsL (reachL v).length)
def ShowR (v:Vat):V:=if askE v true=0 then (if (reachL v).length=v.drift.length then .tup [proofG (true,false) (true,false) ⟨0,0,T0,T0⟩,.c (.int .i64 7)] else .tup [proofG (false,false) (false,false) (showP v),.c (.int .i64 0)]) else .tup [proofG (true,false) (true,false) ⟨0,0,T0,T0⟩,.c (.int .i64 (askE v true))]
end Am.Vt
namespace Am.Vt
open Go Am
set_option maxRecDepth 100000
set_option maxHeartbeats 4000000
set_option linter.unusedSimpArgs false
set_option linter.unusedVariables false
variable {g1 g2 g3 g4:Bool × Bool} {v:Vat}
def FirstR (v:Vat):V:=if checkVat v≠0 then .tup [.c (.int .i64 0),.c (.int .i64 (checkVat v))] else match firstO v with
  | some i=>.tup [.c (.int .i64 i),.c (.int .i64 0)]
  | none=>.tup [.c (.int .i64 0),.c (.int .i64 7)]
end Am.Vt
namespace Am.Vt
open Go Am
set_option maxRecDepth 100000
set_option maxHeartbeats 4000000
set_option linter.unusedSimpArgs false
set_option linter.unusedVariables false
variable {g1 g2 g3 g4:Bool × Bool} {v:Vat}
section
variable {wo mo ob wb fb lb:Nat}
end
def LeaveR (b:Bool) (v:Vat):V:=if checkVat v≠0 then .tup [.c .nils,.c (.int .i64 (checkVat v))] else .tup [.c (L (b,false) (leaveS v)),.c (.int .i64 0)]
end Am.Vt
