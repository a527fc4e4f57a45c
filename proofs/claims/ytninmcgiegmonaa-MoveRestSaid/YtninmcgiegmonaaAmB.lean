/-
  A part of the proof: the texts Am4, Am5 of this seat, joined.
-/
import Derived.Test.YtninmcgiegmonaaAmA
import Derived.Calls
namespace Am
open Go
structure Pl where
  blk:Option Nat
  cap:Nat
  deriving Inhabited
abbrev Kept := Nat→Prop
def cellAt (w:World) (b i:Nat):Option Value:=w.cell? ⟨b,i,none⟩
inductive RD (K:Kept) (w:World):D→Value→Prop where
  | int (k:IntKind) (n:Int):RD K w (.int k n) (.int k n)
  | bool (b:Bool):RD K w (.bool b) (.bool b)
  | nil (a:Option Addr) (cap:Nat):RD K w (.lst []) (.slice a 0 cap)
  | lst {rows:List (List D)} {b off cap:Nat} (sz:Nat) (vs:Nat→Nat→Value) (hK:K b) (hcap:rows.length≤cap)
      (hs:∀(i:Nat) (row:List D),nth rows i=some row→row.length=sz)
      (hc:∀(i:Nat) (row:List D) (j:Nat) (d:D),nth rows i=some row→nth row j=some d→cellAt w b (off+i*sz+j)=some (vs i j))
      (hr:∀(i:Nat) (row:List D) (j:Nat) (d:D),nth rows i=some row→nth row j=some d→RD K w d (vs i j)) :
      RD K w (.lst rows) (.slice (some ⟨b,off,none⟩) rows.length cap)
theorem RD.mono {K K':Kept} {w w':World} {d:D} {v:Value} (h:RD K w d v) (hK:∀b,K b→K' b)
    (hw:∀b i x,K b→cellAt w b i=some x→cellAt w' b i=some x):RD K' w' d v:=by
  induction h with
  | int k n=>exact .int k n
  | bool b=>exact .bool b
  | nil a cap=>exact .nil a cap
  | lst sz vs hk hcap hs hc _ ih=>exact .lst sz vs (hK _ hk) hcap hs (fun i row j d h1 h2=>hw _ _ _ hk (hc i row j d h1 h2)) ih
def plainV : Value→Bool
  | .agg _ | .tuple _=>false
  | _=>true
theorem RD.plain {K:Kept} {w:World} {d:D} {v:Value} (h:RD K w d v):plainV v=true:=by cases h<;>rfl
structure Env where
  h:List Obj
  pl:Nat→Pl
  K0:Kept
  K1:Kept
  w:World
def Env.kt (E:Env) (t:Bool):Kept:=if t then E.K1 else E.K0
def Cel (E:Env) (o b:Nat):Prop:=(∃cs,getH E.h o = .cells cs∧(E.pl o).blk=some b)∨∃fz ver sz rows,getH E.h o = .arr fz ver sz rows
inductive R (E:Env):C→Value→Prop where
  | any (v:Value):R E .any v
  | int (k:IntKind) (n:Int):R E (.int k n) (.int k n)
  | bool (b:Bool):R E (.bool b) (.bool b)
  | lst {t:Bool} {rows:List (List D)} {v:Value} (h:RD (E.kt t) E.w (.lst rows) v):R E (.lst t rows) v
  | nils:R E .nils (.slice none 0 0)
  | ptr {o off b:Nat} (hb:Cel E o b):R E (.ptr o off) (.pointer (some ⟨b,off,none⟩))
  | aptr {o ver i off b:Nat} {fz:Bool} {ver' sz:Nat} {rows:List (List D)} (ho:getH E.h o = .arr fz ver' sz rows) (hv:ver≤ver')
      (hb:ver=ver'→(E.pl o).blk=some b):R E (.aptr o ver i off) (.pointer (some ⟨b,i*sz+off,none⟩))
  | ept {t:Bool} {row:List D} {off b p:Nat} (vs:Nat→Value) (hK:E.kt t b)
      (hc:∀(j:Nat) (d:D),nth row j=some d→cellAt E.w b (p+j)=some (vs j))
      (hr:∀(j:Nat) (d:D),nth row j=some d→RD (E.kt t) E.w d (vs j)):R E (.ept t row off) (.pointer (some ⟨b,p+off,none⟩))
  | sl {o ver off len cap:Nat} {a:Option Addr} {fz:Bool} {ver' sz:Nat} {rows:List (List D)} (ho:getH E.h o = .arr fz ver' sz rows) (hv:ver≤ver') (hl:len≤cap)
      (hb:ver=ver'→off+len≤rows.length∧((∃b,(E.pl o).blk=some b∧a=some ⟨b,off*sz,none⟩∧cap=(E.pl o).cap-off)∨((E.pl o).blk=none∧a=none∧cap=0)∨(off≠0∧cap=0))) :
      R E (.sl o ver off len) (.slice a len cap)
  | map {o b:Nat} {ka va:Bool} {ks:List (Option IntKind)} {es:List (List D × List C)} (ho:getH E.h o = .map ka va ks es) (hb:(E.pl o).blk=some b):R E (.map o) (.map (some b))
  | fn {f:Nat} {agg:Bool} {first caps:List C} {fv cv:Array Value} (vs ws:Nat→Value) (h1:fv=if agg then #[.agg ((Array.range first.length).map vs)] else (Array.range first.length).map vs)
      (h2:cv=(Array.range caps.length).map ws)
      (hf:∀(i:Nat) (c:C),nth first i=some c→R E c (vs i)) (hc:∀(i:Nat) (c:C),nth caps i=some c→R E c (ws i)):R E (.fn f agg first caps) (.func (.func f) fv cv)
  | yld {o b:Nat} {l:ALoop} (ho:getH E.h o = .loop l) (hb:(E.pl o).blk=some b):R E (.yld o) (.func (.yield b) #[] #[])
  | nilfn:R E .nilfn .nilFunc
  | nilp:R E .nilp (.pointer none)
  | psl {o off len cap b:Nat} {a:Option Addr} (hb:Cel E o b) (hl:len≤cap) (ha:len=0∨a=some ⟨b,off,none⟩) (hc:∀cs,getH E.h o = .cells cs→off+cap≤(E.pl o).cap):R E (.psl o off len) (.slice a len cap)
  | ls {cs:List C} {b off cap:Nat} (vs:Nat→Value) (hK:E.K0 b) (hl:cs.length≤cap) (hc:∀i,i<cs.length→cellAt E.w b (off+i)=some (vs i))
      (hr:∀(i:Nat) (c:C),nth cs i=some c→R E c (vs i)):R E (.ls cs) (.slice (some ⟨b,off,none⟩) cs.length cap)
  | lpt {c:C} {v:Value} {b p:Nat} (hK:E.K0 b) (hc:cellAt E.w b p=some v) (hr:R E c v):R E (.lpt c) (.pointer (some ⟨b,p,none⟩))
inductive RV (E:Env):V→Value→Prop where
  | c {x:C} {v:Value} (h:R E x v):RV E (.c x) v
  | agg {cs:List C} {vs:Array Value} (hn:vs.size=cs.length) (h:∀(i:Nat) (c:C),nth cs i=some c→R E c (vs.getD i undef)):RV E (.agg cs) (.agg vs)
  | tup {xs:List V} {vs:Array Value} (hn:vs.size=xs.length) (h:∀(i:Nat) (x:V),nth xs i=some x→RV E x (vs.getD i undef)):RV E (.tup xs) (.tuple vs)
theorem R.plain {E:Env} {c:C} {v:Value} (h:R E c v) (hc:c ≠ .any):plainV v=true:=by
  cases h with
  | any=>exact (hc rfl).elim
  | lst h=>exact h.plain
  | _=>rfl
def RL (E:Env) (cs:List C) (vs:Array Value):Prop:=vs.size=cs.length∧∀(i:Nat) (c:C),nth cs i=some c→R E c (vs.getD i undef)
def RVs (E:Env) (xs:List V) (vs:Array Value):Prop:=vs.size=xs.length∧∀(i:Nat) (x:V),nth xs i=some x→RV E x (vs.getD i undef)
def Obj.le (a b:Obj):Prop:=match a with
  | .none=>True
  | .cells _=>(∃cs,b = .cells cs)∨∃fz ver sz rows,b = .arr fz ver sz rows
  | .arr _ ver sz rows=>∃fz' ver' rows',b = .arr fz' ver' sz rows'∧ver≤ver'∧(ver=ver'→rows'.length=rows.length)
  | .map ka va ks _=>∃es,b = .map ka va ks es
  | .loop _=>∃l,b = .loop l
def Obj.sameVer (a b:Obj):Prop:=match a,b with
  | .arr _ ver _ _,.arr _ ver' _ _=>ver=ver'
  | .cells _,.arr _ _ _ _=>False
  | _,_=>True
structure Env.Le (E E':Env):Prop where
  obj:∀o,(getH E.h o).le (getH E'.h o)
  pl:∀o,getH E.h o ≠ .none→(getH E.h o).sameVer (getH E'.h o)→E'.pl o=E.pl o
  k0:∀b,E.K0 b→E'.K0 b
  k1:∀b,E.K1 b→E'.K1 b
  w0:∀b i x,E.K0 b→cellAt E.w b i=some x→cellAt E'.w b i=some x
  w1:∀b i x,E.K1 b→cellAt E.w b i=some x→cellAt E'.w b i=some x
theorem Env.Le.kt {E E':Env} (h:E.Le E') (t:Bool):∀b,E.kt t b→E'.kt t b:=by cases t;exact h.k0;exact h.k1
theorem Env.Le.wt {E E':Env} (h:E.Le E') (t:Bool):∀b i x,E.kt t b→cellAt E.w b i=some x→cellAt E'.w b i=some x:=by cases t;exact h.w0;exact h.w1
theorem Obj.le_refl (a:Obj):a.le a:=by
  cases a with
  | arr fz ver sz rows=>exact ⟨fz,ver,rows,rfl,Nat.le_refl _,fun _=>rfl⟩
  | none=>trivial
  | cells cs=>exact .inl ⟨cs,rfl⟩
  | map ka va ks es=>exact ⟨es,rfl⟩
  | loop l=>exact ⟨l,rfl⟩
theorem Obj.le_trans {a b c:Obj} (h1:a.le b) (h2:b.le c):a.le c:=by
  cases a with
  | none=>trivial
  | cells cs=>
    rcases h1 with ⟨_,rfl⟩ | ⟨fz',ver',sz',rows',rfl⟩
    · exact h2
    · obtain ⟨fz2,ver2,rows2,rfl,_⟩:=h2;exact .inr ⟨_,_,_,_,rfl⟩
  | map ka va ks es=>obtain ⟨_,rfl⟩:=h1;exact h2
  | loop l=>obtain ⟨_,rfl⟩:=h1;exact h2
  | arr fz ver sz rows=>
    obtain ⟨fz',ver',rows',rfl,hv,hl⟩:=h1
    obtain ⟨fz2,ver2,rows2,rfl,hv2,hl2⟩:=h2
    refine ⟨fz2,ver2,rows2,rfl,Nat.le_trans hv hv2,fun e=>?_⟩
    rw [hl2 (by omega),hl (by omega)]
theorem Env.Le.refl (E:Env):E.Le E:=⟨fun _=>Obj.le_refl _,fun _ _ _=>rfl,fun _ h=>h,fun _ h=>h,fun _ _ _ _ h=>h,fun _ _ _ _ h=>h⟩
theorem Env.Le.trans {E1 E2 E3:Env} (a:E1.Le E2) (b:E2.Le E3):E1.Le E3 where
  obj o:=Obj.le_trans (a.obj o) (b.obj o)
  pl o hn hs:=by
    have h1:=a.obj o
    have h2:=b.obj o
    have e1:(getH E1.h o).sameVer (getH E2.h o)∧(getH E2.h o).sameVer (getH E3.h o)∧getH E2.h o ≠ .none:=by
      generalize getH E1.h o=x at *
      generalize getH E2.h o=y at *
      generalize getH E3.h o=z at *
      cases x with
      | none=>exact (hn rfl).elim
      | cells cs=>
        rcases h1 with ⟨_,rfl⟩ | ⟨fz',ver',sz',rows',rfl⟩
        · rcases h2 with ⟨_,rfl⟩ | ⟨fz2,ver2,sz2,rows2,rfl⟩
          · exact ⟨trivial,trivial,by simp⟩
          · exact hs.elim
        · obtain ⟨fz2,ver2,rows2,rfl,_⟩:=h2;exact hs.elim
      | map ka va ks es=>obtain ⟨_,rfl⟩:=h1;obtain ⟨_,rfl⟩:=h2;exact ⟨trivial,trivial,by simp⟩
      | loop l=>obtain ⟨_,rfl⟩:=h1;obtain ⟨_,rfl⟩:=h2;exact ⟨trivial,trivial,by simp⟩
      | arr fz ver sz rows=>
        obtain ⟨fz',ver',rows',rfl,hv,hl⟩:=h1
        obtain ⟨fz2,ver2,rows2,rfl,hv2,hl2⟩:=h2
        have hs':ver=ver2:=hs
        exact ⟨show ver=ver' by omega,show ver'=ver2 by omega,by simp⟩
    rw [b.pl o e1.2.2 e1.2.1,a.pl o hn e1.1]
  k0 _ h:=b.k0 _ (a.k0 _ h)
  k1 _ h:=b.k1 _ (a.k1 _ h)
  w0 x i v h e:=b.w0 _ _ _ (a.k0 _ h) (a.w0 _ _ _ h e)
  w1 x i v h e:=b.w1 _ _ _ (a.k1 _ h) (a.w1 _ _ _ h e)
theorem Cel.blk {E:Env} {o b:Nat} {cs:List C} (h:Cel E o b) (ho:getH E.h o = .cells cs):(E.pl o).blk=some b:=by
  rcases h with ⟨_,_,hb⟩ | ⟨_,_,_,_,h⟩
  · exact hb
  · rw [ho] at h;cases h
theorem Cel.of {E:Env} {o b:Nat} {cs:List C} (ho:getH E.h o = .cells cs) (hb:(E.pl o).blk=some b):Cel E o b:=.inl ⟨cs,ho,hb⟩
theorem Cel.mono {E E':Env} (hE:E.Le E') {o b:Nat} (h:Cel E o b):Cel E' o b:=by
  have h1:=hE.obj o
  have h2:=hE.pl o
  rcases h with ⟨cs,ho,hb⟩ | ⟨fz,ver,sz,rows,ho⟩
  · rw [ho] at h1 h2
    rcases h1 with ⟨cs',h1⟩ | ⟨fz',ver',sz',rows',h1⟩
    · exact .inl ⟨cs',h1,by rw [h2 (by simp) (by rw [h1];trivial)];exact hb⟩
    · exact .inr ⟨_,_,_,_,h1⟩
  · rw [ho] at h1
    obtain ⟨fz',ver',rows',h1,_⟩:=h1
    exact .inr ⟨_,_,_,_,h1⟩
theorem R.mono {E E':Env} (hE:E.Le E') {c:C} {v:Value} (h:R E c v):R E' c v:=by
  induction h with
  | any v=>exact .any v
  | int k n=>exact .int k n
  | bool b=>exact .bool b
  | @lst t rows v h=>exact .lst (h.mono (hE.kt t) (hE.wt t))
  | nils=>exact .nils
  | ptr hb=>exact .ptr (hb.mono hE)
  | @aptr o ver i off b fz ver' sz rows ho hv hb=>
    have h1:=hE.obj o
    rw [ho] at h1
    obtain ⟨fz2,ver2,rows2,h1,hv2,_⟩:=h1
    refine .aptr h1 (by omega) (fun e=>?_)
    rw [hE.pl o (by rw [ho];simp) (by rw [ho,h1];show ver'=ver2;omega)]
    exact hb (by omega)
  | @ept t row off b p vs hK hc hr=>exact .ept vs (hE.kt t _ hK) (fun j d h=>hE.wt t _ _ _ hK (hc j d h)) (fun j d h=>(hr j d h).mono (hE.kt t) (hE.wt t))
  | @sl o ver off len cap a fz ver' sz rows ho hv hl hb=>
    have h1:=hE.obj o
    rw [ho] at h1
    obtain ⟨fz2,ver2,rows2,h1,hv2,hln⟩:=h1
    refine .sl h1 (by omega) hl (fun e=>?_)
    have e1:ver'=ver2:=by omega
    rw [hE.pl o (by rw [ho];simp) (by rw [ho,h1];show ver'=ver2;omega),hln e1]
    exact hb (by omega)
  | @map o b ka va ks es ho hb=>
    have h1:=hE.obj o
    rw [ho] at h1
    obtain ⟨es',h1⟩:=h1
    exact .map h1 (by rw [hE.pl o (by rw [ho];simp) (by rw [ho];trivial)];exact hb)
  | fn vs ws h1 h2 _ _ ihf ihc=>exact .fn vs ws h1 h2 ihf ihc
  | ls vs hK hl hc _ ih=>exact .ls vs (hE.k0 _ hK) hl (fun i hi=>hE.w0 _ _ _ hK (hc i hi)) ih
  | lpt hK hc _ ih=>exact .lpt (hE.k0 _ hK) (hE.w0 _ _ _ hK hc) ih
  | @yld o b l ho hb=>
    have h1:=hE.obj o
    rw [ho] at h1
    obtain ⟨l',h1⟩:=h1
    exact .yld h1 (by rw [hE.pl o (by rw [ho];simp) (by rw [ho];trivial)];exact hb)
  | nilfn=>exact .nilfn
  | nilp=>exact .nilp
  | @psl o off len cap b a hb hl ha hc=>
    refine .psl (hb.mono hE) hl ha fun cs' h'=>?_
    have h1:=hE.obj o
    rcases hb with ⟨cs,h2,_⟩ | ⟨fz,ver,sz,rows,h2⟩
    · rw [hE.pl _ (by rw [h2];simp) (by rw [h2,h'];trivial)];exact hc cs h2
    · rw [h2] at h1;obtain ⟨_,_,_,h3,_⟩:=h1;rw [h'] at h3;cases h3
theorem RV.mono {E E':Env} (hE:E.Le E') {x:V} {v:Value} (h:RV E x v):RV E' x v:=by
  induction h with
  | c h=>exact .c (h.mono hE)
  | agg hn h=>exact .agg hn fun i c hi=>(h i c hi).mono hE
  | tup hn _ ih=>exact .tup hn ih
theorem RL.mono {E E':Env} (hE:E.Le E') {cs:List C} {vs:Array Value} (h:RL E cs vs):RL E' cs vs:=⟨h.1,fun i c hi=>(h.2 i c hi).mono hE⟩
def RCl (E:Env) (p:Pl) (cs:List C) (vs:Array Value):Prop:=(cs.length≤vs.size∧p.cap=vs.size)∧∀(i:Nat) (c:C),nth cs i=some c→R E c (vs.getD i undef)
theorem RCl.mono {E E':Env} (hE:E.Le E') {p:Pl} {cs:List C} {vs:Array Value} (h:RCl E p cs vs):RCl E' p cs vs:=⟨h.1,fun i c hi=>(h.2 i c hi).mono hE⟩
theorem RL.rc {E:Env} {p:Pl} {cs:List C} {vs:Array Value} (h:RL E cs vs) (hc:p.cap=vs.size):RCl E p cs vs:=⟨⟨by rw [h.1];exact Nat.le_refl _,hc⟩,h.2⟩
theorem RVs.mono {E E':Env} (hE:E.Le E') {xs:List V} {vs:Array Value} (h:RVs E xs vs):RVs E' xs vs:=⟨h.1,fun i c hi=>(h.2 i c hi).mono hE⟩
def RS (E:Env) (s:List V) (tmps:Array Value):Prop:=s.length=tmps.size∧∀i,RV E (getS s i) (tmps.getD i undef)
theorem RS.mono {E E':Env} (hE:E.Le E') {s:List V} {tmps:Array Value} (h:RS E s tmps):RS E' s tmps:=⟨h.1,fun i=>(h.2 i).mono hE⟩
def Obj.mutable : Obj→Bool
  | .none=>false
  | .arr fz _ _ _=>!fz
  | _=>true
def owned (h:List Obj) (pl:Nat→Pl) (b:Nat):Prop:=∃o,(getH h o).mutable=true∧(pl o).blk=some b
def mkEnv (h:List Obj) (pl:Nat→Pl) (fo:Kept) (w:World):Env:=
  ⟨h,pl,fun b=>b<w.heap.size∧¬owned h pl b∧¬fo b,fun b=>b<w.heap.size∧¬owned h pl b,w⟩
section objs
variable (P:Program) (cfg:Cfg)
def jumpOf : X→Option Code
  | .normal=>none
  | .exit id=>some (.exit id)
  | .ret=>some .ret
def LState.of : LState→LoopState
  | .ready=>.ready | .busy=>.busy | .done=>.done | .exhausted=>.exhausted
def valOf (agg:Bool) (vs:Array Value):Value:=if agg then .agg vs else vs.getD 0 undef
structure REntry (E:Env) (ka va:Bool) (kinds:List (Option IntKind)) (k:List D) (v:List C) (e:MapEntry):Prop where
  key:∃ks:Array Value,e.key=valOf ka ks∧ks.size=k.length∧(ka=false→k.length=1)∧∀(i:Nat) (d:D),nth k i=some d→RD (fun _=>True) E.w d (ks.getD i undef)
  scal:kindsD kinds k=true
  val:∃vs:Array Value,e.val=valOf va vs∧(va=false→v.length=1)∧RL E v vs
def RO' (E:Env) (p:Pl):Obj→Prop
  | .none=>True
  | .cells cs=>∃b arr T,p.blk=some b∧E.w.heap[b]?=some (.cells arr T (0,0))∧RCl E p cs arr
  | .arr _ _ sz rows=>rows.length≤p.cap∧(∀(i:Nat) (row:List D),nth rows i=some row→row.length=sz) ∧
      match p.blk with
      | none=>p.cap=0
      | some b=>∃arr T,E.w.heap[b]?=some (.cells arr T (0,0))∧p.cap*sz≤arr.size ∧
          ∀(i:Nat) (row:List D) (j:Nat) (d:D),nth rows i=some row→nth row j=some d→∃v,arr[i*sz+j]?=some v∧RD E.K0 E.w d v
  | .map ka va ks es=>∃(b:Nat) (entries:Array MapEntry) (clock:Nat),p.blk=some b∧E.w.heap[b]?=some (.map entries clock)∧entries.size=es.length ∧
      ∀(i:Nat) (e:List D × List C),nth es i=some e→∃e',entries[i]?=some e'∧REntry E ka va ks e.1 e.2 e'
  | .loop l=>∃(b:Nat) (L:Loop),p.blk=some b∧E.w.heap[b]?=some (.loop L)∧L.state=l.state.of∧L.pending=jumpOf l.pending ∧
      RS E l.slots L.tmps∧L.params.toList=l.params∧cCode P cfg L.fn L.assign=some l.assign∧cCode P cfg L.fn L.body=some l.body
structure RW (h:List Obj) (pl:Nat→Pl) (fo:Kept) (w:World):Prop where
  obj:∀o,RO' P cfg (mkEnv h pl fo w) (pl o) (getH h o)
  ne:∀o o' b,o≠o'→getH h o ≠ .none→getH h o' ≠ .none→(pl o).blk=some b→(pl o').blk≠some b
  fo:∀o b,getH h o ≠ .none→(pl o).blk=some b→¬fo b
end objs
def thawed : Go.Obj→Bool
  | .cells _ _ (lo,hi)=>lo==0&&hi==0
  | _=>true
structure Still (w w':World):Prop where
  size:w.heap.size≤w'.heap.size
  os:w'.os=w.os
  out:w'.output=w.output
  fz:∀a,w'.frozen? a=w.frozen? a
theorem Still.refl (w:World):Still w w:=⟨Nat.le_refl _,rfl,rfl,fun _=>rfl⟩
theorem Still.trans {w1 w2 w3:World} (a:Still w1 w2) (b:Still w2 w3):Still w1 w3:=⟨Nat.le_trans a.size b.size,b.os.trans a.os,b.out.trans a.out,fun x=>(b.fz x).trans (a.fz x)⟩
theorem Still.drew (w:World) (n:Nat):Still w { w with drawn:=n }:=⟨Nat.le_refl _,rfl,rfl,fun _=>rfl⟩
structure Fr (h:List Obj) (pl:Nat→Pl) (w:World) (h':List Obj) (pl':Nat→Pl) (w':World):Prop where
  st:Still w w'
  same:∀b,b<w.heap.size→¬owned h pl b→w'.heap[b]?=w.heap[b]?
  own:∀b,b<w.heap.size→¬owned h pl b→¬owned h' pl' b
theorem Fr.size {h h':List Obj} {pl pl':Nat→Pl} {w w':World} (f:Fr h pl w h' pl' w'):w.heap.size≤w'.heap.size:=f.st.size
theorem Fr.refl (h:List Obj) (pl:Nat→Pl) (w:World):Fr h pl w h pl w:=⟨Still.refl _,fun _ _ _=>rfl,fun _ _ h=>h⟩
theorem Fr.trans {h1 h2 h3:List Obj} {p1 p2 p3:Nat→Pl} {w1 w2 w3:World} (a:Fr h1 p1 w1 h2 p2 w2) (b:Fr h2 p2 w2 h3 p3 w3):Fr h1 p1 w1 h3 p3 w3 where
  st:=a.st.trans b.st
  same x hx ho:=by rw [b.same x (Nat.lt_of_lt_of_le hx a.size) (a.own x hx ho),a.same x hx ho]
  own x hx ho:=b.own x (Nat.lt_of_lt_of_le hx a.size) (a.own x hx ho)
theorem cellAt_of_heap {w w':World} {b i:Nat} (h:w'.heap[b]?=w.heap[b]?):cellAt w' b i=cellAt w b i:=by
  unfold cellAt World.cell?;simp only [h]
structure HLe (h:List Obj) (pl:Nat→Pl) (h':List Obj) (pl':Nat→Pl):Prop where
  obj:∀o,(getH h o).le (getH h' o)
  pl:∀o,getH h o ≠ .none→(getH h o).sameVer (getH h' o)→pl' o=pl o
theorem HLe.refl (h:List Obj) (pl:Nat→Pl):HLe h pl h pl:=⟨fun _=>Obj.le_refl _,fun _ _ _=>rfl⟩
theorem Env.le_of {h h':List Obj} {pl pl':Nat→Pl} {fo:Kept} {w w':World} (a:HLe h pl h' pl') (f:Fr h pl w h' pl' w'):(mkEnv h pl fo w).Le (mkEnv h' pl' fo w') where
  obj:=a.obj
  pl:=a.pl
  k0 b hb:=⟨Nat.lt_of_lt_of_le hb.1 f.size,f.own b hb.1 hb.2.1,hb.2.2⟩
  k1 b hb:=⟨Nat.lt_of_lt_of_le hb.1 f.size,f.own b hb.1 hb.2⟩
  w0 b i x hb e:=by rw [show cellAt (mkEnv h' pl' fo w').w b i=cellAt w b i from cellAt_of_heap (f.same b hb.1 hb.2.1)];exact e
  w1 b i x hb e:=by rw [show cellAt (mkEnv h' pl' fo w').w b i=cellAt w b i from cellAt_of_heap (f.same b hb.1 hb.2)];exact e
theorem HLe.trans {h1 h2 h3:List Obj} {p1 p2 p3:Nat→Pl} (a:HLe h1 p1 h2 p2) (b:HLe h2 p2 h3 p3):HLe h1 p1 h3 p3:=by
  have w:World:=default
  let e (h:List Obj) (p:Nat→Pl):Env:=⟨h,p,fun _=>False,fun _=>False,w⟩
  have A:(e h1 p1).Le (e h2 p2):=⟨a.obj,a.pl,fun _ h=>h,fun _ h=>h,fun _ _ _ h=>h.elim,fun _ _ _ h=>h.elim⟩
  have B:(e h2 p2).Le (e h3 p3):=⟨b.obj,b.pl,fun _ h=>h,fun _ h=>h,fun _ _ _ h=>h.elim,fun _ _ _ h=>h.elim⟩
  exact ⟨(A.trans B).obj,(A.trans B).pl⟩
end Am
namespace Am
open Go
theorem nth_lt {α:Type} {l:List α} {i:Nat} {x:α} (h:nth l i=some x):i<l.length:=by
  induction l generalizing i with
  | nil=>cases h
  | cons y l ih=>cases i with
    | zero=>simp
    | succ i=>have:=ih h;simpa using this
theorem nth_get {α:Type} (l:List α) (i:Nat):nth l i=l[i]?:=by
  induction l generalizing i with
  | nil=>rfl
  | cons y l ih=>cases i with
    | zero=>rfl
    | succ i=>simpa [nth] using ih i
theorem nth_some {α:Type} {l:List α} {i:Nat} (h:i<l.length):∃x,nth l i=some x:=by
  rw [nth_get];exact ⟨_,List.getElem?_eq_getElem h⟩
theorem takeN_spec {α:Type} {n:Nat} {l r:List α} (h:takeN n l=some r):r.length=n∧∀j,j<n→nth r j=nth l j:=by
  induction n generalizing l r with
  | zero=>cases h;exact ⟨rfl,fun j hj=>by omega⟩
  | succ n ih=>
    cases l with
    | nil=>cases h
    | cons x l=>
      simp only [takeN] at h
      cases ht:takeN n l with
      | none=>rw [ht] at h;cases h
      | some r'=>
        rw [ht] at h;cases h
        obtain ⟨h1,h2⟩:=ih ht
        refine ⟨by simp [h1],fun j hj=>?_⟩
        cases j with
        | zero=>rfl
        | succ j=>exact h2 j (by omega)
theorem takeN_len {α:Type} {n:Nat} {l r:List α} (h:takeN n l=some r):n≤l.length:=by
  induction n generalizing l r with
  | zero=>omega
  | succ n ih=>
    cases l with
    | nil=>cases h
    | cons x l=>
      simp only [takeN] at h
      cases ht:takeN n l with
      | none=>rw [ht] at h;cases h
      | some r'=>have:=ih ht;simp;omega
theorem dropN_spec {α:Type} (n:Nat) (l:List α) (j:Nat):nth (dropN n l) j=nth l (n+j):=by
  induction n generalizing l with
  | zero=>simp [dropN]
  | succ n ih=>
    cases l with
    | nil=>rfl
    | cons x l=>simp only [dropN];rw [ih,show n+1+j=(n+j)+1 by omega];rfl
theorem dropN_len {α:Type} (n:Nat) (l:List α):(dropN n l).length=l.length-n:=by
  induction n generalizing l with
  | zero=>simp [dropN]
  | succ n ih=>cases l with
    | nil=>simp [dropN]
    | cons x l=>simp [dropN,ih]
theorem part_spec {α:Type} {off n:Nat} {l r:List α} (h:part off n l=some r):r.length=n∧∀j,j<n→nth r j=nth l (off+j):=by
  obtain ⟨h1,h2⟩:=takeN_spec h
  exact ⟨h1,fun j hj=>by rw [h2 j hj,dropN_spec]⟩
theorem part_le {α:Type} {off n:Nat} {l r:List α} (h:part off n l=some r):n≤l.length-off:=by
  have:=takeN_len h;rwa [dropN_len] at this
theorem part_mem {α:Type} {off n:Nat} {l r:List α} (h:part off n l=some r) {j:Nat} {x:α} (hj:nth r j=some x):nth l (off+j)=some x:=by
  obtain ⟨h1,h2⟩:=part_spec h
  rw [←h2 j (by have:=nth_lt hj;omega)];exact hj
theorem splice_spec {α:Type} {off:Nat} {xs l r:List α} (h:splice off xs l=some r) :
    r.length=l.length∧off+xs.length≤l.length∧∀j,nth r j=if off≤j∧j<off+xs.length then nth xs (j-off) else nth l j:=by
  induction off generalizing xs l r with
  | zero=>
    induction xs generalizing l r with
    | nil=>cases l<;>cases h<;>exact ⟨rfl,by simp,fun j=>by rw [if_neg (by simp)]⟩
    | cons x xs ih=>
      cases l with
      | nil=>cases h
      | cons y l=>
        simp only [splice] at h
        cases hs:splice 0 xs l with
        | none=>rw [hs] at h;cases h
        | some r'=>
          rw [hs] at h;cases h
          obtain ⟨h1,h2,h3⟩:=ih hs
          refine ⟨by simp [h1],by simp at h2 ⊢;omega,fun j=>?_⟩
          cases j with
          | zero=>simp [nth]
          | succ j=>
            have:=h3 j
            simp only [nth,List.length_cons] at this ⊢
            rw [this]
            by_cases hj:j<xs.length
            · rw [if_pos ⟨by omega,by omega⟩,if_pos ⟨by omega,by omega⟩];rfl
            · rw [if_neg (by omega),if_neg (by omega)]
  | succ n ih=>
    cases l with
    | nil=>cases xs<;>cases h
    | cons y l=>
      have h':(splice n xs l).map (y::·)=some r:=by cases xs<;>exact h
      cases hs:splice n xs l with
      | none=>rw [hs] at h';cases h'
      | some r'=>
        rw [hs] at h';cases h'
        obtain ⟨h1,h2,h3⟩:=ih hs
        refine ⟨by simp [h1],by simp;omega,fun j=>?_⟩
        cases j with
        | zero=>simp [nth]
        | succ j=>
          have:=h3 j
          simp only [nth]
          rw [this]
          by_cases hj:n≤j∧j<n+xs.length
          · rw [if_pos hj,if_pos ⟨by omega,by omega⟩,show j+1-(n+1)=j-n by omega]
          · rw [if_neg hj,if_neg (by omega)]
theorem setNth_len {α:Type} (l:List α) (i:Nat) (x:α):(setNth l i x).length=l.length:=by
  induction l generalizing i with
  | nil=>rfl
  | cons y l ih=>cases i<;>simp [setNth,ih]
theorem nth_setNth {α:Type} (l:List α) (i j:Nat) (x:α):nth (setNth l i x) j=if j=i∧i<l.length then some x else nth l j:=by
  induction l generalizing i j with
  | nil=>simp [setNth,nth]
  | cons y l ih=>
    cases i with
    | zero=>cases j with
      | zero=>simp [setNth,nth]
      | succ j=>simp [setNth,nth]
    | succ i=>cases j with
      | zero=>simp [setNth,nth]
      | succ j=>
        simp only [setNth,nth,ih,List.length_cons]
        by_cases h:j=i∧i<l.length
        · rw [if_pos h,if_pos ⟨by omega,by omega⟩]
        · rw [if_neg h,if_neg (by omega)]
theorem setS_len (l:List V) (i:Nat) (x:V):(setS l i x).length=l.length:=by
  induction l generalizing i with
  | nil=>rfl
  | cons y l ih=>cases i<;>simp [setS,ih]
theorem getS_setS (l:List V) (i j:Nat) (x:V):getS (setS l i x) j=if j=i∧i<l.length then x else getS l j:=by
  induction l generalizing i j with
  | nil=>simp [setS,getS]
  | cons y l ih=>
    cases i with
    | zero=>cases j with
      | zero=>simp [setS,getS]
      | succ j=>simp [setS,getS]
    | succ i=>cases j with
      | zero=>simp [setS,getS]
      | succ j=>
        simp only [setS,getS,ih,List.length_cons]
        by_cases h:j=i∧i<l.length
        · rw [if_pos h,if_pos ⟨by omega,by omega⟩]
        · rw [if_neg h,if_neg (by omega)]
theorem getS_append_left (a b:List V) (i:Nat) (h:i<a.length):getS (a++b) i=getS a i:=by
  induction a generalizing i with
  | nil=>simp at h
  | cons x a ih=>cases i with
    | zero=>rfl
    | succ i=>simpa [getS] using ih i (by simpa using h)
theorem getS_append_right (a b:List V) (i:Nat) (h:a.length≤i):getS (a++b) i=getS b (i-a.length):=by
  induction a generalizing i with
  | nil=>simp
  | cons x a ih=>cases i with
    | zero=>simp at h
    | succ i=>simp only [List.cons_append,getS,List.length_cons];rw [ih i (by simpa using h)];congr 1;omega
theorem getS_eq (l:List V) (i:Nat):getS l i=l.getD i undefV:=by
  induction l generalizing i with
  | nil=>rfl
  | cons x l ih=>cases i with
    | zero=>rfl
    | succ i=>simpa [getS] using ih i
theorem getS_nth {l:List V} {i:Nat} {x:V} (h:nth l i=some x):getS l i=x:=by
  rw [getS_eq];rw [nth_get] at h;simp [List.getD,h]
theorem setH_len (l:List Obj) (i:Nat) (x:Obj):(setH l i x).length=l.length:=by
  induction l generalizing i with
  | nil=>rfl
  | cons y l ih=>cases i<;>simp [setH,ih]
theorem getH_setH (l:List Obj) (i j:Nat) (x:Obj):getH (setH l i x) j=if j=i∧i<l.length then x else getH l j:=by
  induction l generalizing i j with
  | nil=>simp [setH,getH]
  | cons y l ih=>
    cases i with
    | zero=>cases j with
      | zero=>simp [setH,getH]
      | succ j=>simp [setH,getH]
    | succ i=>cases j with
      | zero=>simp [setH,getH]
      | succ j=>
        simp only [setH,getH,ih,List.length_cons]
        by_cases h:j=i∧i<l.length
        · rw [if_pos h,if_pos ⟨by omega,by omega⟩]
        · rw [if_neg h,if_neg (by omega)]
theorem getH_none {l:List Obj} {i:Nat} (h:l.length≤i):getH l i = .none:=by
  induction l generalizing i with
  | nil=>rfl
  | cons x l ih=>cases i with
    | zero=>simp at h
    | succ i=>exact ih (by simpa using h)
theorem getH_lt {l:List Obj} {i:Nat} (h:getH l i ≠ .none):i<l.length:=by
  rcases Nat.lt_or_ge i l.length with h1 | h1
  · exact h1
  · exact (h (getH_none h1)).elim
theorem getH_append_left (a b:List Obj) (i:Nat) (h:i<a.length):getH (a++b) i=getH a i:=by
  induction a generalizing i with
  | nil=>simp at h
  | cons x a ih=>cases i with
    | zero=>rfl
    | succ i=>simpa [getH] using ih i (by simpa using h)
theorem getH_take (l:List Obj) (n i:Nat):getH (l.take n) i=if i<n then getH l i else .none:=by
  induction l generalizing n i with
  | nil=>simp [getH]
  | cons x l ih=>
    cases n with
    | zero=>simp [getH]
    | succ n=>cases i with
      | zero=>simp [getH]
      | succ i=>simp only [List.take_succ_cons,getH,ih];congr 1;simp
theorem isHole_iff {l:List Obj} {i:Nat}:isHole l i=true↔i<l.length∧getH l i = .none:=by
  induction l generalizing i with
  | nil=>simp [isHole]
  | cons x l ih=>
    cases i with
    | zero=>cases x<;>simp [isHole,getH]
    | succ i=>cases x<;>simp [isHole,getH,ih]
theorem known_spec {l:List C} (h:known l=true):∀(i:Nat) (c:C),nth l i=some c→c ≠ .any:=by
  induction l with
  | nil=>intro i c hc;cases hc
  | cons x l ih=>
    intro i c hc
    cases i with
    | zero=>cases hc;intro e;subst e;cases h
    | succ i=>exact ih (by cases x<;>first | exact h | cases h) i c hc
theorem kindsD_scal : ∀{ks:List (Option IntKind)} {l:List D},kindsD ks l=true→∀(i:Nat) (d:D),nth l i=some d→∀rows,d ≠ .lst rows
  | [],[],_,i,d,h=>by cases h
  | some k::ks,.int k' n::l,h,i,d,hd=>by
    cases i with
    | zero=>cases hd;intro rows e;cases e
    | succ i=>simp only [kindsD,Bool.and_eq_true] at h;exact kindsD_scal h.2 i d hd
  | none::ks,.bool b::l,h,i,d,hd=>by
    cases i with
    | zero=>cases hd;intro rows e;cases e
    | succ i=>exact kindsD_scal (ks:=ks) (by simpa [kindsD] using h) i d hd
  | [],_::_,h,_,_,_=>by simp [kindsD] at h
  | _::_,[],h,_,_,_=>by simp [kindsD] at h
  | some _::_,.bool _::_,h,_,_,_=>by simp [kindsD] at h
  | some _::_,.lst _::_,h,_,_,_=>by simp [kindsD] at h
  | none::_,.int _ _::_,h,_,_,_=>by simp [kindsD] at h
  | none::_,.lst _::_,h,_,_,_=>by simp [kindsD] at h
theorem nth_map {α β:Type} (f:α→β) (l:List α) (n:Nat):nth (l.map f) n=(nth l n).map f:=by
  induction l generalizing n with
  | nil=>rfl
  | cons x l ih=>cases n<;>simp [nth,ih]
theorem nth_append {α:Type} (a b:List α) (i:Nat):nth (a++b) i=if i<a.length then nth a i else nth b (i-a.length):=by
  rw [nth_get,nth_get,nth_get,List.getElem?_append]
theorem nth_replicate {α:Type} (n:Nat) (x:α) (i:Nat):nth (List.replicate n x) i=if i<n then some x else none:=by
  rw [nth_get,List.getElem?_replicate]
end Am
