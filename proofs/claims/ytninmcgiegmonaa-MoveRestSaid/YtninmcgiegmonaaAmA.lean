/-
  An abstract machine for the code that the model elaborates: its values, its code, its evaluator, the compiler to it, and plain rules about it.
-/
import GoSem.Step
namespace Am
open Go
inductive D where
  | int (k:IntKind) (n:Int)
  | bool (b:Bool)
  | lst (rows:List (List D))
  deriving Inhabited
inductive C where
  | any
  | int (k:IntKind) (n:Int)
  | bool (b:Bool)
  | lst (t:Bool) (rows:List (List D))
  | nils
  | ptr (o off:Nat)
  | aptr (o ver i off:Nat)
  | ept (t:Bool) (row:List D) (off:Nat)
  | sl (o ver off len:Nat)
  | map (o:Nat)
  | fn (f:Nat) (agg:Bool) (first caps:List C)
  | yld (o:Nat)
  | nilfn
  | nilp
  | psl (o off len:Nat)
  | ls (cs:List C)
  | lpt (c:C)
  deriving Inhabited
inductive V where
  | c (x:C)
  | agg (cs:List C)
  | tup (vs:List V)
  deriving Inhabited
inductive Opd where
  | tmp (t:Nat)
  | cst (v:V)
  deriving Inhabited
inductive Bin where
  | add | sub | mul | quo | rem | and | or | xor | andn | shl | shr | eql | neq | lss | leq | gtr | geq
  deriving DecidableEq,Inhabited
inductive AOp where
  | mov (x:Opd)
  | pick (c a b:Opd)
  | alloc (zero:List C)
  | box (x:Opd)
  | load (n:Option Nat) (a:Opd)
  | store (n:Option Nat) (a x:Opd)
  | faddr (off:Nat) (x:Opd)
  | iaddr (sz:Nat) (x i:Opd)
  | iaddrA (len sz:Nat) (x i:Opd)
  | fld (off:Nat) (n:Option Nat) (x:Opd)
  | idx (len sz:Nat) (n:Option Nat) (x i:Opd)
  | bin (op:Bin) (x y:Opd)
  | eqA (neg:Bool) (ks:List (Option IntKind)) (x y:Opd)
  | eqB (neg:Bool) (x y:Opd)
  | not (x:Opd)
  | neg (x:Opd)
  | conv (k:IntKind) (x:Opd)
  | extract (i:Nat) (x:Opd)
  | mkfn (f:Nat) (first:Option Opd) (caps:List Opd)
  | build (zero:List C) (parts:List (Nat × Nat × Opd))
  | bslice (sz n:Nat) (zero:List C) (parts:List (Nat × Opd))
  | blistc (zero:List C) (parts:List (Nat × Nat × Opd))
  | blist (sz n:Nat) (zero:List C) (parts:List (Nat × Opd))
  | mkslice (sz bytes:Nat) (zero:List C) (len:Opd)
  | append (sz bytes:Nat) (s x:Opd)
  | clone (f sz bytes:Nat) (x:Opd)
  | grow (f sz bytes:Nat) (x:Opd)
  | slice (sz:Nat) (x:Opd) (lo hi:Option Opd)
  | pslice (len:Nat) (x:Opd) (lo hi:Option Opd)
  | copy (x y:Opd)
  | len (x:Opd)
  | mm (isMax:Bool) (x y:Opd)
  | nilchk (x:Opd)
  | isnil (neg:Bool) (x:Opd)
  | mkmap (kagg vagg:Bool) (ks:List (Option IntKind))
  | lookup (kagg vagg:Bool) (ks:List (Option IntKind)) (zero:V) (ok:Bool) (m k:Opd)
  | mapupd (kagg vagg:Bool) (ks:List (Option IntKind)) (m k v:Opd)
  | call (f:Nat) (pure:Bool) (args:List Opd)
  | callv (f:Opd) (args:List Opd)
  deriving Inhabited
structure AOper where
  dst:Option Nat
  op:AOp
  guard:Option (Nat × Bool)
  rid:Nat
  deriving Inhabited
structure Ann where
  kill:List Nat:=[]
  trunc:Bool:=false
  reify:List (Nat × Option Nat × Nat):=[]
  deriving Inhabited,DecidableEq
inductive ACode where
  | skip
  | region (news:Nat) (pairs:List (Nat × Nat)) (ops:List AOper)
  | seq (a b:ACode)
  | cond (c:Opd) (thn els:ACode)
  | block (id:Nat) (body:ACode)
  | loop (ann:Ann) (body:ACode)
  | range (f:Opd) (params:List Nat) (assign body:ACode)
  | exit (id:Nat)
  | ret
  | frz (l:List Nat)
  deriving Inhabited
inductive RVar where
  | tmp (t:Nat)
  | cell (t:Nat) (n:Option Nat)
  deriving Inhabited
structure AFunc where
  ntmps:Nat
  res:List RVar
  drop:Bool
  code:ACode
  deriving Inhabited
inductive LState where
  | ready | busy | done | exhausted
  deriving DecidableEq,Inhabited
inductive X where
  | normal
  | exit (id:Nat)
  | ret
  deriving DecidableEq,Inhabited
structure ALoop where
  state:LState
  pending:X
  slots:List V
  params:List Nat
  assign:ACode
  body:ACode
  deriving Inhabited
inductive Obj where
  | none
  | cells (cs:List C)
  | arr (frozen:Bool) (ver sz:Nat) (rows:List (List D))
  | map (kagg vagg:Bool) (ks:List (Option IntKind)) (es:List (List D × List C))
  | loop (l:ALoop)
  deriving Inhabited
structure St where
  slots:List V
  heap:List Obj
  deriving Inhabited
def undefV : V:=.c .any
def getS : List V→Nat→V
  | [],_=>undefV
  | v::_,0=>v
  | _::l,n+1=>getS l n
def setS : List V→Nat→V→List V
  | [],_,_=>[]
  | _::l,0,x=>x::l
  | v::l,n+1,x=>v::setS l n x
def getH : List Obj→Nat→Obj
  | [],_=>.none
  | v::_,0=>v
  | _::l,n+1=>getH l n
def setH : List Obj→Nat→Obj→List Obj
  | [],_,_=>[]
  | _::l,0,x=>x::l
  | v::l,n+1,x=>v::setH l n x
def Opd.ev (s:List V):Opd→V
  | .tmp t=>getS s t
  | .cst v=>v
def C.ofD (t:Bool):D→C
  | .int k n=>.int k n
  | .bool b=>.bool b
  | .lst rows=>.lst t rows
def V.cells : V→List C
  | .c x=>[x]
  | .agg cs=>cs
  | .tup _=>[]
def V.isAgg : V→Bool
  | .agg _=>true
  | _=>false
def V.ofCells : Option Nat→List C→Option V
  | none,[x]=>some (.c x)
  | none,_=>none
  | some n,cs=>if cs.length=n then some (.agg cs) else none
def takeN {α:Type}:Nat→List α→Option (List α)
  | 0,_=>some []
  | _+1,[]=>none
  | n+1,x::l=>(takeN n l).map (x::·)
def dropN {α:Type}:Nat→List α→List α
  | 0,l=>l
  | _+1,[]=>[]
  | n+1,_::l=>dropN n l
def part {α:Type} (off n:Nat) (cs:List α):Option (List α):=takeN n (dropN off cs)
def splice {α:Type}:Nat→List α→List α→Option (List α)
  | 0,[],l=>some l
  | 0,_::_,[]=>none
  | 0,x::xs,_::l=>(splice 0 xs l).map (x::·)
  | _+1,_,[]=>none
  | n+1,xs,y::l=>(splice n xs l).map (y::·)
def nth {α:Type}:List α→Nat→Option α
  | [],_=>none
  | x::_,0=>some x
  | _::l,n+1=>nth l n
def setNth {α:Type}:List α→Nat→α→List α
  | [],_,_=>[]
  | _::l,0,y=>y::l
  | x::l,n+1,y=>x::setNth l n y
def num (n:Option Nat):Nat:=n.getD 1
def loadC (h:List Obj) (n:Nat):C→Option (List C)
  | .ptr o off=>match getH h o with
    | .cells cs=>part off n cs
    | _=>none
  | .aptr o ver i off=>match getH h o with
    | .arr _ ver' _ rows=>if ver'=ver then (nth rows i).bind fun row=>(part off n row).map (·.map (C.ofD false)) else none
    | _=>none
  | .ept t row off=>(part off n row).map (·.map (C.ofD t))
  | .lpt c=>if n=1 then some [c] else none
  | _=>none
def C.obj : C→List Nat
  | .ptr o _ | .aptr o _ _ _ | .sl o _ _ _ | .map o | .yld o | .psl o _ _=>[o]
  | _=>[]
def toD (h:List Obj):C→Option (D × List Nat)
  | .int k n=>some (.int k n,[])
  | .bool b=>some (.bool b,[])
  | .lst false rows=>some (.lst rows,[])
  | .nils=>some (.lst [],[])
  | .sl o ver off len=>match getH h o with
    | .arr _ ver' _ rows=>if ver'=ver then (part off len rows).map fun r=>(.lst r,[o]) else none
    | _=>none
  | _=>none
def toDs (h:List Obj):List C→Option (List D × List Nat)
  | []=>some ([],[])
  | c::cs=>match toD h c,toDs h cs with
    | some (d,k),some (ds,ks)=>some (d::ds,k++ks)
    | _,_=>none
def freeze (h:List Obj) (ks:List Nat):List (Nat × Obj):=ks.map fun o=>match getH h o with
  | .arr _ ver sz rows=>(o,.arr true ver sz rows)
  | x=>(o,x)
mutual
def C.under (b:Nat):C→Bool
  | .ptr o _ | .aptr o _ _ _ | .sl o _ _ _ | .map o | .yld o | .psl o _ _=>Nat.blt o b
  | .fn _ _ first caps=>C.underL b first&&C.underL b caps
  | .ls cs=>C.underL b cs
  | .lpt c=>C.under b c
  | _=>true
def C.underL (b:Nat):List C→Bool
  | []=>true
  | c::cs=>C.under b c&&C.underL b cs
end
mutual
def V.under (b:Nat):V→Bool
  | .c x=>x.under b
  | .agg cs=>C.underL b cs
  | .tup vs=>V.underL b vs
def V.underL (b:Nat):List V→Bool
  | []=>true
  | v::vs=>V.under b v&&V.underL b vs
end
def known : List C→Bool
  | []=>true
  | .any::_=>false
  | _::l=>known l
def isHole : List Obj→Nat→Bool
  | [],_=>false
  | .none::_,0=>true
  | _::_,0=>false
  | _::l,n+1=>isHole l n
def storeC (h:List Obj) (a:C) (x:List C):Option (List (Nat × Obj)):=
  match a with
  | .ptr o off=>match getH h o with
    | .cells cs=>(splice off x cs).map fun cs'=>[(o,.cells cs')]
    | _=>none
  | .aptr o ver i off=>match getH h o with
    | .arr false ver' sz rows=>
      if ver'=ver then
        match nth rows i,toDs h x with
        | some row,some (ds,[])=>(splice off ds row).map fun row'=>[(o,.arr false ver sz (setNth rows i row'))]
        | _,_=>none
      else none
    | _=>none
  | _=>none
def D.key : D→D→Bool
  | .int _ a,.int _ b=>a==b
  | .bool a,.bool b=>a==b
  | _,_=>false
def keyEq : List D→List D→Bool
  | [],[]=>true
  | a::as,b::bs=>D.key a b&&keyEq as bs
  | _,_=>false
def findE (k:List D):List (List D × List C)→Option (List C)
  | []=>none
  | e::es=>if keyEq k e.1 then some e.2 else findE k es
def putE (k:List D) (v:List C):List (List D × List C)→List (List D × List C)
  | []=>[(k,v)]
  | e::es=>if keyEq k e.1 then (k,v)::es else e::putE k v es
def kindsD : List (Option IntKind)→List D→Bool
  | [],[]=>true
  | some k::ks,.int k' _::ds=>k==k'&&kindsD ks ds
  | none::ks,.bool _::ds=>kindsD ks ds
  | _,_=>false
def eqCs : List (Option IntKind)→List C→List C→Option Bool
  | [],[],[]=>some true
  | some k::ks,.int k1 a::as,.int k2 b::bs=>if k==k1&&k==k2 then (eqCs ks as bs).map fun r=>a==b&&r else none
  | none::ks,.bool a::as,.bool b::bs=>(eqCs ks as bs).map fun r=>a==b&&r
  | _,_,_=>none
def binI (op:Bin) (k:IntKind) (a b:Int):Option C:=
  match op with
  | .add=>some (.int k (k.wrap (a+b)))
  | .sub=>some (.int k (k.wrap (a-b)))
  | .mul=>some (.int k (k.wrap (a*b)))
  | .quo=>if b=0 then none else some (.int k (k.wrap (a.tdiv b)))
  | .rem=>if b=0 then none else some (.int k (a.tmod b))
  | .shl=>if b<0 then none else some (.int k (k.wrap (a*2^(min b.toNat k.bits))))
  | .shr=>if b<0 then none else some (.int k (a.fdiv (2^(min b.toNat k.bits))))
  | .and=>some (.int k (k.wrap (BitVec.ofInt k.bits a &&& BitVec.ofInt k.bits b).toNat))
  | .or=>some (.int k (k.wrap (BitVec.ofInt k.bits a ||| BitVec.ofInt k.bits b).toNat))
  | .xor=>some (.int k (k.wrap (BitVec.ofInt k.bits a ^^^ BitVec.ofInt k.bits b).toNat))
  | .andn=>some (.int k (k.wrap (BitVec.ofInt k.bits a &&& ~~~ BitVec.ofInt k.bits b).toNat))
  | .eql=>some (.bool (a==b))
  | .neq=>some (.bool (a != b))
  | .lss=>some (.bool (decide (a<b)))
  | .leq=>some (.bool (decide (a≤b)))
  | .gtr=>some (.bool (decide (a>b)))
  | .geq=>some (.bool (decide (a≥b)))
def Bin.isShift : Bin→Bool
  | .shl | .shr=>true
  | _=>false
def binV (op:Bin):V→V→Option C
  | .c (.int k a),.c (.int k' b)=>if op.isShift||k==k' then binI op k a b else none
  | _,_=>none
def bound (s:List V) (dflt:Nat):Option Opd→Option Nat
  | none=>some dflt
  | some x=>match x.ev s with
    | .c (.int _ n)=>if 0≤n then some n.toNat else none
    | _=>none
def oneCs (s:List V):List Opd→Option (List C)
  | []=>some []
  | x::xs=>match x.ev s,oneCs s xs with
    | .c c,some cs=>some (c::cs)
    | _,_=>none
def V.laid : V→Option (List C)
  | .tup _=>none
  | .c x=>if known [x]=true then some [x] else none
  | .agg cs=>if known cs=true then some cs else none
def buildC (s:List V):List (Nat × Nat × Opd)→List C→Option (List C)
  | [],cs=>some cs
  | (off,n,x)::rest,cs=>match (x.ev s).laid with
    | some l=>if l.length=n then (splice off l cs).bind (buildC s rest) else none
    | none=>none
def rowsOf (n:Nat) (row:List D):List (List D):=List.replicate n row
def setRows (s:List V) (h:List Obj) (sz:Nat):List (Nat × Opd)→List (List D)→Option (List (List D) × List Nat)
  | [],rows=>some (rows,[])
  | (i,x)::rest,rows=>
    match ((x.ev s).laid).bind (toDs h) with
    | some (ds,k)=>if ds.length=sz∧i<rows.length then (setRows s h sz rest (setNth rows i ds)).map fun r=>(r.1,k++r.2) else none
    | none=>none
def scalRow : List D→Bool
  | []=>true
  | .lst _::_=>false
  | _::l=>scalRow l
def scalRows : List (List D)→Bool
  | []=>true
  | r::l=>scalRow r&&scalRows l
def headLen (sz:Nat):List (List D)→Bool
  | []=>true
  | r::_=>r.length==sz
def scalCells : List C→Option (List (List D))
  | []=>some []
  | .int k n::l=>(scalCells l).map ([.int k n]::·)
  | .bool b::l=>(scalCells l).map ([.bool b]::·)
  | _=>none
def sliceRows (h:List Obj):C→Option (List (List D))
  | .lst t rows=>if t && !scalRows rows then none else some rows
  | .nils=>some []
  | .sl o ver off len=>match getH h o with
    | .arr _ ver' _ rows=>if ver'=ver then part off len rows else none
    | _=>none
  | .psl o off len=>match getH h o with
    | .cells cs=>(part off len cs).bind scalCells
    | _=>none
  | _=>none
abbrev Wr := List (Nat × Obj)
def newV (h:List Obj) (rid:Nat) (x:Obj) (c:C) (more:Wr):Option (V × Wr):=if isHole h rid then some (.c c,more++[(rid,x)]) else none
def pureV (c:C):Option (V × Wr):=some (.c c,[])
def C.isSl : C→Bool
  | .sl ..=>true
  | _=>false
def gone : Obj:=.arr true 0 0 []
def appendC (h:List Obj) (rid bytes sz:Nat) (a b:C):Option (V × Wr):=match b with
  | .ls new=>if sz=1∧new.isEmpty=false∧new.all C.isSl=true then
      match a with
      | .nils=>if new.length*bytes≤2^40 then newV h rid (.cells new) (.psl rid 0 new.length) [] else none
      | .psl o off len=>match getH h o with
        | .cells cs=>if off=0∧0<len∧cs.length=len∧(len+new.length)*bytes≤2^40 then newV h rid (.cells (cs++new)) (.psl rid 0 (len+new.length)) [(o,gone)] else none
        | _=>none
      | _=>none
    else none
  | _=>none
def lenC : C→Option Nat
  | .lst _ rows=>some rows.length
  | .nils=>some 0
  | .sl _ _ _ len=>some len
  | .psl _ _ len=>some len
  | .ls cs=>some cs.length
  | _=>none
def elemC (h:List Obj) (sz:Nat) (c:C) (n:Int):Option C:=match c with
  | .lst t rows=>
    if 0≤n then match nth rows n.toNat with
      | some row=>if row.length=sz then some (.ept t row 0) else none
      | none=>none
    else none
  | .sl o ver off len=>
    if 0≤n∧n<len then match getH h o with
      | .arr _ ver' sz' _=>if ver'=ver∧sz'=sz then some (.aptr o ver (off+n.toNat) 0) else none
      | _=>none
    else none
  | .psl o off len=>if 0≤n∧n<len∧sz=1 then some (.ptr o (off+n.toNat)) else none
  | .ls cs=>if 0≤n∧sz=1 then (nth cs n.toNat).map .lpt else none
  | _=>none
theorem lenC_lst {t:Bool} {rows:List (List D)}:lenC (.lst t rows)=some rows.length:=rfl
theorem lenC_nils : lenC .nils=some 0:=rfl
theorem lenC_sl {o ver off len:Nat}:lenC (.sl o ver off len)=some len:=rfl
theorem lenC_psl {o off len:Nat}:lenC (.psl o off len)=some len:=rfl
theorem lenC_ls {cs:List C}:lenC (.ls cs)=some cs.length:=rfl
theorem elemC_ls {h:List Obj} {sz:Nat} {cs:List C} {n:Int}:elemC h sz (.ls cs) n=(if 0≤n∧sz=1 then (nth cs n.toNat).map .lpt else none):=rfl
theorem elemC_psl {h:List Obj} {sz o off len:Nat} {n:Int}:elemC h sz (.psl o off len) n=(if 0≤n∧n<len∧sz=1 then some (.ptr o (off+n.toNat)) else none):=rfl
theorem elemC_lst {h:List Obj} {sz:Nat} {t:Bool} {rows:List (List D)} {n:Int}:elemC h sz (.lst t rows) n=(if 0≤n then match nth rows n.toNat with | some row=>if row.length=sz then some (.ept t row 0) else none | none=>none else none):=rfl
theorem elemC_sl {h:List Obj} {sz o ver off len:Nat} {n:Int}:elemC h sz (.sl o ver off len) n=(if 0≤n∧n<len then match getH h o with | .arr _ ver' sz' _=>if ver'=ver∧sz'=sz then some (.aptr o ver (off+n.toNat) 0) else none | _=>none else none):=rfl
def opEv (rid:Nat) (s:List V) (h:List Obj):AOp→Option (V × Wr)
  | .mov x=>some (x.ev s,[])
  | .pick c a b=>match c.ev s with
    | .c (.bool true)=>some (a.ev s,[])
    | .c (.bool false)=>some (b.ev s,[])
    | _=>none
  | .alloc zero=>newV h rid (.cells zero) (.ptr rid 0) []
  | .box x=>match (x.ev s).laid with
    | some l=>newV h rid (.cells l) (.ptr rid 0) []
    | none=>none
  | .load n a=>match a.ev s with
    | .c x=>(loadC h (num n) x).bind fun cs=>(V.ofCells n cs).map fun v=>(v,[])
    | _=>none
  | .store n a x=>match a.ev s,(x.ev s).laid with
    | .c p,some l=>if l.length=num n then (storeC h p l).map fun w=>(undefV,w) else none
    | _,_=>none
  | .faddr off x=>match x.ev s with
    | .c (.ptr o f)=>pureV (.ptr o (f+off))
    | .c (.aptr o ver i f)=>pureV (.aptr o ver i (f+off))
    | .c (.ept t row f)=>pureV (.ept t row (f+off))
    | _=>none
  | .iaddr sz x i=>match x.ev s,i.ev s with
    | .c c,.c (.int _ n)=>(elemC h sz c n).map fun c=>(.c c,[])
    | _,_=>none
  | .iaddrA len sz x i=>match x.ev s,i.ev s with
    | .c (.ptr o off),.c (.int _ n)=>if 0≤n∧n<len then pureV (.ptr o (off+n.toNat*sz)) else none
    | _,_=>none
  | .fld off n x=>match x.ev s with
    | .agg cs=>(part off (num n) cs).bind fun cs=>(V.ofCells n cs).map fun v=>(v,[])
    | _=>none
  | .idx len sz n x i=>match x.ev s,i.ev s with
    | .agg cs,.c (.int _ k)=>
      if 0≤k∧k<len then (part (k.toNat*sz) (num n) cs).bind fun cs=>(V.ofCells n cs).map fun v=>(v,[]) else none
    | _,_=>none
  | .bin op x y=>(binV op (x.ev s) (y.ev s)).map fun c=>(.c c,[])
  | .eqA neg ks x y=>match x.ev s,y.ev s with
    | .agg a,.agg b=>(eqCs ks a b).map fun r=>(.c (.bool (r != neg)),[])
    | _,_=>none
  | .eqB neg x y=>match x.ev s,y.ev s with
    | .c (.bool a),.c (.bool b)=>pureV (.bool ((a==b) != neg))
    | _,_=>none
  | .not x=>match x.ev s with
    | .c (.bool b)=>pureV (.bool !b)
    | _=>none
  | .neg x=>match x.ev s with
    | .c (.int k n)=>pureV (.int k (k.wrap (0-n)))
    | _=>none
  | .conv k x=>match x.ev s with
    | .c (.int _ n)=>pureV (.int k (k.wrap n))
    | _=>none
  | .extract i x=>match x.ev s with
    | .tup vs=>(nth vs i).map fun v=>(v,[])
    | _=>none
  | .mkfn f none caps=>match oneCs s caps with
    | some cs=>pureV (.fn f false [] cs)
    | none=>none
  | .mkfn f (some x) caps=>match x.ev s,oneCs s caps with
    | .c y,some cs=>pureV (.fn f false [y] cs)
    | .agg ys,some cs=>pureV (.fn f true ys cs)
    | _,_=>none
  | .build zero parts=>(buildC s parts zero).map fun cs=>(.agg cs,[])
  | .bslice sz n zero parts=>
    match toDs h zero with
    | some (z,[])=>if z.length=sz then (setRows s h sz parts (rowsOf n z)).bind fun r=>newV h rid (.arr false 0 sz r.1) (.sl rid 0 0 n) (freeze h r.2) else none
    | _=>none
  | .blistc zero parts=>(buildC s parts zero).map fun cs=>(.c (.ls cs),[])
  | .blist sz n zero parts=>
    match toDs h zero with
    | some (z,[])=>if z.length=sz then (match setRows s h sz parts (rowsOf n z) with
      | some (rows,[])=>pureV (.lst false rows)
      | _=>none) else none
    | _=>none
  | .mkslice sz bytes zero len=>match len.ev s,toDs h zero with
    | .c (.int _ n),some (z,[])=>
      if 0≤n∧n*bytes≤2^40∧z.length=sz then newV h rid (.arr false 0 sz (rowsOf n.toNat z)) (.sl rid 0 0 n.toNat) [] else none
    | _,_=>none
  | .append sz bytes a x=>
    match a.ev s,x.ev s with
    | .c a,.c b=>
      match sliceRows h b with
      | none=>appendC h rid bytes sz a b
      | some new=>
        if headLen sz new then
          match a with
          | .nils=>if new.length*bytes≤2^40 then newV h rid (.arr false 0 sz new) (.sl rid 0 0 new.length) [] else none
          | .sl o ver off len=>match getH h o with
            | .arr false ver' sz' rows=>
              if ver'=ver∧sz'=sz∧off=0∧len=rows.length∧(len+new.length)*bytes≤2^40 then
                some (.c (.sl o (ver+1) 0 (len+new.length)),[(o,.arr false (ver+1) sz (rows++new))]) else none
            | _=>none
          | _=>none
        else none
    | _,_=>none
  | .clone _ sz bytes x=>match x.ev s with
    | .c b=>match sliceRows h b with
      | some new=>if headLen sz new&&scalRows new&&decide (new.length*bytes≤2^40) then newV h rid (.arr false 0 sz new) (.sl rid 0 0 new.length) [] else none
      | none=>none
    | _=>none
  | .grow _ sz bytes x=>match x.ev s with
    | .c (.int .i64 n)=>if 0≤n∧n*bytes≤2^40 then newV h rid (.arr false 0 sz []) (.sl rid 0 0 0) [] else none
    | _=>none
  | .slice sz x lo hi=>match x.ev s with
    | .c .nils=>match bound s 0 lo,bound s 0 hi with
      | some 0,some 0=>pureV .nils
      | _,_=>none
    | .c (.lst t rows)=>match bound s 0 lo,bound s rows.length hi with
      | some l,some u=>if l≤u∧u≤rows.length∧headLen sz rows then (part l (u-l) rows).map fun r=>(.c (.lst t r),[]) else none
      | _,_=>none
    | .c (.sl o ver off len)=>match bound s 0 lo,bound s len hi with
      | some l,some u=>match getH h o with
        | .arr _ _ sz' _=>if l≤u∧u≤len∧sz'=sz then pureV (.sl o ver (off+l) (u-l)) else none
        | _=>none
      | _,_=>none
    | _=>none
  | .pslice len x lo hi=>match x.ev s with
    | .c (.ptr o off)=>match bound s 0 lo,bound s len hi,getH h o with
      | some l,some u,.cells cs=>if l≤u∧u≤len∧off+len≤cs.length then pureV (.psl o (off+l) (u-l)) else none
      | _,_,_=>none
    | _=>none
  | .copy x y=>match x.ev s,y.ev s with
    | .c (.psl o off len),.c b=>match sliceRows h b with
      | some new=>if headLen 1 new&&scalRows new&&decide (new.length≤len) then
          (storeC h (.ptr o off) (new.flatMap fun r=>r.map (C.ofD false))).map fun w=>(.c (.int .i64 (new.length:Int)),w)
        else none
      | none=>none
    | _,_=>none
  | .len x=>match x.ev s with
    | .c c=>(lenC c).map fun (k:Nat)=>((.c (.int .i64 (k:Int)),[]):V × Wr)
    | _=>none
  | .mm isMax x y=>match x.ev s,y.ev s with
    | .c (.int k a),.c (.int _ b)=>pureV (.int k (if isMax then (if b>a then b else a) else (if b<a then b else a)))
    | _,_=>none
  | .nilchk x=>match x.ev s with
    | .c (.ptr o off)=>pureV (.ptr o off)
    | .c (.fn f g a b)=>pureV (.fn f g a b)
    | .c (.aptr o ver i off)=>pureV (.aptr o ver i off)
    | _=>none
  | .isnil neg x=>match x.ev s with
    | .c .nils=>pureV (.bool (true != neg))
    | .c (.lst _ rows)=>match rows with | []=>none | _::_=>pureV (.bool (false != neg))
    | _=>none
  | .mkmap ka va ks=>newV h rid (.map ka va ks []) (.map rid) []
  | .lookup ka va ks zero ok m k=>match m.ev s,toDs h (k.ev s).cells with
    | .c (.map o),some (key,[])=>match getH h o with
      | .map ka' va' ks' es=>
        if ka'=ka∧va'=va∧ks'=ks∧V.isAgg (k.ev s)=ka∧V.isAgg zero=va∧kindsD ks key=true then
          match findE key es with
          | some cs=>(V.ofCells (if va then some cs.length else none) cs).map fun v=>(if ok then .tup [v,.c (.bool true)] else v,[])
          | none=>some (if ok then .tup [zero,.c (.bool false)] else zero,[])
        else none
      | _=>none
    | _,_=>none
  | .mapupd ka va ks m k v=>match m.ev s,toDs h (k.ev s).cells,(v.ev s).laid with
    | .c (.map o),some (key,[]),some l=>match getH h o with
      | .map ka' va' ks' es=>if ka'=ka∧va'=va∧ks'=ks∧V.isAgg (k.ev s)=ka∧V.isAgg (v.ev s)=va∧kindsD ks key=true then some (undefV,[(o,.map ka va ks (putE key l es))]) else none
      | _=>none
    | _,_,_=>none
  | .call _ _ _ | .callv _ _=>none
def applyW (h:List Obj):Wr→List Obj
  | []=>h
  | (o,x)::w=>applyW (setH h o x) w
def putD (s:List V) (d:Option Nat) (v:V):List V:=match d with
  | some d=>setS s d v
  | none=>s
def toArgC (h:List Obj):C→Option C
  | .int k n=>some (.int k n)
  | .bool b=>some (.bool b)
  | .lst t rows=>some (.lst t rows)
  | .nils=>some .nils
  | .ptr _ _=>some .any
  | .any=>some .any
  | .sl o ver off len=>match getH h o with
    | .arr _ ver' _ rows=>if ver'=ver then (part off len rows).map fun r=>.lst true r else none
    | _=>none
  | _=>none
def toArgCs (h:List Obj):List C→Option (List C)
  | []=>some []
  | c::cs=>match toArgC h c,toArgCs h cs with
    | some a,some as=>some (a::as)
    | _,_=>none
def toArg (h:List Obj):V→Option V
  | .c x=>(toArgC h x).map .c
  | .agg cs=>(toArgCs h cs).map .agg
  | .tup _=>none
def toArgs (h:List Obj):List V→Option (List V)
  | []=>some []
  | v::vs=>match toArg h v,toArgs h vs with
    | some a,some as=>some (a::as)
    | _,_=>none
def resD (h:List Obj):C→Option D
  | .int k n=>some (.int k n)
  | .bool b=>some (.bool b)
  | .lst false rows=>some (.lst rows)
  | .nils=>some (.lst [])
  | .sl o ver off len=>match getH h o with
    | .arr _ ver' _ rows=>if ver'=ver then (part off len rows).map .lst else none
    | _=>none
  | _=>none
def resDs (h:List Obj):List C→Option (List (List D))
  | []=>some []
  | c::cs=>match resD h c,resDs h cs with
    | some d,some ds=>some ([d]::ds)
    | _,_=>none
def toResC (h:List Obj):C→Option C
  | .int k n=>some (.int k n)
  | .bool b=>some (.bool b)
  | .lst false rows=>some (.lst false rows)
  | .nils=>some .nils
  | .ls cs=>(resDs h cs).map (.lst false)
  | .ptr _ _=>some .any
  | .sl o ver off len=>match getH h o with
    | .arr _ ver' _ rows=>if ver'=ver then (part off len rows).map fun r=>.lst false r else none
    | _=>none
  | _=>none
def toResCs (h:List Obj):List C→Option (List C)
  | []=>some []
  | c::cs=>match toResC h c,toResCs h cs with
    | some a,some as=>some (a::as)
    | _,_=>none
mutual
def toRes (h:List Obj):V→Option V
  | .c x=>(toResC h x).map .c
  | .agg cs=>(toResCs h cs).map .agg
  | .tup vs=>(toRess h vs).map .tup
def toRess (h:List Obj):List V→Option (List V)
  | []=>some []
  | v::vs=>match toRes h v,toRess h vs with
    | some a,some as=>some (a::as)
    | _,_=>none
end
def resV (st:St):List RVar→Option (List V)
  | []=>some []
  | .tmp t::rs=>(resV st rs).map (getS st.slots t::·)
  | .cell t n::rs=>match getS st.slots t with
    | .c x=>match (loadC st.heap (num n) x).bind (V.ofCells n),resV st rs with
      | some v,some vs=>some (v::vs)
      | _,_=>none
    | _=>none
def resOf : List V→V
  | [v]=>v
  | vs=>.tup vs
def reify : List (Nat × Option Nat × Nat)→St→St
  | [],st=>st
  | (i,none,sz)::l,st=>match getS st.slots i with
    | .c .nils=>reify l ⟨setS st.slots i (.c (.sl st.heap.length 0 0 0)),st.heap++[.arr false 0 sz []]⟩
    | _=>reify l st
  | (i,some off,sz)::l,st=>match getS st.slots i with
    | .c (.ptr o _)=>match getH st.heap o with
      | .cells cs=>match nth cs off with
        | some .nils=>reify l ⟨st.slots,setH st.heap o (.cells (setNth cs off (.sl st.heap.length 0 0 0)))++[.arr false 0 sz []]⟩
        | _=>reify l st
      | _=>reify l st
    | _=>reify l st
def killS : List Nat→List V→List V
  | [],s=>s
  | i::l,s=>killS l (setS s i undefV)
def underE (b:Nat):List (List D × List C)→Bool
  | []=>true
  | e::l=>C.underL b e.2&&underE b l
def Obj.under (b:Nat):Obj→Bool
  | .cells cs=>C.underL b cs
  | .map _ _ _ es=>underE b es
  | .loop l=>V.underL b l.slots
  | _=>true
def underH (b:Nat):List Obj→Bool
  | []=>true
  | o::l=>o.under b&&underH b l
def trunc (b:Nat) (vs:List V) (h:List Obj):Option (List Obj):=
  if V.underL b vs&&underH b (h.take b) then some (h.take b) else none
def reifyOk : List (Nat × Option Nat × Nat)→List V→List Obj→Bool
  | [],_,_=>true
  | (_,none,_)::l,s,h=>reifyOk l s h
  | (i,some _,_)::l,s,h=>(match getS s i with
    | .c (.ptr o _)=>match getH h o with
      | .none=>false
      | _=>true
    | _=>true)&&reifyOk l s h
def headOf (ann:Ann) (lb:Nat) (st:St):Option St:=
  if reifyOk ann.reify st.slots st.heap then
    let s:=killS ann.kill st.slots
    if ann.trunc then (trunc lb s st.heap).map fun h=>⟨s,h⟩ else some ⟨s,st.heap⟩
  else none
def setParams : List Nat→List V→List V→List V
  | p::ps,a::as,s=>setParams ps as (setS s p a)
  | _,_,s=>s
def skipV : V:=.tup []
def wantedA (s:List V):Option (Nat × Bool)→Option Bool
  | none=>some true
  | some (t,b)=>match getS s t with
    | .c (.bool x)=>some (x==b)
    | .tup []=>some false
    | _=>none
structure Foot where
  r:List Nat
  w:List Nat
  all:Option (Nat→Bool)
  deriving Inhabited
def memN (x:Nat):List Nat→Bool
  | []=>false
  | y::l=>Nat.beq x y||memN x l
def disj : List Nat→List Nat→Bool
  | [],_=>true
  | x::l,m=>!memN x m&&disj l m
def allN (s:Nat→Bool):List Nat→Bool
  | []=>true
  | x::l=>s x&&allN s l
def Foot.apart (f g:Foot):Bool:=match f.all,g.all with
  | none,none=>disj f.w g.w&&disj f.w g.r&&disj f.r g.w
  | some s,none=>g.w.isEmpty&&allN s g.r
  | none,some s=>f.w.isEmpty&&allN s f.r
  | some _,some _=>false
open Classical in
noncomputable def sameO (h h':List Obj) (o:Nat):Bool:=decide (getH h' o=getH h o)
def objsV : V→List Nat
  | .c x=>x.obj
  | .agg cs=>cs.flatMap C.obj
  | .tup _=>[]
def readsOf (s:List V):AOp→List Nat
  | .load _ a=>objsV (a.ev s)
  | .store _ a x=>objsV (a.ev s)++objsV (x.ev s)
  | .iaddr _ x _=>objsV (x.ev s)
  | .append _ _ a x=>objsV (a.ev s)++objsV (x.ev s)
  | .clone _ _ _ x=>objsV (x.ev s)
  | .grow _ _ _ x=>objsV (x.ev s)
  | .slice _ x _ _=>objsV (x.ev s)
  | .pslice _ x _ _=>objsV (x.ev s)
  | .copy x y=>objsV (x.ev s)++objsV (y.ev s)
  | .bslice _ _ _ ps=>ps.flatMap fun p=>objsV (p.2.ev s)
  | .blist _ _ _ ps=>ps.flatMap fun p=>objsV (p.2.ev s)
  | .lookup _ _ _ _ _ m k=>objsV (m.ev s)++objsV (k.ev s)
  | .mapupd _ _ _ m k v=>objsV (m.ev s)++objsV (k.ev s)++objsV (v.ev s)
  | .call _ true args=>args.flatMap fun a=>objsV (a.ev s)
  | _=>[]
def footAt (fs:List (Nat × Foot)) (i:Nat):Foot:=match fs with
  | []=>⟨[],[],some fun _=>false⟩
  | (j,f)::l=>if Nat.beq i j then f else footAt l i
def pairsOk (fs:List (Nat × Foot)):List (Nat × Nat)→Bool
  | []=>true
  | (i,j)::l=>(footAt fs i).apart (footAt fs j)&&pairsOk fs l
def Opd.tmps : Opd→List Nat
  | .tmp t=>[t]
  | .cst _=>[]
def optTmps : Option Opd→List Nat
  | none=>[]
  | some x=>x.tmps
def opdsTmps : List Opd→List Nat
  | []=>[]
  | x::l=>x.tmps++opdsTmps l
def partsTmps : List (Nat × Nat × Opd)→List Nat
  | []=>[]
  | (_,_,x)::l=>x.tmps++partsTmps l
def partsTmpsS : List (Nat × Opd)→List Nat
  | []=>[]
  | (_,x)::l=>x.tmps++partsTmpsS l
def AOp.tmps : AOp→List Nat
  | .mov x | .box x | .load _ x | .faddr _ x | .fld _ _ x | .not x | .neg x | .conv _ x | .extract _ x | .mkslice _ _ _ x | .clone _ _ _ x | .grow _ _ _ x | .len x | .nilchk x | .isnil _ x=>x.tmps
  | .pick c a b=>c.tmps++(a.tmps++b.tmps)
  | .alloc _ | .mkmap ..=>[]
  | .store _ a x | .iaddr _ a x | .iaddrA _ _ a x | .idx _ _ _ a x | .bin _ a x | .eqA _ _ a x | .eqB _ a x | .append _ _ a x | .mm _ a x=>a.tmps++x.tmps
  | .mkfn _ x l=>optTmps x++opdsTmps l
  | .build _ ps=>partsTmps ps
  | .bslice _ _ _ ps=>partsTmpsS ps
  | .blist _ _ _ ps=>partsTmpsS ps
  | .blistc _ ps=>partsTmps ps
  | .slice _ x lo hi=>x.tmps++(optTmps lo++optTmps hi)
  | .pslice _ x lo hi=>x.tmps++(optTmps lo++optTmps hi)
  | .copy a x=>a.tmps++x.tmps
  | .lookup _ _ _ _ _ m k=>m.tmps++k.tmps
  | .mapupd _ _ _ m k v=>m.tmps++(k.tmps++v.tmps)
  | .call _ _ args=>opdsTmps args
  | .callv f args=>f.tmps++opdsTmps args
def AOper.tmps (o:AOper):List Nat:=o.op.tmps++(match o.guard with | some (t,_)=>[t] | none=>[])
def apartS (a b:AOper):Bool:=
  (match a.dst with
   | some d=>!memN d b.tmps&&(match b.dst with | some e=>!Nat.beq d e | none=>true)
   | none=>true) &&
  (match b.dst with
   | some e=>!memN e a.tmps
   | none=>true)
def firstV (agg:Bool) (first:List C):List V:=if agg then [.agg first] else first.map .c
inductive Req where
  | f (k:Nat) (args:List V) (h:List Obj)
  | p (k:Nat) (args:List V)
  | y (o:Nat) (args:List V) (h:List Obj)
  deriving Inhabited
abbrev Rec := Req→Option (V × List Obj)
def callV (r:Rec) (f:V) (args:List V) (h:List Obj):Option (V × List Obj):=
  match f with
  | .c (.fn k agg first caps)=>r (.f k (firstV agg first++args++caps.map V.c) h)
  | .c (.yld o)=>r (.y o args h)
  | _=>none
noncomputable def evO (r:Rec) (rb:Nat) (o:AOper) (st:St):Option (St × Foot):=
  match wantedA st.slots o.guard with
  | none=>none
  | some false=>some (⟨putD st.slots o.dst skipV,st.heap⟩,⟨[],[],none⟩)
  | some true=>
    match o.op with
    | .call f true args=>
      match toArgs st.heap (args.map (·.ev st.slots)) with
      | some as=>match r (.p f as) with
        | some (v,_)=>some (⟨putD st.slots o.dst v,st.heap⟩,⟨readsOf st.slots (.call f true args),[],none⟩)
        | none=>none
      | none=>none
    | .call f false args=>match r (.f f (args.map (·.ev st.slots)) st.heap) with
      | some (v,h)=>some (⟨putD st.slots o.dst v,h⟩,⟨[],[],some (sameO st.heap h)⟩)
      | none=>none
    | .callv f args=>match callV r (f.ev st.slots) (args.map (·.ev st.slots)) st.heap with
      | some (v,h)=>some (⟨putD st.slots o.dst v,h⟩,⟨[],[],some (sameO st.heap h)⟩)
      | none=>none
    | op=>match opEv (rb+o.rid) st.slots st.heap op with
      | some (v,w)=>some (⟨putD st.slots o.dst v,applyW st.heap w⟩,⟨readsOf st.slots op,w.map (·.1),none⟩)
      | none=>none
noncomputable def evOs (r:Rec) (rb:Nat):Nat→List AOper→St→List (Nat × Foot)→Option (St × List (Nat × Foot))
  | _,[],st,fs=>some (st,fs)
  | i,o::os,st,fs=>
    match evO r rb o st with
    | some (st',f)=>evOs r rb (i+1) os st' ((i,f)::fs)
    | none=>none
def evLoop (body:St→Option (X × St)) (lb:Nat) (ann:Ann):Nat→St→Option (X × St)
  | 0,_=>none
  | n+1,st=>
    match headOf ann lb st with
    | none=>none
    | some st1=>
      match body st1 with
      | some (.normal,st2)=>evLoop body lb ann n st2
      | r=>r
def frzD (h:List Obj):C→Option (D × List Obj)
  | .int k n=>some (.int k n,h)
  | .bool b=>some (.bool b,h)
  | .lst false rows=>some (.lst rows,h)
  | .nils=>some (.lst [],h)
  | .sl o ver off len=>match getH h o with
    | .arr _ ver' sz rows=>if ver'=ver then (part off len rows).map fun r=>(.lst r,setH h o (.arr true ver' sz rows)) else none
    | _=>none
  | _=>none
def frzDs (h:List Obj):List C→Option (List (List D) × List Obj)
  | []=>some ([],h)
  | c::cs=>match frzD h c with
    | some (d,h')=>match frzDs h' cs with
      | some (ds,h2)=>some ([d]::ds,h2)
      | none=>none
    | none=>none
def frzC (h:List Obj):C→Option (C × List Obj)
  | .sl o ver off len=>match getH h o with
    | .arr _ ver' sz rows=>if ver'=ver then (part off len rows).map fun r=>(.lst false r,setH h o (.arr true ver' sz rows)) else none
    | _=>none
  | .ls cs=>(frzDs h cs).map fun r=>(.lst false r.1,r.2)
  | .psl o off len=>match getH h o with
    | .cells cs=>if off=0∧cs.length=len then (frzDs h cs).map fun r=>(.lst false r.1,setH r.2 o gone) else none
    | _=>none
  | c=>some (c,h)
def frzCs (h:List Obj):List C→Option (List C × List Obj)
  | []=>some ([],h)
  | c::cs=>match frzC h c with
    | some (c',h')=>match frzCs h' cs with
      | some (cs',h2)=>some (c'::cs',h2)
      | none=>none
    | none=>none
def frzS : List Nat→List V→List Obj→Option (List Obj)
  | [],_,h=>some h
  | i::l,s,h=>match getS s i with
    | .c (.ptr o _)=>match getH h o with
      | .cells cs=>match frzCs h cs with
        | some (cs',h')=>match getH h' o with
          | .cells _=>frzS l s (setH h' o (.cells cs'))
          | _=>none
        | none=>none
      | _=>none
    | _=>none
noncomputable def evC (r:Rec) (n:Nat):ACode→St→Option (X × St)
  | .skip,st=>some (.normal,st)
  | .frz l,st=>(frzS l st.slots st.heap).map fun h=>(.normal,⟨st.slots,h⟩)
  | .region news pairs ops,st=>
    match evOs r st.heap.length 0 ops ⟨st.slots,st.heap++List.replicate news .none⟩ [] with
    | some (st',fs)=>if pairsOk fs pairs then some (.normal,st') else none
    | none=>none
  | .seq a b,st=>
    match evC r n a st with
    | some (.normal,st')=>evC r n b st'
    | r=>r
  | .cond c a b,st=>
    match c.ev st.slots with
    | .c (.bool true)=>evC r n a st
    | .c (.bool false)=>evC r n b st
    | _=>none
  | .block id b,st=>
    match evC r n b st with
    | some (.exit i,st')=>if Nat.beq i id then some (.normal,st') else some (.exit i,st')
    | r=>r
  | .loop ann b,st=>
    let st1:=reify ann.reify st
    evLoop (evC r n b) st1.heap.length ann n st1
  | .range f params assign body,st=>
    match callV r (f.ev st.slots) [.c (.yld st.heap.length)] (st.heap++[.loop ⟨.ready,.normal,st.slots,params,assign,body⟩]) with
    | some (_,h)=>
      match getH h st.heap.length with
      | .loop l=>match l.state with
        | .busy=>none
        | _=>some (l.pending,⟨st.slots,setH h st.heap.length (.loop { l with state:=.exhausted })⟩)
      | _=>none
    | none=>none
  | .exit id,st=>some (.exit id,st)
  | .ret,st=>some (.ret,st)
def frameOf (fn:AFunc) (args:List V):List V:=args++List.replicate (fn.ntmps-args.length) undefV
noncomputable def evBody (G:Nat→Option AFunc) (r:Rec) (n:Nat):Rec
  | .f k args h=>
    match G k with
    | none=>none
    | some fn=>
      match evC r n fn.code ⟨frameOf fn args,h⟩ with
      | some (.exit _,_)=>none
      | some (_,st)=>match resV st fn.res with
        | some vs=>match fn.drop with
          | true=>match trunc h.length vs st.heap with
            | some h'=>some (resOf vs,h')
            | none=>none
          | false=>some (resOf vs,st.heap)
        | none=>none
      | none=>none
  | .p k args=>
    match G k with
    | none=>none
    | some fn=>
      match evC r n fn.code ⟨frameOf fn args,[]⟩ with
      | some (.exit _,_)=>none
      | some (_,st)=>match resV st fn.res with
        | some vs=>match toRes st.heap (resOf vs) with
          | some v=>some (v,[])
          | none=>none
        | none=>none
      | none=>none
  | .y o args h=>
    match getH h o with
    | .loop l=>
      if Nat.beq args.length l.params.length then
        match evC r n l.assign ⟨setParams l.params args l.slots,h⟩ with
        | some (.normal,st)=>
          match getH st.heap o with
          | .loop l1=>
            match l1.state with
            | .ready=>
              match evC r n l.body ⟨st.slots,setH st.heap o (.loop { l1 with state:=.busy })⟩ with
              | some (x,st2)=>
                match getH st2.heap o with
                | .loop l2=>
                  match x with
                  | .normal=>some (.c (.bool true),setH st2.heap o (.loop { l2 with state:=.ready,pending:=.normal }))
                  | x=>some (.c (.bool false),setH st2.heap o (.loop { l2 with state:=.done,pending:=x }))
                | _=>none
              | none=>none
            | _=>none
          | _=>none
        | _=>none
      else none
    | _=>none
noncomputable def ev (G:Nat→Option AFunc):Nat→Rec
  | 0=>fun _=>none
  | n+1=>evBody G (ev G n) n
noncomputable def evP (G:Nat→Option AFunc) (n k:Nat) (args:List V):Option V:=(ev G n (.p k args)).map (·.1)
end Am
namespace Am
open Go
structure Cfg where
  pure:Nat→Bool
  pin:Nat→Nat→Bool→Bool:=fun _ _ b=>b
  clone:Nat→Option Nat
  grow:Nat→Option Nat:=fun _=>none
  drop:Nat→Bool
  ann:Nat→Nat→Ann
  frz:Nat→List Nat:=fun _=>[]
  lit:Nat→Bool:=fun _=>false
  litNow:Bool:=false
  litc:Nat→Bool:=fun _=>false
  litcNow:Bool:=false
def Cfg.at (cfg:Cfg) (g:Nat):Cfg:={ cfg with pure:=fun f=>cfg.pin g f (cfg.pure f),litNow:=cfg.lit g,litcNow:=cfg.litc g }
def siteOf (g:Nat) (d:Option Nat):Nat:=g*100000+(match d with | some d=>d+1 | none=>0)
def ofConstC : Value→Option C
  | .int k n=>some (.int k n)
  | .bool b=>some (.bool b)
  | .slice none 0 0=>some .nils
  | .pointer none=>some .nilp
  | .nilFunc=>some .nilfn
  | .func (.func f) a b=>if a.size=0∧b.size=0 then some (.fn f false [] []) else none
  | .string _ | .map none | .nilIface=>some .any
  | _=>none
def ofConstCs : List Value→Option (List C)
  | []=>some []
  | v::vs=>match ofConstC v,ofConstCs vs with
    | some c,some cs=>some (c::cs)
    | _,_=>none
def ofConst : Value→Option V
  | .agg cs=>(ofConstCs cs.toList).map .agg
  | .tuple vs=>if vs.size=0 then some (.tup []) else none
  | v=>(ofConstC v).map .c
def cOpd : Operand→Option Opd
  | .tmp t=>some (.tmp t)
  | .const v=>(ofConst v).map .cst
  | .func f=>some (.cst (.c (.fn f false [] [])))
  | .global _=>none
def cOpds : List Operand→Option (List Opd)
  | []=>some []
  | x::xs=>match cOpd x,cOpds xs with
    | some a,some as=>some (a::as)
    | _,_=>none
def cOpt : Option Operand→Option (Option Opd)
  | none=>some none
  | some x=>(cOpd x).map some
variable (P:Program)
def isAgg (t:TypeId):Option Bool:=(P.underlying t).map fun
  | .struct _ | .array _ _=>true
  | _=>false
def sizeT (t:TypeId):Option Nat:=(P.info? t).map (·.size)
def bytesT (t:TypeId):Option Nat:=(P.info? t).map (·.bytes)
def zeroT (t:TypeId):Option (List C):=((P.info? t).bind (·.zero)).bind fun v=>ofConstCs v.cells.toList
def shapeT (t:TypeId):Option (Option Nat):=
  match isAgg P t,sizeT P t with
  | some true,some n=>some (some n)
  | some false,some 1=>some none
  | _,_=>none
def flatK : Nat→TypeId→Option (List (Option IntKind))
  | 0,_=>none
  | n+1,t=>match P.underlying t with
    | some .bool=>some [none]
    | some (.int k)=>some [some k]
    | some (.struct fs)=>if P.stoodInHeld t then none else flds (flatK n) fs.toList 0
    | some (.array len e)=>match flatK n e,sizeT P e with
      | some ks,some sz=>if ks.length=sz then some ((List.replicate len ks).flatten) else none
      | _,_=>none
    | _=>none
where
  flds (rec:TypeId→Option (List (Option IntKind))):List Field→Nat→Option (List (Option IntKind))
    | [],_=>some []
    | f::fs,off=>match rec f.type,sizeT P f.type,flds rec fs (off+(sizeT P f.type).getD 0) with
      | some ks, some sz, some r => if f.name ≠ "_" ∧ f.offset = off ∧ ks.length = sz then some (ks ++ r) else none
      | _,_,_=>none
def binOf : BinOp→Option Bin
  | .add=>some .add | .sub=>some .sub | .mul=>some .mul | .quo=>some .quo | .rem=>some .rem
  | .and=>some .and | .or=>some .or | .xor=>some .xor | .shl=>some .shl | .shr=>some .shr | .andNot=>some .andn
  | .eql=>some .eql | .neq=>some .neq | .lss=>some .lss | .leq=>some .leq | .gtr=>some .gtr | .geq=>some .geq
def cParts (fs:Array Field):List (Nat × Operand)→Option (List (Nat × Nat × Opd))
  | []=>some []
  | (i,x)::l=>match fs[i]?,cOpd x,cParts fs l with
    | some f,some y,some r=>(sizeT P f.type).map fun n=>(f.offset,n,y)::r
    | _,_,_=>none
def cPartsA (sz:Nat):List (Nat × Operand)→Option (List (Nat × Nat × Opd))
  | []=>some []
  | (i,x)::l=>match cOpd x,cPartsA sz l with
    | some y,some r=>some ((i*sz,sz,y)::r)
    | _,_=>none
def cPartsS : List (Nat × Operand)→Option (List (Nat × Opd))
  | []=>some []
  | (i,x)::l=>match cOpd x,cPartsS l with
    | some y,some r=>some ((i,y)::r)
    | _,_=>none
def cCall (cfg:Cfg) (c:Call):Option AOp:=
  match c.callee,cOpds c.args.toList with
  | .value (.func f),some args=>match cfg.clone f,args with
    | some e,[x]=>match sizeT P e,bytesT P e with
      | some sz,some by_=>some (.clone f sz by_ x)
      | _,_=>none
    | _,_=>match cfg.grow f,args with
      | some e,[.cst (.c .nils),x]=>match sizeT P e,bytesT P e with
        | some sz,some by_=>some (.grow f sz by_ x)
        | _,_=>none
      | _,_=>some (.call f (cfg.pure f) args)
  | .value (.tmp t),some args=>some (.callv (.tmp t) args)
  | .builtin .len,some [x]=>match c.argTypes[0]? with
    | some t=>match P.underlying t with
      | some (.slice _)=>some (.len x)
      | _=>none
    | none=>none
  | .builtin .min,some [x,y]=>some (.mm false x y)
  | .builtin .max,some [x,y]=>some (.mm true x y)
  | .builtin .copy,some [x,y]=>match c.argTypes[0]? with
    | some t=>match P.underlying t with
      | some (.slice e)=>match sizeT P e with
        | some 1=>some (.copy x y)
        | _=>none
      | _=>none
    | none=>none
  | .builtin .append,some [s,x]=>match c.argTypes[0]?,c.argTypes[1]? with
    | some t,some u=>match P.underlying t,P.underlying u with
      | some (.slice e),some (.slice _)=>match sizeT P e,bytesT P e with
        | some sz,some by_=>match zeroT P e with
          | some z=>if z.length=sz∧1≤sz∧1≤by_ then some (.append sz by_ s x) else none
          | none=>none
        | _,_=>none
      | _,_=>none
    | _,_=>none
  | _,_=>none
def cListc (t n:Nat) (ps:Array (Nat × Operand)):Option AOp:=match P.underlying t with
  | some (.slice e)=>match sizeT P e,zeroT P e,cPartsA 1 ps.toList with
    | some 1,some [z],some ps=>if n≤2^24 then some (.blistc (List.replicate n z) ps) else none
    | _,_,_=>none
  | _=>none
def cOp (cfg:Cfg):Op→Option AOp
  | .move x | .assign x=>(cOpd x).map .mov
  | .pick c a b=>match cOpd c,cOpd a,cOpd b with
    | some c,some a,some b=>some (.pick c a b)
    | _,_,_=>none
  | .alloc e=>(zeroT P e).map .alloc
  | .box _ v=>(cOpd v).map .box
  | .load t a=>match shapeT P t,cOpd a with
    | some n,some a=>some (.load n a)
    | _,_=>none
  | .store t a x=>match shapeT P t,cOpd a,cOpd x with
    | some n,some a,some x=>some (.store n a x)
    | _,_,_=>none
  | .fieldAddr s x f=>match P.underlying s,cOpd x with
    | some (.struct fs),some x=>match fs[f]? with
      | some f=>match sizeT P f.type with
        | some (_+1)=>some (.faddr f.offset x)
        | _=>none
      | none=>none
    | _,_=>none
  | .indexAddr t x i=>match P.underlying t,cOpd x,cOpd i with
    | some (.slice e),some x,some i=>(sizeT P e).map fun n=>.iaddr n x i
    | some (.array len e),some x,some i=>(sizeT P e).map fun n=>.iaddrA len n x i
    | _,_,_=>none
  | .field t x f=>match P.underlying t,cOpd x with
    | some (.struct fs),some x=>match fs[f]? with
      | some f=>(shapeT P f.type).map fun n=>.fld f.offset n x
      | none=>none
    | _,_=>none
  | .index t x i=>match P.underlying t,cOpd x,cOpd i with
    | some (.array len e),some x,some i=>match sizeT P e,shapeT P e with
      | some sz,some n=>some (.idx len sz n x i)
      | _,_=>none
    | _,_,_=>none
  | .binOp op t x y _=>match binOf op,cOpd x,cOpd y with
    | some op',some x',some y'=>
      match op',P.underlying t with
      | _,some (.int _)=>some (.bin op' x' y')
      | .eql,some .bool=>some (.eqB false x' y')
      | .neq,some .bool=>some (.eqB true x' y')
      | .eql,some (.slice _)=>(match y with | .const (.slice none 0 0)=>some (.isnil false x') | _=>none)
      | .neq,some (.slice _)=>(match y with | .const (.slice none 0 0)=>some (.isnil true x') | _=>none)
      | .eql,_=>match isAgg P t,flatK P 20 t,sizeT P t with
        | some true,some ks,some n=>if ks.length=n∧P.eqGuardType P.depth t=false then some (.eqA false ks x' y') else none
        | _,_,_=>none
      | .neq,_=>match isAgg P t,flatK P 20 t,sizeT P t with
        | some true,some ks,some n=>if ks.length=n∧P.eqGuardType P.depth t=false then some (.eqA true ks x' y') else none
        | _,_,_=>none
      | _,_=>none
    | _,_,_=>none
  | .unOp .not _ x=>(cOpd x).map .not
  | .unOp .neg _ x=>(cOpd x).map .neg
  | .convert s d x=>match P.underlying s,P.underlying d,cOpd x with
    | some (.int _),some (.int k),some x=>some (.conv k x)
    | _,_,_=>none
  | .extract x i=>(cOpd x).map (.extract i)
  | .makeFunc (.func f) first caps=>match cOpds first.toList,cOpds caps.toList with
    | some [],some cs=>some (.mkfn f none cs)
    | some [x],some cs=>some (.mkfn f (some x) cs)
    | _,_=>none
  | .build t ps=>match P.underlying t,zeroT P t with
    | some (.struct fs),some z=>if fs.toList.all (fun f=>(sizeT P f.type).isSome)=true then (cParts P fs ps.toList).map (.build z) else none
    | some (.array _ e),some z=>match sizeT P e with
      | some sz=>(cPartsA sz ps.toList).map (.build z)
      | none=>none
    | _,_=>none
  | .buildSlice t n ps=>if cfg.litcNow then cListc P t n ps else match P.underlying t with
    | some (.slice e)=>match sizeT P e,zeroT P e,cPartsS ps.toList with
      | some sz,some z,some ps=>if n*sz≤2^24∧1≤sz then some (if cfg.litNow then .blist sz n z ps else .bslice sz n z ps) else none
      | _,_,_=>none
    | _=>none
  | .makeSlice t l c=>match P.underlying t with
    | some (.slice e)=>match sizeT P e,bytesT P e,zeroT P e,cOpd l,cOpd c with
      | some sz,some b,some z,some (.tmp l),some (.tmp c)=>if l=c∧1≤sz∧1≤b then some (.mkslice sz b z (.tmp l)) else none
      | some sz,some b,some z,some (.cst (.c (.int .i64 l))),some (.cst (.c (.int .i64 c)))=>if l=c∧1≤sz∧1≤b then some (.mkslice sz b z (.cst (.c (.int .i64 l)))) else none
      | _,_,_,_,_=>none
    | _=>none
  | .slice t x lo hi none=>match P.underlying t,cOpd x,cOpt lo,cOpt hi with
    | some (.slice e),some x,some lo,some hi=>(sizeT P e).map fun n=>.slice n x lo hi
    | some (.array len e),some x,some lo,some hi=>match sizeT P e with
      | some 1=>some (.pslice len x lo hi)
      | _=>none
    | _,_,_,_=>none
  | .nilCheck x=>(cOpd x).map .nilchk
  | .makeMap t none=>match P.underlying t with
    | some (.map kt e)=>match isAgg P kt,isAgg P e,flatK P 20 kt with
      | some a,some b,some ks=>some (.mkmap a b ks)
      | _,_,_=>none
    | _=>none
  | .lookup t m k ok=>match P.underlying t with
    | some (.map kt e)=>match ((P.info? e).bind (·.zero)).bind ofConst,cOpd m,cOpd k with
      | some z,some m,some k=>match isAgg P kt,isAgg P e,flatK P 20 kt,sizeT P kt with
        | some ka,some va,some ks,some n=>if ks.length=n then some (.lookup ka va ks z ok m k) else none
        | _,_,_,_=>none
      | _,_,_=>none
    | _=>none
  | .mapUpdate t m k v=>match P.underlying t with
    | some (.map kt e)=>match cOpd m,cOpd k,cOpd v with
      | some m,some k,some v=>match isAgg P kt,isAgg P e,flatK P 20 kt,sizeT P kt with
        | some ka,some va,some ks,some n=>if ks.length=n then some (.mapupd ka va ks m k v) else none
        | _,_,_,_=>none
      | _,_,_=>none
    | _=>none
  | .call c=>cCall P cfg c
  | .panic _=>some (.pick (.cst undefV) (.cst undefV) (.cst undefV))
  | .makeInterface _ _=>some (.pick (.cst undefV) (.cst undefV) (.cst undefV))
  | _=>none
def AOp.makes : AOp→Bool
  | .alloc _ | .box _ | .bslice .. | .mkslice .. | .append .. | .clone .. | .grow .. | .mkmap ..=>true
  | _=>false
def cOpers (cfg:Cfg) (fk:Nat) (all:Array Oper):List Oper→Nat→Option (List AOper × Nat)
  | [],n=>some ([],n)
  | o::os,n=>
    match cOp P (cfg.at (siteOf fk o.dst)) o.op with
    | none=>none
    | some a=>
      match (match o.guard with
        | none=>some none
        | some (j,b)=>match all[j]? with
          | some x=>x.dst.map fun d=>some (d,b)
          | none=>none:Option (Option (Nat × Bool))) with
      | none=>none
      | some g=>(cOpers cfg fk all os (if a.makes then n+1 else n)).map fun r=>(⟨o.dst,a,g,n⟩::r.1,r.2)
def openPairs (ops:Array Oper):List (Nat × Nat):=
  let b:=Region.before ops
  (List.range ops.size).flatMap fun j=>(List.range j).filterMap fun i=>if (b.getD j 0).testBit i then none else some (i,j)
def edgesOk (ops:Array Oper):Bool:=(List.range ops.size).all fun i=>match ops[i]? with
  | some o=>o.after.all fun e=>!Region.binds .any e||Nat.blt e.on i
  | none=>true
def apartAt (l:List AOper) (p:Nat × Nat):Bool:=match nth l p.1,nth l p.2 with
  | some a,some b=>apartS a b
  | _,_=>false
def constC : C→Bool
  | .int _ _ | .bool _ | .nils | .nilfn | .nilp=>true
  | _=>false
def AOp.inHeap : AOp→Bool
  | .call _ false _ | .callv _ _=>true
  | _=>false
def callNew (l:List AOper) (p:Nat × Nat):Bool:=match nth l p.1,nth l p.2 with
  | some a,some b=>a.op.inHeap&&a.guard.isNone&&b.guard.isNone&&(match b.op with
    | .alloc z=>z.all constC
    | _=>false)
  | _,_=>false
def shownPairs (l:List AOper) (ps:List (Nat × Nat)):List (Nat × Nat):=ps.filter fun p=>!callNew l p
def cRegion (cfg:Cfg) (f:Nat) (ops:Array Oper) (draw:Bool):Option ACode:=
    match cOpers P cfg f ops ops.toList 0 with
    | none=>none
    | some r=>match draw with
      | false=>some (.region r.2 [] r.1)
      | true=>if (openPairs ops).all (apartAt r.1)&&edgesOk ops then some (.region r.2 (shownPairs r.1 (openPairs ops)) r.1) else none
def frzAt (cfg:Cfg) (f:Nat):List Oper→List Nat
  | []=>[]
  | o::l=>cfg.frz (siteOf f o.dst)++frzAt cfg f l
def frzA (l:List Nat) (a:ACode):ACode:=match l with
  | []=>a
  | i::l=>.seq (.frz (i::l)) a
def cCode (cfg:Cfg) (f:Nat):Code→Option ACode
  | .skip | .label _=>some .skip
  | .region _ ops draw=>(cRegion P cfg f ops draw).map (frzA (frzAt cfg f ops.toList))
  | .seq a b=>match cCode cfg f a,cCode cfg f b with
    | some a,some b=>some (.seq a b)
    | _,_=>none
  | .cond c a b=>match cOpd c,cCode cfg f a,cCode cfg f b with
    | some c,some a,some b=>some (.cond c a b)
    | _,_,_=>none
  | .block id (.loop b)=>(cCode cfg f b).map fun b=>.block id (.loop (cfg.ann f id) b)
  | .block id b=>(cCode cfg f b).map (.block id)
  | .loop b=>(cCode cfg f b).map (.loop {})
  | .rangeFunc g ps a b=>match cOpd g,cCode cfg f a,cCode cfg f b with
    | some g,some a,some b=>some (.range g ps.toList a b)
    | _,_,_=>none
  | .exit id=>some (.exit id)
  | .scope b=>cCode cfg f b
  | .goto _ | .refuse _=>none
  | .ret=>some .ret
def cRes : List ResultVar→Option (List RVar)
  | []=>some []
  | .tmp t::l=>(cRes l).map (.tmp t::·)
  | .cell a t::l=>match shapeT P t,cRes l with
    | some n,some r=>some (.cell a n::r)
    | _,_=>none
def cFunc (cfg:Cfg) (f:Nat):Option AFunc:=
  match P.funcs[f]? with
  | some fn => if fn.name == "runtime.NumGoroutine" then none else match fn.body with
    | some c=>match cCode P cfg f c,cRes P fn.results.toList with
      | some a,some r=>some ⟨fn.ntmps,r,cfg.drop f,a⟩
      | _,_=>none
    | none=>none
  | none=>none
end Am
namespace Am
open Go
def Rec.le (r r':Rec):Prop:=∀q z,r q=some z→r' q=some z
theorem Rec.le_refl (r:Rec):r.le r:=fun _ _ h=>h
theorem Rec.none_le (r:Rec):Rec.le (fun _=>none) r:=fun _ _ h=>by cases h
theorem callV_mono {r r':Rec} (hr:r.le r') {f:V} {args:List V} {h:List Obj} {z} (e:callV r f args h=some z):callV r' f args h=some z:=by
  unfold callV at e ⊢
  split at e<;>first | exact hr _ _ e | cases e
theorem evO_mono {r r':Rec} (hr:r.le r') {rb:Nat} {o:AOper} {st:St} {z} (e:evO r rb o st=some z):evO r' rb o st=some z:=by
  obtain ⟨dst,op,guard,rid⟩:=o
  unfold evO at e ⊢
  simp only at e ⊢
  cases hw:wantedA st.slots guard with
  | none=>rw [hw] at e;cases e
  | some b=>
   rw [hw] at e
   cases b with
   | false=>exact e
   | true=>
    simp only at e ⊢
    cases op<;>try exact e
    case call f p args=>
      cases p with
      | true=>
        simp only at e ⊢
        cases ha:toArgs st.heap (args.map (·.ev st.slots)) with
        | none=>rw [ha] at e;cases e
        | some as=>
          rw [ha] at e
          simp only at e ⊢
          cases hq:r (.p f as) with
          | none=>rw [hq] at e;cases e
          | some w=>rw [hq] at e;rw [hr _ _ hq];exact e
      | false=>
        simp only at e ⊢
        cases hq:r (.f f (args.map (·.ev st.slots)) st.heap) with
        | none=>rw [hq] at e;cases e
        | some w=>rw [hq] at e;rw [hr _ _ hq];exact e
    case callv f args=>
      simp only at e ⊢
      cases hq:callV r (f.ev st.slots) (args.map (·.ev st.slots)) st.heap with
      | none=>rw [hq] at e;cases e
      | some w=>rw [hq] at e;rw [callV_mono hr hq];exact e
theorem evOs_mono {r r':Rec} (hr:r.le r') {rb:Nat}:∀{ops:List AOper} {i:Nat} {st:St} {fs:List (Nat × Foot)} {z},evOs r rb i ops st fs=some z→evOs r' rb i ops st fs=some z
  | [],_,_,_,_,e=>e
  | o::os,i,st,fs,z,e=>by
    unfold evOs at e ⊢
    cases ho:evO r rb o st with
    | none=>rw [ho] at e;cases e
    | some w=>rw [ho] at e;rw [evO_mono hr ho];exact evOs_mono hr e
theorem evLoop_mono {b b':St→Option (X × St)} (hb:∀s z,b s=some z→b' s=some z) {lb:Nat} {ann:Ann}:∀{n n':Nat} {st:St} {z},n≤n'→evLoop b lb ann n st=some z→evLoop b' lb ann n' st=some z
  | 0,_,_,_,_,e=>by cases e
  | n+1,0,_,_,h,_=>by omega
  | n+1,n'+1,st,z,h,e=>by
    unfold evLoop at e ⊢
    cases hh:headOf ann lb st with
    | none=>rw [hh] at e;cases e
    | some s1=>
      rw [hh] at e
      simp only at e ⊢
      cases hs:b s1 with
      | none=>rw [hs] at e;cases e
      | some w=>
        rw [hs] at e;rw [hb _ _ hs]
        obtain ⟨x,s2⟩:=w
        cases x with
        | normal=>exact evLoop_mono hb (by omega) e
        | exit _=>exact e
        | ret=>exact e
theorem evC_mono {r r':Rec} (hr:r.le r') {n n':Nat} (hn:n≤n'):∀{c:ACode} {st:St} {z},evC r n c st=some z→evC r' n' c st=some z:=by
  intro c
  induction c with
  | skip=>intro st z e;exact e
  | frz l=>intro st z e;exact e
  | exit i=>intro st z e;exact e
  | ret=>intro st z e;exact e
  | region news pairs ops=>
    intro st z e
    unfold evC at e ⊢
    cases ho:evOs r st.heap.length 0 ops ⟨st.slots,st.heap++List.replicate news .none⟩ [] with
    | none=>rw [ho] at e;cases e
    | some w=>rw [ho] at e;rw [evOs_mono hr ho];exact e
  | seq a b iha ihb=>
    intro st z e
    unfold evC at e ⊢
    cases ha:evC r n a st with
    | none=>rw [ha] at e;cases e
    | some w=>
      rw [ha] at e;rw [iha ha]
      obtain ⟨x,s⟩:=w
      cases x with
      | normal=>exact ihb e
      | exit _=>exact e
      | ret=>exact e
  | cond c a b iha ihb=>
    intro st z e
    unfold evC at e ⊢
    split at e
    · exact iha e
    · exact ihb e
    · cases e
  | block id b ih=>
    intro st z e
    unfold evC at e ⊢
    cases hb:evC r n b st with
    | none=>rw [hb] at e;cases e
    | some w=>rw [hb] at e;rw [ih hb];exact e
  | loop ann b ih=>
    intro st z e
    unfold evC at e ⊢
    exact evLoop_mono (fun s z h=>ih h) hn e
  | range f ps a b iha ihb=>
    intro st z e
    unfold evC at e ⊢
    cases hc:callV r (f.ev st.slots) [.c (.yld st.heap.length)] (st.heap++[.loop ⟨.ready,.normal,st.slots,ps,a,b⟩]) with
    | none=>rw [hc] at e;cases e
    | some w=>rw [hc] at e;rw [callV_mono hr hc];exact e
theorem evBody_mono {G:Nat→Option AFunc} {r r':Rec} (hr:r.le r') {n n':Nat} (hn:n≤n'):(evBody G r n).le (evBody G r' n'):=by
  intro q z e
  cases q with
  | f k args h=>
    unfold evBody at e ⊢
    simp only at e ⊢
    cases hg:G k with
    | none=>rw [hg] at e;cases e
    | some fn=>
      rw [hg] at e
      simp only at e ⊢
      cases hc:evC r n fn.code ⟨frameOf fn args,h⟩ with
      | none=>rw [hc] at e;cases e
      | some w=>rw [hc] at e;rw [evC_mono hr hn hc];exact e
  | p k args=>
    unfold evBody at e ⊢
    simp only at e ⊢
    cases hg:G k with
    | none=>rw [hg] at e;cases e
    | some fn=>
      rw [hg] at e
      simp only at e ⊢
      cases hc:evC r n fn.code ⟨frameOf fn args,[]⟩ with
      | none=>rw [hc] at e;cases e
      | some w=>rw [hc] at e;rw [evC_mono hr hn hc];exact e
  | y o args h=>
    unfold evBody at e ⊢
    simp only at e ⊢
    split at e
    · rename_i l hl
      split at e
      case isFalse=>cases e
      case isTrue hb=>
        rw [if_pos hb]
        cases hc:evC r n l.assign ⟨setParams l.params args l.slots,h⟩ with
        | none=>rw [hc] at e;cases e
        | some w=>
          rw [hc] at e;rw [evC_mono hr hn hc]
          obtain ⟨x,st⟩:=w
          cases x with
          | exit _=>cases e
          | ret=>cases e
          | normal=>
            simp only at e ⊢
            cases h1:getH st.heap o with
            | loop l1=>
              rw [h1] at e
              simp only at e ⊢
              cases h2:l1.state with
              | ready=>
                rw [h2] at e
                simp only at e ⊢
                cases hc2:evC r n l.body ⟨st.slots,setH st.heap o (.loop { l1 with state:=.busy })⟩ with
                | none=>rw [hc2] at e;cases e
                | some w2=>rw [hc2] at e;rw [evC_mono hr hn hc2];exact e
              | busy=>rw [h2] at e;cases e
              | done=>rw [h2] at e;cases e
              | exhausted=>rw [h2] at e;cases e
            | none=>rw [h1] at e;cases e
            | cells _=>rw [h1] at e;cases e
            | arr _ _ _=>rw [h1] at e;cases e
            | map _=>rw [h1] at e;cases e
    · cases e
theorem ev_succ_le (G:Nat→Option AFunc):∀n,(ev G n).le (ev G (n+1))
  | 0=>Rec.none_le _
  | n+1=>evBody_mono (ev_succ_le G n) (Nat.le_succ n)
theorem ev_mono (G:Nat→Option AFunc) {n m:Nat} (h:n≤m):(ev G n).le (ev G m):=by
  induction h with
  | refl=>exact Rec.le_refl _
  | step _ ih=>exact fun q z e=>ev_succ_le G _ q z (ih q z e)
section rules
variable {G:Nat→Option AFunc}
def RC (G:Nat→Option AFunc) (c:ACode) (st:St) (Q:X→St→Prop):Prop:=∃n x st',evC (ev G n) n c st=some (x,st')∧Q x st'
def RO (G:Nat→Option AFunc) (rb i:Nat) (ops:List AOper) (st:St) (fs:List (Nat × Foot)) (K:St→List (Nat × Foot)→Prop):Prop:=
  ∃n st' fs',evOs (ev G n) rb i ops st fs=some (st',fs')∧K st' fs'
def Fn (G:Nat→Option AFunc) (q:Req) (Q:V→List Obj→Prop):Prop:=∃n v h,ev G n q=some (v,h)∧Q v h
def Val (G:Nat→Option AFunc) (k:Nat) (args:List V) (v:V):Prop:=∃n,ev G n (.p k args)=some (v,[])
theorem evC_up {n m:Nat} (h:n≤m) {c st z} (e:evC (ev G n) n c st=some z):evC (ev G m) m c st=some z:=evC_mono (ev_mono G h) h e
theorem evOs_up {n m:Nat} (h:n≤m) {rb i ops st fs z} (e:evOs (ev G n) rb i ops st fs=some z):evOs (ev G m) rb i ops st fs=some z:=evOs_mono (ev_mono G h) e
theorem Fn.mono {q:Req} {Q Q':V→List Obj→Prop} (h:Fn G q Q) (hq:∀v h,Q v h→Q' v h):Fn G q Q':=by
  obtain ⟨n,v,h,e,q⟩:=h;exact ⟨n,v,h,e,hq _ _ q⟩
theorem RC.mono {c:ACode} {st:St} {Q Q':X→St→Prop} (h:RC G c st Q) (hq:∀x s,Q x s→Q' x s):RC G c st Q':=by
  obtain ⟨n,x,s,e,q⟩:=h;exact ⟨n,x,s,e,hq _ _ q⟩
def seqK (G:Nat→Option AFunc) (b:ACode) (Q:X→St→Prop):X→St→Prop
  | .normal,s=>RC G b s Q
  | x,s=>Q x s
def regK (pairs:List (Nat × Nat)) (Q:X→St→Prop) (s:St) (fs:List (Nat × Foot)):Prop:=pairsOk fs pairs=true∧Q .normal s
theorem regK_nil {Q:X→St→Prop} {s:St} {fs:List (Nat × Foot)}:regK [] Q s fs↔Q .normal s:=by simp [regK,pairsOk]
def loopK (I:Nat→St→Prop) (m:Nat) (Q:X→St→Prop):X→St→Prop
  | .normal,s=>∃m',m'<m∧I m' s
  | x,s=>Q x s
def valK (res:List RVar) (v:V):X→St→Prop
  | .exit _,_=>False
  | _,st=>∃vs,resV st res=some vs∧toRes st.heap (resOf vs)=some v
def fnK (res:List RVar) (Q:V→List Obj→Prop):X→St→Prop
  | .exit _,_=>False
  | _,st=>∃vs,resV st res=some vs∧Q (resOf vs) st.heap
theorem RC_skip {st:St} {Q:X→St→Prop}:RC G .skip st Q↔Q .normal st:=
  ⟨fun ⟨_,_,_,e,q⟩=>by cases e;exact q,fun q=>⟨0,_,_,rfl,q⟩⟩
theorem RC_frz {l:List Nat} {st:St} {Q:X→St→Prop}:RC G (.frz l) st Q↔∃h,frzS l st.slots st.heap=some h∧Q .normal ⟨st.slots,h⟩:=by
  constructor
  · rintro ⟨n,x,s,e,q⟩
    unfold evC at e
    cases hh:frzS l st.slots st.heap with
    | none=>rw [hh] at e;cases e
    | some h=>rw [hh] at e;cases e;exact ⟨h,rfl,q⟩
  · rintro ⟨h,e,q⟩
    exact ⟨0,_,_,by unfold evC;rw [e];rfl,q⟩
theorem RC_exit {i:Nat} {st:St} {Q:X→St→Prop}:RC G (.exit i) st Q↔Q (.exit i) st:=
  ⟨fun ⟨_,_,_,e,q⟩=>by cases e;exact q,fun q=>⟨0,_,_,rfl,q⟩⟩
theorem RC_ret {st:St} {Q:X→St→Prop}:RC G .ret st Q↔Q .ret st:=
  ⟨fun ⟨_,_,_,e,q⟩=>by cases e;exact q,fun q=>⟨0,_,_,rfl,q⟩⟩
theorem RC_seq {a b:ACode} {st:St} {Q:X→St→Prop}:RC G (.seq a b) st Q↔RC G a st (seqK G b Q):=by
  constructor
  · rintro ⟨n,x,s,e,q⟩
    unfold evC at e
    cases ha:evC (ev G n) n a st with
    | none=>rw [ha] at e;cases e
    | some w=>
      obtain ⟨y,s1⟩:=w
      rw [ha] at e
      cases y with
      | normal=>exact ⟨n,_,_,ha,n,_,_,e,q⟩
      | exit i=>cases e;exact ⟨n,_,_,ha,q⟩
      | ret=>cases e;exact ⟨n,_,_,ha,q⟩
  · rintro ⟨n,y,s1,ha,q⟩
    cases y with
    | normal=>
      obtain ⟨m,x,s,e,q⟩:=q
      refine ⟨max n m,x,s,?_,q⟩
      unfold evC
      rw [evC_up (Nat.le_max_left n m) ha]
      exact evC_up (Nat.le_max_right n m) e
    | exit i=>exact ⟨n,_,_,by unfold evC;rw [ha],q⟩
    | ret=>exact ⟨n,_,_,by unfold evC;rw [ha],q⟩
def RCb (G:Nat→Option AFunc) (v:V) (a b:ACode) (st:St) (Q:X→St→Prop):Prop:=∃t,v = .c (.bool t)∧RC G (if t then a else b) st Q
theorem RC_cond {c:Opd} {a b:ACode} {st:St} {Q:X→St→Prop}:RC G (.cond c a b) st Q↔RCb G (c.ev st.slots) a b st Q:=by
  constructor
  · rintro ⟨n,x,s,e,q⟩
    unfold evC at e
    split at e
    · rename_i h;exact ⟨true,h,n,x,s,e,q⟩
    · rename_i h;exact ⟨false,h,n,x,s,e,q⟩
    · cases e
  · rintro ⟨t,h,n,x,s,e,q⟩
    refine ⟨n,x,s,?_,q⟩
    unfold evC
    cases t<;>rw [h]<;>exact e
theorem RCb_true {a b:ACode} {st:St} {Q:X→St→Prop}:RCb G (.c (.bool true)) a b st Q↔RC G a st Q:=
  ⟨fun ⟨t,h,r⟩=>by cases h;exact r,fun r=>⟨true,rfl,r⟩⟩
theorem RCb_false {a b:ACode} {st:St} {Q:X→St→Prop}:RCb G (.c (.bool false)) a b st Q↔RC G b st Q:=
  ⟨fun ⟨t,h,r⟩=>by cases h;exact r,fun r=>⟨false,rfl,r⟩⟩
def inBlock (id:Nat) (Q:X→St→Prop):X→St→Prop
  | .exit i,s=>if Nat.beq i id then Q .normal s else Q (.exit i) s
  | x,s=>Q x s
@[simp] theorem inBlock_normal {id:Nat} {Q:X→St→Prop} {s:St}:inBlock id Q .normal s=Q .normal s:=rfl
@[simp] theorem inBlock_ret {id:Nat} {Q:X→St→Prop} {s:St}:inBlock id Q .ret s=Q .ret s:=rfl
theorem RC_block {id:Nat} {b:ACode} {st:St} {Q:X→St→Prop}:RC G (.block id b) st Q↔RC G b st (inBlock id Q):=by
  constructor
  · rintro ⟨n,x,s,e,q⟩
    unfold evC at e
    cases hb:evC (ev G n) n b st with
    | none=>rw [hb] at e;cases e
    | some w=>
      obtain ⟨y,s1⟩:=w
      rw [hb] at e
      refine ⟨n,y,s1,hb,?_⟩
      cases y with
      | normal=>cases e;exact q
      | ret=>cases e;exact q
      | exit i=>
        simp only at e
        unfold inBlock
        by_cases hi:Nat.beq i id=true
        · simp only [hi,if_true] at e ⊢;cases e;exact q
        · simp only [hi,if_false,Bool.false_eq_true] at e ⊢;cases e;exact q
  · rintro ⟨n,y,s1,hb,q⟩
    cases y with
    | normal=>exact ⟨n,_,_,by unfold evC;rw [hb],q⟩
    | ret=>exact ⟨n,_,_,by unfold evC;rw [hb],q⟩
    | exit i=>
      unfold inBlock at q
      by_cases hi:Nat.beq i id=true
      · simp only [hi,if_true] at q;exact ⟨n,.normal,s1,by unfold evC;rw [hb];simp [hi],q⟩
      · simp only [hi,if_false,Bool.false_eq_true] at q;exact ⟨n,.exit i,s1,by unfold evC;rw [hb];simp [hi],q⟩
theorem RC_region {news:Nat} {pairs:List (Nat × Nat)} {ops:List AOper} {st:St} {Q:X→St→Prop} :
    RC G (.region news pairs ops) st Q↔RO G st.heap.length 0 ops ⟨st.slots,st.heap++List.replicate news .none⟩ [] (regK pairs Q):=by
  constructor
  · rintro ⟨n,x,s,e,q⟩
    unfold evC at e
    cases ho:evOs (ev G n) st.heap.length 0 ops ⟨st.slots,st.heap++List.replicate news .none⟩ [] with
    | none=>rw [ho] at e;cases e
    | some w=>
      obtain ⟨s1,fs⟩:=w
      rw [ho] at e
      simp only at e
      by_cases hp:pairsOk fs pairs=true
      · rw [if_pos hp] at e;cases e;exact ⟨n,_,_,ho,hp,q⟩
      · rw [if_neg hp] at e;cases e
  · rintro ⟨n,s,fs,ho,hp,q⟩
    exact ⟨n,.normal,s,by unfold evC;rw [ho];simp [hp],q⟩
theorem RO_nil {rb i:Nat} {st:St} {fs:List (Nat × Foot)} {K:St→List (Nat × Foot)→Prop}:RO G rb i [] st fs K↔K st fs:=
  ⟨fun ⟨_,_,_,e,q⟩=>by cases e;exact q,fun q=>⟨0,_,_,rfl,q⟩⟩
def AOp.isCall : AOp→Bool
  | .call .. | .callv ..=>true
  | _=>false
def evO0 (rb:Nat) (o:AOper) (st:St):Option (St × Foot):=
  match wantedA st.slots o.guard with
  | none=>none
  | some false=>some (⟨putD st.slots o.dst skipV,st.heap⟩,⟨[],[],none⟩)
  | some true=>
    match opEv (rb+o.rid) st.slots st.heap o.op with
    | some (v,w)=>some (⟨putD st.slots o.dst v,applyW st.heap w⟩,⟨readsOf st.slots o.op,w.map (·.1),none⟩)
    | none=>none
theorem evO_eq {r:Rec} {rb:Nat} {o:AOper} {st:St} (h:o.op.isCall=false):evO r rb o st=evO0 rb o st:=by
  obtain ⟨dst,op,guard,rid⟩:=o
  unfold evO evO0
  cases op<;>first | rfl | cases h
def RO1 (G:Nat→Option AFunc) (rb i:Nat) (x:Option (St × Foot)) (os:List AOper) (fs:List (Nat × Foot)) (K:St→List (Nat × Foot)→Prop):Prop:=
  ∃st f,x=some (st,f)∧RO G rb (i+1) os st ((i,f)::fs) K
theorem RO_cons {rb i:Nat} {o:AOper} {os:List AOper} {st:St} {fs:List (Nat × Foot)} {K:St→List (Nat × Foot)→Prop} (h:o.op.isCall=false) :
    RO G rb i (o::os) st fs K↔RO1 G rb i (evO0 rb o st) os fs K:=by
  constructor
  · rintro ⟨n,s,fs',e,k⟩
    unfold evOs at e
    rw [evO_eq h] at e
    cases ho:evO0 rb o st with
    | none=>rw [ho] at e;cases e
    | some w=>rw [ho] at e;exact ⟨w.1,w.2,rfl,n,s,fs',e,k⟩
  · rintro ⟨s1,f,ho,n,s,fs',e,k⟩
    exact ⟨n,s,fs',by unfold evOs;rw [evO_eq h,ho];exact e,k⟩
def CallV (G:Nat→Option AFunc) (f:V) (args:List V) (h:List Obj) (Q:V→List Obj→Prop):Prop:=∃n v h',callV (ev G n) f args h=some (v,h')∧Q v h'
theorem CallV_fn {k:Nat} {agg:Bool} {first caps:List C} {args:List V} {h:List Obj} {Q:V→List Obj→Prop} :
    CallV G (.c (.fn k agg first caps)) args h Q↔Fn G (.f k (firstV agg first++args++caps.map V.c) h) Q:=Iff.rfl
theorem CallV.mono {f:V} {args:List V} {h:List Obj} {Q Q':V→List Obj→Prop} (hh:CallV G f args h Q) (hq:∀v h,Q v h→Q' v h):CallV G f args h Q':=by
  obtain ⟨n,v,h,e,q⟩:=hh;exact ⟨n,v,h,e,hq _ _ q⟩
theorem RC_loop {ann:Ann} {b:ACode} {st:St} {Q:X→St→Prop} (I:Nat→St→Prop) (m:Nat) (h0:I m (reify ann.reify st))
    (step:∀m s,I m s→∃s1,headOf ann (reify ann.reify st).heap.length s=some s1∧RC G b s1 (loopK I m Q)):RC G (.loop ann b) st Q:=by
  have key:∀m s,I m s→∃n x s',(∀k,n≤k→evLoop (evC (ev G k) k b) (reify ann.reify st).heap.length ann n s=some (x,s'))∧Q x s':=by
    intro m
    induction m using Nat.strongRecOn with
    | _ m ih=>
      intro s hI
      obtain ⟨s1,hh,n,x,s2,e,q⟩:=step m s hI
      cases x with
      | normal=>
        obtain ⟨m',hlt,hI'⟩:=q
        obtain ⟨n',x,s',e',q'⟩:=ih m' hlt s2 hI'
        refine ⟨max n n'+1,x,s',fun k hk=>?_,q'⟩
        have hk1:n≤k:=by omega
        unfold evLoop
        simp only [hh,evC_up hk1 e]
        exact evLoop_mono (fun _ _ h=>h) (Nat.le_max_right n n') (e' k (by omega))
      | exit i=>
        refine ⟨n+1,.exit i,s2,fun k hk=>?_,q⟩
        unfold evLoop
        simp only [hh,evC_up (show n≤k by omega) e]
      | ret=>
        refine ⟨n+1,.ret,s2,fun k hk=>?_,q⟩
        unfold evLoop
        simp only [hh,evC_up (show n≤k by omega) e]
  obtain ⟨n,x,s',e,q⟩:=key m _ h0
  exact ⟨n,x,s',by unfold evC;exact e n (Nat.le_refl n),q⟩
theorem Fn_f {k:Nat} {fn:AFunc} {args:List V} {h:List Obj} {Q:V→List Obj→Prop} (hg:G k=some fn) (hd:fn.drop=false)
    (hc:RC G fn.code ⟨frameOf fn args,h⟩ (fnK fn.res Q)):Fn G (.f k args h) Q:=by
  obtain ⟨n,x,st,e,q⟩:=hc
  cases x with
  | exit i=>exact q.elim
  | normal=>
    obtain ⟨vs,hr,q⟩:=q
    refine ⟨n+1,resOf vs,st.heap,?_,q⟩
    show evBody G (ev G n) n _=_
    unfold evBody
    simp [hg,e,hd,hr]
  | ret=>
    obtain ⟨vs,hr,q⟩:=q
    refine ⟨n+1,resOf vs,st.heap,?_,q⟩
    show evBody G (ev G n) n _=_
    unfold evBody
    simp [hg,e,hd,hr]
theorem Val_of {k:Nat} {fn:AFunc} {args:List V} {v:V} (hg:G k=some fn)
    (hc:RC G fn.code ⟨frameOf fn args,[]⟩ (valK fn.res v)):Val G k args v:=by
  obtain ⟨n,x,st,e,q⟩:=hc
  refine ⟨n+1,?_⟩
  show evBody G (ev G n) n _=_
  unfold evBody
  cases x with
  | exit i=>exact q.elim
  | normal=>obtain ⟨vs,hr,q⟩:=q;simp [hg,e,hr,q]
  | ret=>obtain ⟨vs,hr,q⟩:=q;simp [hg,e,hr,q]
end rules
end Am
