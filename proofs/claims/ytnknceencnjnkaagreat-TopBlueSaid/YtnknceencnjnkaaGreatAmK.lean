/-
  A part of the proof: the texts Am42, Am43, Am44, Am45, Am49 of this seat, joined.
-/
import Derived.Test.YtnknceencnjnkaaGreatAmI
import Derived.Test.YtnknceencnjnkaaGreatAmE
namespace Am
open Go
set_option linter.unusedVariables false
set_option linter.unusedSimpArgs false
variable {G:Nat→Option AFunc}
theorem RX_forC {ann:Ann} {b:ACode} {s:List V} {h:List Obj} {Q:QT} (n:Nat) (up:Nat→List (Nat × V)) (P:Nat→Prop) (hr:ann.reify=[])
    (hP:P 0)
    (h0:headX ann h.length s h=some (putsS (up 0) (killS ann.kill s),h))
    (step:∀k,k≤n→P k→RX G b (putsS (up k) (killS ann.kill s)) h (forX ann h.length (up (k+1)) (killS ann.kill s) h (k<n∧P (k+1)) Q)):RX G (.loop ann b) s h Q:=by
  have e:reify ann.reify ⟨s,h⟩=⟨s,h⟩:=by rw [hr];rfl
  refine RX_for n up (fun _=>h) P hP (by rw [e];exact h0) ?_
  rw [e];exact step
abbrev intC (x:Int):C:=.int .i64 x
theorem dropN_eq {α:Type}:∀(n:Nat) (l:List α),dropN n l=l.drop n
  | 0,l=>by cases l<;>rfl
  | n+1,[]=>rfl
  | n+1,x::l=>by simp only [dropN,List.drop_succ_cons,dropN_eq n l]
theorem known_ints {l:List Int}:known (l.map intC)=true:=by
  induction l with
  | nil=>rfl
  | cons a l ih=>exact ih
theorem toResCs_ints {h:List Obj} {l:List Int}:toResCs h (l.map intC)=some (l.map intC):=by
  induction l with
  | nil=>rfl
  | cons a l ih=>simp only [List.map_cons,toResCs,ih];rfl
theorem toArgCs_ints {h:List Obj} {l:List Int}:toArgCs h (l.map intC)=some (l.map intC):=by
  induction l with
  | nil=>rfl
  | cons a l ih=>simp only [List.map_cons,toArgCs,ih];rfl
theorem scalCells_ints : ∀{l:List Int},scalCells (l.map intC)=some (l.map (Row.row (α:=Int)))
  | []=>rfl
  | a::l=>by simp only [List.map_cons,scalCells,scalCells_ints,Option.map_some];rfl
end Am
namespace Am
attribute [go_sem] scalCells_ints Nat.mul_one known_ints toResCs_ints toArgCs_ints List.length_set
end Am
namespace Am
@[go_sem] theorem flat_ints {l:List Int}:(l.map (Row.row (α:=Int))).flatMap (fun r=>r.map (C.ofD false))=l.map intC:=by
  induction l with
  | nil=>rfl
  | cons a l ih=>rw [List.map_cons,List.flatMap_cons,ih];rfl
end Am
namespace Am
open Go
set_option linter.unusedVariables false
set_option linter.unusedSimpArgs false
inductive RdI (H:List Obj):C→List Int→Prop where
  | lst (g:Bool × Bool) (l:List Int):RdI H (L g l) l
  | sl (o ver:Nat) (fr:Bool) (off len:Nat) (w:List Int) (hg:getH H o = .arr fr ver 1 (w.map Row.row)) (hb:off+len≤w.length):RdI H (.sl o ver off len) ((w.drop off).take len)
theorem takeN_take {α:Type}:∀{n:Nat} {l:List α},n≤l.length→takeN n l=some (l.take n)
  | 0,_,_=>by simp [takeN]
  | _+1,[],h=>by simp at h
  | n+1,x::l,h=>by simp only [takeN,takeN_take (n:=n) (l:=l) (by simpa using h),Option.map_some,List.take_succ_cons]
theorem part_rows {w:List Int} {off len:Nat} (hb:off+len≤w.length):part off len (w.map (Row.row (α:=Int)))=some (((w.drop off).take len).map Row.row):=by
  simp only [part,dropN_eq]
  rw [takeN_take (by simp;omega),List.map_take,List.map_drop]
theorem getD_part {w:List Int} {off len i:Nat} (hi:i<len) (hb:off+len≤w.length):((w.drop off).take len).getD i default=w.getD (off+i) default:=by
  simp [List.getD_eq_getElem?_getD,List.getElem?_take,hi,List.getElem?_drop]
namespace RdI
variable {H:List Obj} {c:C} {l:List Int}
theorem len (h:RdI H c l):lenC c=some l.length:=by
  cases h with
  | lst g=>exact lenC_L
  | sl o ver fr off len w hg hb=>simp only [lenC];congr 1;simp;omega
theorem kn (h:RdI H c l) (cs:List C):known (c::cs)=known cs:=by
  cases h with
  | lst g=>exact known_L
  | sl=>rfl
theorem el (h:RdI H c l) {i:Int} (h0:0≤i) (h1:i<l.length):∃a:C,∀X,elemC (H++X) 1 c i=some a∧loadC (H++X) (num none) a=some [.int .i64 (atI l i)]:=by
  cases h with
  | lst g=>exact ⟨_,fun X=>⟨elemC_L h0 h1 rfl,rfl⟩⟩
  | sl o ver fr off len w hg hb=>
    have hlen:(i:Int)<len:=by
      have:((w.drop off).take len).length=len:=by simp;omega
      rw [this] at h1;exact h1
    have hn:off+i.toNat<w.length:=by omega
    refine ⟨.aptr o ver (off+i.toNat) 0,fun X=>⟨?_,?_⟩⟩
    · rw [elemC_sl,getH_keep hg (by simp)]
      simp [h0,hlen]
    · simp only [num,Option.getD,loadC,getH_keep hg (by simp:Obj.arr fr ver 1 (w.map Row.row) ≠ .none),if_true]
      have hr:nth (w.map (Row.row (α:=Int))) (off+i.toNat)=some [.int .i64 (w.getD (off+i.toNat) default)]:=by
        rw [nth_get];simp [hn];rfl
      rw [hr]
      simp only [Option.bind_some,part,dropN,takeN,Option.map_some,List.map_cons,List.map_nil,C.ofD,atI]
      rw [getD_part (by omega) hb]
theorem arg (h:RdI H c l):∃g,∀X,toArgC (H++X) c=some (L g l):=by
  cases h with
  | lst g=>exact ⟨g,fun X=>toArgC_L⟩
  | sl o ver fr off len w hg hb=>
    refine ⟨(false,true),fun X=>?_⟩
    rw [toArgC_sl,getH_keep hg (by simp)]
    simp only [if_true,part_rows hb,Option.map_some]
    rfl
theorem append (h:RdI H c l) (X:List Obj):RdI (H++X) c l:=by
  cases h with
  | lst g=>exact .lst g _
  | sl o ver fr off len w hg hb=>exact .sl o ver fr off len w (getH_keep hg (by simp)) hb
theorem agree (h:RdI H c l) {H':List Obj} (hh:∀o fr ver rows,getH H o = .arr fr ver 1 rows→getH H' o=getH H o):RdI H' c l:=by
  cases h with
  | lst g=>exact .lst g _
  | sl o ver fr off len w hg hb=>exact .sl o ver fr off len w (by rw [hh _ _ _ _ hg,hg]) hb
theorem set (h:RdI H c l) {o:Nat} {x:Obj} (ho:∀fr ver rows,getH H o ≠ .arr fr ver 1 rows):RdI (setH H o x) c l:=by
  refine h.agree fun o' fr ver rows hg=>?_
  rw [getH_setH,if_neg]
  rintro ⟨rfl,_⟩
  exact ho _ _ _ hg
end RdI
end Am
namespace Am
theorem getH_set0 {H Y:List Obj} {mo:Nat} {x:Obj}:getH (setH H mo x++Y) H.length=getH Y 0:=by
  have:=getH_at0 (setH H mo x) Y
  rwa [length_setH] at this
theorem getH_setN {H Y:List Obj} {mo i:Nat} {x:Obj}:getH (setH H mo x++Y) (H.length+i)=getH Y i:=by
  have:=getH_at (setH H mo x) Y i
  rwa [length_setH] at this
theorem setH_set0 {H Y:List Obj} {mo:Nat} {x y:Obj}:setH (setH H mo x++Y) H.length y=setH H mo x++setH Y 0 y:=by
  have:=setH_at0 (setH H mo x) Y y
  rwa [length_setH] at this
theorem setH_setN {H Y:List Obj} {mo i:Nat} {x y:Obj}:setH (setH H mo x++Y) (H.length+i) y=setH H mo x++setH Y i y:=by
  have:=setH_at (setH H mo x) Y i y
  rwa [length_setH] at this
theorem isHole_set0 {H Y:List Obj} {mo:Nat} {x:Obj}:isHole (setH H mo x++Y) H.length=isHole Y 0:=by
  have:=isHole_at0 (setH H mo x) Y
  rwa [length_setH] at this
theorem isHole_setN {H Y:List Obj} {mo i:Nat} {x:Obj}:isHole (setH H mo x++Y) (H.length+i)=isHole Y i:=by
  have:=isHole_at (setH H mo x) Y i
  rwa [length_setH] at this
attribute [go_sem] length_setH getH_set0 getH_setN setH_set0 setH_setN isHole_set0 isHole_setN
end Am
namespace Am
@[go_sem] theorem disj_nil : ∀{l:List Nat},disj l []=true
  | []=>rfl
  | x::l=>by simp [disj,memN,disj_nil (l:=l)]
end Am
namespace Am
open Go
set_option linter.unusedVariables false
set_option linter.unusedSimpArgs false
set_option maxRecDepth 100000
set_option maxHeartbeats 4000000
variable {G:Nat→Option AFunc}
structure Rg where
  lo:Int
  hi:Int
  deriving Inhabited,DecidableEq
instance : Row Rg:=⟨2,fun s=>[.int .i64 s.lo,.int .i64 s.hi],fun _=>rfl⟩
@[go_sem] theorem sz_rg : Row.sz Rg=2:=rfl
@[go_sem] theorem row_rg {s:Rg}:Row.row s=[.int .i64 s.lo,.int .i64 s.hi]:=rfl
instance : Scal Rg:=⟨fun _=>rfl⟩
def sizeI (lo hi:Int):Int:=IntKind.i64.wrap (IntKind.i64.wrap (hi-lo)+1)
theorem wrapB {n:Int} (h1 : -1000000000≤n) (h2:n≤1000000000):IntKind.i64.wrap n=n:=wrap_id _ (by omega) (by omega)
def tChoose (kS:Nat):AFunc:=⟨39,[.tmp 6],false,
  (.seq (.region 0 [] [
    ⟨(some 6),.mov (.cst (.c (.bool false))),none,0⟩])
  (.seq (.seq (.region 0 [] [
    ⟨(some 8),.mov (.tmp 0),none,0⟩,
    ⟨(some 9),.load none (.tmp 1),none,0⟩,
    ⟨(some 10),.len (.tmp 9),none,0⟩,
    ⟨(some 11),.bin .eql (.tmp 8) (.tmp 10),none,0⟩])
  (.cond (.tmp 11)
    (.seq (.region 0 [] [
      ⟨(some 12),.load none (.tmp 2),none,0⟩,
      ⟨(some 13),.load none (.tmp 3),none,0⟩,
      ⟨(some 14),.callv (.tmp 12) [(.tmp 13)],none,0⟩,
      ⟨(some 6),.mov (.tmp 14),none,0⟩])
    .ret)
    .skip))
  (.seq (.seq (.region 0 [] [
    ⟨(some 15),.load none (.tmp 1),none,0⟩,
    ⟨(some 16),.mov (.tmp 0),none,0⟩,
    ⟨(some 17),.iaddr 2 (.tmp 15) (.tmp 16),none,0⟩,
    ⟨(some 18),.load (some 2) (.tmp 17),none,0⟩,
    ⟨(some 19),.call kS true [(.tmp 18)],none,0⟩,
    ⟨(some 20),.mov (.cst (.c (.int .i64 0))),none,0⟩])
  (.block 0 (.loop ⟨[6,7,21,22,23,24,25,26,27,28,29,30,31,32,33,34,35,36,37,38],false,[]⟩
      (.seq (.region 0 [] [
        ⟨(some 21),.bin .lss (.tmp 20) (.tmp 19),none,0⟩])
      (.seq (.cond (.tmp 21)
        .skip
        (.exit 0))
      (.seq (.block 1 (.seq (.region 0 [] [
          ⟨(some 22),.mov (.tmp 20),none,0⟩,
          ⟨(some 7),.mov (.tmp 22),none,0⟩])
        (.seq (.region 0 [(0,1),(0,2),(1,2),(0,3),(1,3),(2,3),(0,4),(1,4),(0,5),(1,5),(0,6),(1,6),(0,7),(1,7),(2,7),(3,7),(4,7),(5,7),(6,7),(0,8),(1,8)] [
          ⟨(some 23),.load none (.tmp 3),none,0⟩,
          ⟨(some 24),.mov (.tmp 0),none,0⟩,
          ⟨(some 25),.load none (.tmp 1),none,0⟩,
          ⟨(some 26),.mov (.tmp 0),none,0⟩,
          ⟨(some 27),.iaddr 2 (.tmp 25) (.tmp 26),none,0⟩,
          ⟨(some 28),.faddr 0 (.tmp 27),none,0⟩,
          ⟨(some 29),.load none (.tmp 28),none,0⟩,
          ⟨(some 30),.mov (.tmp 7),none,0⟩,
          ⟨(some 31),.bin .add (.tmp 29) (.tmp 30),none,0⟩,
          ⟨(some 32),.iaddr 1 (.tmp 23) (.tmp 24),none,0⟩,
          ⟨none,.store none (.tmp 32) (.tmp 31),none,0⟩])
        (.seq (.region 0 [] [
          ⟨(some 33),.load none (.tmp 4),none,0⟩,
          ⟨(some 34),.mov (.tmp 0),none,0⟩,
          ⟨(some 35),.bin .add (.tmp 34) (.cst (.c (.int .i64 1))),none,0⟩,
          ⟨(some 36),.callv (.tmp 33) [(.tmp 35)],none,0⟩,
          ⟨(some 37),.not (.tmp 36),none,0⟩])
        (.cond (.tmp 37)
          (.seq (.region 0 [] [
            ⟨(some 6),.mov (.cst (.c (.bool false))),none,0⟩])
          .ret)
          .skip)))))
      (.region 0 [] [
        ⟨(some 38),.bin .add (.tmp 20) (.cst (.c (.int .i64 1))),none,0⟩,
        ⟨(some 20),.mov (.tmp 38),none,0⟩])))))))
  (.seq (.region 0 [] [
    ⟨(some 6),.mov (.cst (.c (.bool true))),none,0⟩])
  .ret))))⟩
def tLists1 (kC:Nat):AFunc:=⟨11,[],false,
  (.seq (.region 1 [] [
    ⟨(some 2),.box (.tmp 0),none,0⟩])
  (.seq (.region 2 [] [
    ⟨(some 5),.load none (.tmp 1),none,0⟩,
    ⟨(some 6),.len (.tmp 5),none,0⟩,
    ⟨(some 7),.mkslice 1 8 [(.int .i64 0)] (.tmp 6),none,0⟩,
    ⟨(some 3),.alloc [.nils],none,1⟩,
    ⟨none,.store none (.tmp 3) (.tmp 7),none,2⟩])
  (.seq (.region 1 [] [
    ⟨(some 4),.alloc [.nilfn],none,0⟩])
  (.seq (.region 0 [] [
    ⟨(some 8),.mkfn kC none [(.tmp 1),(.tmp 2),(.tmp 3),(.tmp 4)],none,0⟩,
    ⟨none,.store none (.tmp 4) (.tmp 8),none,0⟩])
  (.region 0 [] [
    ⟨(some 9),.load none (.tmp 4),none,0⟩,
    ⟨(some 10),.callv (.tmp 9) [(.cst (.c (.int .i64 0)))],none,0⟩])))))⟩
def tLists (kL:Nat):AFunc:=⟨4,[.tmp 2],false,
  (.seq (.region 1 [] [
    ⟨(some 1),.box (.tmp 0),none,0⟩,
    ⟨(some 2),.mov (.cst (.c .nilfn)),none,1⟩])
  (.seq (.region 0 [] [
    ⟨(some 3),.mkfn kL none [(.tmp 1)],none,0⟩,
    ⟨(some 2),.mov (.tmp 3),none,0⟩])
  .ret))⟩
def Rgs (rs:List Rg):Prop:=rs.length≤1000∧∀r∈rs,-100000≤r.lo∧r.lo≤r.hi∧r.hi≤100000
def listsF : List Rg→List Int→List (List Int)
  | [],w=>[w]
  | r::rs,w=>(List.range (r.hi+1-r.lo).toNat).flatMap fun (n:Nat)=>listsF rs (w++[r.lo+n])
def InR (rs:List Rg) (w:List Int):Prop:=∀i,i<w.length→(rs.getD i default).lo≤w.getD i default∧w.getD i default≤(rs.getD i default).hi
section
variable {σ:Type} {own:Nat→Prop} {F:C} {R RS:σ→List Obj→Prop} {step:σ→List Int→σ × Bool} {oo:Nat}
def FoldC {σ β:Type} (C:σ→β→Prop) (step:σ→β→σ × Bool):σ→List β→Prop
  | _,[]=>True
  | s,w::ws=>C s w∧((step s w).2=true→FoldC C step (step s w).1 ws)
theorem FoldC_append {σ β:Type} {C:σ→β→Prop} {step:σ→β→σ × Bool}:∀{a b:List β} {s:σ},FoldC C step s (a++b)→FoldC C step s a∧((foldY step s a).2=true→FoldC C step (foldY step s a).1 b)
  | [],b,s,h=>⟨trivial,fun _=>h⟩
  | w::a,b,s,h=>by
    obtain ⟨h1,h2⟩:=h
    by_cases hs:(step s w).2=true
    · obtain ⟨h3,h4⟩:=FoldC_append (h2 hs)
      refine ⟨⟨h1,fun _=>h3⟩,?_⟩
      simp only [foldY,hs,if_true];exact h4
    · refine ⟨⟨h1,fun h=>absurd h hs⟩,fun h=>?_⟩
      rw [foldY,if_neg hs] at h;cases h
theorem FoldC_true {σ β:Type} {step:σ→β→σ × Bool}:∀{s:σ} {l:List β},FoldC (fun _ _=>True) step s l
  | _,[]=>trivial
  | _,_::_=>⟨trivial,fun _=>FoldC_true⟩
def LYield (G:Nat→Option AFunc) (rs:List Rg) (N:Nat) (C0:σ→List Int→Prop) (own:Nat→Prop) (oo:Nat) (F:C) (R RS:σ→List Obj→Prop) (step:σ→List Int→σ × Bool):Prop:=
  ∀s H w,N≤H.length→C0 s w→w.length=rs.length→InR rs w→R s H→getH H oo = .arr false 0 1 (w.map Row.row)→CallV G (.c F) [.c (.sl oo 0 0 w.length)] H fun v H'=>v = .c (.bool (step s w).2)∧Keep own H H'∧(((step s w).2=true∧R (step s w).1 H')∨((step s w).2=false∧RS (step s w).1 H'))
theorem setNth_map {w:List Int} {y:Nat} {k:Int}:setNth (w.map Row.row) y [.int .i64 k]=(w.set y k).map Row.row:=by
  induction w generalizing y with
  | nil=>rfl
  | cons a w ih=>
    cases y with
    | zero=>rfl
    | succ y=>simp only [List.map_cons,setNth,List.set_cons_succ,ih]
theorem nth_row {w:List Int} {y:Nat} (h:y<w.length):nth (w.map Row.row) y=some [.int .i64 (w.getD y default)]:=by
  rw [nth_get];simp [h];rfl
theorem InR.snoc {rs:List Rg} {w:List Int} {x:Int} (h:InR rs w) (hx:(rs.getD w.length default).lo≤x∧x≤(rs.getD w.length default).hi):InR rs (w++[x]):=by
  intro i hi
  by_cases h1:i<w.length
  · have:=h i h1
    rwa [show (w++[x]).getD i default=w.getD i default by simp [List.getD_eq_getElem?_getD,List.getElem?_append,h1]]
  · have:i=w.length:=by simp at hi;omega
    subst this
    rwa [show (w++[x]).getD w.length default=x by simp [List.getD_eq_getElem?_getD]]
theorem choose_ok {kC kS:Nat} (hG:G kC=some (tChoose kS)) (hS:∀{lo hi:Int} {Q:V→Prop},CallP G kS [.agg [.int .i64 lo,.int .i64 hi]] Q↔Q (.c (.int .i64 (sizeI lo hi)))) {rs:List Rg} (hv:Rgs rs) {g:Bool × Bool}
    (hoo:¬own oo) (hR:∀s H H',R s H→Keep (fun o=>o=oo) H H'→R s H') {N:Nat} {C0:σ→List Int→Prop} (hF:LYield G rs N C0 own oo F R RS step) {lb yb ob cb:Nat} (ol:¬own lb) (oy:¬own yb) (op:¬own ob) (oc:¬own cb) :
    ∀(rem i:Nat) (w:List Int) (s:σ) (H:List Obj),N≤H.length→FoldC C0 step s (listsF (rs.drop i) (w.take i))→i+rem=rs.length→w.length=rs.length→InR rs (w.take i)→R s H→getH H oo = .arr false 0 1 (w.map Row.row) →
      getH H lb = .cells [L g rs]→getH H yb = .cells [F]→getH H ob = .cells [.sl oo 0 0 rs.length]→getH H cb = .cells [.fn kC false [] [.ptr lb 0,.ptr yb 0,.ptr ob 0,.ptr cb 0]] →
      Fn G (.f kC [.c (.int .i64 i),.c (.ptr lb 0),.c (.ptr yb 0),.c (.ptr ob 0),.c (.ptr cb 0)] H) fun v H'=>v = .c (.bool (foldY step s (listsF (rs.drop i) (w.take i))).2)∧Keep (fun o=>own o∨o=oo) H H' ∧
        (((foldY step s (listsF (rs.drop i) (w.take i))).2=true∧R (foldY step s (listsF (rs.drop i) (w.take i))).1 H'∧∃w':List Int,getH H' oo = .arr false 0 1 (w'.map Row.row)∧w'.length=rs.length∧w'.take i=w.take i) ∨
         ((foldY step s (listsF (rs.drop i) (w.take i))).2=false∧RS (foldY step s (listsF (rs.drop i) (w.take i))).1 H'))
  | 0,i,w,s,H,hN,hC,hi,hw,hin,hRs,hg,h1,h2,h3,h4=>by
    have hil:i=rs.length:=by omega
    subst hil
    have ht:w.take rs.length=w:=List.take_of_length_le (by omega)
    rw [ht] at hin ⊢
    rw [ht,List.drop_length] at hC
    rw [List.drop_length]
    have e:foldY step s (listsF [] w)=step s w:=by
      simp only [listsF,foldY]
      split
      · rename_i h;rw [←h]
      · rename_i h;rw [←(Bool.not_eq_true _ ▸ h:(step s w).2=false)]
    rw [e]
    refine Fn_X (fn:=tChoose kS) hG rfl ?_
    simp only [go_sem,tChoose,h1,h2,h3]
    rw [←hw]
    refine (hF s H w hN hC.1 hw hin hRs hg).mono ?_
    rintro v H' ⟨rfl,hk,hr⟩
    simp only [go_sem]
    have hk':Keep (fun o=>own o∨o=oo) H H':=⟨hk.1,fun o ho hl=>hk.2 o (fun h=>ho (.inl h)) hl⟩
    have hg':getH H' oo = .arr false 0 1 (w.map Row.row):=hk.get hoo hg (by simp)
    rcases hr with ⟨a,b⟩ | ⟨a,b⟩
    · exact ⟨hk',.inl ⟨a,b,w,hg',rfl,by rw [hw];exact ht⟩⟩
    · exact ⟨hk',.inr ⟨a,b⟩⟩
  | rem+1,i,w,s,H,hN,hC,hi,hw,hin,hRs,hg,h1,h2,h3,h4=>by
    have hil:i<rs.length:=by omega
    have hne:¬(i:Int)=rs.length:=by omega
    have i0:(0:Int)≤i:=by omega
    have i1:(i:Int)<rs.length:=by omega
    have hv1:=hv.1
    obtain ⟨r,hr⟩:∃r,r=rs.getD i default:=⟨_,rfl⟩
    have hdrop:rs.drop i=r::rs.drop (i+1):=by
      rw [List.drop_eq_getElem_cons hil,hr,getD_lt _ _ _ hil]
    obtain ⟨r1,r2,r3⟩:=hv.2 r (by rw [hr,getD_lt _ _ _ hil];exact List.getElem_mem hil)
    have hat:atI rs (i:Int)=r:=by rw [atI_nat,hr]
    have hsz:sizeI r.lo r.hi=((r.hi+1-r.lo).toNat:Nat):=by
      unfold sizeI
      rw [wrapB (n:=r.hi-r.lo) (by omega) (by omega),wrapB (by omega) (by omega)]
      omega
    obtain ⟨m,hm⟩:∃m,m=(r.hi+1-r.lo).toNat:=⟨_,rfl⟩
    rw [←hm] at hsz
    have hdl:∀v,listsF (rs.drop i) v=(List.range m).flatMap fun (n:Nat)=>listsF (rs.drop (i+1)) (v++[r.lo+(n:Int)]):=fun v=>by rw [hdrop,listsF,hm]
    rw [hdl] at hC ⊢
    refine Fn_X (fn:=tChoose kS) hG rfl ?_
    have hm2:m≤200001:=by omega
    let gg:=fun (n:Nat)=>listsF (rs.drop (i+1)) (w.take i++[r.lo+(n:Int)])
    simp only [go_sem,tChoose,h1,hne,i0,i1,hat,hS,hsz]
    refine RX_whileU (α:=Nat × σ × List Obj × List Int) (fun x=>[(20,.c (.int .i64 x.1))]) (fun x=>x.2.2.1) (fun x=>x.1≤m∧Keep (fun o=>own o∨o=oo) H x.2.2.1∧R x.2.1 x.2.2.1∧getH x.2.2.1 oo = .arr false 0 1 (x.2.2.2.map Row.row)∧x.2.2.2.length=rs.length∧x.2.2.2.take i=w.take i∧foldY step s ((List.range x.1).flatMap gg)=(x.2.1,true)) (fun x=>m-x.1) (0,s,H,w) ⟨Nat.zero_le _,Keep.refl,hRs,hg,hw,rfl,rfl⟩ (by simp only [go_sem]<;>rfl) ?_
    rintro ⟨k,s',H',w'⟩ ⟨hk1,hK,hR',hg',hw',ht',hf⟩
    simp only at hk1 hK hR' hg' hw' ht' hf
    have own':∀{o},¬own o→o≠oo→¬(own o∨o=oo):=fun h h' h2=>h2.elim h h'
    have nl:lb≠oo:=by rintro rfl;rw [h1] at hg;cases hg
    have ny:yb≠oo:=by rintro rfl;rw [h2] at hg;cases hg
    have no:ob≠oo:=by rintro rfl;rw [h3] at hg;cases hg
    have nc:cb≠oo:=by rintro rfl;rw [h4] at hg;cases hg
    have j1:=hK.get (own' ol nl) h1 (by simp)
    have j2:=hK.get (own' oy ny) h2 (by simp)
    have j3:=hK.get (own' op no) h3 (by simp)
    have j4:=hK.get (own' oc nc) h4 (by simp)
    by_cases hk:k<m
    · have hiw:i<w'.length:=by omega
      have loo:=lt_of_getH (h:=H') (o:=oo) (by rw [hg'];simp)
      have hkm:(k:Int)<m:=by omega
      have e1:IntKind.i64.wrap (r.lo+k)=r.lo+k:=wrapB (by omega) (by omega)
      have e2:IntKind.i64.wrap ((k:Int)+1)=((k+1:Nat):Int):=wrap_succ (n:=1000000) (by omega) (by decide)
      have e3:IntKind.i64.wrap ((i:Int)+1)=((i+1:Nat):Int):=wrap_succ (n:=1000000) (by omega) (by decide)
      have keep:∀o x v,o≠oo→getH H' o=v→getH (setH H' oo x) o=v:=fun o x v ho hv=>by rw [getH_setH,if_neg (fun h=>ho h.1),hv]
      have hw2:(w'.set i (r.lo+k)).length=rs.length:=by rw [List.length_set];exact hw'
      have ht2:(w'.set i (r.lo+k)).take i=w.take i:=by rw [List.take_set_of_le (Nat.le_refl _)];exact ht'
      have ht3:(w'.set i (r.lo+k)).take (i+1)=w.take i++[r.lo+k]:=by
        rw [take_getD (by omega) default,ht2];congr 2;rw [getD_lt _ _ _ (by omega)];simp
      have hH2:Keep (fun o=>o=oo) H' (setH H' oo (.arr false 0 1 ((w'.set i (r.lo+k)).map Row.row))):=⟨by rw [length_setH];exact Nat.le_refl _,fun o ho hl=>by rw [getH_setH,if_neg (fun h=>ho h.1)]⟩
      have hK2:Keep (fun o=>own o∨o=oo) H (setH H' oo (.arr false 0 1 ((w'.set i (r.lo+k)).map Row.row))):=hK.trans ⟨hH2.1,fun o ho hl=>hH2.2 o (fun h=>ho (.inr h)) hl⟩
      have hR2:=hR s' _ _ hR' hH2
      have hgp:getH (setH H' oo (.arr false 0 1 ((w'.set i (r.lo+k)).map Row.row))) oo = .arr false 0 1 ((w'.set i (r.lo+k)).map Row.row):=by rw [getH_setH,if_pos ⟨rfl,loo⟩]
      have j4':=fun x=>keep cb x _ nc j4
      have nl':¬oo=lb:=fun h=>nl h.symm
      have nc':¬oo=cb:=fun h=>nc h.symm
      have no':¬oo=ob:=fun h=>no h.symm
      simp only [go_sem,hkm,j1,j3,j4,j4',hg',i0,i1,hat,e1,e3,nth_row hiw,setNth_map,nl,nl',nc,nc',no,no']
      have hCk:FoldC C0 step s' (gg k):=by
        have e1:List.range m=List.range k++(k::(List.range m).drop (k+1)):=by
          have:=List.take_append_drop k (List.range m)
          rw [List.take_range,Nat.min_eq_left (by omega),List.drop_eq_getElem_cons (by simp;omega)] at this
          simpa using this.symm
        have hC':FoldC C0 step s ((List.range m).flatMap gg):=hC
        rw [e1,List.flatMap_append] at hC'
        have:=(FoldC_append hC').2 (by rw [hf])
        rw [hf] at this
        rw [List.flatMap_cons] at this
        exact (FoldC_append this).1
      refine (choose_ok hG hS hv hoo hR hF ol oy op oc rem (i+1) (w'.set i (r.lo+k)) s' _ (by rw [length_setH];have:=hK.1;omega) (by rw [ht3];exact hCk) (by omega) hw2 ?_ hR2 hgp (keep lb _ _ nl j1) (keep yb _ _ ny j2) (keep ob _ _ no j3) (j4' _)).mono ?_
      · rw [ht3]
        refine hin.snoc ?_
        rw [List.length_take,Nat.min_eq_left (by omega),←hr]
        omega
      rintro v H3 ⟨rfl,hk3,hr3⟩
      rw [ht3] at hr3 ⊢
      change ((foldY step s' (gg k)).2=true∧_)∨((foldY step s' (gg k)).2=false∧_) at hr3
      have hfk:∀b,foldY step s' (gg k)=b→foldY step s ((List.range (k+1)).flatMap gg)=b:=by
        intro b hb
        rw [List.range_succ,List.flatMap_append,foldY_append,hf]
        simp only [if_true,List.flatMap_cons,List.flatMap_nil,List.append_nil]
        exact hb
      rcases hr3 with ⟨hb,hr3,w3,hg3,hw3,ht4⟩ | ⟨hb,hr3⟩
      · have hb':(foldY step s' (listsF (rs.drop (i+1)) (w.take i++[r.lo+(k:Int)]))).2=true:=hb
        simp only [go_sem,hb',e2]
        refine ⟨(k+1,_,H3,w3),⟨by simp only;omega,hk,hK2.trans hk3,hr3,hg3,hw3,?_,?_⟩,rfl,rfl⟩
        · have:=congrArg (List.take i) ht4
          rw [List.take_take,Nat.min_eq_left (by omega),List.take_append_of_le_length (by simp;omega),List.take_take,Nat.min_self] at this
          exact this
        · rw [hfk _ rfl];exact Prod.ext rfl hb
      · have hb':(foldY step s' (listsF (rs.drop (i+1)) (w.take i++[r.lo+(k:Int)]))).2=false:=hb
        simp only [go_sem,hb']
        have hstop:foldY step s ((List.range m).flatMap gg)=((foldY step s' (gg k)).1,false):=by
          have e1:List.range m=List.range (k+1)++(List.range m).drop (k+1):=by
            have:=List.take_append_drop (k+1) (List.range m)
            rw [List.take_range,Nat.min_eq_left (by omega)] at this
            exact this.symm
          rw [e1,List.flatMap_append,foldY_append,hfk _ rfl,if_neg (by rw [hb];decide)]
        have hstop':foldY step s ((List.range m).flatMap fun (n:Nat)=>listsF (rs.drop (i+1)) (w.take i++[r.lo+(n:Int)]))=((foldY step s' (gg k)).1,false):=hstop
        rw [hstop']
        exact ⟨rfl,hK2.trans hk3,.inr ⟨rfl,hr3⟩⟩
    · have:k=m:=by omega
      subst this
      have hf':foldY step s ((List.range k).flatMap fun (n:Nat)=>listsF (rs.drop (i+1)) (w.take i++[r.lo+(n:Int)]))=(s',true):=hf
      have hkk:¬(k:Int)<k:=by omega
      simp only [go_sem,hkk,hf']
      exact ⟨hK,.inl ⟨hR',w',hg',hw',ht'⟩⟩
theorem lists1_ok {kL kC kS:Nat} (hL:G kL=some (tLists1 kC)) (hG:G kC=some (tChoose kS)) (hS:∀{lo hi:Int} {Q:V→Prop},CallP G kS [.agg [.int .i64 lo,.int .i64 hi]] Q↔Q (.c (.int .i64 (sizeI lo hi)))) {rs:List Rg} (hv:Rgs rs) {g:Bool × Bool}
    {lb:Nat} (hkn:known [F]=true) (ol:¬own lb) {s:σ} {H:List Obj} (hown:∀o,H.length≤o→o<H.length+4→¬own o) (hR:∀s H0 H',R s H0→Keep (fun o=>o=H.length+1) H0 H'→R s H') {C0:σ→List Int→Prop} (hF:LYield G rs (H.length+4) C0 own (H.length+1) F R RS step) (hC:FoldC C0 step s (listsF rs [])) (hRs:R s H) (hl:getH H lb = .cells [L g rs]) :
    Fn G (.f kL [.c F,.c (.ptr lb 0)] H) fun _ H'=>Keep own H H'∧(((foldY step s (listsF rs [])).2=true∧R (foldY step s (listsF rs [])).1 H')∨((foldY step s (listsF rs [])).2=false∧RS (foldY step s (listsF rs [])).1 H')):=by
  refine Fn_X (fn:=tLists1 kC) hL rfl ?_
  have hl2:∀X,getH (H++X) lb = .cells [L g rs]:=fun X=>getH_keep hl (by simp)
  have hlt:=lt_of_getH (h:=H) (o:=lb) (by rw [hl];simp)
  have q1:¬lb=H.length:=by omega
  have hb:(rs.length:Int)*8≤2^40:=by have:=hv.1;omega
  have h0:0≤(rs.length:Int):=by omega
  simp only [go_sem,tLists1,hkn,hl2,hb,h0]
  have hrep:List.replicate rs.length [D.int .i64 0]=(List.replicate rs.length (0:Int)).map Row.row:=by rw [List.map_replicate];rfl
  rw [hrep]
  have key:=choose_ok hG hS hv (g:=g) (hown _ (by omega) (by omega)) hR hF ol (hown H.length (Nat.le_refl _) (by omega)) (hown (H.length+2) (by omega) (by omega)) (hown (H.length+3) (by omega) (by omega)) rs.length 0 (List.replicate rs.length 0) s
    (H++[.cells [F],.arr false 0 1 ((List.replicate rs.length (0:Int)).map Row.row),.cells [.sl (H.length+1) 0 0 rs.length],.cells [.fn kC false [] [.ptr lb 0,.ptr H.length 0,.ptr (H.length+2) 0,.ptr (H.length+3) 0]]])
    (by simp) (by rw [List.drop_zero,List.take_zero];exact hC) (by omega) (by simp) (fun i hi=>by simp at hi) (hR _ _ _ hRs Keep.append) (by simp only [go_sem]) (hl2 _) (by simp only [go_sem]) (by simp only [go_sem]) (by simp only [go_sem])
  refine key.mono ?_
  rintro v H' ⟨rfl,hk,hr⟩
  simp only [go_sem]
  rw [List.drop_zero,List.take_zero] at hr
  refine ⟨⟨?_,fun o ho hl=>?_⟩,?_⟩
  · have:=hk.1;simp at this;omega
  · rw [hk.2 o (fun h=>h.elim ho (by omega)) (by simp;omega),getH_left hl]
  · rcases hr with ⟨a,b,_⟩ | h
    · exact .inl ⟨a,b⟩
    · exact .inr h
theorem lists_ok {k kL:Nat} (hG:G k=some (tLists kL)) {rs:List Rg} {g:Bool × Bool} {H:List Obj} {Q:V→List Obj→Prop}:Fn G (.f k [.c (L g rs)] H) Q↔Q (.c (.fn kL false [] [.ptr H.length 0])) (H++[.cells [L g rs]]):=by
  refine Fn_iff (Fn_X (fn:=tLists kL) hG rfl ?_)
  simp only [go_sem,tLists]
end
end Am
namespace Am
theorem getH_atL {A l:List Obj} {n i:Nat} (h:A.length=n):getH (A++l) (n+i)=getH l i:=by subst h;exact getH_at A l i
theorem getH_atL0 {A l:List Obj} {n:Nat} (h:A.length=n):getH (A++l) n=getH l 0:=by subst h;exact getH_at0 A l
theorem setH_atL {A l:List Obj} {n i:Nat} {x:Obj} (h:A.length=n):setH (A++l) (n+i) x=A++setH l i x:=by subst h;exact setH_at A l i x
theorem setH_atL0 {A l:List Obj} {n:Nat} {x:Obj} (h:A.length=n):setH (A++l) n x=A++setH l 0 x:=by subst h;exact setH_at0 A l x
theorem isHole_atL {A l:List Obj} {n i:Nat} (h:A.length=n):isHole (A++l) (n+i)=isHole l i:=by subst h;exact isHole_at A l i
theorem isHole_atL0 {A l:List Obj} {n:Nat} (h:A.length=n):isHole (A++l) n=isHole l 0:=by subst h;exact isHole_at0 A l
theorem RdI.arg2 {H:List Obj} {c:C} {l:List Int} (h:RdI H c l):∃g,∀H',RdI H' c l→toArgC H' c=some (L g l):=by
  cases h with
  | lst g=>exact ⟨g,fun _ _=>toArgC_L⟩
  | sl o ver fr off len w hg hb=>
    refine ⟨(false,true),fun H' h'=>?_⟩
    obtain ⟨g',e⟩:=h'.arg
    have e:=e []
    rw [List.append_nil] at e
    have e2:∃r,toArgC H' (.sl o ver off len)=some (.lst true r):=by
      rw [toArgC_sl] at e ⊢
      revert e
      split
      · split
        · cases part off len _ with
          | none=>intro e;cases e
          | some r=>intro _;exact ⟨r,rfl⟩
        · intro e;cases e
      · intro e;cases e
    obtain ⟨r,e2⟩:=e2
    rw [e2] at e ⊢
    injection e with e
    rcases L_cases g' (List.take len (List.drop off w)) with ⟨e3,_,_⟩ | e3
    · rw [e3] at e;cases e
    · rw [e3] at e
      injection e with _ e4
      rw [e4];rfl
theorem Keep.mono {own own':Nat→Prop} {H H':List Obj} (h:Keep own H H') (hm:∀o,own o→own' o):Keep own' H H':=⟨h.1,fun o ho hl=>h.2 o (fun h'=>ho (hm o h')) hl⟩
def yQ {σ:Type} (own:Nat→Prop) (H:List Obj) (R RS:σ→List Obj→Prop) (r:σ × Bool):V→List Obj→Prop:=fun v H'=>v = .c (.bool r.2)∧Keep own H H'∧((r.2=true∧R r.1 H')∨(r.2=false∧RS r.1 H'))
theorem yQ_true {σ:Type} {own:Nat→Prop} {H:List Obj} {R RS:σ→List Obj→Prop} {r:σ × Bool} {H':List Obj} (h:r.2=true) (k:Keep own H H') (hr:R r.1 H'):yQ own H R RS r (.c (.bool true)) H':=⟨by rw [h],k,.inl ⟨h,hr⟩⟩
theorem yQ_false {σ:Type} {own:Nat→Prop} {H:List Obj} {R RS:σ→List Obj→Prop} {r:σ × Bool} {H':List Obj} (h:r.2=false) (k:Keep own H H') (hr:RS r.1 H'):yQ own H R RS r (.c (.bool false)) H':=⟨by rw [h],k,.inr ⟨h,hr⟩⟩
theorem Keep.none_eq {H H':List Obj} (h:Keep (fun _=>False) H H'):∃X,H'=H++X:=by
  refine ⟨H'.drop H.length,?_⟩
  have hg:∀(l:List Obj) (o:Nat),o<l.length→getH l o=l.getD o .none:=by
    intro l
    induction l with
    | nil=>intro o ho;simp at ho
    | cons a l ih=>
      intro o ho
      cases o with
      | zero=>rfl
      | succ o=>simp only [getH,List.getD_cons_succ];exact ih o (by simpa using ho)
  apply List.ext_getElem
  · have:=h.1;simp;omega
  · intro i h1 h2
    by_cases hi:i<H.length
    · rw [List.getElem_append_left hi]
      have:=h.2 i (fun h=>h) hi
      rw [hg _ _ h1,hg _ _ hi] at this
      simpa [List.getD_eq_getElem?_getD,h1,hi] using this
    · rw [List.getElem_append_right (by omega)]
      simp only [List.getElem_drop]
      congr 1;omega
@[go_sem] theorem known_nilp {l:List C}:known (.nilp::l)=known l:=rfl
@[go_sem] theorem known_nilfn {l:List C}:known (.nilfn::l)=known l:=rfl
@[go_sem] theorem known_yld {o:Nat} {l:List C}:known (.yld o::l)=known l:=rfl
def sliceV (s:List V) (h:List Obj) (sz:Nat) (v:V) (lo hi:Option Opd):Option (V × Wr):=match v with
  | .c .nils=>match bound s 0 lo,bound s 0 hi with
    | some 0,some 0=>pureV .nils
    | _,_=>none
  | .c (.lst t rows)=>match bound s 0 lo,bound s rows.length hi with
    | some l,some u=>if l≤u∧u≤rows.length∧headLen sz rows then (part l (u-l) rows).map fun r=>(.c (.lst t r),[]) else none
    | _,_=>none
  | .c (.sl o ver off len)=>match bound s 0 lo,bound s len hi with
    | some l,some u=>match getH h o with
      | .arr _ _ sz' _=>if l≤u∧u≤len∧sz'=sz then pureV (.sl o ver (off+l) (u-l)) else none
      | _=>none
    | _,_=>none
  | _=>none
@[go_sem ↓ high] theorem opEv_slice {rid:Nat} {s:List V} {h:List Obj} {sz:Nat} {x:Opd} {lo hi:Option Opd}:opEv rid s h (.slice sz x lo hi)=sliceV s h sz (x.ev s) lo hi:=by
  simp only [opEv]
  generalize x.ev s=v
  match v with
  | .c c=>cases c<;>rfl
  | .agg _=>rfl
  | .tup _=>rfl
section
variable {s:List V} {h:List Obj} {sz:Nat} {lo hi:Option Opd}
@[go_sem] theorem sliceV_nils : sliceV s h sz (.c .nils) lo hi=(match bound s 0 lo,bound s 0 hi with | some 0,some 0=>pureV .nils | _,_=>none):=rfl
@[go_sem] theorem sliceV_lst {t:Bool} {rows:List (List D)}:sliceV s h sz (.c (.lst t rows)) lo hi=(match bound s 0 lo,bound s rows.length hi with | some l,some u=>if l≤u∧u≤rows.length∧headLen sz rows then (part l (u-l) rows).map fun r=>(.c (.lst t r),[]) else none | _,_=>none):=rfl
@[go_sem] theorem sliceV_sl {o ver off len:Nat}:sliceV s h sz (.c (.sl o ver off len)) lo hi=(match bound s 0 lo,bound s len hi with | some l,some u=>(match getH h o with | .arr _ _ sz' _=>if l≤u∧u≤len∧sz'=sz then pureV (.sl o ver (off+l) (u-l)) else none | _=>none) | _,_=>none):=rfl
@[go_sem] theorem sliceV_L {α:Type} [Row α] {t:Bool} {l:List α}:sliceV s h sz (.c (L (false,t) l)) lo hi=(match bound s 0 lo,bound s l.length hi with | some a,some u=>if a≤u∧u≤l.length∧headLen sz (l.map Row.row) then (part a (u-a) (l.map Row.row)).map fun r=>(.c (.lst t r),[]) else none | _,_=>none):=by
  show sliceV s h sz (.c (.lst t (l.map Row.row))) lo hi=_
  rw [sliceV_lst,List.length_map]
end
@[go_sem] theorem part_L {α:Type} [Row α] {l:List α} {k n:Nat} (h:k+n≤l.length):takeN n (dropN k (l.map (Row.row (α:=α))))=some (((l.drop k).take n).map Row.row):=by
  rw [dropN_eq,takeN_take (by simp;omega),List.map_take,List.map_drop]
@[go_sem] theorem eq_addk {n k:Nat}:(n=n+k)=(k=0):=by simp
@[go_sem] theorem addk_eq {n k:Nat}:(n+k=n)=(k=0):=by simp
attribute [go_sem] bound Nat.le_refl
end Am
namespace Am
open Go
set_option linter.unusedVariables false
set_option linter.unusedSimpArgs false
variable {G:Nat→Option AFunc}
@[go_sem] theorem obj_psl {o i n:Nat}:C.obj (.psl o i n)=[o]:=rfl
abbrev K0 : Nat→Prop:=fun _=>False
inductive Rd {α:Type} [Row α] (sz:Nat) (H:List Obj):C→List α→Prop where
  | lst (g:Bool × Bool) (l:List α) (hs:Row.sz α=sz):Rd sz H (L g l) l
  | sl (o ver:Nat) (fr:Bool) (w:List α) (hg:getH H o = .arr fr ver sz (w.map Row.row)):Rd sz H (.sl o ver 0 w.length) w
namespace Rd
variable {α:Type} [Row α] {sz:Nat} {H:List Obj} {c:C} {l:List α}
theorem len (h:Rd sz H c l):lenC c=some l.length:=by
  cases h with
  | lst g _ hs=>exact lenC_L
  | sl=>rfl
theorem kn (h:Rd sz H c l) (cs:List C):known (c::cs)=known cs:=by
  cases h with
  | lst g=>exact known_L
  | sl=>rfl
theorem keep (h:Rd sz H c l) {H':List Obj} (hk:Keep K0 H H'):Rd sz H' c l:=by
  cases h with
  | lst g _ hs=>exact .lst g _ hs
  | sl o ver fr w hg=>exact .sl o ver fr _ (hk.get id hg (by simp))
theorem el [Inhabited α] {sh:Option Nat} (E:Elem α sz sh) (h:Rd sz H c l) {i:Nat} (hi:i<l.length):∃a t,elemC H sz c (i:Int)=some a∧loadC H (num sh) a=some (E.val t (l.getD i default)).cells:=by
  cases h with
  | lst g _ hs=>exact ⟨_,g.2,elemC_L (by omega) (by omega) hs,by rw [atI_nat];exact E.load _ _ _⟩
  | sl o ver fr w hg=>
    refine ⟨.aptr o ver i 0,false,?_,?_⟩
    · have h0:(0:Int)≤i∧(i:Int)<(l.length:Nat):=by omega
      rw [elemC_sl,if_pos h0,hg]
      simp
    · have hn:nth (l.map (Row.row (α:=α))) i=some (Row.row (l.getD i default)):=by
        rw [nth_get];simp [hi]
      have:=E.load H (l.getD i default) false
      simp only [loadC,hg,if_true,hn,Option.bind_some] at this ⊢
      exact this
theorem arg (h:Rd sz H c l):∃g,toArgC H c=some (L g l):=by
  cases h with
  | lst g=>exact ⟨g,toArgC_L⟩
  | sl o ver fr w hg=>
    refine ⟨(false,true),?_⟩
    rw [toArgC_sl,hg]
    simp only [if_true,part_map (l:=l) rfl,Option.map_some]
    rfl
end Rd
end Am
