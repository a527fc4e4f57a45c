/-
  A part of the proof: the texts V1, V2, V3, V4, VA, VB, VC of this seat, joined.
-/
import Derived.Test.YtnknceencnjnkaaGreatAmK
import Derived.Test.YtnknceencnjnkaaGreatTab
import Derived.Test.YtnknceencnjnkaaGreatAmI
namespace Am.Vt
open Go Am
set_option maxRecDepth 100000
set_option maxHeartbeats 1000000
set_option linter.unusedSimpArgs false
set_option linter.unusedVariables false
structure Lk where
  day:Int
  bal:Bool
  n:Rg
  deriving Inhabited,DecidableEq
structure Fd where
  lime:Int
  bran:Int
  madder:Int
  deriving Inhabited,DecidableEq
structure Vat where
  last:Int
  band:Int
  start:Rg
  blue:Rg
  gain:Int
  take:Int
  drift:List Rg
  feeds:List Fd
  dips:List Int
  looks:List Lk
  deriving Inhabited,DecidableEq
structure Truth where
  start:Int
  blue:Int
  drift:List Int
  deriving Inhabited,DecidableEq
structure St where
  bal:Int
  blue:Int
  deriving Inhabited,DecidableEq
structure Bound where
  bal:Rg
  blue:Rg
  deriving Inhabited,DecidableEq
instance : Row Lk:=⟨4,fun s=>[.int .i64 s.day,.bool s.bal,.int .i64 s.n.lo,.int .i64 s.n.hi],fun _=>rfl⟩
instance : Row Fd:=⟨3,fun s=>[.int .i64 s.lime,.int .i64 s.bran,.int .i64 s.madder],fun _=>rfl⟩
instance : Row St:=⟨2,fun s=>[.int .i64 s.bal,.int .i64 s.blue],fun _=>rfl⟩
instance : Row Bound:=⟨4,fun s=>[.int .i64 s.bal.lo,.int .i64 s.bal.hi,.int .i64 s.blue.lo,.int .i64 s.blue.hi],fun _=>rfl⟩
instance : Row Truth:=⟨3,fun t=>[.int .i64 t.start,.int .i64 t.blue,.lst (t.drift.map Row.row)],fun _=>rfl⟩
@[go_sem] theorem sz_lk : Row.sz Lk=4:=rfl
@[go_sem] theorem sz_fd : Row.sz Fd=3:=rfl
@[go_sem] theorem sz_st : Row.sz St=2:=rfl
@[go_sem] theorem sz_bound : Row.sz Bound=4:=rfl
@[go_sem] theorem sz_truth : Row.sz Truth=3:=rfl
@[go_sem] theorem row_lk {s:Lk}:Row.row s=[.int .i64 s.day,.bool s.bal,.int .i64 s.n.lo,.int .i64 s.n.hi]:=rfl
@[go_sem] theorem row_fd {s:Fd}:Row.row s=[.int .i64 s.lime,.int .i64 s.bran,.int .i64 s.madder]:=rfl
@[go_sem] theorem row_st {s:St}:Row.row s=[.int .i64 s.bal,.int .i64 s.blue]:=rfl
@[go_sem] theorem row_bound {s:Bound}:Row.row s=[.int .i64 s.bal.lo,.int .i64 s.bal.hi,.int .i64 s.blue.lo,.int .i64 s.blue.hi]:=rfl
@[go_sem] theorem row_truth {t:Truth}:Row.row t=[.int .i64 t.start,.int .i64 t.blue,.lst (t.drift.map Row.row)]:=rfl
instance : Scal Lk:=⟨fun _=>rfl⟩
instance : Scal Fd:=⟨fun _=>rfl⟩
instance : Scal St:=⟨fun _=>rfl⟩
instance : Scal Bound:=⟨fun _=>rfl⟩
abbrev rgV (s:Rg):V:=.agg [.int .i64 s.lo,.int .i64 s.hi]
abbrev lkV (s:Lk):V:=.agg [.int .i64 s.day,.bool s.bal,.int .i64 s.n.lo,.int .i64 s.n.hi]
abbrev fdV (s:Fd):V:=.agg [.int .i64 s.lime,.int .i64 s.bran,.int .i64 s.madder]
def elemRg : Elem Rg 2 (some 2):=⟨fun _ s=>rgV s,rfl,fun _ _ _=>rfl,fun _ _=>rfl⟩
def elemLk : Elem Lk 4 (some 4):=⟨fun _ s=>lkV s,rfl,fun _ _ _=>rfl,fun _ _=>rfl⟩
def elemFd : Elem Fd 3 (some 3):=⟨fun _ s=>fdV s,rfl,fun _ _ _=>rfl,fun _ _=>rfl⟩
def inR (n low high:Int):Bool:=decide (low≤n)&&decide (n≤high)
theorem inR_iff {n low high:Int}:inR n low high=true↔low≤n∧n≤high:=by simp [inR]
theorem rIn {n low high:Int} {Q:V→Prop}:CallP tab 27 [.c (.int .i64 n),.c (.int .i64 low),.c (.int .i64 high)] Q↔Q (.c (.bool (inR n low high))):=CallP_of (by
  refine Val_X (fn:=f27) rfl ?_
  simp only [go_sem,f27,ge_iff_le]
  constructor<;>intro h<;>simp [h,inR])
theorem cwithin {n low high:Int} {Q:V→Prop}:CallP tab 86 [.c (.int .i64 n),.c (.int .i64 low),.c (.int .i64 high)] Q↔Q (.c (.bool (inR n low high))):=CallP_of (by
  refine Val_X (fn:=f86) rfl ?_
  simp only [go_sem,f86,ge_iff_le]
  constructor<;>intro h<;>simp [h,inR])
def rgOf (lo hi low high:Int):Bool:=decide (low≤lo)&&(decide (lo≤hi)&&decide (hi≤high))
theorem cof {lo hi low high:Int} {Q:V→Prop}:CallP tab 106 [.agg [.int .i64 lo,.int .i64 hi],.c (.int .i64 low),.c (.int .i64 high)] Q↔Q (.c (.bool (rgOf lo hi low high))):=CallP_of (by
  refine Val_X (fn:=f106) rfl ?_
  simp only [go_sem,f106]
  refine ⟨fun h=>⟨fun h'=>?_,fun h'=>?_⟩,fun h=>?_⟩<;>simp [rgOf, *])
theorem chas {lo hi n:Int} {Q:V→Prop}:CallP tab 83 [.agg [.int .i64 lo,.int .i64 hi],.c (.int .i64 n)] Q↔Q (.c (.bool (inR n lo hi))):=CallP_of (by
  refine Val_X (fn:=f83) rfl ?_
  simp only [go_sem,f83,cwithin])
theorem csize {lo hi:Int} {Q:V→Prop}:CallP tab 82 [.agg [.int .i64 lo,.int .i64 hi]] Q↔Q (.c (.int .i64 (sizeI lo hi))):=CallP_of (by
  refine Val_X (fn:=f82) rfl ?_
  simp only [go_sem,f82,sizeI])
theorem rSize {lo hi:Int} {Q:V→Prop}:CallP tab 39 [.agg [.int .i64 lo,.int .i64 hi]] Q↔Q (.c (.int .i64 (sizeI lo hi))):=CallP_of (by
  refine Val_X (fn:=f39) rfl ?_
  simp only [go_sem,f39,sizeI])
theorem Fdrift {lo hi:Int} {h:List Obj} (hu:underH h.length h=true) {Q:V→List Obj→Prop}:Fn tab (.f 75 [.agg [.int .i64 lo,.int .i64 hi]] h) Q↔Q (.c (.bool (rgOf lo hi (-9) 9))) h:=Fn_iff (by
  refine Fn_XD (fn:=f75) rfl rfl ?_
  simp only [go_sem,f75,cof,hu])
theorem cminimum {g:Bool × Bool} {l:List Int} (h0:0<l.length) (hl:l.length<Big) {Q:V→Prop}:CallP tab 81 [.c (L g l)] Q↔Q (.c (.int .i64 (minL l))):=CallP_of (by
  refine Val_X (fn:=f81) rfl ?_
  simp only [go_sem,f81,CallP_of (Min_ok (G:=tab) (k:=105) rfl (g:=g) h0 hl)])
theorem cmin2 {t:Bool} {a b:Int} {Q:V→Prop}:CallP tab 81 [.c (.lst t [[.int .i64 a],[.int .i64 b]])] Q↔Q (.c (.int .i64 (min a b))):=by
  have:=cminimum (g:=(false,t)) (l:=[a,b]) (show 0<2 by decide) (show 2<Big by decide) (Q:=Q)
  exact this
theorem cwider {lo hi n:Int} {Q:V→Prop}:CallP tab 92 [.agg [.int .i64 lo,.int .i64 hi],.c (.int .i64 n)] Q↔Q (.agg [.int .i64 (min lo n),.int .i64 (max hi n)]):=CallP_of (by
  refine Val_X (fn:=f92) rfl ?_
  simp only [go_sem,f92,cmin2])
theorem rWithin {lo hi low high:Int} {Q:V→Prop}:CallP tab 28 [.agg [.int .i64 lo,.int .i64 hi],.c (.int .i64 low),.c (.int .i64 high)] Q↔Q (.c (.bool (rgOf lo hi low high))):=CallP_of (by
  refine Val_X (fn:=f28) rfl ?_
  simp only [go_sem,f28,ge_iff_le]
  refine ⟨fun h=>⟨fun h'=>?_,fun h'=>?_⟩,fun h=>?_⟩<;>simp [rgOf, *])
theorem lto {lo hi:Int} {Q:V→Prop}:CallP tab 44 [.agg [.int .i64 lo,.int .i64 hi]] Q↔Q (.agg [.int .i64 lo,.int .i64 hi]):=CallP_of (by
  refine Val_X (fn:=f44) rfl ?_
  simp only [go_sem,f44])
theorem llist {g:Bool × Bool} {a:List Int} (ha:a.length≤1000) {Q:V→Prop}:CallP tab 45 [.c (L g a)] Q↔Q (.c (L (false,false) a)):=CallP_of (by
  have hb:a.length*8≤2^40:=by omega
  refine Val_X (fn:=f45) rfl ?_
  simp only [go_sem,f45,hb])
end Am.Vt
namespace Am.Vt
open Go Am
set_option maxRecDepth 100000
set_option maxHeartbeats 2000000
set_option linter.unusedSimpArgs false
set_option linter.unusedVariables false
variable {g1 g2 g3 g4:Bool × Bool} {v:Vat}
abbrev vatC (g1 g2 g3 g4:Bool × Bool) (v:Vat):List C:=[.int .i64 v.last,.int .i64 v.band,.int .i64 v.start.lo,.int .i64 v.start.hi,.int .i64 v.blue.lo,.int .i64 v.blue.hi,.int .i64 v.gain,.int .i64 v.take,L g1 v.drift,L g2 v.feeds,L g3 v.dips,L g4 v.looks]
abbrev vatV (g1 g2 g3 g4:Bool × Bool) (v:Vat):V:=.agg [.int .i64 v.last,.int .i64 v.band,.int .i64 v.start.lo,.int .i64 v.start.hi,.int .i64 v.blue.lo,.int .i64 v.blue.hi,.int .i64 v.gain,.int .i64 v.take,L g1 v.drift,L g2 v.feeds,L g3 v.dips,L g4 v.looks]
attribute [go_sem] vatC vatV
theorem cday {n:Int} {Q:V→Prop}:CallP tab 46 [vatV g1 g2 g3 g4 v,.c (.int .i64 n)] Q↔Q (.c (.bool (inR n 0 v.last))):=CallP_of (by
  refine Val_X (fn:=f46) rfl ?_
  simp only [go_sem,f46,cwithin])
theorem cdays {Q:V→Prop}:CallP tab 50 [vatV g1 g2 g3 g4 v] Q↔Q (.c (.int .i64 (IntKind.i64.wrap (v.last+1)))):=CallP_of (by
  refine Val_X (fn:=f50) rfl ?_
  simp only [go_sem,f50])
theorem cfed {n:Int} {Q:V→Prop}:CallP tab 111 [.c (.int .i64 n)] Q↔Q (.c (.bool (inR n 0 9))):=CallP_of (by
  refine Val_X (fn:=f111) rfl ?_
  simp only [go_sem,f111,cwithin])
theorem cdips {n:Int} {Q:V→Prop}:CallP tab 47 [.c (.int .i64 n)] Q↔Q (.c (.bool (inR n 0 20))):=CallP_of (by
  refine Val_X (fn:=f47) rfl ?_
  simp only [go_sem,f47,cwithin])
theorem Fdips {n:Int} {h:List Obj} {Q:V→List Obj→Prop}:Fn tab (.f 47 [.c (.int .i64 n)] h) Q↔Q (.c (.bool (inR n 0 20))) h:=Fn_iff (by
  refine Fn_X (fn:=f47) rfl rfl ?_
  simp only [go_sem,f47,cwithin])
def feedOk (s:Fd):Bool:=inR s.lime 0 9&&(inR s.bran 0 9&&inR s.madder 0 9)
theorem Ffeed {a b c:Int} {h:List Obj} (hu:underH h.length h=true) {Q:V→List Obj→Prop}:Fn tab (.f 77 [.agg [.int .i64 a,.int .i64 b,.int .i64 c]] h) Q↔Q (.c (.bool (feedOk ⟨a,b,c⟩))) h:=Fn_iff (by
  refine Fn_XD (fn:=f77) rfl rfl ?_
  simp only [go_sem,f77,cfed,hu,feedOk]
  cases inR a 0 9<;>cases inR b 0 9<;>cases inR c 0 9<;>simp)
def lookOk (last:Int) (k:Lk):Bool:=inR k.day 0 last&&rgOf k.n.lo k.n.hi (-5000) 5000
theorem All_grow {α:Type} [Row α] [Inhabited α] {sz:Nat} {sh:Option Nat} {G:Nat→Option AFunc} (E:Elem α sz sh) {k kN kC kI:Nat} (hG:G k=some (tAll kN kC)) (hC:G kC=some (tContainsFunc kI)) (hI:G kI=some (tIndexFunc sz sh))
    {g:Bool × Bool} {l:List α} (hl:l.length<Big) {f:Nat} {a:Bool} {x y:List C} {h:List Obj} (p:α→Bool) (gr:α→List Obj)
    (hF:∀z,z∈l→∀X,CallV G (.c (.fn kN false [] [.ptr h.length 0])) [E.val g.2 z] (h++(.cells [.fn f a x y]::X)) fun v h1=>v = .c (.bool (!p z))∧h1=h++(.cells [.fn f a x y]::(X++gr z))) :
    Fn G (.f k [.c (L g l),.c (.fn f a x y)] h) fun r H'=>∃X,r = .c (.bool (l.all p))∧H'=h++(.cells [.fn f a x y]::X):=by
  refine Fn_X (fn:=tAll kN kC) hG rfl ?_
  simp only [go_sem,tAll]
  refine (ContainsFunc_ok E hC hI hl (fun i=>h++(.cells [.fn f a x y]::(l.take i).flatMap gr)) (fun i=>!p (l.getD i default)) (F:=.c (.fn kN false [] [.ptr h.length 0])) ?_).mono ?_
  · intro i hi _
    have:=hF _ (by rw [getD_lt _ _ _ hi];exact List.getElem_mem hi:l.getD i default∈l) ((l.take i).flatMap gr)
    simp only [take_getD hi default,List.flatMap_append,List.flatMap_cons,List.flatMap_nil,List.append_nil]
    exact this
  · rintro v h' (⟨i,hi,hp,hb,rfl,rfl⟩ | ⟨hb,rfl,rfl⟩)
    · simp only [go_sem]
      refine ⟨_,?_,rfl⟩
      symm
      rw [List.all_eq_false]
      exact ⟨l.getD i default,by rw [getD_lt _ _ _ hi];exact List.getElem_mem hi,by simpa using hp⟩
    · simp only [go_sem]
      refine ⟨_,?_,rfl⟩
      symm
      rw [List.all_eq_true]
      intro z hz
      obtain ⟨i,hi,rfl⟩:=List.getElem_of_mem hz
      have:=hb i hi
      rw [getD_lt _ _ _ hi] at this
      simpa using this
theorem Flook {a c d:Int} {b:Bool} {h:List Obj} {Q:V→List Obj→Prop}:Fn tab (.f 72 [vatV g1 g2 g3 g4 v,.agg [.int .i64 a,.bool b,.int .i64 c,.int .i64 d]] h) Q↔Q (.c (.bool (lookOk v.last ⟨a,b,⟨c,d⟩⟩))) (h++[.cells (vatC g1 g2 g3 g4 v),.cells [.int .i64 a,.bool b,.int .i64 c,.int .i64 d]]):=Fn_iff (by
  refine Fn_X (fn:=f72) rfl rfl ?_
  simp only [go_sem,f72,cday,cof,lookOk]
  cases inR a 0 v.last<;>simp)
def numbersOk (v:Vat):Bool:=decide (0≤v.last)&&(inR v.band 0 20&&(rgOf v.start.lo v.start.hi (-50) 50&&(rgOf v.blue.lo v.blue.hi 0 999&&(inR v.gain 0 50&&inR v.take 0 50))))
theorem cnumbers {Q:V→Prop}:CallP tab 73 [vatV g1 g2 g3 g4 v] Q↔Q (.c (.bool (numbersOk v))):=CallP_of (by
  refine Val_X (fn:=f73) rfl ?_
  by_cases h0:0≤v.last<;>cases h1:inR v.band 0 20<;>cases h2:rgOf v.start.lo v.start.hi (-50) 50<;>cases h3:rgOf v.blue.lo v.blue.hi 0 999<;>cases h4:inR v.gain 0 50<;>simp only [go_sem,f73,cwithin,cof,ge_iff_le,numbersOk,h0,h1,h2,h3,h4])
theorem Fdrifts {g:Bool × Bool} {l:List Rg} (hs:l.length<Big) {h:List Obj} (hu:underH h.length h=true) {Q:V→List Obj→Prop}:Fn tab (.f 74 [.c (L g l),.c (.fn 75 false [] [])] h) Q↔Q (.c (.bool (l.all fun r=>rgOf r.lo r.hi (-9) 9))) (h++[.cells [.fn 75 false [] []]]):=by
  refine All_pureS elemRg (fun _ z=>⟨_,rfl,rfl,rfl,fun _=>rfl⟩) (kN:=108) (kC:=107) (kI:=129) rfl rfl rfl rfl hs hu (by simp only [go_sem]) (fun r=>rgOf r.lo r.hi (-9) 9) ?_
  intro z hz h' hu'
  simp only [go_sem,elemRg]
  rw [Fdrift hu']
  exact ⟨rfl,rfl⟩
theorem Ffeeds {g:Bool × Bool} {l:List Fd} (hs:l.length<Big) {h:List Obj} (hu:underH h.length h=true) {Q:V→List Obj→Prop}:Fn tab (.f 76 [.c (L g l),.c (.fn 77 false [] [])] h) Q↔Q (.c (.bool (l.all feedOk))) (h++[.cells [.fn 77 false [] []]]):=by
  refine All_pureS elemFd (fun _ z=>⟨_,rfl,rfl,rfl,fun _=>rfl⟩) (kN:=110) (kC:=109) (kI:=130) rfl rfl rfl rfl hs hu (by simp only [go_sem]) feedOk ?_
  intro z hz h' hu'
  simp only [go_sem,elemFd]
  rw [Ffeed hu']
  exact ⟨rfl,rfl⟩
theorem Fdipss {g:Bool × Bool} {l:List Int} (hs:l.length<Big) {h:List Obj} (hu:underH h.length h=true) {Q:V→List Obj→Prop}:Fn tab (.f 78 [.c (L g l),.c (.fn 47 false [] [])] h) Q↔Q (.c (.bool (l.all fun n=>inR n 0 20))) (h++[.cells [.fn 47 false [] []]]):=by
  refine All_pure elemInt (kN:=113) (kC:=112) (kI:=131) rfl rfl rfl rfl hs hu (by simp only [go_sem]) (fun n=>inR n 0 20) ?_
  intro z hz h' hu'
  simp only [go_sem,elemInt]
  rw [Fdips]
  exact ⟨rfl,rfl⟩
theorem Flooks (hs:v.looks.length<Big) {h:List Obj}:Fn tab (.f 79 [.c (L g4 v.looks),.c (.fn 72 true (vatC g1 g2 g3 g4 v) [])] h) fun r H'=>∃X,r = .c (.bool (v.looks.all (lookOk v.last)))∧H'=h++(.cells [.fn 72 true (vatC g1 g2 g3 g4 v) []]::X):=by
  refine All_grow elemLk (kN:=115) (kC:=114) (kI:=132) rfl rfl rfl hs (lookOk v.last) (fun z=>[.cells [.int .i64 z.day,.bool z.bal,.int .i64 z.n.lo,.int .i64 z.n.hi],.cells (vatC g1 g2 g3 g4 v),.cells [.int .i64 z.day,.bool z.bal,.int .i64 z.n.lo,.int .i64 z.n.hi]]) ?_
  intro z hz X
  rw [CallV_fn]
  refine Fn_X (fn:=f115) rfl rfl ?_
  simp only [go_sem,f115,elemLk,Flook]
def rangesL (v:Vat):List Rg:=v.start::v.blue::v.drift
theorem cranges (h1:v.drift.length≤1000) {Q:V→Prop}:CallP tab 80 [vatV g1 g2 g3 g4 v] Q↔Q (.c (L (false,false) (rangesL v))):=CallP_of (by
  refine Val_X (fn:=f80) rfl ?_
  have e1:(2+v.drift.length)*16≤2^40:=by omega
  have hl:(rangesL v).length=2+v.drift.length:=by simp [rangesL];omega
  have e3:=takeN_take (n:=2+v.drift.length) (l:=(rangesL v).map (Row.row (α:=Rg))) (by rw [List.length_map];omega)
  rw [List.take_of_length_le (by rw [List.length_map];omega)] at e3
  have e4:(rangesL v).map (Row.row (α:=Rg))=[D.int IntKind.i64 v.start.lo,D.int IntKind.i64 v.start.hi]::[D.int IntKind.i64 v.blue.lo,D.int IntKind.i64 v.blue.hi]::v.drift.map Row.row:=rfl
  rw [e4] at e3
  simp only [go_sem,f80,e1,e3]
  rw [←e4]
  rfl)
end Am.Vt
namespace Am.Vt
open Go Am
set_option maxRecDepth 100000
set_option maxHeartbeats 4000000
set_option linter.unusedSimpArgs false
set_option linter.unusedVariables false
variable {g1 g2 g3 g4:Bool × Bool} {v:Vat}
theorem big_of {n:Nat} (h:n≤1000):n<Big:=Nat.lt_of_le_of_lt h (by decide)
structure Vat.Fits (v:Vat):Prop where
  drift:v.drift.length≤1000
  feeds:v.feeds.length≤1000
  dips:v.dips.length≤1000
  looks:v.looks.length≤1000
def manyL (rs:List Rg):Int:=rs.foldl (fun m r=>min (IntKind.i64.wrap (m*sizeI r.lo r.hi)) 2001) 1
def checkVat (v:Vat):Int:=
  if v.last>7 then 3 else if (v.looks.length:Int)>5 then 3
  else if numbersOk v=false then 1
  else if ¬(v.drift.length:Int)=IntKind.i64.wrap (v.last+1) then 1 else if ¬(v.feeds.length:Int)=IntKind.i64.wrap (v.last+1) then 1
  else if ¬(v.dips.length:Int)=IntKind.i64.wrap (v.last+1) then 1
  else if v.drift.all (fun r=>rgOf r.lo r.hi (-9) 9)=false then 1 else if v.feeds.all feedOk=false then 1
  else if v.dips.all (fun n=>inR n 0 20)=false then 1 else if v.looks.all (lookOk v.last)=false then 1
  else if manyL (rangesL v)>2000 then 3 else 0
theorem cCheckVat (hf:v.Fits) {Q:V→Prop}:CallP tab 40 [vatV g1 g2 g3 g4 v] Q↔Q (.c (.int .i64 (checkVat v))):=CallP_of (by
  have b1:=big_of hf.drift
  have b2:=big_of hf.feeds
  have b3:=big_of hf.dips
  have b4:=big_of hf.looks
  refine Val_X (fn:=f40) rfl ?_
  by_cases a1:v.last>7
  · simp only [go_sem,f40,a1,checkVat]
  by_cases a2:(v.looks.length:Int)>5
  · simp only [go_sem,f40,a1,a2,checkVat]
  cases a4:numbersOk v with
  | false=>simp only [go_sem,f40,a1,a2,cnumbers,a4,checkVat]
  | true=>
  by_cases a5:¬(v.drift.length:Int)=IntKind.i64.wrap (v.last+1)
  · simp only [go_sem,f40,a1,a2,cnumbers,cdays,a4,a5,checkVat]
  have a5:=Decidable.not_not.1 a5
  by_cases a6:¬(v.feeds.length:Int)=IntKind.i64.wrap (v.last+1)
  · simp only [go_sem,f40,a1,a2,cnumbers,cdays,a4,a5,a6,checkVat]
  have a6:=Decidable.not_not.1 a6
  by_cases a7:¬(v.dips.length:Int)=IntKind.i64.wrap (v.last+1)
  · simp only [go_sem,f40,a1,a2,cnumbers,cdays,a4,a5,a6,a7,checkVat]
  have a7:=Decidable.not_not.1 a7
  cases a8:v.drift.all (fun r=>rgOf r.lo r.hi (-9) 9) with
  | false=>simp only [go_sem,f40,a1,a2,cnumbers,cdays,Fdrifts b1,a4,a5,a6,a7,a8,checkVat]
  | true=>
  cases a9:v.feeds.all feedOk with
  | false=>simp only [go_sem,f40,a1,a2,cnumbers,cdays,Fdrifts b1,Ffeeds b2,a4,a5,a6,a7,a8,a9,checkVat]
  | true=>
  cases a10:v.dips.all (fun n=>inR n 0 20) with
  | false=>simp only [go_sem,f40,a1,a2,cnumbers,cdays,Fdrifts b1,Ffeeds b2,Fdipss b3,a4,a5,a6,a7,a8,a9,a10,checkVat]
  | true=>
  have kl:=fun {h:List Obj}=>Flooks (g1:=g1) (g2:=g2) (g3:=g3) (g4:=g4) (v:=v) b4 (h:=h)
  simp only [go_sem,f40,a1,a2,cnumbers,cdays,Fdrifts b1,Ffeeds b2,Fdipss b3,a4,a5,a6,a7,a8,a9,a10]
  refine kl.mono ?_
  rintro r H' ⟨X,rfl,rfl⟩
  cases a11:v.looks.all (lookOk v.last) with
  | false=>simp only [go_sem,checkVat,a1,a2,a4,a5,a6,a7,a8,a9,a10,a11]
  | true=>
  have hr:checkVat v=if manyL (rangesL v)>2000 then 3 else 0:=by
    simp only [checkVat,a1,a2,a4,a5,a6,a7,a8,a9,a10,a11,if_false,not_true_eq_false,Bool.true_eq_false]
  rw [hr]
  have hrl:(rangesL v).length≤2000:=by
    have h1:=hf.drift
    simp [rangesL];omega
  simp only [go_sem,cranges hf.drift]
  unfold manyL
  generalize rangesL v=rs at *
  refine RX_whileU (α:=Nat × List Obj) (fun x=>[(4,.c (.int .i64 ((rs.take x.1).foldl (fun m r=>min (IntKind.i64.wrap (m*sizeI r.lo r.hi)) 2001) 1))),(75,.c (.int .i64 x.1))]) (fun x=>.cells (vatC g1 g2 g3 g4 v)::x.2) (fun x=>x.1≤rs.length) (fun x=>rs.length-x.1) (0,_) (Nat.zero_le _) (by simp only [go_sem]<;>exact ⟨rfl,rfl⟩) ?_
  rintro ⟨k,Y⟩ hk
  simp only at hk
  by_cases hlt:k<rs.length
  · have e4:IntKind.i64.wrap ((k:Int)+1)=((k+1:Nat):Int):=wrap_succ (n:=3000) (by omega) (by decide)
    simp only [go_sem,hlt,atI_nat,csize,cmin2,e4]
    exact ⟨(k+1,_),⟨by simp only;omega,by simp only;omega⟩,⟨by simp only [take_getD hlt default,List.foldl_append,List.foldl_cons,List.foldl_nil],rfl⟩,rfl⟩
  · have:k=rs.length:=by omega
    subst this
    simp only [go_sem,hlt,List.take_length]
    exact ⟨fun h=>by rw [if_pos h],fun h=>by rw [if_neg h]⟩)
end Am.Vt
namespace Am.Vt
open Go Am
set_option maxRecDepth 100000
set_option maxHeartbeats 4000000
set_option linter.unusedSimpArgs false
set_option linter.unusedVariables false
variable {g1 g2 g3 g4:Bool × Bool} {v:Vat}
structure Vat.Valid (v:Vat):Prop where
  last0:0≤v.last
  last7:v.last≤7
  looks5:v.looks.length≤5
  band:0≤v.band∧v.band≤20
  start : -50≤v.start.lo∧v.start.lo≤v.start.hi∧v.start.hi≤50
  blue:0≤v.blue.lo∧v.blue.lo≤v.blue.hi∧v.blue.hi≤999
  gain:0≤v.gain∧v.gain≤50
  take:0≤v.take∧v.take≤50
  drift:(v.drift.length:Int)=v.last+1
  feeds:(v.feeds.length:Int)=v.last+1
  dips:(v.dips.length:Int)=v.last+1
  driftO:∀r∈v.drift,-9≤r.lo∧r.lo≤r.hi∧r.hi≤9
  feedO:∀s∈v.feeds,(0≤s.lime∧s.lime≤9)∧(0≤s.bran∧s.bran≤9)∧(0≤s.madder∧s.madder≤9)
  dipO:∀n∈v.dips,0≤n∧n≤20
  looks:∀k∈v.looks,(0≤k.day∧k.day≤v.last) ∧ -5000≤k.n.lo∧k.n.lo≤k.n.hi∧k.n.hi≤5000
  many:manyL (rangesL v)≤2000
theorem valid_of (h:checkVat v=0):v.Valid:=by
  by_cases a1:v.last>7
  · simp only [checkVat,a1,if_true] at h;cases h
  by_cases a3:(v.looks.length:Int)>5
  · simp only [checkVat,a1,a3,if_true,if_false] at h;cases h
  by_cases a4:numbersOk v=false
  · simp only [checkVat,a1,a3,a4,if_true,if_false] at h;cases h
  by_cases a5:¬(v.drift.length:Int)=IntKind.i64.wrap (v.last+1)
  · rw [checkVat,if_neg a1,if_neg a3,if_neg a4,if_pos a5] at h;cases h
  by_cases a6:¬(v.feeds.length:Int)=IntKind.i64.wrap (v.last+1)
  · rw [checkVat,if_neg a1,if_neg a3,if_neg a4,if_neg a5,if_pos a6] at h;cases h
  by_cases a7:¬(v.dips.length:Int)=IntKind.i64.wrap (v.last+1)
  · rw [checkVat,if_neg a1,if_neg a3,if_neg a4,if_neg a5,if_neg a6,if_pos a7] at h;cases h
  by_cases a8:v.drift.all (fun r=>rgOf r.lo r.hi (-9) 9)=false
  · rw [checkVat,if_neg a1,if_neg a3,if_neg a4,if_neg a5,if_neg a6,if_neg a7,if_pos a8] at h;cases h
  by_cases a9:v.feeds.all feedOk=false
  · rw [checkVat,if_neg a1,if_neg a3,if_neg a4,if_neg a5,if_neg a6,if_neg a7,if_neg a8,if_pos a9] at h;cases h
  by_cases a10:v.dips.all (fun n=>inR n 0 20)=false
  · rw [checkVat,if_neg a1,if_neg a3,if_neg a4,if_neg a5,if_neg a6,if_neg a7,if_neg a8,if_neg a9,if_pos a10] at h;cases h
  by_cases a11:v.looks.all (lookOk v.last)=false
  · rw [checkVat,if_neg a1,if_neg a3,if_neg a4,if_neg a5,if_neg a6,if_neg a7,if_neg a8,if_neg a9,if_neg a10,if_pos a11] at h;cases h
  by_cases a12:manyL (rangesL v)>2000
  · rw [checkVat,if_neg a1,if_neg a3,if_neg a4,if_neg a5,if_neg a6,if_neg a7,if_neg a8,if_neg a9,if_neg a10,if_neg a11,if_pos a12] at h;cases h
  clear h
  simp only [numbersOk,Bool.not_eq_false,Bool.and_eq_true,decide_eq_true_eq,inR_iff,rgOf] at a4
  simp only [Bool.not_eq_false,List.all_eq_true,rgOf,lookOk,feedOk,Bool.and_eq_true,decide_eq_true_eq,inR_iff] at a8 a9 a10 a11
  obtain ⟨b0,b1,b2,b3,b4,b5⟩:=a4
  have hw:IntKind.i64.wrap (v.last+1)=v.last+1:=wrapB (by omega) (by omega)
  rw [hw] at a5 a6 a7
  exact ⟨b0,by omega,by omega,b1,b2,b3,b4,b5,by omega,by omega,by omega,a8,a9,a10,a11,by omega⟩
theorem Vat.Valid.fits (hv:v.Valid):v.Fits:=⟨by have:=hv.drift;have:=hv.last7;omega,by have:=hv.feeds;have:=hv.last7;omega,by have:=hv.dips;have:=hv.last7;omega,by have:=hv.looks5;omega⟩
theorem Vat.Valid.rgs (hv:v.Valid):Rgs (rangesL v):=by
  refine ⟨?_,?_⟩
  · have:=hv.drift;have:=hv.last7
    simp [rangesL];omega
  · intro r hr
    simp only [rangesL,List.mem_cons] at hr
    rcases hr with rfl | rfl | hr
    · have:=hv.start;omega
    · have:=hv.blue;omega
    · have:=hv.driftO r hr;omega
theorem rangesL_len : (rangesL v).length=v.drift.length+2:=by simp [rangesL]
def tOf (w:List Int):Truth:=⟨w.getD 0 0,w.getD 1 0,w.drop 2⟩
def dipN (take:Int):Nat→Int→Int
  | 0,b=>b
  | n+1,b=>max 0 (dipN take n b-take)
def feedAt (v:Vat) (d:Nat):Fd:=v.feeds.getD d default
def dipAt (v:Vat) (d:Nat):Nat:=(v.dips.getD d 0).toNat
def stAt (v:Vat) (t:Truth):Nat→St
  | 0=>⟨t.start,t.blue⟩
  | d+1=>⟨(stAt v t d).bal+((feedAt v d).lime-(feedAt v d).bran+t.drift.getD d 0),dipN v.take (dipAt v d) ((stAt v t d).blue+(feedAt v d).madder*v.gain)⟩
def playL (v:Vat) (t:Truth):List St:=(List.range v.drift.length).map fun d=>stAt v t (d+1)
theorem playL_len {t:Truth}:(playL v t).length=v.drift.length:=by simp [playL]
def rightK (k:Lk) (l:List St):Bool:=inR (if k.bal=true then (atI l k.day).bal else (atI l k.day).blue) k.n.lo k.n.hi
def rightAt (v:Vat) (out:List Int) (l:List St) (i:Nat):Bool:=decide ((i:Int)∈out)||rightK (v.looks.getD i default) l
def rightL (v:Vat) (out:List Int) (l:List St):Bool:=(List.range v.looks.length).all (rightAt v out l)
structure IsT (v:Vat) (t:Truth):Prop where
  st:v.start.lo≤t.start∧t.start≤v.start.hi
  bl:v.blue.lo≤t.blue∧t.blue≤v.blue.hi
  dl:t.drift.length=v.drift.length
  dr:∀i,i<t.drift.length→(v.drift.getD i default).lo≤t.drift.getD i default∧t.drift.getD i default≤(v.drift.getD i default).hi
def listsA (v:Vat):List (List Int):=listsF (rangesL v) []
def truthsL (v:Vat) (out:List Int):List Truth:=((listsA v).map tOf).filter fun t=>rightL v out (playL v t)
theorem getD_cons2 {α:Type} {a b:α} {l:List α} {i:Nat} {d:α}:(a::b::l).getD (2+i) d=l.getD i d:=by
  rw [Nat.add_comm];rfl
theorem isT_of {w:List Int} (hl:w.length=(rangesL v).length) (hi:InR (rangesL v) w):IsT v (tOf w):=by
  rw [rangesL_len] at hl
  refine ⟨hi 0 (by omega),hi 1 (by omega),by simp [tOf];omega,fun i h=>?_⟩
  have h1:i<v.drift.length:=by simp [tOf] at h;omega
  have:=hi (2+i) (by omega)
  rw [show (rangesL v).getD (2+i) default=v.drift.getD i default from getD_cons2] at this
  rwa [show (tOf w).drift.getD i default=w.getD (2+i) default by simp [tOf,List.getD_eq_getElem?_getD,List.getElem?_drop]]
theorem dipN_bd {take:Int} (h0:0≤take) {n:Nat} {b:Int} (hb:0≤b):0≤dipN take n b∧dipN take n b≤b:=by
  induction n with
  | zero=>exact ⟨hb,Int.le_refl _⟩
  | succ n ih=>simp only [dipN];omega
theorem getD_mem {α:Type} {l:List α} {i:Nat} {d:α} (h:i<l.length):l.getD i d∈l:=by
  rw [getD_lt _ _ _ h];exact List.getElem_mem h
theorem Vat.Valid.feedAt (hv:v.Valid) {d:Nat} (hd:d<v.drift.length):(0≤(feedAt v d).lime∧(feedAt v d).lime≤9)∧(0≤(feedAt v d).bran∧(feedAt v d).bran≤9)∧(0≤(feedAt v d).madder∧(feedAt v d).madder≤9):=
  hv.feedO _ (getD_mem (by have:=hv.drift;have:=hv.feeds;omega))
theorem Vat.Valid.dipAt (hv:v.Valid) {d:Nat} (hd:d<v.drift.length):0≤v.dips.getD d 0∧v.dips.getD d 0≤20:=
  hv.dipO _ (getD_mem (by have:=hv.drift;have:=hv.dips;omega))
theorem IsT.drift (hv:v.Valid) {t:Truth} (h:IsT v t) {d:Nat} (hd:d<v.drift.length) : -9≤t.drift.getD d 0∧t.drift.getD d 0≤9:=by
  have h1:=h.dr d (by rw [h.dl];exact hd)
  have h2:=hv.driftO _ (getD_mem (d:=default) hd)
  have e:t.drift.getD d 0=t.drift.getD d default:=rfl
  omega
theorem mul_bd {a b:Int} (h1:0≤a∧a≤9) (h2:0≤b∧b≤50):0≤a*b∧a*b≤450:=by
  refine ⟨Int.mul_nonneg h1.1 h2.1,?_⟩
  have:=Int.mul_le_mul h1.2 h2.2 h2.1 (by decide)
  omega
theorem stAt_bd (hv:v.Valid) {t:Truth} (h:IsT v t):∀{d:Nat},d≤v.drift.length→(-50-18*(d:Int)≤(stAt v t d).bal∧(stAt v t d).bal≤50+18*(d:Int))∧0≤(stAt v t d).blue∧(stAt v t d).blue≤999+450*(d:Int)
  | 0,_=>by
    have:=hv.start;have:=hv.blue;have:=h.st;have:=h.bl
    simp only [stAt];omega
  | d+1,hd=>by
    have ih:=stAt_bd hv h (d:=d) (by omega)
    have f:=hv.feedAt (d:=d) (by omega)
    have x:=h.drift hv (d:=d) (by omega)
    have m:=mul_bd f.2.2 hv.gain
    have b:=dipN_bd hv.take.1 (n:=dipAt v d) (b:=(stAt v t d).blue+(feedAt v d).madder*v.gain) (by omega)
    simp only [stAt]
    omega
theorem playL_get {t:Truth} {d:Nat} (h:d<v.drift.length) (x:St):(playL v t).getD d x=stAt v t (d+1):=by
  rw [getD_lt _ _ _ (by rw [playL_len];exact h)];simp [playL]
end Am.Vt
namespace Am.Vt
open Go Am
set_option maxRecDepth 100000
set_option maxHeartbeats 4000000
set_option linter.unusedSimpArgs false
set_option linter.unusedVariables false
def upTo (a b:Int):List Int:=(List.range (b+1-a).toNat).map fun (k:Nat)=>a+k
def prodN (rs:List Rg):Nat:=rs.foldr (fun r p=>(r.hi+1-r.lo).toNat*p) 1
theorem listsF_len : ∀{rs:List Rg} {w:List Int},(listsF rs w).length=prodN rs
  | [],_=>rfl
  | r::rs,w=>by
    rw [listsF,List.length_flatMap]
    have:(List.map (fun (n:Nat)=>(listsF rs (w++[r.lo+(n:Int)])).length) (List.range (r.hi+1-r.lo).toNat))=List.replicate (r.hi+1-r.lo).toNat (prodN rs):=by
      rw [List.eq_replicate_iff]
      refine ⟨by simp,fun b hb=>?_⟩
      obtain ⟨n,_,rfl⟩:=List.mem_map.1 hb
      exact listsF_len
    rw [this]
    have hs:∀(a b:Nat),(List.replicate a b).sum=a*b:=fun a b=>by
      induction a with
      | zero=>simp
      | succ a ih=>rw [List.replicate_succ,List.sum_cons,ih,Nat.succ_mul,Nat.add_comm]
    rw [hs];rfl
theorem prodN_pos {rs:List Rg} (h:∀r∈rs,r.lo≤r.hi):1≤prodN rs:=by
  induction rs with
  | nil=>exact Nat.le_refl _
  | cons r rs ih=>
    have h1:=h r (by simp)
    have h2:=ih fun x hx=>h x (by simp [hx])
    exact Nat.mul_pos (by omega) h2
theorem many_min : ∀{rs:List Rg} {m:Nat},(∀r∈rs,-100000≤r.lo∧r.lo≤r.hi∧r.hi≤100000)→1≤m→m≤2001→rs.foldl (fun m r=>min (IntKind.i64.wrap (m*sizeI r.lo r.hi)) 2001) (m:Int)=((min (m*prodN rs) 2001:Nat):Int)
  | [],m,_,_,h=>by
    simp only [List.foldl_nil,prodN,List.foldr_nil,Nat.mul_one];omega
  | r::rs,m,h,h1,h2=>by
    obtain ⟨a,b,c⟩:=h r (by simp)
    have hz:sizeI r.lo r.hi=((r.hi+1-r.lo).toNat:Nat):=by
      unfold sizeI
      rw [wrapB (n:=r.hi-r.lo) (by omega) (by omega),wrapB (by omega) (by omega)];omega
    obtain ⟨z,hz'⟩:∃z,z=(r.hi+1-r.lo).toNat:=⟨_,rfl⟩
    rw [←hz'] at hz
    have hz1:1≤z:=by omega
    have hz2:z≤200001:=by omega
    have hmz:m*z≤2001*200001:=Nat.mul_le_mul h2 hz2
    have e:min (IntKind.i64.wrap ((m:Int)*sizeI r.lo r.hi)) 2001=((min (m*z) 2001:Nat):Int):=by
      have e2:(m:Int)*(z:Int)=((m*z:Nat):Int):=by simp
      rw [hz,e2]
      generalize m*z=p at hmz ⊢
      rw [wrapB (n:=(p:Int)) (by omega) (by omega)];omega
    have hmz1:1≤m*z:=Nat.mul_pos h1 hz1
    rw [List.foldl_cons,e,many_min (fun x hx=>h x (by simp [hx])) (by omega) (by omega)]
    have hp:=prodN_pos (rs:=rs) fun x hx=>(h x (by simp [hx])).2.1
    have ep:prodN (r::rs)=z*prodN rs:=by rw [hz'];rfl
    rw [ep,←Nat.mul_assoc]
    congr 1
    by_cases hc:m*z≤2001
    · rw [Nat.min_eq_left hc]
    · have g1:2001*1≤2001*prodN rs:=Nat.mul_le_mul_left _ hp
      have g2:2001*1≤m*z*prodN rs:=Nat.mul_le_mul (by omega) hp
      rw [Nat.min_eq_right (by omega:2001≤m*z),Nat.min_eq_right (by omega),Nat.min_eq_right (by omega)]
theorem listsF_in : ∀{rs:List Rg} {w x:List Int},x∈listsF rs w→∃y:List Int,x=w++y∧y.length=rs.length∧InR rs y
  | [],w,x,h=>by
    simp only [listsF,List.mem_singleton] at h
    exact ⟨[],by simp [h],rfl,fun i hi=>by simp at hi⟩
  | r::rs,w,x,h=>by
    simp only [listsF,List.mem_flatMap,List.mem_range] at h
    obtain ⟨n,hn,h⟩:=h
    obtain ⟨y,h1,h2,h3⟩:=listsF_in h
    refine ⟨(r.lo+(n:Int))::y,by simp [h1],by simp [h2],fun i hi=>?_⟩
    cases i with
    | zero=>simp only [List.getD_cons_zero];omega
    | succ i=>simp only [List.getD_cons_succ];exact h3 i (by simpa using hi)
def combL (n:Int):Nat→List Int→Int→List (List Int)
  | 0,w,_=>[w]
  | m+1,w,fr=>(upTo fr (n-((m:Int)+1))).flatMap fun y=>combL n m (w++[y]) (y+1)
def setsL (n:Nat):List (List Int):=(List.range (n+1)).flatMap fun m=>combL n m [] 0
def szN (r:Rg):Nat:=(r.hi+1-r.lo).toNat
theorem listsF_mem : ∀{rs:List Rg} {y w:List Int},y.length=rs.length→InR rs y→w++y∈listsF rs w
  | [],y,w,hl,_=>by
    have:y=[]:=List.length_eq_zero_iff.1 hl
    subst this
    simp [listsF]
  | r::rs,y,w,hl,hi=>by
    cases y with
    | nil=>simp at hl
    | cons a y=>
      have h0:=hi 0 (by simp)
      simp only [List.getD_cons_zero] at h0
      simp only [listsF,List.mem_flatMap,List.mem_range]
      refine ⟨(a-r.lo).toNat,by omega,?_⟩
      have e:r.lo+((a-r.lo).toNat:Int)=a:=by omega
      rw [e,show w++a::y=(w++[a])++y by simp]
      exact listsF_mem (by simpa using hl) fun i h=>by
        have:=hi (i+1) (by simpa using h)
        simpa using this
def andn (a b:Nat):Nat:=a &&& (2^64-(b+1))
end Am.Vt
namespace Am.Vt
open Go Am
set_option maxRecDepth 100000
set_option maxHeartbeats 4000000
set_option linter.unusedSimpArgs false
set_option linter.unusedVariables false
variable {v:Vat}
def nthR : List Rg→Nat→List Int
  | [],_=>[]
  | r::rs,n=>(r.lo+((n % szN r:Nat):Int))::nthR rs (n / szN r)
def restR (rs:List Rg) (n k:Nat):Nat:=(rs.take k).foldl (fun m r=>m / szN r) n
theorem nthR_len : ∀{rs:List Rg} {n:Nat},(nthR rs n).length=rs.length
  | [],_=>rfl
  | r::rs,n=>by simp only [nthR,List.length_cons,nthR_len]
theorem restR_succ {rs:List Rg} {n k:Nat} (h:k<rs.length):restR rs n (k+1)=restR rs n k / szN (rs.getD k default):=by
  unfold restR;rw [take_getD h default,List.foldl_append];rfl
theorem restR_le {rs:List Rg} {n:Nat}:∀{k:Nat},restR rs n k≤n
  | 0=>by simp [restR]
  | k+1=>by
    by_cases h:k<rs.length
    · rw [restR_succ h];exact Nat.le_trans (Nat.div_le_self _ _) restR_le
    · have:restR rs n (k+1)=restR rs n k:=by unfold restR;rw [List.take_of_length_le (by omega),List.take_of_length_le (by omega)]
      rw [this];exact restR_le
theorem nthR_get : ∀{rs:List Rg} {n k:Nat} {d:Int},k<rs.length→(nthR rs n).getD k d=(rs.getD k default).lo+((restR rs n k % szN (rs.getD k default):Nat):Int)
  | [],n,k,d,h=>by simp at h
  | r::rs,n,0,d,h=>rfl
  | r::rs,n,k+1,d,h=>by
    simp only [nthR,List.getD_cons_succ]
    rw [nthR_get (by simpa using h)]
    rfl
theorem nthR_in {rs:List Rg} (h:∀r∈rs,r.lo≤r.hi) {n:Nat}:InR rs (nthR rs n):=by
  intro i hi
  rw [nthR_len] at hi
  rw [nthR_get hi]
  have h1:=h _ (getD_mem (d:=default) hi)
  have hz:1≤szN (rs.getD i default):=by unfold szN;omega
  have hm:restR rs n i % szN (rs.getD i default)<szN (rs.getD i default):=Nat.mod_lt _ hz
  unfold szN at hm ⊢
  omega
theorem nthR_onto : ∀{rs:List Rg} {y:List Int},(∀r∈rs,r.lo≤r.hi)→y.length=rs.length→InR rs y→∃n,n<prodN rs∧nthR rs n=y
  | [],[],_,_,_=>⟨0,by simp [prodN],rfl⟩
  | [],_::_,_,h,_=>by simp at h
  | _::_,[],_,h,_=>by simp at h
  | r::rs,a::y,h,hl,hi=>by
    obtain ⟨n,hn,e⟩:=nthR_onto (rs:=rs) (y:=y) (fun x hx=>h x (by simp [hx])) (by simpa using hl) (fun i h2=>by simpa using hi (i+1) (by simpa using h2))
    have h0:=hi 0 (by simp)
    simp only [List.getD_cons_zero] at h0
    have hlt:(a-r.lo).toNat<szN r:=by unfold szN;omega
    refine ⟨(a-r.lo).toNat+szN r*n,?_,?_⟩
    · show _<szN r*prodN rs
      have:szN r*(n+1)≤szN r*prodN rs:=Nat.mul_le_mul_left _ hn
      rw [Nat.mul_succ] at this
      omega
    · simp only [nthR]
      rw [Nat.add_mul_mod_self_left,Nat.mod_eq_of_lt hlt,Nat.add_mul_div_left _ _ (by omega),Nat.div_eq_of_lt hlt,Nat.zero_add,e]
      congr 1;omega
def nthT (v:Vat) (n:Nat):Truth:=tOf (nthR (rangesL v) n)
def numsT (t:Truth):List Int:=t.start::t.blue::t.drift
theorem tOf_nums {t:Truth}:tOf (numsT t)=t:=rfl
theorem Vat.Valid.lohi (hv:v.Valid):∀r∈rangesL v,r.lo≤r.hi:=fun r hr=>(hv.rgs.2 r hr).2.1
theorem nthT_isT (hv:v.Valid) {n:Nat}:IsT v (nthT v n):=isT_of nthR_len (nthR_in hv.lohi)
theorem nums_in {t:Truth} (h:IsT v t):InR (rangesL v) (numsT t):=by
  intro i hi
  match i,hi with
  | 0,_=>exact h.st
  | 1,_=>exact h.bl
  | i+2,hi=>exact h.dr i (by simpa [numsT] using hi)
theorem nums_len {t:Truth} (h:IsT v t):(numsT t).length=(rangesL v).length:=by
  have:=h.dl
  simp [numsT,rangesL];omega
theorem mem_listsA (hv:v.Valid) {t:Truth}:t∈(listsA v).map tOf↔IsT v t:=by
  constructor
  · rw [List.mem_map]
    rintro ⟨w,hw,rfl⟩
    obtain ⟨y,h1,h2,h3⟩:=listsF_in hw
    rw [List.nil_append] at h1
    subst h1
    exact isT_of h2 h3
  · intro h
    rw [List.mem_map]
    refine ⟨numsT t,?_,tOf_nums⟩
    have:=listsF_mem (w:=[]) (nums_len h) (nums_in h)
    rwa [List.nil_append] at this
theorem mem_truths (hv:v.Valid) {out:List Int} {t:Truth}:t∈truthsL v out↔IsT v t∧rightL v out (playL v t)=true:=by
  rw [truthsL,List.mem_filter,mem_listsA hv]
def manyF : List Rg→Nat
  | []=>1
  | r::rs=>rs.foldl (fun n r=>min 3000 n*szN r) (szN r)
theorem many_fold : ∀{rs:List Rg} {n:Nat},(∀r∈rs,1≤szN r)→min 3000 (rs.foldl (fun n r=>min 3000 n*szN r) n)=min 3000 (n*prodN rs)
  | [],n,_=>by simp [prodN]
  | r::rs,n,h=>by
    rw [List.foldl_cons,many_fold fun x hx=>h x (by simp [hx])]
    have e:n*prodN (r::rs)=n*(szN r*prodN rs):=rfl
    rw [e,Nat.mul_assoc]
    have h1:=h r (by simp)
    have h2:1≤prodN rs:=by
      have:∀{rs:List Rg},(∀r∈rs,1≤szN r)→1≤prodN rs:=by
        intro rs
        induction rs with
        | nil=>intro _;exact Nat.le_refl _
        | cons r rs ih=>intro h;exact Nat.mul_pos (h r (by simp)) (ih fun x hx=>h x (by simp [hx]))
      exact this fun x hx=>h x (by simp [hx])
    have hp:1≤szN r*prodN rs:=Nat.mul_pos h1 h2
    generalize szN r*prodN rs=p at hp
    by_cases hn:n≤3000
    · rw [Nat.min_eq_right hn]
    · have g1:3000*1≤3000*p:=Nat.mul_le_mul_left _ hp
      have g2:3000*1≤n*p:=Nat.mul_le_mul (by omega) hp
      rw [Nat.min_eq_left (by omega:3000≤n),Nat.min_eq_left (by omega),Nat.min_eq_left (by omega)]
theorem many_prod {rs:List Rg} (h:∀r∈rs,r.lo≤r.hi):min 3000 (manyF rs)=min 3000 (prodN rs):=by
  have hz:∀r∈rs,1≤szN r:=fun r hr=>by have:=h r hr;unfold szN;omega
  cases rs with
  | nil=>rfl
  | cons r rs=>exact many_fold fun x hx=>hz x (by simp [hx])
end Am.Vt
namespace Am.Vt
open Go Am
set_option maxRecDepth 100000
set_option maxHeartbeats 4000000
set_option linter.unusedSimpArgs false
set_option linter.unusedVariables false
variable {v:Vat}
def posB (v:Vat) (out:List Int):Bool:=!(truthsL v out).isEmpty
def IsRg (val:Truth→Int) (ts:List Truth) (r:Rg):Prop:=(∃t∈ts,val t=r.lo)∧(∃t∈ts,val t=r.hi)∧∀t∈ts,r.lo≤val t∧val t≤r.hi
def widen (val:Truth→Int) (r:Rg) (t:Truth):Rg:=⟨min r.lo (val t),max r.hi (val t)⟩
def bdStep (val:Truth→Int) (s:Rg × Bool) (t:Truth):(Rg × Bool) × Bool:=((⟨min (if s.2=true then val t else s.1.lo) (val t),max (if s.2=true then val t else s.1.hi) (val t)⟩,false),true)
def bdL (val:Truth→Int) (ts:List Truth):Rg:=(foldY (bdStep val) (⟨0,0⟩,true) ts).1.1
theorem widen_IsRg {val:Truth→Int}:∀{ts l:List Truth} {r:Rg},IsRg val l r→IsRg val (l++ts) (ts.foldl (widen val) r)
  | [],l,r,h=>by rw [List.append_nil];exact h
  | t::ts,l,r,h=>by
    have:=widen_IsRg (val:=val) (ts:=ts) (l:=l++[t]) (r:=widen val r t) (by
      obtain ⟨⟨a,a1,a2⟩,⟨b,b1,b2⟩,c⟩:=h
      refine ⟨?_,?_,?_⟩
      · by_cases hl:r.lo≤val t
        · exact ⟨a,by simp [a1],by simp only [widen];omega⟩
        · exact ⟨t,by simp,by simp only [widen];omega⟩
      · by_cases hl:val t≤r.hi
        · exact ⟨b,by simp [b1],by simp only [widen];omega⟩
        · exact ⟨t,by simp,by simp only [widen];omega⟩
      · intro x hx
        rw [List.mem_append,List.mem_singleton] at hx
        rcases hx with hx | rfl
        · have:=c x hx;simp only [widen];omega
        · simp only [widen];omega)
    rw [List.append_assoc] at this
    exact this
theorem bdL_fold {val:Truth→Int}:∀{ts:List Truth} {r:Rg},(foldY (bdStep val) (r,false) ts).1.1=ts.foldl (widen val) r
  | [],r=>rfl
  | t::ts,r=>by
    simp only [foldY,bdStep,if_true,List.foldl_cons,widen,Bool.false_eq_true,if_false]
    exact bdL_fold
theorem bdL_IsRg {val:Truth→Int} {ts:List Truth} (h:ts≠[]):IsRg val ts (bdL val ts):=by
  cases ts with
  | nil=>exact absurd rfl h
  | cons t ts=>
    have e:bdL val (t::ts)=ts.foldl (widen val) ⟨val t,val t⟩:=by
      unfold bdL
      simp only [foldY,bdStep,if_true]
      rw [bdL_fold]
      congr 2<;>omega
    rw [e]
    exact widen_IsRg (l:=[t]) ⟨⟨t,by simp,rfl⟩,⟨t,by simp,rfl⟩,fun x hx=>by rw [List.mem_singleton] at hx;subst hx;exact ⟨Int.le_refl _,Int.le_refl _⟩⟩
theorem pos_mem {out:List Int}:posB v out=true↔∃t,t∈truthsL v out:=by
  unfold posB
  cases truthsL v out with
  | nil=>simp
  | cons t ts=>simp
def lvStep (v:Vat) (s w:List Int):List Int × Bool:=(w,!posB v w)
def leaveS (v:Vat):List Int:=(foldY (lvStep v) [] (setsL v.looks.length)).1
def withL (v:Vat) (l:List Lk):Vat:={ v with looks:=l }
theorem Vat.Valid.withL (hv:v.Valid) {l:List Lk} (h1:l.length≤5) (h2:∀k∈l,k∈v.looks):(withL v l).Valid:=
  ⟨hv.last0,hv.last7,h1,hv.band,hv.start,hv.blue,hv.gain,hv.take,hv.drift,hv.feeds,hv.dips,hv.driftO,hv.feedO,hv.dipO,fun k hk=>hv.looks k (h2 k hk),hv.many⟩
def firstO (v:Vat):Option Nat:=(List.range v.looks.length).find? fun i=>!posB (withL v (v.looks.take (i+1))) []
end Am.Vt
