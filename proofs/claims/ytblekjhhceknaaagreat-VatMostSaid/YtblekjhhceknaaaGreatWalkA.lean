/-
  A part of the proof: the texts V1, V2, V3, V4, VA, VB, VC, V5, V6, V7 of this seat, joined.
-/
import Derived.Test.YtblekjhhceknaaaGreatAmK
import Derived.Test.YtblekjhhceknaaaGreatTab
import Derived.Test.YtblekjhhceknaaaGreatAmI
namespace Am.Vt
open Go Am
set_option maxRecDepth 100000
set_option maxHeartbeats 1000000
set_option linter.unusedSimpArgs false
set_option linter.unusedVariables false
structure Lk where
  day:Int
  bal:Bool
  n:Rg
  deriving Inhabited,DecidableEq
structure Fd where
  lime:Int
  bran:Int
  madder:Int
  deriving Inhabited,DecidableEq
structure Vat where
  last:Int
  band:Int
  start:Rg
  blue:Rg
  gain:Int
  take:Int
  drift:List Rg
  feeds:List Fd
  dips:List Int
  looks:List Lk
  deriving Inhabited,DecidableEq
structure Truth where
  start:Int
  blue:Int
  drift:List Int
  deriving Inhabited,DecidableEq
structure St where
  bal:Int
  blue:Int
  deriving Inhabited,DecidableEq
structure Bound where
  bal:Rg
  blue:Rg
  deriving Inhabited,DecidableEq
instance : Row Lk:=⟨4,fun s=>[.int .i64 s.day,.bool s.bal,.int .i64 s.n.lo,.int .i64 s.n.hi],fun _=>rfl⟩
instance : Row Fd:=⟨3,fun s=>[.int .i64 s.lime,.int .i64 s.bran,.int .i64 s.madder],fun _=>rfl⟩
instance : Row St:=⟨2,fun s=>[.int .i64 s.bal,.int .i64 s.blue],fun _=>rfl⟩
instance : Row Bound:=⟨4,fun s=>[.int .i64 s.bal.lo,.int .i64 s.bal.hi,.int .i64 s.blue.lo,.int .i64 s.blue.hi],fun _=>rfl⟩
instance : Row Truth:=⟨3,fun t=>[.int .i64 t.start,.int .i64 t.blue,.lst (t.drift.map Row.row)],fun _=>rfl⟩
@[go_sem] theorem sz_lk : Row.sz Lk=4:=rfl
@[go_sem] theorem sz_fd : Row.sz Fd=3:=rfl
@[go_sem] theorem sz_st : Row.sz St=2:=rfl
@[go_sem] theorem sz_bound : Row.sz Bound=4:=rfl
@[go_sem] theorem sz_truth : Row.sz Truth=3:=rfl
@[go_sem] theorem row_lk {s:Lk}:Row.row s=[.int .i64 s.day,.bool s.bal,.int .i64 s.n.lo,.int .i64 s.n.hi]:=rfl
@[go_sem] theorem row_fd {s:Fd}:Row.row s=[.int .i64 s.lime,.int .i64 s.bran,.int .i64 s.madder]:=rfl
@[go_sem] theorem row_st {s:St}:Row.row s=[.int .i64 s.bal,.int .i64 s.blue]:=rfl
@[go_sem] theorem row_bound {s:Bound}:Row.row s=[.int .i64 s.bal.lo,.int .i64 s.bal.hi,.int .i64 s.blue.lo,.int .i64 s.blue.hi]:=rfl
@[go_sem] theorem row_truth {t:Truth}:Row.row t=[.int .i64 t.start,.int .i64 t.blue,.lst (t.drift.map Row.row)]:=rfl
instance : Scal Lk:=⟨fun _=>rfl⟩
instance : Scal Fd:=⟨fun _=>rfl⟩
instance : Scal St:=⟨fun _=>rfl⟩
instance : Scal Bound:=⟨fun _=>rfl⟩
abbrev rgV (s:Rg):V:=.agg [.int .i64 s.lo,.int .i64 s.hi]
abbrev lkV (s:Lk):V:=.agg [.int .i64 s.day,.bool s.bal,.int .i64 s.n.lo,.int .i64 s.n.hi]
abbrev fdV (s:Fd):V:=.agg [.int .i64 s.lime,.int .i64 s.bran,.int .i64 s.madder]
def elemRg : Elem Rg 2 (some 2):=⟨fun _ s=>rgV s,rfl,fun _ _ _=>rfl,fun _ _=>rfl⟩
def elemLk : Elem Lk 4 (some 4):=⟨fun _ s=>lkV s,rfl,fun _ _ _=>rfl,fun _ _=>rfl⟩
def elemFd : Elem Fd 3 (some 3):=⟨fun _ s=>fdV s,rfl,fun _ _ _=>rfl,fun _ _=>rfl⟩
def inR (n low high:Int):Bool:=decide (low≤n)&&decide (n≤high)
theorem inR_iff {n low high:Int}:inR n low high=true↔low≤n∧n≤high:=by simp [inR]
theorem rIn {n low high:Int} {Q:V→Prop}:CallP tab 29 [.c (.int .i64 n),.c (.int .i64 low),.c (.int .i64 high)] Q↔Q (.c (.bool (inR n low high))):=CallP_of (by
  refine Val_X (fn:=f29) rfl ?_
  simp only [go_sem,f29,ge_iff_le]
  constructor<;>intro h<;>simp [h,inR])
theorem cwithin {n low high:Int} {Q:V→Prop}:CallP tab 106 [.c (.int .i64 n),.c (.int .i64 low),.c (.int .i64 high)] Q↔Q (.c (.bool (inR n low high))):=CallP_of (by
  refine Val_X (fn:=f106) rfl ?_
  simp only [go_sem,f106,ge_iff_le]
  constructor<;>intro h<;>simp [h,inR])
def rgOf (lo hi low high:Int):Bool:=decide (low≤lo)&&(decide (lo≤hi)&&decide (hi≤high))
theorem cof {lo hi low high:Int} {Q:V→Prop}:CallP tab 126 [.agg [.int .i64 lo,.int .i64 hi],.c (.int .i64 low),.c (.int .i64 high)] Q↔Q (.c (.bool (rgOf lo hi low high))):=CallP_of (by
  refine Val_X (fn:=f126) rfl ?_
  simp only [go_sem,f126]
  refine ⟨fun h=>⟨fun h'=>?_,fun h'=>?_⟩,fun h=>?_⟩<;>simp [rgOf, *])
theorem chas {lo hi n:Int} {Q:V→Prop}:CallP tab 108 [.agg [.int .i64 lo,.int .i64 hi],.c (.int .i64 n)] Q↔Q (.c (.bool (inR n lo hi))):=CallP_of (by
  refine Val_X (fn:=f108) rfl ?_
  simp only [go_sem,f108,cwithin])
theorem csize {lo hi:Int} {Q:V→Prop}:CallP tab 88 [.agg [.int .i64 lo,.int .i64 hi]] Q↔Q (.c (.int .i64 (sizeI lo hi))):=CallP_of (by
  refine Val_X (fn:=f88) rfl ?_
  simp only [go_sem,f88,sizeI])
theorem rSize {lo hi:Int} {Q:V→Prop}:CallP tab 121 [.agg [.int .i64 lo,.int .i64 hi]] Q↔Q (.c (.int .i64 (sizeI lo hi))):=CallP_of (by
  refine Val_X (fn:=f121) rfl ?_
  simp only [go_sem,f121,sizeI])
theorem Fdrift {lo hi:Int} {h:List Obj} (hu:underH h.length h=true) {Q:V→List Obj→Prop}:Fn tab (.f 81 [.agg [.int .i64 lo,.int .i64 hi]] h) Q↔Q (.c (.bool (rgOf lo hi (-9) 9))) h:=Fn_iff (by
  refine Fn_XD (fn:=f81) rfl rfl ?_
  simp only [go_sem,f81,cof,hu])
theorem cminimum {g:Bool × Bool} {l:List Int} (h0:0<l.length) (hl:l.length<Big) {Q:V→Prop}:CallP tab 87 [.c (L g l)] Q↔Q (.c (.int .i64 (minL l))):=CallP_of (by
  refine Val_X (fn:=f87) rfl ?_
  simp only [go_sem,f87,CallP_of (Min_ok (G:=tab) (k:=134) rfl (g:=g) h0 hl)])
theorem cmin2 {t:Bool} {a b:Int} {Q:V→Prop}:CallP tab 87 [.c (.lst t [[.int .i64 a],[.int .i64 b]])] Q↔Q (.c (.int .i64 (min a b))):=by
  have:=cminimum (g:=(false,t)) (l:=[a,b]) (show 0<2 by decide) (show 2<Big by decide) (Q:=Q)
  exact this
theorem cwider {lo hi n:Int} {Q:V→Prop}:CallP tab 136 [.agg [.int .i64 lo,.int .i64 hi],.c (.int .i64 n)] Q↔Q (.agg [.int .i64 (min lo n),.int .i64 (max hi n)]):=CallP_of (by
  refine Val_X (fn:=f136) rfl ?_
  simp only [go_sem,f136,cmin2])
theorem rWithin {lo hi low high:Int} {Q:V→Prop}:CallP tab 120 [.agg [.int .i64 lo,.int .i64 hi],.c (.int .i64 low),.c (.int .i64 high)] Q↔Q (.c (.bool (rgOf lo hi low high))):=CallP_of (by
  refine Val_X (fn:=f120) rfl ?_
  simp only [go_sem,f120,ge_iff_le]
  refine ⟨fun h=>⟨fun h'=>?_,fun h'=>?_⟩,fun h=>?_⟩<;>simp [rgOf, *])
theorem lto {lo hi:Int} {Q:V→Prop}:CallP tab 32 [.agg [.int .i64 lo,.int .i64 hi]] Q↔Q (.agg [.int .i64 lo,.int .i64 hi]):=CallP_of (by
  refine Val_X (fn:=f32) rfl ?_
  simp only [go_sem,f32])
theorem lbetween {lo hi:Int} {Q:V→Prop}:CallP tab 70 [.c (.int .i64 lo),.c (.int .i64 hi)] Q↔Q (.agg [.int .i64 lo,.int .i64 hi]):=CallP_of (by
  refine Val_X (fn:=f70) rfl ?_
  simp only [go_sem,f70])
theorem llist {g:Bool × Bool} {a:List Int} (ha:a.length≤1000) {Q:V→Prop}:CallP tab 40 [.c (L g a)] Q↔Q (.c (L (false,false) a)):=CallP_of (by
  have hb:a.length*8≤2^40:=by omega
  refine Val_X (fn:=f40) rfl ?_
  simp only [go_sem,f40,hb])
end Am.Vt
namespace Am.Vt
open Go Am
set_option maxRecDepth 100000
set_option maxHeartbeats 2000000
set_option linter.unusedSimpArgs false
set_option linter.unusedVariables false
variable {g1 g2 g3 g4:Bool × Bool} {v:Vat}
abbrev vatC (g1 g2 g3 g4:Bool × Bool) (v:Vat):List C:=[.int .i64 v.last,.int .i64 v.band,.int .i64 v.start.lo,.int .i64 v.start.hi,.int .i64 v.blue.lo,.int .i64 v.blue.hi,.int .i64 v.gain,.int .i64 v.take,L g1 v.drift,L g2 v.feeds,L g3 v.dips,L g4 v.looks]
abbrev vatV (g1 g2 g3 g4:Bool × Bool) (v:Vat):V:=.agg [.int .i64 v.last,.int .i64 v.band,.int .i64 v.start.lo,.int .i64 v.start.hi,.int .i64 v.blue.lo,.int .i64 v.blue.hi,.int .i64 v.gain,.int .i64 v.take,L g1 v.drift,L g2 v.feeds,L g3 v.dips,L g4 v.looks]
attribute [go_sem] vatC vatV
theorem cday {n:Int} {Q:V→Prop}:CallP tab 91 [vatV g1 g2 g3 g4 v,.c (.int .i64 n)] Q↔Q (.c (.bool (inR n 0 v.last))):=CallP_of (by
  refine Val_X (fn:=f91) rfl ?_
  simp only [go_sem,f91,cwithin])
theorem cdays {Q:V→Prop}:CallP tab 79 [vatV g1 g2 g3 g4 v] Q↔Q (.c (.int .i64 (IntKind.i64.wrap (v.last+1)))):=CallP_of (by
  refine Val_X (fn:=f79) rfl ?_
  simp only [go_sem,f79])
theorem cfed {n:Int} {Q:V→Prop}:CallP tab 131 [.c (.int .i64 n)] Q↔Q (.c (.bool (inR n 0 9))):=CallP_of (by
  refine Val_X (fn:=f131) rfl ?_
  simp only [go_sem,f131,cwithin])
theorem cdips {n:Int} {Q:V→Prop}:CallP tab 85 [.c (.int .i64 n)] Q↔Q (.c (.bool (inR n 0 20))):=CallP_of (by
  refine Val_X (fn:=f85) rfl ?_
  simp only [go_sem,f85,cwithin])
theorem Fdips {n:Int} {h:List Obj} {Q:V→List Obj→Prop}:Fn tab (.f 85 [.c (.int .i64 n)] h) Q↔Q (.c (.bool (inR n 0 20))) h:=Fn_iff (by
  refine Fn_X (fn:=f85) rfl rfl ?_
  simp only [go_sem,f85,cwithin])
def feedOk (s:Fd):Bool:=inR s.lime 0 9&&(inR s.bran 0 9&&inR s.madder 0 9)
theorem Ffeed {a b c:Int} {h:List Obj} (hu:underH h.length h=true) {Q:V→List Obj→Prop}:Fn tab (.f 83 [.agg [.int .i64 a,.int .i64 b,.int .i64 c]] h) Q↔Q (.c (.bool (feedOk ⟨a,b,c⟩))) h:=Fn_iff (by
  refine Fn_XD (fn:=f83) rfl rfl ?_
  simp only [go_sem,f83,cfed,hu,feedOk]
  cases inR a 0 9<;>cases inR b 0 9<;>cases inR c 0 9<;>simp)
def lookOk (last:Int) (k:Lk):Bool:=inR k.day 0 last&&rgOf k.n.lo k.n.hi (-5000) 5000
theorem All_grow {α:Type} [Row α] [Inhabited α] {sz:Nat} {sh:Option Nat} {G:Nat→Option AFunc} (E:Elem α sz sh) {k kN kC kI:Nat} (hG:G k=some (tAll kN kC)) (hC:G kC=some (tContainsFunc kI)) (hI:G kI=some (tIndexFunc sz sh))
    {g:Bool × Bool} {l:List α} (hl:l.length<Big) {f:Nat} {a:Bool} {x y:List C} {h:List Obj} (p:α→Bool) (gr:α→List Obj)
    (hF:∀z,z∈l→∀X,CallV G (.c (.fn kN false [] [.ptr h.length 0])) [E.val g.2 z] (h++(.cells [.fn f a x y]::X)) fun v h1=>v = .c (.bool (!p z))∧h1=h++(.cells [.fn f a x y]::(X++gr z))) :
    Fn G (.f k [.c (L g l),.c (.fn f a x y)] h) fun r H'=>∃X,r = .c (.bool (l.all p))∧H'=h++(.cells [.fn f a x y]::X):=by
  refine Fn_X (fn:=tAll kN kC) hG rfl ?_
  simp only [go_sem,tAll]
  refine (ContainsFunc_ok E hC hI hl (fun i=>h++(.cells [.fn f a x y]::(l.take i).flatMap gr)) (fun i=>!p (l.getD i default)) (F:=.c (.fn kN false [] [.ptr h.length 0])) ?_).mono ?_
  · intro i hi _
    have:=hF _ (by rw [getD_lt _ _ _ hi];exact List.getElem_mem hi:l.getD i default∈l) ((l.take i).flatMap gr)
    simp only [take_getD hi default,List.flatMap_append,List.flatMap_cons,List.flatMap_nil,List.append_nil]
    exact this
  · rintro v h' (⟨i,hi,hp,hb,rfl,rfl⟩ | ⟨hb,rfl,rfl⟩)
    · simp only [go_sem]
      refine ⟨_,?_,rfl⟩
      symm
      rw [List.all_eq_false]
      exact ⟨l.getD i default,by rw [getD_lt _ _ _ hi];exact List.getElem_mem hi,by simpa using hp⟩
    · simp only [go_sem]
      refine ⟨_,?_,rfl⟩
      symm
      rw [List.all_eq_true]
      intro z hz
      obtain ⟨i,hi,rfl⟩:=List.getElem_of_mem hz
      have:=hb i hi
      rw [getD_lt _ _ _ hi] at this
      simpa using this
theorem Flook {a c d:Int} {b:Bool} {h:List Obj} {Q:V→List Obj→Prop}:Fn tab (.f 77 [vatV g1 g2 g3 g4 v,.agg [.int .i64 a,.bool b,.int .i64 c,.int .i64 d]] h) Q↔Q (.c (.bool (lookOk v.last ⟨a,b,⟨c,d⟩⟩))) (h++[.cells (vatC g1 g2 g3 g4 v),.cells [.int .i64 a,.bool b,.int .i64 c,.int .i64 d]]):=Fn_iff (by
  refine Fn_X (fn:=f77) rfl rfl ?_
  simp only [go_sem,f77,cday,cof,lookOk]
  cases inR a 0 v.last<;>simp)
def numbersOk (v:Vat):Bool:=decide (0≤v.last)&&(inR v.band 0 20&&(rgOf v.start.lo v.start.hi (-50) 50&&(rgOf v.blue.lo v.blue.hi 0 999&&(inR v.gain 0 50&&inR v.take 0 50))))
theorem cnumbers {Q:V→Prop}:CallP tab 78 [vatV g1 g2 g3 g4 v] Q↔Q (.c (.bool (numbersOk v))):=CallP_of (by
  refine Val_X (fn:=f78) rfl ?_
  by_cases h0:0≤v.last<;>cases h1:inR v.band 0 20<;>cases h2:rgOf v.start.lo v.start.hi (-50) 50<;>cases h3:rgOf v.blue.lo v.blue.hi 0 999<;>cases h4:inR v.gain 0 50<;>simp only [go_sem,f78,cwithin,cof,ge_iff_le,numbersOk,h0,h1,h2,h3,h4])
theorem Fdrifts {g:Bool × Bool} {l:List Rg} (hs:l.length<Big) {h:List Obj} (hu:underH h.length h=true) {Q:V→List Obj→Prop}:Fn tab (.f 80 [.c (L g l),.c (.fn 81 false [] [])] h) Q↔Q (.c (.bool (l.all fun r=>rgOf r.lo r.hi (-9) 9))) (h++[.cells [.fn 81 false [] []]]):=by
  refine All_pureS elemRg (fun _ z=>⟨_,rfl,rfl,rfl,fun _=>rfl⟩) (kN:=128) (kC:=127) (kI:=145) rfl rfl rfl rfl hs hu (by simp only [go_sem]) (fun r=>rgOf r.lo r.hi (-9) 9) ?_
  intro z hz h' hu'
  simp only [go_sem,elemRg]
  rw [Fdrift hu']
  exact ⟨rfl,rfl⟩
theorem Ffeeds {g:Bool × Bool} {l:List Fd} (hs:l.length<Big) {h:List Obj} (hu:underH h.length h=true) {Q:V→List Obj→Prop}:Fn tab (.f 82 [.c (L g l),.c (.fn 83 false [] [])] h) Q↔Q (.c (.bool (l.all feedOk))) (h++[.cells [.fn 83 false [] []]]):=by
  refine All_pureS elemFd (fun _ z=>⟨_,rfl,rfl,rfl,fun _=>rfl⟩) (kN:=130) (kC:=129) (kI:=146) rfl rfl rfl rfl hs hu (by simp only [go_sem]) feedOk ?_
  intro z hz h' hu'
  simp only [go_sem,elemFd]
  rw [Ffeed hu']
  exact ⟨rfl,rfl⟩
theorem Fdipss {g:Bool × Bool} {l:List Int} (hs:l.length<Big) {h:List Obj} (hu:underH h.length h=true) {Q:V→List Obj→Prop}:Fn tab (.f 84 [.c (L g l),.c (.fn 85 false [] [])] h) Q↔Q (.c (.bool (l.all fun n=>inR n 0 20))) (h++[.cells [.fn 85 false [] []]]):=by
  refine All_pure elemInt (kN:=133) (kC:=132) (kI:=147) rfl rfl rfl rfl hs hu (by simp only [go_sem]) (fun n=>inR n 0 20) ?_
  intro z hz h' hu'
  simp only [go_sem,elemInt]
  rw [Fdips]
  exact ⟨rfl,rfl⟩
theorem Flooks (hs:v.looks.length<Big) {h:List Obj}:Fn tab (.f 74 [.c (L g4 v.looks),.c (.fn 77 true (vatC g1 g2 g3 g4 v) [])] h) fun r H'=>∃X,r = .c (.bool (v.looks.all (lookOk v.last)))∧H'=h++(.cells [.fn 77 true (vatC g1 g2 g3 g4 v) []]::X):=by
  refine All_grow elemLk (kN:=125) (kC:=124) (kI:=144) rfl rfl rfl hs (lookOk v.last) (fun z=>[.cells [.int .i64 z.day,.bool z.bal,.int .i64 z.n.lo,.int .i64 z.n.hi],.cells (vatC g1 g2 g3 g4 v),.cells [.int .i64 z.day,.bool z.bal,.int .i64 z.n.lo,.int .i64 z.n.hi]]) ?_
  intro z hz X
  rw [CallV_fn]
  refine Fn_X (fn:=f125) rfl rfl ?_
  simp only [go_sem,f125,elemLk,Flook]
def rangesL (v:Vat):List Rg:=v.start::v.blue::v.drift
theorem cranges (h1:v.drift.length≤1000) {Q:V→Prop}:CallP tab 86 [vatV g1 g2 g3 g4 v] Q↔Q (.c (L (false,false) (rangesL v))):=CallP_of (by
  refine Val_X (fn:=f86) rfl ?_
  have e1:(2+v.drift.length)*16≤2^40:=by omega
  have hl:(rangesL v).length=2+v.drift.length:=by simp [rangesL];omega
  have e3:=takeN_take (n:=2+v.drift.length) (l:=(rangesL v).map (Row.row (α:=Rg))) (by rw [List.length_map];omega)
  rw [List.take_of_length_le (by rw [List.length_map];omega)] at e3
  have e4:(rangesL v).map (Row.row (α:=Rg))=[D.int IntKind.i64 v.start.lo,D.int IntKind.i64 v.start.hi]::[D.int IntKind.i64 v.blue.lo,D.int IntKind.i64 v.blue.hi]::v.drift.map Row.row:=rfl
  rw [e4] at e3
  simp only [go_sem,f86,e1,e3]
  rw [←e4]
  rfl)
end Am.Vt
namespace Am.Vt
open Go Am
set_option maxRecDepth 100000
set_option maxHeartbeats 4000000
set_option linter.unusedSimpArgs false
set_option linter.unusedVariables false
variable {g1 g2 g3 g4:Bool × Bool} {v:Vat}
theorem big_of {n:Nat} (h:n≤1000):n<Big:=Nat.lt_of_le_of_lt h (by decide)
structure Vat.Fits (v:Vat):Prop where
  drift:v.drift.length≤1000
  feeds:v.feeds.length≤1000
  dips:v.dips.length≤1000
  looks:v.looks.length≤1000
def manyL (rs:List Rg):Int:=rs.foldl (fun m r=>min (IntKind.i64.wrap (m*sizeI r.lo r.hi)) 2001) 1
def checkVat (v:Vat):Int:=
  if v.last>7 then 3 else if (v.looks.length:Int)>5 then 3
  else if numbersOk v=false then 1
  else if ¬(v.drift.length:Int)=IntKind.i64.wrap (v.last+1) then 1 else if ¬(v.feeds.length:Int)=IntKind.i64.wrap (v.last+1) then 1
  else if ¬(v.dips.length:Int)=IntKind.i64.wrap (v.last+1) then 1
  else if v.drift.all (fun r=>rgOf r.lo r.hi (-9) 9)=false then 1 else if v.feeds.all feedOk=false then 1
  else if v.dips.all (fun n=>inR n 0 20)=false then 1 else if v.looks.all (lookOk v.last)=false then 1
  else if manyL (rangesL v)>2000 then 3 else 0
theorem cCheckVat (hf:v.Fits) {Q:V→Prop}:CallP tab 22 [vatV g1 g2 g3 g4 v] Q↔Q (.c (.int .i64 (checkVat v))):=CallP_of (by
  have b1:=big_of hf.drift
  have b2:=big_of hf.feeds
  have b3:=big_of hf.dips
  have b4:=big_of hf.looks
  refine Val_X (fn:=f22) rfl ?_
  by_cases a1:v.last>7
  · simp only [go_sem,f22,a1,checkVat]
  by_cases a2:(v.looks.length:Int)>5
  · simp only [go_sem,f22,a1,a2,checkVat]
  cases a4:numbersOk v with
  | false=>simp only [go_sem,f22,a1,a2,cnumbers,a4,checkVat]
  | true=>
  by_cases a5:¬(v.drift.length:Int)=IntKind.i64.wrap (v.last+1)
  · simp only [go_sem,f22,a1,a2,cnumbers,cdays,a4,a5,checkVat]
  have a5:=Decidable.not_not.1 a5
  by_cases a6:¬(v.feeds.length:Int)=IntKind.i64.wrap (v.last+1)
  · simp only [go_sem,f22,a1,a2,cnumbers,cdays,a4,a5,a6,checkVat]
  have a6:=Decidable.not_not.1 a6
  by_cases a7:¬(v.dips.length:Int)=IntKind.i64.wrap (v.last+1)
  · simp only [go_sem,f22,a1,a2,cnumbers,cdays,a4,a5,a6,a7,checkVat]
  have a7:=Decidable.not_not.1 a7
  cases a8:v.drift.all (fun r=>rgOf r.lo r.hi (-9) 9) with
  | false=>simp only [go_sem,f22,a1,a2,cnumbers,cdays,Fdrifts b1,a4,a5,a6,a7,a8,checkVat]
  | true=>
  cases a9:v.feeds.all feedOk with
  | false=>simp only [go_sem,f22,a1,a2,cnumbers,cdays,Fdrifts b1,Ffeeds b2,a4,a5,a6,a7,a8,a9,checkVat]
  | true=>
  cases a10:v.dips.all (fun n=>inR n 0 20) with
  | false=>simp only [go_sem,f22,a1,a2,cnumbers,cdays,Fdrifts b1,Ffeeds b2,Fdipss b3,a4,a5,a6,a7,a8,a9,a10,checkVat]
  | true=>
  have kl:=fun {h:List Obj}=>Flooks (g1:=g1) (g2:=g2) (g3:=g3) (g4:=g4) (v:=v) b4 (h:=h)
  simp only [go_sem,f22,a1,a2,cnumbers,cdays,Fdrifts b1,Ffeeds b2,Fdipss b3,a4,a5,a6,a7,a8,a9,a10]
  refine kl.mono ?_
  rintro r H' ⟨X,rfl,rfl⟩
  cases a11:v.looks.all (lookOk v.last) with
  | false=>simp only [go_sem,checkVat,a1,a2,a4,a5,a6,a7,a8,a9,a10,a11]
  | true=>
  have hr:checkVat v=if manyL (rangesL v)>2000 then 3 else 0:=by
    simp only [checkVat,a1,a2,a4,a5,a6,a7,a8,a9,a10,a11,if_false,not_true_eq_false,Bool.true_eq_false]
  rw [hr]
  have hrl:(rangesL v).length≤2000:=by
    have h1:=hf.drift
    simp [rangesL];omega
  simp only [go_sem,cranges hf.drift]
  unfold manyL
  generalize rangesL v=rs at *
  refine RX_whileU (α:=Nat × List Obj) (fun x=>[(4,.c (.int .i64 ((rs.take x.1).foldl (fun m r=>min (IntKind.i64.wrap (m*sizeI r.lo r.hi)) 2001) 1))),(75,.c (.int .i64 x.1))]) (fun x=>.cells (vatC g1 g2 g3 g4 v)::x.2) (fun x=>x.1≤rs.length) (fun x=>rs.length-x.1) (0,_) (Nat.zero_le _) (by simp only [go_sem]<;>exact ⟨rfl,rfl⟩) ?_
  rintro ⟨k,Y⟩ hk
  simp only at hk
  by_cases hlt:k<rs.length
  · have e4:IntKind.i64.wrap ((k:Int)+1)=((k+1:Nat):Int):=wrap_succ (n:=3000) (by omega) (by decide)
    simp only [go_sem,hlt,atI_nat,csize,cmin2,e4]
    exact ⟨(k+1,_),⟨by simp only;omega,by simp only;omega⟩,⟨by simp only [take_getD hlt default,List.foldl_append,List.foldl_cons,List.foldl_nil],rfl⟩,rfl⟩
  · have:k=rs.length:=by omega
    subst this
    simp only [go_sem,hlt,List.take_length]
    exact ⟨fun h=>by rw [if_pos h],fun h=>by rw [if_neg h]⟩)
end Am.Vt
namespace Am.Vt
open Go Am
set_option maxRecDepth 100000
set_option maxHeartbeats 4000000
set_option linter.unusedSimpArgs false
set_option linter.unusedVariables false
variable {g1 g2 g3 g4:Bool × Bool} {v:Vat}
structure Vat.Valid (v:Vat):Prop where
  last0:0≤v.last
  last7:v.last≤7
  looks5:v.looks.length≤5
  band:0≤v.band∧v.band≤20
  start : -50≤v.start.lo∧v.start.lo≤v.start.hi∧v.start.hi≤50
  blue:0≤v.blue.lo∧v.blue.lo≤v.blue.hi∧v.blue.hi≤999
  gain:0≤v.gain∧v.gain≤50
  take:0≤v.take∧v.take≤50
  drift:(v.drift.length:Int)=v.last+1
  feeds:(v.feeds.length:Int)=v.last+1
  dips:(v.dips.length:Int)=v.last+1
  driftO:∀r∈v.drift,-9≤r.lo∧r.lo≤r.hi∧r.hi≤9
  feedO:∀s∈v.feeds,(0≤s.lime∧s.lime≤9)∧(0≤s.bran∧s.bran≤9)∧(0≤s.madder∧s.madder≤9)
  dipO:∀n∈v.dips,0≤n∧n≤20
  looks:∀k∈v.looks,(0≤k.day∧k.day≤v.last) ∧ -5000≤k.n.lo∧k.n.lo≤k.n.hi∧k.n.hi≤5000
  many:manyL (rangesL v)≤2000
theorem valid_of (h:checkVat v=0):v.Valid:=by
  by_cases a1:v.last>7
  · simp only [checkVat,a1,if_true] at h;cases h
  by_cases a3:(v.looks.length:Int)>5
  · simp only [checkVat,a1,a3,if_true,if_false] at h;cases h
  by_cases a4:numbersOk v=false
  · simp only [checkVat,a1,a3,a4,if_true,if_false] at h;cases h
  by_cases a5:¬(v.drift.length:Int)=IntKind.i64.wrap (v.last+1)
  · rw [checkVat,if_neg a1,if_neg a3,if_neg a4,if_pos a5] at h;cases h
  by_cases a6:¬(v.feeds.length:Int)=IntKind.i64.wrap (v.last+1)
  · rw [checkVat,if_neg a1,if_neg a3,if_neg a4,if_neg a5,if_pos a6] at h;cases h
  by_cases a7:¬(v.dips.length:Int)=IntKind.i64.wrap (v.last+1)
  · rw [checkVat,if_neg a1,if_neg a3,if_neg a4,if_neg a5,if_neg a6,if_pos a7] at h;cases h
  by_cases a8:v.drift.all (fun r=>rgOf r.lo r.hi (-9) 9)=false
  · rw [checkVat,if_neg a1,if_neg a3,if_neg a4,if_neg a5,if_neg a6,if_neg a7,if_pos a8] at h;cases h
  by_cases a9:v.feeds.all feedOk=false
  · rw [checkVat,if_neg a1,if_neg a3,if_neg a4,if_neg a5,if_neg a6,if_neg a7,if_neg a8,if_pos a9] at h;cases h
  by_cases a10:v.dips.all (fun n=>inR n 0 20)=false
  · rw [checkVat,if_neg a1,if_neg a3,if_neg a4,if_neg a5,if_neg a6,if_neg a7,if_neg a8,if_neg a9,if_pos a10] at h;cases h
  by_cases a11:v.looks.all (lookOk v.last)=false
  · rw [checkVat,if_neg a1,if_neg a3,if_neg a4,if_neg a5,if_neg a6,if_neg a7,if_neg a8,if_neg a9,if_neg a10,if_pos a11] at h;cases h
  by_cases a12:manyL (rangesL v)>2000
  · rw [checkVat,if_neg a1,if_neg a3,if_neg a4,if_neg a5,if_neg a6,if_neg a7,if_neg a8,if_neg a9,if_neg a10,if_neg a11,if_pos a12] at h;cases h
  clear h
  simp only [numbersOk,Bool.not_eq_false,Bool.and_eq_true,decide_eq_true_eq,inR_iff,rgOf] at a4
  simp only [Bool.not_eq_false,List.all_eq_true,rgOf,lookOk,feedOk,Bool.and_eq_true,decide_eq_true_eq,inR_iff] at a8 a9 a10 a11
  obtain ⟨b0,b1,b2,b3,b4,b5⟩:=a4
  have hw:IntKind.i64.wrap (v.last+1)=v.last+1:=wrapB (by omega) (by omega)
  rw [hw] at a5 a6 a7
  exact ⟨b0,by omega,by omega,b1,b2,b3,b4,b5,by omega,by omega,by omega,a8,a9,a10,a11,by omega⟩
theorem Vat.Valid.fits (hv:v.Valid):v.Fits:=⟨by have:=hv.drift;have:=hv.last7;omega,by have:=hv.feeds;have:=hv.last7;omega,by have:=hv.dips;have:=hv.last7;omega,by have:=hv.looks5;omega⟩
theorem Vat.Valid.rgs (hv:v.Valid):Rgs (rangesL v):=by
  refine ⟨?_,?_⟩
  · have:=hv.drift;have:=hv.last7
    simp [rangesL];omega
  · intro r hr
    simp only [rangesL,List.mem_cons] at hr
    rcases hr with rfl | rfl | hr
    · have:=hv.start;omega
    · have:=hv.blue;omega
    · have:=hv.driftO r hr;omega
theorem rangesL_len : (rangesL v).length=v.drift.length+2:=by simp [rangesL]
def tOf (w:List Int):Truth:=⟨w.getD 0 0,w.getD 1 0,w.drop 2⟩
def dipN (take:Int):Nat→Int→Int
  | 0,b=>b
  | n+1,b=>max 0 (dipN take n b-take)
def feedAt (v:Vat) (d:Nat):Fd:=v.feeds.getD d default
def dipAt (v:Vat) (d:Nat):Nat:=(v.dips.getD d 0).toNat
def stAt (v:Vat) (t:Truth):Nat→St
  | 0=>⟨t.start,t.blue⟩
  | d+1=>⟨(stAt v t d).bal+((feedAt v d).lime-(feedAt v d).bran+t.drift.getD d 0),dipN v.take (dipAt v d) ((stAt v t d).blue+(feedAt v d).madder*v.gain)⟩
def playL (v:Vat) (t:Truth):List St:=(List.range v.drift.length).map fun d=>stAt v t (d+1)
theorem playL_len {t:Truth}:(playL v t).length=v.drift.length:=by simp [playL]
def rightK (k:Lk) (l:List St):Bool:=inR (if k.bal=true then (atI l k.day).bal else (atI l k.day).blue) k.n.lo k.n.hi
def rightAt (v:Vat) (out:List Int) (l:List St) (i:Nat):Bool:=decide ((i:Int)∈out)||rightK (v.looks.getD i default) l
def rightL (v:Vat) (out:List Int) (l:List St):Bool:=(List.range v.looks.length).all (rightAt v out l)
structure IsT (v:Vat) (t:Truth):Prop where
  st:v.start.lo≤t.start∧t.start≤v.start.hi
  bl:v.blue.lo≤t.blue∧t.blue≤v.blue.hi
  dl:t.drift.length=v.drift.length
  dr:∀i,i<t.drift.length→(v.drift.getD i default).lo≤t.drift.getD i default∧t.drift.getD i default≤(v.drift.getD i default).hi
def listsA (v:Vat):List (List Int):=listsF (rangesL v) []
def truthsL (v:Vat) (out:List Int):List Truth:=((listsA v).map tOf).filter fun t=>rightL v out (playL v t)
theorem getD_cons2 {α:Type} {a b:α} {l:List α} {i:Nat} {d:α}:(a::b::l).getD (2+i) d=l.getD i d:=by
  rw [Nat.add_comm];rfl
theorem isT_of {w:List Int} (hl:w.length=(rangesL v).length) (hi:InR (rangesL v) w):IsT v (tOf w):=by
  rw [rangesL_len] at hl
  refine ⟨hi 0 (by omega),hi 1 (by omega),by simp [tOf];omega,fun i h=>?_⟩
  have h1:i<v.drift.length:=by simp [tOf] at h;omega
  have:=hi (2+i) (by omega)
  rw [show (rangesL v).getD (2+i) default=v.drift.getD i default from getD_cons2] at this
  rwa [show (tOf w).drift.getD i default=w.getD (2+i) default by simp [tOf,List.getD_eq_getElem?_getD,List.getElem?_drop]]
theorem dipN_bd {take:Int} (h0:0≤take) {n:Nat} {b:Int} (hb:0≤b):0≤dipN take n b∧dipN take n b≤b:=by
  induction n with
  | zero=>exact ⟨hb,Int.le_refl _⟩
  | succ n ih=>simp only [dipN];omega
theorem getD_mem {α:Type} {l:List α} {i:Nat} {d:α} (h:i<l.length):l.getD i d∈l:=by
  rw [getD_lt _ _ _ h];exact List.getElem_mem h
theorem Vat.Valid.feedAt (hv:v.Valid) {d:Nat} (hd:d<v.drift.length):(0≤(feedAt v d).lime∧(feedAt v d).lime≤9)∧(0≤(feedAt v d).bran∧(feedAt v d).bran≤9)∧(0≤(feedAt v d).madder∧(feedAt v d).madder≤9):=
  hv.feedO _ (getD_mem (by have:=hv.drift;have:=hv.feeds;omega))
theorem Vat.Valid.dipAt (hv:v.Valid) {d:Nat} (hd:d<v.drift.length):0≤v.dips.getD d 0∧v.dips.getD d 0≤20:=
  hv.dipO _ (getD_mem (by have:=hv.drift;have:=hv.dips;omega))
theorem IsT.drift (hv:v.Valid) {t:Truth} (h:IsT v t) {d:Nat} (hd:d<v.drift.length) : -9≤t.drift.getD d 0∧t.drift.getD d 0≤9:=by
  have h1:=h.dr d (by rw [h.dl];exact hd)
  have h2:=hv.driftO _ (getD_mem (d:=default) hd)
  have e:t.drift.getD d 0=t.drift.getD d default:=rfl
  omega
theorem mul_bd {a b:Int} (h1:0≤a∧a≤9) (h2:0≤b∧b≤50):0≤a*b∧a*b≤450:=by
  refine ⟨Int.mul_nonneg h1.1 h2.1,?_⟩
  have:=Int.mul_le_mul h1.2 h2.2 h2.1 (by decide)
  omega
theorem stAt_bd (hv:v.Valid) {t:Truth} (h:IsT v t):∀{d:Nat},d≤v.drift.length→(-50-18*(d:Int)≤(stAt v t d).bal∧(stAt v t d).bal≤50+18*(d:Int))∧0≤(stAt v t d).blue∧(stAt v t d).blue≤999+450*(d:Int)
  | 0,_=>by
    have:=hv.start;have:=hv.blue;have:=h.st;have:=h.bl
    simp only [stAt];omega
  | d+1,hd=>by
    have ih:=stAt_bd hv h (d:=d) (by omega)
    have f:=hv.feedAt (d:=d) (by omega)
    have x:=h.drift hv (d:=d) (by omega)
    have m:=mul_bd f.2.2 hv.gain
    have b:=dipN_bd hv.take.1 (n:=dipAt v d) (b:=(stAt v t d).blue+(feedAt v d).madder*v.gain) (by omega)
    simp only [stAt]
    omega
theorem playL_get {t:Truth} {d:Nat} (h:d<v.drift.length) (x:St):(playL v t).getD d x=stAt v t (d+1):=by
  rw [getD_lt _ _ _ (by rw [playL_len];exact h)];simp [playL]
end Am.Vt
namespace Am.Vt
open Go Am
set_option maxRecDepth 100000
set_option maxHeartbeats 4000000
set_option linter.unusedSimpArgs false
set_option linter.unusedVariables false
def upTo (a b:Int):List Int:=(List.range (b+1-a).toNat).map fun (k:Nat)=>a+k
def prodN (rs:List Rg):Nat:=rs.foldr (fun r p=>(r.hi+1-r.lo).toNat*p) 1
theorem prodN_pos {rs:List Rg} (h:∀r∈rs,r.lo≤r.hi):1≤prodN rs:=by
  induction rs with
  | nil=>exact Nat.le_refl _
  | cons r rs ih=>
    have h1:=h r (by simp)
    have h2:=ih fun x hx=>h x (by simp [hx])
    exact Nat.mul_pos (by omega) h2
theorem many_min : ∀{rs:List Rg} {m:Nat},(∀r∈rs,-100000≤r.lo∧r.lo≤r.hi∧r.hi≤100000)→1≤m→m≤2001→rs.foldl (fun m r=>min (IntKind.i64.wrap (m*sizeI r.lo r.hi)) 2001) (m:Int)=((min (m*prodN rs) 2001:Nat):Int)
  | [],m,_,_,h=>by
    simp only [List.foldl_nil,prodN,List.foldr_nil,Nat.mul_one];omega
  | r::rs,m,h,h1,h2=>by
    obtain ⟨a,b,c⟩:=h r (by simp)
    have hz:sizeI r.lo r.hi=((r.hi+1-r.lo).toNat:Nat):=by
      unfold sizeI
      rw [wrapB (n:=r.hi-r.lo) (by omega) (by omega),wrapB (by omega) (by omega)];omega
    obtain ⟨z,hz'⟩:∃z,z=(r.hi+1-r.lo).toNat:=⟨_,rfl⟩
    rw [←hz'] at hz
    have hz1:1≤z:=by omega
    have hz2:z≤200001:=by omega
    have hmz:m*z≤2001*200001:=Nat.mul_le_mul h2 hz2
    have e:min (IntKind.i64.wrap ((m:Int)*sizeI r.lo r.hi)) 2001=((min (m*z) 2001:Nat):Int):=by
      have e2:(m:Int)*(z:Int)=((m*z:Nat):Int):=by simp
      rw [hz,e2]
      generalize m*z=p at hmz ⊢
      rw [wrapB (n:=(p:Int)) (by omega) (by omega)];omega
    have hmz1:1≤m*z:=Nat.mul_pos h1 hz1
    rw [List.foldl_cons,e,many_min (fun x hx=>h x (by simp [hx])) (by omega) (by omega)]
    have hp:=prodN_pos (rs:=rs) fun x hx=>(h x (by simp [hx])).2.1
    have ep:prodN (r::rs)=z*prodN rs:=by rw [hz'];rfl
    rw [ep,←Nat.mul_assoc]
    congr 1
    by_cases hc:m*z≤2001
    · rw [Nat.min_eq_left hc]
    · have g1:2001*1≤2001*prodN rs:=Nat.mul_le_mul_left _ hp
      have g2:2001*1≤m*z*prodN rs:=Nat.mul_le_mul (by omega) hp
      rw [Nat.min_eq_right (by omega:2001≤m*z),Nat.min_eq_right (by omega),Nat.min_eq_right (by omega)]
theorem listsF_in : ∀{rs:List Rg} {w x:List Int},x∈listsF rs w→∃y:List Int,x=w++y∧y.length=rs.length∧InR rs y
  | [],w,x,h=>by
    simp only [listsF,List.mem_singleton] at h
    exact ⟨[],by simp [h],rfl,fun i hi=>by simp at hi⟩
  | r::rs,w,x,h=>by
    simp only [listsF,List.mem_flatMap,List.mem_range] at h
    obtain ⟨n,hn,h⟩:=h
    obtain ⟨y,h1,h2,h3⟩:=listsF_in h
    refine ⟨(r.lo+(n:Int))::y,by simp [h1],by simp [h2],fun i hi=>?_⟩
    cases i with
    | zero=>simp only [List.getD_cons_zero];omega
    | succ i=>simp only [List.getD_cons_succ];exact h3 i (by simpa using hi)
theorem find_range {n:Nat} {p:Nat→Bool} {k:Nat} (hk:k<n) (h1:∀i,i<k→p i=false) (h2:p k=true):(List.range n).find? p=some k:=by
  rw [List.find?_eq_some_iff_getElem]
  refine ⟨h2,k,by simpa using hk,by simp,fun j hj=>by simpa using h1 j hj⟩
def combL (n:Int):Nat→List Int→Int→List (List Int)
  | 0,w,_=>[w]
  | m+1,w,fr=>(upTo fr (n-((m:Int)+1))).flatMap fun y=>combL n m (w++[y]) (y+1)
def setsL (n:Nat):List (List Int):=(List.range (n+1)).flatMap fun m=>combL n m [] 0
def szN (r:Rg):Nat:=(r.hi+1-r.lo).toNat
theorem listsF_mem : ∀{rs:List Rg} {y w:List Int},y.length=rs.length→InR rs y→w++y∈listsF rs w
  | [],y,w,hl,_=>by
    have:y=[]:=List.length_eq_zero_iff.1 hl
    subst this
    simp [listsF]
  | r::rs,y,w,hl,hi=>by
    cases y with
    | nil=>simp at hl
    | cons a y=>
      have h0:=hi 0 (by simp)
      simp only [List.getD_cons_zero] at h0
      simp only [listsF,List.mem_flatMap,List.mem_range]
      refine ⟨(a-r.lo).toNat,by omega,?_⟩
      have e:r.lo+((a-r.lo).toNat:Int)=a:=by omega
      rw [e,show w++a::y=(w++[a])++y by simp]
      exact listsF_mem (by simpa using hl) fun i h=>by
        have:=hi (i+1) (by simpa using h)
        simpa using this
theorem ofInt_nat {a:Nat} (h:a<2^29):(BitVec.ofInt IntKind.i64.bits (a:Int)).toNat=a:=by
  rw [BitVec.ofInt_natCast,BitVec.toNat_ofNat]
  exact Nat.mod_eq_of_lt (by show a<2^64;omega)
theorem orW {a b:Nat} (ha:a<2^29) (hb:b<2^29):IntKind.i64.wrap ((BitVec.ofInt IntKind.i64.bits (a:Int) ||| BitVec.ofInt IntKind.i64.bits (b:Int)).toNat:Int)=((a ||| b:Nat):Int):=by
  rw [BitVec.toNat_or,ofInt_nat ha,ofInt_nat hb]
  have:a ||| b<2^29:=Nat.or_lt_two_pow ha hb
  exact wrapB (by omega) (by omega)
def andn (a b:Nat):Nat:=a &&& (2^64-(b+1))
theorem shlW {a k:Nat} (hk:k≤20) (ha:a≤2):IntKind.i64.wrap ((a:Int)*2^(min k IntKind.i64.bits))=((a*2^k:Nat):Int):=by
  have e2:min k IntKind.i64.bits=k:=Nat.min_eq_left (by show k≤64;omega)
  rw [e2]
  have hpw:(a:Int)*2^k=((a*2^k:Nat):Int):=by simp
  have hpb:2^k≤2^20:=Nat.pow_le_pow_right (by omega) hk
  have:a*2^k≤2*2^20:=Nat.mul_le_mul ha hpb
  rw [hpw]
  generalize a*2^k=p at this
  exact wrapB (by omega) (by omega)
theorem u64W {k:Nat} (hk:k≤1000):IntKind.u64.wrap (k:Int)=(k:Int):=by unfold IntKind.wrap;simp [IntKind.signed,IntKind.bits];omega
def maskN (p:Nat→Bool):Nat→Nat
  | 0=>0
  | k+1=>if p k=true then maskN p k ||| 2^k else maskN p k
theorem maskN_lt {p:Nat→Bool}:∀{n:Nat},maskN p n<2^n
  | 0=>by simp [maskN]
  | k+1=>by
    have ih:=maskN_lt (p:=p) (n:=k)
    have hk:(2:Nat)^k<2^(k+1):=Nat.pow_lt_pow_right (by omega) (by omega)
    simp only [maskN]
    split
    · exact Nat.or_lt_two_pow (by omega) hk
    · omega
theorem maskN_bit {p:Nat→Bool} {i:Nat}:∀{n:Nat},(maskN p n).testBit i=(decide (i<n)&&p i)
  | 0=>by simp [maskN]
  | k+1=>by
    have ih:=maskN_bit (p:=p) (i:=i) (n:=k)
    simp only [maskN]
    split
    · rename_i h
      rw [Nat.testBit_or,ih,Nat.testBit_two_pow]
      by_cases hik:i=k
      · subst hik;simp [h]
      · have:(i<k+1)=(i<k):=by simp;omega
        simp [this,show ¬k=i from fun h=>hik h.symm]
    · rename_i h
      rw [ih]
      by_cases hik:i=k
      · subst hik;simp at h;simp [h]
      · have:(i<k+1)=(i<k):=by simp;omega
        simp [this]
theorem maskN_full {p:Nat→Bool} {n:Nat}:maskN p n=2^n-1↔(List.range n).all p=true:=by
  rw [List.all_eq_true]
  constructor
  · intro h i hi
    have hb:=maskN_bit (p:=p) (i:=i) (n:=n)
    rw [List.mem_range] at hi
    rw [h,Nat.testBit_two_pow_sub_one] at hb
    simpa [hi] using hb.symm
  · intro h
    refine Nat.eq_of_testBit_eq fun i=>?_
    rw [maskN_bit,Nat.testBit_two_pow_sub_one]
    by_cases hi:i<n
    · simp [h i (List.mem_range.2 hi)]
    · simp [hi]
end Am.Vt
namespace Am.Vt
open Go Am
set_option maxRecDepth 100000
set_option maxHeartbeats 4000000
set_option linter.unusedSimpArgs false
set_option linter.unusedVariables false
variable {v:Vat}
def nthR : List Rg→Nat→List Int
  | [],_=>[]
  | r::rs,n=>(r.lo+((n % szN r:Nat):Int))::nthR rs (n / szN r)
def restR (rs:List Rg) (n k:Nat):Nat:=(rs.take k).foldl (fun m r=>m / szN r) n
theorem nthR_len : ∀{rs:List Rg} {n:Nat},(nthR rs n).length=rs.length
  | [],_=>rfl
  | r::rs,n=>by simp only [nthR,List.length_cons,nthR_len]
theorem restR_succ {rs:List Rg} {n k:Nat} (h:k<rs.length):restR rs n (k+1)=restR rs n k / szN (rs.getD k default):=by
  unfold restR;rw [take_getD h default,List.foldl_append];rfl
theorem restR_le {rs:List Rg} {n:Nat}:∀{k:Nat},restR rs n k≤n
  | 0=>by simp [restR]
  | k+1=>by
    by_cases h:k<rs.length
    · rw [restR_succ h];exact Nat.le_trans (Nat.div_le_self _ _) restR_le
    · have:restR rs n (k+1)=restR rs n k:=by unfold restR;rw [List.take_of_length_le (by omega),List.take_of_length_le (by omega)]
      rw [this];exact restR_le
theorem nthR_get : ∀{rs:List Rg} {n k:Nat} {d:Int},k<rs.length→(nthR rs n).getD k d=(rs.getD k default).lo+((restR rs n k % szN (rs.getD k default):Nat):Int)
  | [],n,k,d,h=>by simp at h
  | r::rs,n,0,d,h=>rfl
  | r::rs,n,k+1,d,h=>by
    simp only [nthR,List.getD_cons_succ]
    rw [nthR_get (by simpa using h)]
    rfl
theorem nthR_in {rs:List Rg} (h:∀r∈rs,r.lo≤r.hi) {n:Nat}:InR rs (nthR rs n):=by
  intro i hi
  rw [nthR_len] at hi
  rw [nthR_get hi]
  have h1:=h _ (getD_mem (d:=default) hi)
  have hz:1≤szN (rs.getD i default):=by unfold szN;omega
  have hm:restR rs n i % szN (rs.getD i default)<szN (rs.getD i default):=Nat.mod_lt _ hz
  unfold szN at hm ⊢
  omega
theorem nthR_onto : ∀{rs:List Rg} {y:List Int},(∀r∈rs,r.lo≤r.hi)→y.length=rs.length→InR rs y→∃n,n<prodN rs∧nthR rs n=y
  | [],[],_,_,_=>⟨0,by simp [prodN],rfl⟩
  | [],_::_,_,h,_=>by simp at h
  | _::_,[],_,h,_=>by simp at h
  | r::rs,a::y,h,hl,hi=>by
    obtain ⟨n,hn,e⟩:=nthR_onto (rs:=rs) (y:=y) (fun x hx=>h x (by simp [hx])) (by simpa using hl) (fun i h2=>by simpa using hi (i+1) (by simpa using h2))
    have h0:=hi 0 (by simp)
    simp only [List.getD_cons_zero] at h0
    have hlt:(a-r.lo).toNat<szN r:=by unfold szN;omega
    refine ⟨(a-r.lo).toNat+szN r*n,?_,?_⟩
    · show _<szN r*prodN rs
      have:szN r*(n+1)≤szN r*prodN rs:=Nat.mul_le_mul_left _ hn
      rw [Nat.mul_succ] at this
      omega
    · simp only [nthR]
      rw [Nat.add_mul_mod_self_left,Nat.mod_eq_of_lt hlt,Nat.add_mul_div_left _ _ (by omega),Nat.div_eq_of_lt hlt,Nat.zero_add,e]
      congr 1;omega
def nthT (v:Vat) (n:Nat):Truth:=tOf (nthR (rangesL v) n)
def numsT (t:Truth):List Int:=t.start::t.blue::t.drift
theorem tOf_nums {t:Truth}:tOf (numsT t)=t:=rfl
theorem Vat.Valid.lohi (hv:v.Valid):∀r∈rangesL v,r.lo≤r.hi:=fun r hr=>(hv.rgs.2 r hr).2.1
theorem nthT_isT (hv:v.Valid) {n:Nat}:IsT v (nthT v n):=isT_of nthR_len (nthR_in hv.lohi)
theorem nums_in {t:Truth} (h:IsT v t):InR (rangesL v) (numsT t):=by
  intro i hi
  match i,hi with
  | 0,_=>exact h.st
  | 1,_=>exact h.bl
  | i+2,hi=>exact h.dr i (by simpa [numsT] using hi)
theorem nums_len {t:Truth} (h:IsT v t):(numsT t).length=(rangesL v).length:=by
  have:=h.dl
  simp [numsT,rangesL];omega
theorem isT_nth (hv:v.Valid) {t:Truth} (h:IsT v t):∃n,n<prodN (rangesL v)∧nthT v n=t:=by
  obtain ⟨n,hn,e⟩:=nthR_onto hv.lohi (nums_len h) (nums_in h)
  exact ⟨n,hn,by rw [nthT,e,tOf_nums]⟩
theorem mem_listsA (hv:v.Valid) {t:Truth}:t∈(listsA v).map tOf↔IsT v t:=by
  constructor
  · rw [List.mem_map]
    rintro ⟨w,hw,rfl⟩
    obtain ⟨y,h1,h2,h3⟩:=listsF_in hw
    rw [List.nil_append] at h1
    subst h1
    exact isT_of h2 h3
  · intro h
    rw [List.mem_map]
    refine ⟨numsT t,?_,tOf_nums⟩
    have:=listsF_mem (w:=[]) (nums_len h) (nums_in h)
    rwa [List.nil_append] at this
theorem Vat.Valid.prod (hv:v.Valid):prodN (rangesL v)≤2000∧manyL (rangesL v)=prodN (rangesL v):=by
  have h1:=hv.many
  have h2:=many_min (rs:=rangesL v) (m:=1) hv.rgs.2 (by omega) (by omega)
  have h3:manyL (rangesL v)=((min (1*prodN (rangesL v)) 2001:Nat):Int):=h2
  rw [Nat.one_mul] at h3
  omega
theorem mem_truths (hv:v.Valid) {out:List Int} {t:Truth}:t∈truthsL v out↔IsT v t∧rightL v out (playL v t)=true:=by
  rw [truthsL,List.mem_filter,mem_listsA hv]
theorem truths_isT (hv:v.Valid) {out:List Int}:∀t∈truthsL v out,IsT v t:=fun t ht=>((mem_truths hv).1 ht).1
def manyF : List Rg→Nat
  | []=>1
  | r::rs=>rs.foldl (fun n r=>min 3000 n*szN r) (szN r)
theorem many_fold : ∀{rs:List Rg} {n:Nat},(∀r∈rs,1≤szN r)→min 3000 (rs.foldl (fun n r=>min 3000 n*szN r) n)=min 3000 (n*prodN rs)
  | [],n,_=>by simp [prodN]
  | r::rs,n,h=>by
    rw [List.foldl_cons,many_fold fun x hx=>h x (by simp [hx])]
    have e:n*prodN (r::rs)=n*(szN r*prodN rs):=rfl
    rw [e,Nat.mul_assoc]
    have h1:=h r (by simp)
    have h2:1≤prodN rs:=by
      have:∀{rs:List Rg},(∀r∈rs,1≤szN r)→1≤prodN rs:=by
        intro rs
        induction rs with
        | nil=>intro _;exact Nat.le_refl _
        | cons r rs ih=>intro h;exact Nat.mul_pos (h r (by simp)) (ih fun x hx=>h x (by simp [hx]))
      exact this fun x hx=>h x (by simp [hx])
    have hp:1≤szN r*prodN rs:=Nat.mul_pos h1 h2
    generalize szN r*prodN rs=p at hp
    by_cases hn:n≤3000
    · rw [Nat.min_eq_right hn]
    · have g1:3000*1≤3000*p:=Nat.mul_le_mul_left _ hp
      have g2:3000*1≤n*p:=Nat.mul_le_mul (by omega) hp
      rw [Nat.min_eq_left (by omega:3000≤n),Nat.min_eq_left (by omega),Nat.min_eq_left (by omega)]
theorem many_prod {rs:List Rg} (h:∀r∈rs,r.lo≤r.hi):min 3000 (manyF rs)=min 3000 (prodN rs):=by
  have hz:∀r∈rs,1≤szN r:=fun r hr=>by have:=h r hr;unfold szN;omega
  cases rs with
  | nil=>rfl
  | cons r rs=>exact many_fold fun x hx=>hz x (by simp [hx])
theorem many_eq (hv:v.Valid):manyF (rangesL v)=prodN (rangesL v):=by
  have h1:=many_prod hv.lohi
  have h2:=hv.prod.1
  omega
end Am.Vt
namespace Am.Vt
open Go Am
set_option maxRecDepth 100000
set_option maxHeartbeats 4000000
set_option linter.unusedSimpArgs false
set_option linter.unusedVariables false
variable {v:Vat}
def posB (v:Vat) (out:List Int):Bool:=!(truthsL v out).isEmpty
def rightB (v:Vat) (t:Truth):Nat→Bool:=rightAt v [] (playL v t)
def maskT (v:Vat) (t:Truth):Nat:=maskN (rightB v t) v.looks.length
def allL (v:Vat):List Int:=(List.range (prodN (rangesL v))).map fun n=>(maskT v (nthT v n):Int)
def fullB (v:Vat) (n:Nat):Bool:=decide (maskT v (nthT v n)=2^v.looks.length-1)
def trK (v:Vat) (k:Nat):List Truth:=((List.range k).filter (fullB v)).map (nthT v)
def refTruths (v:Vat):List Truth:=trK v (prodN (rangesL v))
theorem trK_succ {k:Nat}:trK v (k+1)=if fullB v k=true then trK v k++[nthT v k] else trK v k:=by
  unfold trK
  rw [List.range_succ,List.filter_append,List.map_append]
  by_cases h:fullB v k=true
  · rw [if_pos h];simp [h]
  · rw [if_neg h];simp [h]
theorem trK_len {k:Nat}:(trK v k).length≤k:=by
  unfold trK;rw [List.length_map];exact Nat.le_trans (List.length_filter_le _ _) (by simp)
theorem allL_len : (allL v).length=prodN (rangesL v):=by simp [allL]
theorem fullB_right {n:Nat}:fullB v n=rightL v [] (playL v (nthT v n)):=by
  rw [Bool.eq_iff_iff,fullB,decide_eq_true_eq,maskT,maskN_full];rfl
theorem mem_refTruths (hv:v.Valid) {t:Truth}:t∈refTruths v↔t∈truthsL v []:=by
  rw [refTruths,trK,mem_truths hv,List.mem_map]
  constructor
  · rintro ⟨n,hn,rfl⟩
    rw [List.mem_filter,fullB_right] at hn
    exact ⟨nthT_isT hv,hn.2⟩
  · rintro ⟨h1,h2⟩
    obtain ⟨n,hn,rfl⟩:=isT_nth hv h1
    exact ⟨n,by rw [List.mem_filter,fullB_right];exact ⟨List.mem_range.2 hn,h2⟩,rfl⟩
theorem refTruths_nil (hv:v.Valid):refTruths v=[]↔truthsL v []=[]:=by
  constructor<;>intro h<;>refine List.eq_nil_iff_forall_not_mem.2 fun t ht=>?_
  · have:=(mem_refTruths hv).2 ht;rw [h] at this;cases this
  · have:=(mem_refTruths hv).1 ht;rw [h] at this;cases this
theorem refTruths_len (hv:v.Valid):(refTruths v).length≤2000:=Nat.le_trans trK_len hv.prod.1
def bdStep (val:Truth→Int) (s:Rg × Bool) (t:Truth):(Rg × Bool) × Bool:=((⟨min (if s.2=true then val t else s.1.lo) (val t),max (if s.2=true then val t else s.1.hi) (val t)⟩,false),true)
def bdL (val:Truth→Int) (ts:List Truth):Rg:=(foldY (bdStep val) (⟨0,0⟩,true) ts).1.1
theorem pos_mem {out:List Int}:posB v out=true↔∃t,t∈truthsL v out:=by
  unfold posB
  cases truthsL v out with
  | nil=>simp
  | cons t ts=>simp
def lvStep (v:Vat) (s w:List Int):List Int × Bool:=(w,!posB v w)
def leaveS (v:Vat):List Int:=(foldY (lvStep v) [] (setsL v.looks.length)).1
def withL (v:Vat) (l:List Lk):Vat:={ v with looks:=l }
theorem Vat.Valid.withL (hv:v.Valid) {l:List Lk} (h1:l.length≤5) (h2:∀k∈l,k∈v.looks):(withL v l).Valid:=
  ⟨hv.last0,hv.last7,h1,hv.band,hv.start,hv.blue,hv.gain,hv.take,hv.drift,hv.feeds,hv.dips,hv.driftO,hv.feedO,hv.dipO,fun k hk=>hv.looks k (h2 k hk),hv.many⟩
def firstO (v:Vat):Option Nat:=(List.range v.looks.length).find? fun i=>!posB (withL v (v.looks.take (i+1))) []
end Am.Vt
namespace Am.Vt
open Go Am
set_option maxRecDepth 100000
set_option maxHeartbeats 4000000
set_option linter.unusedSimpArgs false
set_option linter.unusedVariables false
variable {g1 g2 g3 g4:Bool × Bool} {v:Vat}
def shadeI (n:Int) (b:Bool):Int:=IntKind.i64.wrap (n.tdiv (if b=true then 10 else 20))
abbrev ksS : List (Option IntKind):=[some .i64,none]
def EsOk (es:List (List D × List C)):Prop:=∀e∈es,∃n b,e.1=[.int .i64 n,.bool b]∧e.2=[.int .i64 (shadeI n b)]
theorem EsOk.nil : EsOk []:=by intro e he;cases he
theorem EsOk.put {n:Int} {b:Bool} {es:List (List D × List C)} (h:EsOk es):EsOk (putE [.int .i64 n,.bool b] [.int .i64 (shadeI n b)] es):=by
  intro e he
  rcases putE_mem he with he | rfl
  · exact h e he
  · exact ⟨n,b,rfl,rfl⟩
theorem key_inj {n n':Int} {b b':Bool} (h:keyEq [.int .i64 n,.bool b] [.int .i64 n',.bool b']=true):n=n'∧b=b':=by
  simpa [keyEq,D.key] using h
abbrev workC (g1 g2 g3 g4:Bool × Bool) (v:Vat) (mo:Nat):List C:=[.int .i64 v.last,.int .i64 v.band,.int .i64 v.start.lo,.int .i64 v.start.hi,.int .i64 v.blue.lo,.int .i64 v.blue.hi,.int .i64 v.gain,.int .i64 v.take,L g1 v.drift,L g2 v.feeds,L g3 v.dips,L g4 v.looks,.map mo]
attribute [go_sem] workC
abbrev mapO (es:List (List D × List C)):Obj:=.map true false ksS es
def MapOk (mo:Nat) (H:List Obj):Prop:=∃es,EsOk es∧getH H mo=mapO es
theorem MapOk.keep {mo:Nat} {own:Nat→Prop} {H H':List Obj} (h:MapOk mo H) (hk:Keep own H H') (ho:¬own mo):MapOk mo H':=by
  obtain ⟨es,a,b⟩:=h
  exact ⟨es,a,hk.get ho b (by simp)⟩
theorem map_out {H H' Y:List Obj} {mo:Nat} {es es':List (List D × List C)} {X:List Obj} (hm:getH H mo=mapO es) (hok:EsOk es') (h:H'=setH (H++Y) mo (mapO es')++X):Keep (fun o=>o=mo) H H'∧MapOk mo H':=by
  have lm:=lt_of_getH (h:=H) (o:=mo) (by rw [hm];simp)
  subst h
  refine ⟨⟨by simp [length_setH];omega,fun o ho hl=>?_⟩,es',hok,?_⟩
  · rw [getH_left (by simp [length_setH];omega),getH_setH,if_neg (fun h=>ho h.1),getH_left hl]
  · rw [getH_left (by simp [length_setH];omega),getH_setH,if_pos ⟨rfl,by simp;omega⟩]
theorem corder {n:Int} {Q:V→Prop}:CallP tab 102 [vatV g1 g2 g3 g4 v,.c (.int .i64 n)] Q↔Q (.c (.bool (inR n (IntKind.i64.wrap (0-v.band)) v.band))):=CallP_of (by
  refine Val_X (fn:=f102) rfl ?_
  simp only [go_sem,f102,cwithin])
theorem Fdip {H:List Obj} {wo mo:Nat} {n:Int} {b:Bool} (hw:getH H wo = .cells (workC g1 g2 g3 g4 v mo)) (hM:MapOk mo H) :
    Fn tab (.f 135 [.c (.ptr wo 0),.agg [.int .i64 n,.bool b]] H) fun r H'=>r = .tup [.c (.int .i64 (shadeI n b)),.agg [.int .i64 (max 0 (IntKind.i64.wrap (n-v.take))),.bool b]]∧Keep (fun o=>o=mo) H H'∧MapOk mo H':=by
  refine Fn_X (fn:=f135) rfl rfl ?_
  obtain ⟨es,hok,hm⟩:=hM
  have hw2:∀X,getH (H++X) wo = .cells (workC g1 g2 g3 g4 v mo):=fun X=>getH_keep hw (by simp)
  have hm2:∀X,getH (H++X) mo=mapO es:=fun X=>getH_keep hm (by simp)
  have lw:=lt_of_getH (h:=H) (o:=wo) (by rw [hw];simp)
  have lm:=lt_of_getH (h:=H) (o:=mo) (by rw [hm];simp)
  have nwm:wo≠mo:=by rintro rfl;rw [hw] at hm;cases hm
  have q0:¬wo=H.length:=by omega
  have q1:¬H.length=wo:=by omega
  have q2:¬wo=H.length+1:=by omega
  have q3:¬H.length+1=wo:=by omega
  have q4:¬mo=H.length:=by omega
  have q5:¬H.length=mo:=by omega
  have q6:¬mo=H.length+1:=by omega
  have q7:¬H.length+1=mo:=by omega
  have hset:∀es' X,setH (H++X) mo (mapO es')=setH H mo (mapO es')++X:=fun es' X=>setH_left lm
  have hwS:∀es' X,getH (setH H mo (mapO es')++X) wo = .cells (workC g1 g2 g3 g4 v mo):=fun es' X=>by rw [getH_left (by rw [length_setH];exact lw),getH_setH,if_neg (fun h=>nwm h.1),hw]
  cases hfe:findE [.int .i64 n,.bool b] es with
  | some cs=>
    obtain ⟨e,he,hk,rfl⟩:=findE_mem hfe
    obtain ⟨n',b',h1,h2⟩:=hok e he
    rw [h1] at hk
    obtain ⟨rfl,rfl⟩:=key_inj hk
    rw [h2] at hfe
    simp only [go_sem,f135,hw2,hm2,hfe,q0,q1,q2,q3,q4,q5,q6,q7,ite_max]
    exact ⟨Keep.append,es,hok,hm2 _⟩
  | none=>
    have hs:=hset (putE [.int .i64 n,.bool b] [.int .i64 (shadeI n b)] es)
    have out:=fun X=>map_out (Y:=[]) (X:=X) hm (hok.put (n:=n) (b:=b)) (by rw [List.append_nil])
    cases b with
    | true=>
      have e1:IntKind.i64.wrap (n.tdiv 10)=shadeI n true:=rfl
      simp only [go_sem,f135,hw2,hm2,hfe,q0,q1,q2,q3,q4,q5,q6,q7,ite_max,e1,hs,hwS]
      exact out _
    | false=>
      have e1:IntKind.i64.wrap (n.tdiv 20)=shadeI n false:=rfl
      simp only [go_sem,f135,hw2,hm2,hfe,q0,q1,q2,q3,q4,q5,q6,q7,ite_max,e1,hs,hwS]
      exact out _
end Am.Vt
namespace Am.Vt
open Go Am
set_option maxRecDepth 100000
set_option maxHeartbeats 4000000
set_option linter.unusedSimpArgs false
set_option linter.unusedVariables false
variable {g1 g2 g3 g4:Bool × Bool} {v:Vat}
def ordB (v:Vat) (n:Int):Bool:=inR n (-v.band) v.band
theorem corder' (hv:v.Valid) {n:Int} {Q:V→Prop}:CallP tab 102 [vatV g1 g2 g3 g4 v,.c (.int .i64 n)] Q↔Q (.c (.bool (ordB v n))):=by
  rw [corder]
  have:=hv.band
  rw [show IntKind.i64.wrap (0-v.band) = -v.band by rw [wrapB (by omega) (by omega)];omega]
  rfl
section
variable {σ:Type} {own:Nat→Prop} {F:C} {R:σ→List Obj→Prop} {step:σ→St→σ} {wo mo tb wb:Nat} {c1:C} {t:Truth}
def SYield (N:Nat) (C0:σ→Prop) (own:Nat→Prop) (F:C) (R:σ→List Obj→Prop) (step:σ→St→σ):Prop:=
  ∀s H (st:St),N≤H.length→C0 s→R s H→CallV tab (.c F) [.agg [.int .i64 st.bal,.int .i64 st.blue]] H fun v H'=>v = .c (.bool true)∧Keep own H H'∧R (step s st) H'
abbrev sOwn (own:Nat→Prop) (mo sb o:Nat):Prop:=own o∨o=mo∨o=sb
theorem states1_ok (hv:v.Valid) (hIs:IsT v t) {H:List Obj} (hkn:known [F]=true) (h1:¬own tb) (h2:¬own wb) (h3:¬own wo) (h4:¬own mo) (h5:¬own H.length)
    (hR:∀s H1 H2,R s H1→Keep (fun o=>o=mo∨o=H.length) H1 H2→R s H2) {C0:σ→Prop} (hF:SYield (H.length+1) C0 own F R step)
    (htb:getH H tb = .cells [.int .i64 t.start,.int .i64 t.blue,c1]) (hwb:getH H wb = .cells [.ptr wo 0]) (hw:getH H wo = .cells (workC g1 g2 g3 g4 v mo)) (hM:MapOk mo H)
    (hrd:∀H',Keep (sOwn own mo H.length) H H'→RdI H' c1 t.drift) {s:σ} (hC:∀k,k<v.drift.length→C0 (((playL v t).take k).foldl step s)) (hs:R s H) :
    Fn tab (.f 143 [.c F,.c (.ptr tb 0),.c (.ptr wb 0)] H) fun _ H'=>Keep (sOwn own mo H.length) H H'∧MapOk mo H'∧R ((playL v t).foldl step s) H':=by
  refine Fn_X (fn:=f143) rfl rfl ?_
  have ltb:=lt_of_getH (h:=H) (o:=tb) (by rw [htb];simp)
  have lwb:=lt_of_getH (h:=H) (o:=wb) (by rw [hwb];simp)
  have lwo:=lt_of_getH (h:=H) (o:=wo) (by rw [hw];simp)
  have lmo:=lt_of_getH (h:=H) (o:=mo) (by obtain ⟨es,_,h⟩:=hM;rw [h];simp)
  have nwm:wo≠mo:=by rintro rfl;obtain ⟨es,_,h⟩:=hM;rw [hw] at h;cases h
  have ntm:tb≠mo:=by rintro rfl;obtain ⟨es,_,h⟩:=hM;rw [htb] at h;cases h
  have nbm:wb≠mo:=by rintro rfl;obtain ⟨es,_,h⟩:=hM;rw [hwb] at h;cases h
  have z0:¬tb=H.length:=by omega
  have z1:¬H.length=tb:=by omega
  have z2:¬wb=H.length:=by omega
  have z3:¬H.length=wb:=by omega
  have z4:¬wo=H.length:=by omega
  have z5:¬H.length=wo:=by omega
  have v1:=hv.drift
  have v2:=hv.feeds
  have v3:=hv.dips
  have v4:=hv.last7
  have v5:=hv.last0
  simp only [go_sem,f143,getH_left,ltb,lwb,lwo,z0,z1,z2,z3,z4,z5,htb,hwb,hw]
  have hR':∀s H1 X,R s H1→R s (H1++X):=fun s H1 X h=>hR _ _ _ h Keep.append
  refine RX_whileU (α:=Nat × List Obj) (fun x=>[(19,.c (.int .i64 x.1))]) (fun x=>x.2) (fun x=>x.1≤v.drift.length∧Keep (sOwn own mo H.length) H x.2∧H.length<x.2.length∧getH x.2 H.length = .cells [.int .i64 (stAt v t x.1).bal,.int .i64 (stAt v t x.1).blue]∧MapOk mo x.2∧R (((playL v t).take x.1).foldl step s) x.2) (fun x=>v.drift.length-x.1) (0,H++[.cells [.int .i64 t.start,.int .i64 t.blue]]) ⟨Nat.zero_le _,Keep.append,by simp,by simp only [go_sem,stAt],hM.keep (own:=fun _=>False) Keep.append id,hR' _ _ _ hs⟩ (by simp only [go_sem]<;>rfl) ?_
  rintro ⟨k,H1⟩ ⟨hk,hK,hlen,hsb,hM1,hRs⟩
  simp only at hk hK hlen hsb hM1 hRs
  have ns:∀{o},¬own o→o≠mo→o<H.length→¬sOwn own mo H.length o:=fun a b c h=>by rcases h with h | h | h;exact a h;exact b h;omega
  have e1:=hK.get (ns h1 ntm ltb) htb (by simp)
  have e2:=hK.get (ns h2 nbm lwb) hwb (by simp)
  have e3:=hK.get (ns h3 nwm lwo) hw (by simp)
  have j0:tb<H1.length:=by omega
  have j1:wb<H1.length:=by omega
  have j2:wo<H1.length:=by omega
  have j3:mo<H1.length:=by omega
  have j4:H.length<H1.length:=by omega
  have y0:¬tb=H1.length:=by omega
  have y1:¬H1.length=tb:=by omega
  have y2:¬tb=H1.length+1:=by omega
  have y3:¬H1.length+1=tb:=by omega
  have y4:¬wb=H1.length:=by omega
  have y5:¬H1.length=wb:=by omega
  have y6:¬wb=H1.length+1:=by omega
  have y7:¬H1.length+1=wb:=by omega
  have y8:¬wo=H1.length:=by omega
  have y9:¬H1.length=wo:=by omega
  have y10:¬wo=H1.length+1:=by omega
  have y11:¬H1.length+1=wo:=by omega
  have y12:¬H.length=H1.length:=by omega
  have y13:¬H1.length=H.length:=by omega
  have y14:¬H.length=H1.length+1:=by omega
  have y15:¬H1.length+1=H.length:=by omega
  by_cases hlt:k<v.drift.length
  · have q2:k<v.feeds.length:=by omega
    have q3:k<v.dips.length:=by omega
    have q4:k<t.drift.length:=by rw [hIs.dl];exact hlt
    have k0:(0:Int)≤k:=by omega
    have e4:IntKind.i64.wrap ((k:Int)+1)=((k+1:Nat):Int):=wrap_succ (n:=3000) (by omega) (by decide)
    obtain ⟨fd,hfd⟩:∃fd,fd=v.feeds.getD k default:=⟨_,rfl⟩
    have bfd:=hv.feedAt hlt
    have hfa:feedAt v k=fd:=hfd.symm
    rw [hfa] at bfd
    have bdr:=hIs.drift hv hlt
    have bst:=stAt_bd hv hIs (d:=k) (by omega)
    obtain ⟨st,hst⟩:∃st,st=stAt v t k:=⟨_,rfl⟩
    rw [←hst] at hsb bst
    obtain ⟨dr,hdr⟩:∃dr,dr=t.drift.getD k 0:=⟨_,rfl⟩
    rw [←hdr] at bdr
    have bm:=mul_bd bfd.2.2 hv.gain
    have hnx:stAt v t (k+1)=⟨st.bal+(fd.lime-fd.bran+dr),dipN v.take (dipAt v k) (st.blue+fd.madder*v.gain)⟩:=by rw [stAt,hfa,←hst,←hdr]
    obtain ⟨bal,hbal⟩:∃bal,bal=st.bal+(fd.lime-fd.bran+dr):=⟨_,rfl⟩
    obtain ⟨b0,hb0⟩:∃b0,b0=st.blue+fd.madder*v.gain:=⟨_,rfl⟩
    rw [←hbal,←hb0] at hnx
    have w1:IntKind.i64.wrap (fd.lime-fd.bran)=fd.lime-fd.bran:=wrapB (by omega) (by omega)
    have w2:IntKind.i64.wrap (fd.lime-fd.bran+dr)=fd.lime-fd.bran+dr:=wrapB (by omega) (by omega)
    have w3:IntKind.i64.wrap (st.bal+(fd.lime-fd.bran+dr))=bal:=by rw [←hbal];exact wrapB (by omega) (by omega)
    have w4:IntKind.i64.wrap (fd.madder*v.gain)=fd.madder*v.gain:=wrapB (by omega) (by omega)
    have w5:IntKind.i64.wrap (st.blue+fd.madder*v.gain)=b0:=by rw [←hb0];exact wrapB (by omega) (by omega)
    have bb0:0≤b0∧b0≤1000000:=by omega
    have hc:=hrd H1 hK
    obtain ⟨ea,he⟩:=hc.el (i:=(k:Int)) k0 (by exact_mod_cast q4)
    have hda:atI t.drift (k:Int)=dr:=by rw [atI_nat,hdr];rfl
    have he1:=fun Y=>(he Y).1
    have he2:=fun Y=>(he Y).2
    rw [hda] at he2
    -- the store of the balance goes to another object than the list
    have hc':∀x,RdI (setH H1 H.length x) c1 t.drift:=fun x=>hc.set fun fr ver rows h=>by rw [hsb] at h;cases h
    have bdp:=hv.dipAt hlt
    have hdp:v.dips.getD k default=((dipAt v k:Nat):Int):=by
      show v.dips.getD k 0=_
      unfold dipAt;omega
    have bdn:dipAt v k≤20:=by unfold dipAt;omega
    generalize dipAt v k=dn at hnx hdp bdn
    obtain ⟨H2,hH2⟩:∃H2,H2=setH H1 H.length (.cells [.int .i64 bal,.int .i64 st.blue])++[.cells [.int .i64 fd.lime,.int .i64 fd.bran,.int .i64 fd.madder],.cells [.int .i64 b0,.bool (ordB v bal)]]:=⟨_,rfl⟩
    have l2:H2.length=H1.length+2:=by rw [hH2];simp [length_setH]
    have gH2:∀o,o<H1.length→o≠H.length→getH H2 o=getH H1 o:=fun o h h'=>by rw [hH2,getH_left (by rw [length_setH];exact h),getH_setH,if_neg (fun e=>h' e.1)]
    have hK2:Keep (fun o=>o=mo∨o=H.length) H1 H2:=⟨by omega,fun o ho hl=>by rw [gH2 o hl (fun e=>ho (.inr e))]⟩
    have x1:getH H2 (H1.length+1) = .cells [.int .i64 (dipN v.take 0 b0),.bool (ordB v bal)]:=by
      rw [hH2];simp only [go_sem,getH_atL,length_setH,dipN]
    have x2:getH H2 H.length = .cells [.int .i64 bal,.int .i64 st.blue]:=by
      rw [hH2,getH_left (by rw [length_setH];exact hlen),getH_setH,if_pos ⟨rfl,hlen⟩]
    have d2:=(gH2 wb (by omega) (by omega)).trans e2
    have d3:=(gH2 wo (by omega) (by omega)).trans e3
    have M2:MapOk mo H2:=by
      obtain ⟨es,a,b⟩:=hM1
      exact ⟨es,a,(gH2 mo (by omega) (by omega)).trans b⟩
    have RH2:=hR _ _ _ hRs hK2
    simp only [go_sem,hlt,q2,atI_nat,←hfd,getH_left,setH_left,getH_setH,length_setH,j0,j1,j2,j3,j4,y0,y1,y2,y3,y4,y5,y6,y7,y8,y9,y10,y11,y12,y13,y14,y15,z0,z1,z2,z3,z4,z5,e1,e2,e3,hsb,he1,↓he2,w1,w2,w3,w4,w5,disj_nil,corder' hv,q3,getH_atL,getH_atL0,setH_atL,setH_atL0,isHole_atL,isHole_atL0,hdp]
    rw [←hH2]
    refine RX_whileU (α:=Nat × List Obj) (fun x=>[(66,.c (.int .i64 x.1))]) (fun x=>x.2) (fun x=>x.1≤dn∧Keep (fun o=>o=mo∨o=H1.length+1) H2 x.2∧getH x.2 (H1.length+1) = .cells [.int .i64 (dipN v.take x.1 b0),.bool (ordB v bal)]∧MapOk mo x.2) (fun x=>dn-x.1) (0,H2) ⟨Nat.zero_le _,Keep.refl,x1,M2⟩ (by simp only [go_sem]<;>rfl) ?_
    rintro ⟨i,H3⟩ ⟨hi,K3,y1,M3⟩
    simp only at hi K3 y1 M3
    have l3:=K3.1
    have f2:=K3.get (by omega) d2 (by simp)
    have f3:=K3.get (by omega) d3 (by simp)
    have f5:=K3.get (by omega) x2 (by simp)
    by_cases hi2:i<dn
    · have hi3:(i:Int)<dn:=by omega
      have e5:IntKind.i64.wrap ((i:Int)+1)=((i+1:Nat):Int):=wrap_succ (n:=3000) (by omega) (by decide)
      have bd:=dipN_bd hv.take.1 (n:=i) bb0.1
      have bt:=hv.take
      have w6:IntKind.i64.wrap (dipN v.take i b0-v.take)=dipN v.take i b0-v.take:=wrapB (by omega) (by omega)
      simp only [go_sem,hi3,f2,y1]
      refine (Fdip (g1:=g1) (g2:=g2) (g3:=g3) (g4:=g4) (v:=v) (n:=dipN v.take i b0) (b:=ordB v bal) f3 M3).mono ?_
      rintro r H4 ⟨rfl,K4,M4⟩
      have l4:=K4.1
      have y4:=K4.get (o:=H1.length+1) (by omega) y1 (by simp)
      have ly:=lt_of_getH (h:=H4) (o:=H1.length+1) (by rw [y4];simp)
      simp only [go_sem,y4,e5,w6,getH_setH,length_setH,ly]
      refine ⟨(i+1,_),⟨by simp only;omega,hi2,?_,by simp only [go_sem,getH_setH,length_setH,ly,dipN],?_⟩,rfl,rfl⟩
      · exact K3.trans ⟨by rw [length_setH];exact l4,fun o ho hl=>by rw [getH_setH,if_neg (fun e=>ho (.inr e.1)),K4.2 o (fun e=>ho (.inl e)) hl]⟩
      · exact M4.keep (own:=fun o=>o=H1.length+1) ⟨by rw [length_setH];exact Nat.le_refl _,fun o ho hl=>by rw [getH_setH,if_neg (fun e=>ho e.1)]⟩ (by omega)
    · have:i=dn:=by omega
      subst this
      have hi3:¬(i:Int)<i:=by omega
      have ly:=lt_of_getH (h:=H3) (o:=H1.length+1) (by rw [y1];simp)
      have lz:=lt_of_getH (h:=H3) (o:=H.length) (by rw [f5];simp)
      obtain ⟨H5,hH5⟩:∃H5,H5=setH H3 H.length (.cells [.int .i64 bal,.int .i64 (dipN v.take i b0)]):=⟨_,rfl⟩
      have K5:Keep (fun o=>o=mo∨o=H.length) H1 H5:=by
        refine ⟨by rw [hH5,length_setH];omega,fun o ho hl=>?_⟩
        rw [hH5,getH_setH,if_neg (fun e=>ho (.inr e.1)),K3.2 o (by omega) (by omega),hK2.2 o ho hl]
      have M5:MapOk mo H5:=by
        rw [hH5]
        exact M3.keep (own:=fun o=>o=H.length) ⟨by rw [length_setH];exact Nat.le_refl _,fun o ho hl=>by rw [getH_setH,if_neg (fun e=>ho e.1)]⟩ (by omega)
      have y5:getH H5 H.length = .cells [.int .i64 bal,.int .i64 (dipN v.take i b0)]:=by rw [hH5,getH_setH,if_pos ⟨rfl,lz⟩]
      have hk5:=K5.1
      simp only [go_sem,hi3,y1,f5,getH_setH,length_setH,lz]
      rw [←hH5]
      refine (hF _ H5 ⟨bal,dipN v.take i b0⟩ (by omega) (hC k hlt) (hR _ _ _ hRs K5)).mono ?_
      rintro r H6 ⟨rfl,K6,R6⟩
      have hk6:=K6.1
      simp only [go_sem,e4]
      refine ⟨(k+1,H6),⟨by simp only;omega,hlt,?_,by simp only;omega,?_,M5.keep K6 h4,?_⟩,rfl,rfl⟩
      · exact hK.trans ((K5.mono fun o h=>.inr h).trans (K6.mono fun o h=>.inl h))
      · simp only [hnx]
        exact K6.get h5 y5 (by simp)
      · simp only
        rw [take_getD (by rw [playL_len];exact hlt) default,List.foldl_append,playL_get hlt,hnx]
        exact R6
  · have:k=v.drift.length:=by omega
    subst this
    have hfl:¬v.drift.length<v.feeds.length:=by omega
    rw [List.take_of_length_le (by rw [playL_len];omega)] at hRs
    simp only [go_sem,hfl]
    exact ⟨hK,hM1,hRs⟩
end
end Am.Vt
namespace Am.Vt
open Go Am
set_option maxRecDepth 100000
set_option maxHeartbeats 4000000
set_option linter.unusedSimpArgs false
set_option linter.unusedVariables false
variable {g1 g2 g3 g4:Bool × Bool} {v:Vat} {t:Truth}
theorem Fstates {wo:Nat} {a b c:C} {H:List Obj} (hk:known [a,b,c]=true) {Q:V→List Obj→Prop}:Fn tab (.f 123 [.c (.ptr wo 0),.agg [a,b,c]] H) Q↔Q (.c (.fn 143 false [] [.ptr (H.length+1) 0,.ptr H.length 0])) (H++[.cells [.ptr wo 0],.cells [a,b,c]]):=by
  refine Fn_iff (Fn_X (fn:=f123) rfl rfl ?_)
  simp only [go_sem,f123,hk]
def apAssign : ACode:=(.region 1 [] [
        ⟨(some 5),.alloc [(.int .i64 0),(.int .i64 0)],none,0⟩,
        ⟨none,.store (some 2) (.tmp 5) (.tmp 7),none,1⟩])
def apBody : ACode:=(.block 1 (.region 2 [] [
          ⟨(some 8),.load none (.tmp 2),none,0⟩,
          ⟨(some 9),.load (some 2) (.tmp 5),none,0⟩,
          ⟨(some 10),.bslice 2 1 [(.int .i64 0),(.int .i64 0)] [(0,(.tmp 9))],none,0⟩,
          ⟨(some 11),.append 2 16 (.tmp 8) (.tmp 10),none,1⟩,
          ⟨none,.store none (.tmp 2) (.tmp 11),none,2⟩]))
def SLst (B:Nat) (H:List Obj) (c:C) (s:List St):Prop:=(s=[]∧c = .nils)∨∃o ver,c = .sl o ver 0 s.length∧getH H o = .arr false ver 2 (s.map Row.row)∧B<o
structure apR (m:Nat) (lp:ALoop) (s:List St) (H:List Obj):Prop where
  tc:∃c,getH H m = .cells [c]∧SLst (m+2) H c s
  lp:getH H (m+1) = .loop lp
abbrev apOwn (m:Nat) (o:Nat):Prop:=o=m∨o=m+1∨m+3≤o
theorem ap_yield {m:Nat} {lp:ALoop} {v0 v1 v3 v4 v5 v6 v7 v8 v9 v10 v11 v12:V}
    (hlp:lp=⟨.ready,.normal,[v0,v1,.c (.ptr m 0),v3,v4,v5,v6,v7,v8,v9,v10,v11,v12],[7],apAssign,apBody⟩) :
    SYield (m+3) (fun s=>s.length<1000) (apOwn m) (.yld (m+1)) (apR m lp) (fun s st=>s++[st]):=by
  intro s H st hlen hC hR
  rw [CallV_y]
  have l1:=lt_of_getH (h:=H) (o:=m+1) (by rw [hR.lp];simp)
  refine Fn_y hR.lp (by rw [hlp];rfl) ?_
  rw [show lp.assign=apAssign by rw [hlp],show lp.params=[7] by rw [hlp],show lp.slots=_ by rw [hlp]]
  have k0:m<H.length:=by omega
  have k1:m+1<H.length:=by omega
  simp only [go_sem,apAssign,setParams,assignX,hR.lp,getH_left,setH_left,k0,k1]
  refine ⟨lp,rfl,by rw [hlp],rfl,?_⟩
  generalize hlb:ALoop.mk .busy _ _ _ _ _=lb
  rw [show lp.body=apBody by rw [hlp]]
  have hlb1:∀l:ALoop,Obj.loop lb = .loop l→({ l with state:=.ready,pending:=.normal }:ALoop)=lp:=fun l h=>by cases h;rw [←hlb,hlp]
  clear hlb
  obtain ⟨H1,hH1⟩:∃H1,H1=setH H (m+1) (.loop lb):=⟨_,rfl⟩
  rw [←hH1]
  have len:H1.length=H.length:=by rw [hH1,length_setH]
  have g':∀o,o≠m+1→getH H1 o=getH H o:=fun o ho=>by rw [hH1,getH_setH,if_neg (fun h=>ho h.1)]
  obtain ⟨ct,e1,e2⟩:=hR.tc
  have e1:=(g' m (by omega)).trans e1
  have e5:getH H1 (m+1) = .loop lb:=by rw [hH1,getH_setH,if_pos ⟨rfl,l1⟩]
  have hq:=hlb1 lb rfl
  rw [←len]
  have k0:m<H1.length:=by omega
  have k1:m+1<H1.length:=by omega
  have z0:¬m=H1.length:=by omega
  have z1:¬H1.length=m:=by omega
  have z2:¬m=H1.length+1:=by omega
  have z3:¬H1.length+1=m:=by omega
  have z4:¬m=H1.length+2:=by omega
  have z5:¬H1.length+2=m:=by omega
  have z6:¬m+1=H1.length:=by omega
  have z7:¬H1.length=m+1:=by omega
  have z8:¬m+1=H1.length+1:=by omega
  have z9:¬H1.length+1=m+1:=by omega
  have z10:¬m+1=H1.length+2:=by omega
  have z11:¬H1.length+2=m+1:=by omega
  rcases e2 with ⟨rfl,rfl⟩ | ⟨o,ver,rfl,e2,e3⟩
  · simp only [go_sem,apBody,getH_left,setH_left,getH_setH,length_setH,getH_atL,getH_atL0,setH_atL,setH_atL0,isHole_atL,isHole_atL0,disj_nil,k0,k1,z0,z1,z2,z3,z4,z5,z6,z7,z8,z9,z10,z11,e1,e5,bodyX]
    refine ⟨lb,rfl,?_⟩
    rw [hq]
    refine ⟨⟨by simp [length_setH];omega,fun o ho hl=>?_⟩,⟨⟨_,?_,.inr ⟨H1.length+2,0,rfl,?_,by omega⟩⟩,?_⟩⟩
    · simp only [apOwn,not_or] at ho
      simp only [getH_left,length_setH,show o<H1.length by omega,getH_setH,ho,false_and,if_false]
      rw [g' o ho.2.1]
    · simp only [go_sem,getH_left,length_setH,getH_setH,k0,k1,z0,z1,z2,z3,z4,z5,z6,z7,z8,z9,z10,z11,false_and]
    · simp only [go_sem,getH_atL,getH_atL0,length_setH]
    · simp only [go_sem,getH_left,length_setH,getH_setH,k0,k1,z0,z1,z2,z3,z4,z5,z6,z7,z8,z9,z10,z11,false_and]
  · have e2:=(g' o (by omega)).trans e2
    have lo:=lt_of_getH (h:=H1) (o:=o) (by rw [e2];simp)
    have w0:¬o=m:=by omega
    have w1:¬m=o:=by omega
    have w2:¬o=m+1:=by omega
    have w3:¬m+1=o:=by omega
    have w4:¬o=H1.length:=by omega
    have w5:¬H1.length=o:=by omega
    have w6:¬o=H1.length+1:=by omega
    have w7:¬H1.length+1=o:=by omega
    have w8:¬o=H1.length+2:=by omega
    have w9:¬H1.length+2=o:=by omega
    have y3:(s.length+1)*16≤2^40:=by omega
    simp only [go_sem,apBody,getH_left,setH_left,getH_setH,length_setH,getH_atL,getH_atL0,setH_atL,setH_atL0,isHole_atL,isHole_atL0,disj_nil,k0,k1,z0,z1,z2,z3,z4,z5,z6,z7,z8,z9,z10,z11,e1,e5,bodyX,e2,lo,w0,w1,w2,w3,w4,w5,w6,w7,w8,w9,y3]
    refine ⟨lb,rfl,?_⟩
    rw [hq]
    refine ⟨⟨by simp [length_setH];omega,fun o' ho hl=>?_⟩,⟨⟨.sl o (ver+1) 0 (s.length+1),?_,.inr ⟨o,ver+1,by simp,?_,e3⟩⟩,?_⟩⟩
    · simp only [apOwn,not_or] at ho
      have:¬o'=o:=by omega
      simp only [getH_left,length_setH,show o'<H1.length by omega,getH_setH,ho,this,false_and,if_false]
      rw [g' o' ho.2.1]
    · simp only [go_sem,getH_left,length_setH,getH_setH,k0,k1,z0,z1,z2,z3,z4,z5,z6,z7,z8,z9,z10,z11,w0,w1,w2,w3,w4,w5,w6,w7,w8,w9,false_and]
    · simp only [go_sem,getH_left,length_setH,getH_setH,k0,k1,z0,z1,z2,z3,z4,z5,z6,z7,z8,z9,z10,z11,w0,w1,w2,w3,w4,w5,w6,w7,w8,w9,lo,false_and,List.map_append]
    · simp only [go_sem,getH_left,length_setH,getH_setH,k0,k1,z0,z1,z2,z3,z4,z5,z6,z7,z8,z9,z10,z11,w0,w1,w2,w3,w4,w5,w6,w7,w8,w9,false_and]
theorem foldl_snoc {α:Type}:∀{l s:List α},l.foldl (fun s x=>s++[x]) s=s++l
  | [],s=>by simp
  | x::l,s=>by rw [List.foldl_cons,foldl_snoc];simp
theorem Fplay (hv:v.Valid) (hIs:IsT v t) {H:List Obj} {wo mo:Nat} {c1:C} (hw:getH H wo = .cells (workC g1 g2 g3 g4 v mo)) (hM:MapOk mo H) (hrd:RdI H c1 t.drift) :
    Fn tab (.f 73 [.c (.ptr wo 0),.agg [.int .i64 t.start,.int .i64 t.blue,c1]] H) fun r H'=>∃o ver,r = .c (.sl o ver 0 v.drift.length)∧getH H' o = .arr false ver 2 ((playL v t).map Row.row)∧H.length≤o∧Keep (fun o=>o=mo) H H'∧MapOk mo H':=by
  refine Fn_X (fn:=f73) rfl rfl ?_
  have hk:known [.int .i64 t.start,.int .i64 t.blue,c1]=true:=hrd.kn []
  have hk1:known [c1]=true:=hk
  have lwo:=lt_of_getH (h:=H) (o:=wo) (by rw [hw];simp)
  have lmo:=lt_of_getH (h:=H) (o:=mo) (by obtain ⟨es,_,h⟩:=hM;rw [h];simp)
  have v1:=hv.drift
  have v4:=hv.last7
  have v5:=hv.last0
  simp only [go_sem,f73,hk,hk1,Fstates]
  refine Fn_X (fn:=f122) rfl rfl ?_
  simp only [go_sem,f122]
  refine Fn_X (fn:=f142) rfl rfl ?_
  simp only [go_sem,f142]
  refine RX_range ?_
  generalize hlp:ALoop.mk .ready _ _ _ _ _=lp
  simp only [Opd.ev,getS,CallV_fn,firstV,List.length_append,List.length_cons,List.length_nil,List.append_assoc,List.cons_append,List.nil_append,List.map_cons,List.map_nil,Nat.zero_add,Nat.reduceAdd,Nat.add_assoc,Bool.false_eq_true,if_false]
  have hy:=ap_yield (m:=H.length+3) (lp:=lp) hlp.symm
  have pl:=playL_len (v:=v) (t:=t)
  obtain ⟨G,hG⟩:∃G,G=H++[.cells [.int .i64 t.start,.int .i64 t.blue,c1],.cells [.ptr wo 0],.cells [.int .i64 t.start,.int .i64 t.blue,c1],.cells [.nils],.loop lp]:=⟨_,rfl⟩
  rw [←hG]
  have lG:G.length=H.length+5:=by rw [hG];simp
  refine (states1_ok (F:=.yld (H.length+4)) (own:=apOwn (H.length+3)) (R:=apR (H.length+3) lp) (C0:=fun s=>s.length<1000) (step:=fun s st=>s++[st]) (wo:=wo) (mo:=mo) (tb:=H.length+2) (wb:=H.length+1) (c1:=c1) (g1:=g1) (g2:=g2) (g3:=g3) (g4:=g4) hv hIs (H:=G) rfl (by omega) (by omega) (by omega) (by omega) (by omega) (fun s H1 H2 hr hk=>?_) (by rw [lG];exact hy) ?_ ?_ ?_ ?_ ?_ (s:=[]) (fun k hk=>by rw [foldl_snoc];simp;omega) ?_).mono ?_
  · obtain ⟨c,q1,q2⟩:=hr.tc
    refine ⟨⟨c,hk.get (by omega) q1 (by simp),?_⟩,hk.get (by omega) hr.lp (by simp)⟩
    rcases q2 with h | ⟨o,ver,h1,h2,h3⟩
    · exact .inl h
    · exact .inr ⟨o,ver,h1,hk.get (by omega) h2 (by simp),h3⟩
  · rw [hG];simp only [go_sem]
  · rw [hG];simp only [go_sem]
  · rw [hG];exact getH_keep hw (by simp)
  · rw [hG];exact hM.keep (own:=fun _=>False) Keep.append id
  · intro H' hk'
    refine hrd.agree fun o fr ver rows hg=>?_
    have:=lt_of_getH (h:=H) (o:=o) (by rw [hg];simp)
    have nm:o≠mo:=by rintro rfl;obtain ⟨es,_,h⟩:=hM;rw [h] at hg;cases hg
    rw [hk'.2 o (by simp only [sOwn,apOwn];omega) (by omega),hG,getH_left this]
  · exact ⟨⟨.nils,by rw [hG];simp only [go_sem],.inl ⟨rfl,rfl⟩⟩,by rw [hG];simp only [go_sem]⟩
  · rintro r H' ⟨hk',hM',hr⟩
    rw [foldl_snoc,List.nil_append] at hr
    have l4:=lt_of_getH (h:=H') (o:=H.length+4) (by rw [hr.lp];simp)
    refine ⟨lp,hr.lp,by rw [←hlp];simp,?_⟩
    rw [show lp.pending = .normal by rw [←hlp]]
    obtain ⟨c,q1,q2⟩:=hr.tc
    rcases q2 with ⟨q2,_⟩ | ⟨o,ver,rfl,q2,q3⟩
    · exfalso
      rw [q2,List.length_nil] at pl;omega
    simp only [go_sem,getH_setH,q1,false_and]
    refine ⟨o,ver,by rw [pl],by rw [if_neg (by omega)];exact q2,by omega,⟨?_,fun p hp hl=>?_⟩,?_⟩
    · rw [length_setH];omega
    · rw [getH_setH,if_neg (by omega),hk'.2 p (by simp only [sOwn,apOwn];omega) (by omega),hG,getH_left hl]
    · exact hM'.keep (own:=fun o=>o=H.length+4) ⟨by rw [length_setH];exact Nat.le_refl _,fun o ho hl=>by rw [getH_setH,if_neg (fun e=>ho e.1)]⟩ (by omega)
end Am.Vt
