/-
  A part of the proof: the texts C1, C2, C3, C4, C5, C6, C7 of this seat, joined.
-/
import Derived.Test.YtaegabccdfhfgaaGreatAmK
import Derived.Test.YtaegabccdfhfgaaGreatTab
import Derived.Test.YtaegabccdfhfgaaGreatAmI
namespace Am.Cr
open Go Am Am.Tm
set_option maxRecDepth 100000
set_option maxHeartbeats 1000000
set_option linter.unusedSimpArgs false
set_option linter.unusedVariables false
structure Lk where
  week:Int
  w:Rg
  deriving Inhabited,DecidableEq
structure Field where
  last:Int
  growth:List Rg
  wet:List Int
  base:List Int
  crops:List Int
  ripe:Int
  late:Int
  trod:Int
  looks:List Lk
  deriving Inhabited,DecidableEq
structure Truth where
  growth:List Int
  wet:List Int
  deriving Inhabited,DecidableEq
structure Crop where
  weight:Int
  strength:Int
  worth:Int
  deriving Inhabited,DecidableEq
structure Bound where
  weight:Rg
  strength:Int
  worth:Rg
  deriving Inhabited,DecidableEq
instance : Row Lk:=⟨3,fun s=>[.int .i64 s.week,.int .i64 s.w.lo,.int .i64 s.w.hi],fun _=>rfl⟩
instance : Row Crop:=⟨3,fun s=>[.int .i64 s.weight,.int .i64 s.strength,.int .i64 s.worth],fun _=>rfl⟩
instance : Row Bound:=⟨5,fun s=>[.int .i64 s.weight.lo,.int .i64 s.weight.hi,.int .i64 s.strength,.int .i64 s.worth.lo,.int .i64 s.worth.hi],fun _=>rfl⟩
instance : Row Truth:=⟨2,fun t=>[.lst (t.growth.map Row.row),.lst (t.wet.map Row.row)],fun _=>rfl⟩
@[go_sem] theorem sz_lk : Row.sz Lk=3:=rfl
@[go_sem] theorem sz_crop : Row.sz Crop=3:=rfl
@[go_sem] theorem sz_bound : Row.sz Bound=5:=rfl
@[go_sem] theorem sz_truth : Row.sz Truth=2:=rfl
@[go_sem] theorem row_lk {s:Lk}:Row.row s=[.int .i64 s.week,.int .i64 s.w.lo,.int .i64 s.w.hi]:=rfl
@[go_sem] theorem row_crop {s:Crop}:Row.row s=[.int .i64 s.weight,.int .i64 s.strength,.int .i64 s.worth]:=rfl
@[go_sem] theorem row_bound {s:Bound}:Row.row s=[.int .i64 s.weight.lo,.int .i64 s.weight.hi,.int .i64 s.strength,.int .i64 s.worth.lo,.int .i64 s.worth.hi]:=rfl
@[go_sem] theorem row_truth {t:Truth}:Row.row t=[.lst (t.growth.map Row.row),.lst (t.wet.map Row.row)]:=rfl
instance : Scal Lk:=⟨fun _=>rfl⟩
instance : Scal Crop:=⟨fun _=>rfl⟩
instance : Scal Bound:=⟨fun _=>rfl⟩
abbrev rgV (s:Rg):V:=.agg [.int .i64 s.lo,.int .i64 s.hi]
abbrev lkV (s:Lk):V:=.agg [.int .i64 s.week,.int .i64 s.w.lo,.int .i64 s.w.hi]
def elemRg : Elem Rg 2 (some 2):=⟨fun _ s=>rgV s,rfl,fun _ _ _=>rfl,fun _ _=>rfl⟩
def elemLk : Elem Lk 3 (some 3):=⟨fun _ s=>lkV s,rfl,fun _ _ _=>rfl,fun _ _=>rfl⟩
def inR (n low high:Int):Bool:=decide (low≤n)&&decide (n≤high)
theorem inR_iff {n low high:Int}:inR n low high=true↔low≤n∧n≤high:=by simp [inR]
theorem rIn {n low high:Int} {Q:V→Prop}:CallP tab 18 [.c (.int .i64 n),.c (.int .i64 low),.c (.int .i64 high)] Q↔Q (.c (.bool (inR n low high))):=CallP_of (by
  refine Val_X (fn:=f18) rfl ?_
  simp only [go_sem,f18,ge_iff_le]
  constructor<;>intro h<;>simp [h,inR])
theorem cwithin {n low high:Int} {Q:V→Prop}:CallP tab 74 [.c (.int .i64 n),.c (.int .i64 low),.c (.int .i64 high)] Q↔Q (.c (.bool (inR n low high))):=CallP_of (by
  refine Val_X (fn:=f74) rfl ?_
  simp only [go_sem,f74,ge_iff_le]
  constructor<;>intro h<;>simp [h,inR])
def rgOf (lo hi high:Int):Bool:=decide (0≤lo)&&(decide (lo≤hi)&&decide (hi≤high))
theorem cof {lo hi high:Int} {Q:V→Prop}:CallP tab 98 [.agg [.int .i64 lo,.int .i64 hi],.c (.int .i64 high)] Q↔Q (.c (.bool (rgOf lo hi high))):=CallP_of (by
  refine Val_X (fn:=f98) rfl ?_
  simp only [go_sem,f98]
  refine ⟨fun h=>⟨fun h'=>?_,fun h'=>?_⟩,fun h=>?_⟩<;>simp [rgOf, *])
theorem chas {lo hi n:Int} {Q:V→Prop}:CallP tab 72 [.agg [.int .i64 lo,.int .i64 hi],.c (.int .i64 n)] Q↔Q (.c (.bool (inR n lo hi))):=CallP_of (by
  refine Val_X (fn:=f72) rfl ?_
  simp only [go_sem,f72,cwithin])
theorem csize {lo hi:Int} {Q:V→Prop}:CallP tab 70 [.agg [.int .i64 lo,.int .i64 hi]] Q↔Q (.c (.int .i64 (sizeI lo hi))):=CallP_of (by
  refine Val_X (fn:=f70) rfl ?_
  simp only [go_sem,f70,sizeI])
theorem rSize {lo hi:Int} {Q:V→Prop}:CallP tab 44 [.agg [.int .i64 lo,.int .i64 hi]] Q↔Q (.c (.int .i64 (sizeI lo hi))):=CallP_of (by
  refine Val_X (fn:=f44) rfl ?_
  simp only [go_sem,f44,sizeI])
theorem Fgrowth {lo hi:Int} {h:List Obj} (hu:underH h.length h=true) {Q:V→List Obj→Prop}:Fn tab (.f 64 [.agg [.int .i64 lo,.int .i64 hi]] h) Q↔Q (.c (.bool (rgOf lo hi 50))) h:=Fn_iff (by
  refine Fn_XD (fn:=f64) rfl rfl ?_
  simp only [go_sem,f64,cof,hu])
theorem Fwet {n:Int} {h:List Obj} {Q:V→List Obj→Prop}:Fn tab (.f 66 [.c (.int .i64 n)] h) Q↔Q (.c (.bool (inR n 0 2))) h:=Fn_iff (by
  refine Fn_X (fn:=f66) rfl rfl ?_
  simp only [go_sem,f66,cwithin])
theorem cminimum {g:Bool × Bool} {l:List Int} (h0:0<l.length) (hl:l.length<Big) {Q:V→Prop}:CallP tab 69 [.c (L g l)] Q↔Q (.c (.int .i64 (minL l))):=CallP_of (by
  refine Val_X (fn:=f69) rfl ?_
  simp only [go_sem,f69,CallP_of (Min_ok (G:=tab) (k:=107) rfl (g:=g) h0 hl)])
theorem cmin2 {t:Bool} {a b:Int} {Q:V→Prop}:CallP tab 69 [.c (.lst t [[.int .i64 a],[.int .i64 b]])] Q↔Q (.c (.int .i64 (min a b))):=by
  have:=cminimum (g:=(false,t)) (l:=[a,b]) (show 0<2 by decide) (show 2<Big by decide) (Q:=Q)
  exact this
theorem cwider {lo hi n:Int} {Q:V→Prop}:CallP tab 96 [.agg [.int .i64 lo,.int .i64 hi],.c (.int .i64 n)] Q↔Q (.agg [.int .i64 (min lo n),.int .i64 (max hi n)]):=CallP_of (by
  refine Val_X (fn:=f96) rfl ?_
  simp only [go_sem,f96,cmin2])
theorem rWays {n:Int} {Q:V→Prop}:CallP tab 45 [.c (.int .i64 n)] Q↔Q (.c (.int .i64 (IntKind.i64.wrap (1+IntKind.i64.wrap (n.tdiv 2))))):=CallP_of (by
  refine Val_X (fn:=f45) rfl ?_
  simp only [go_sem,f45])
theorem rWithin {lo hi low high:Int} {Q:V→Prop}:CallP tab 20 [.agg [.int .i64 lo,.int .i64 hi],.c (.int .i64 low),.c (.int .i64 high)] Q↔Q (.c (.bool (decide (low≤lo)&&(decide (lo≤hi)&&decide (hi≤high))))):=CallP_of (by
  refine Val_X (fn:=f20) rfl ?_
  simp only [go_sem,f20,ge_iff_le]
  refine ⟨fun h=>⟨fun h'=>?_,fun h'=>?_⟩,fun h=>?_⟩<;>simp [*])
theorem lto {lo hi:Int} {Q:V→Prop}:CallP tab 35 [.agg [.int .i64 lo,.int .i64 hi]] Q↔Q (.agg [.int .i64 lo,.int .i64 hi]):=CallP_of (by
  refine Val_X (fn:=f35) rfl ?_
  simp only [go_sem,f35])
theorem llist {g:Bool × Bool} {a:List Int} (ha:a.length≤1000) {Q:V→Prop}:CallP tab 34 [.c (L g a)] Q↔Q (.c (L (false,false) a)):=CallP_of (by
  have hb:a.length*8≤2^40:=by omega
  refine Val_X (fn:=f34) rfl ?_
  simp only [go_sem,f34,hb])
section
variable {last ripe late trod:Int} {growth:List Rg} {wet base crops:List Int} {looks:List Lk} {g1 g2 g3 g4 g5:Bool × Bool}
theorem cweek {n:Int} {Q:V→Prop}:CallP tab 97 [.agg [.int .i64 last,L g1 growth,L g2 wet,L g3 base,L g4 crops,.int .i64 ripe,.int .i64 late,.int .i64 trod,L g5 looks],.c (.int .i64 n)] Q↔Q (.c (.bool (inR n 0 last))):=CallP_of (by
  refine Val_X (fn:=f97) rfl ?_
  simp only [go_sem,f97,cwithin])
theorem cweeks {Q:V→Prop}:CallP tab 61 [.agg [.int .i64 last,L g1 growth,L g2 wet,L g3 base,L g4 crops,.int .i64 ripe,.int .i64 late,.int .i64 trod,L g5 looks]] Q↔Q (.c (.int .i64 (IntKind.i64.wrap (last+1)))):=CallP_of (by
  refine Val_X (fn:=f61) rfl ?_
  simp only [go_sem,f61])
def lookOk (last:Int) (k:Lk):Bool:=inR k.week 0 last&&rgOf k.w.lo k.w.hi 1000
theorem Flook {a b c:Int} {h:List Obj} (hu:underH h.length h=true) {Q:V→List Obj→Prop}:Fn tab (.f 59 [.agg [.int .i64 last,L g1 growth,L g2 wet,L g3 base,L g4 crops,.int .i64 ripe,.int .i64 late,.int .i64 trod,L g5 looks],.agg [.int .i64 a,.int .i64 b,.int .i64 c]] h) Q↔Q (.c (.bool (lookOk last ⟨a,⟨b,c⟩⟩))) h:=Fn_iff (by
  refine Fn_XD (fn:=f59) rfl rfl ?_
  simp only [go_sem,f59,cweek,cof,hu,lookOk]
  simp +contextual)
def numbersOk (last ripe late trod:Int):Bool:=decide (0≤last)&&(inR ripe 1 10&&(inR late 0 50&&inR trod 0 100))
theorem cnumbers {Q:V→Prop}:CallP tab 60 [.agg [.int .i64 last,L g1 growth,L g2 wet,L g3 base,L g4 crops,.int .i64 ripe,.int .i64 late,.int .i64 trod,L g5 looks]] Q↔Q (.c (.bool (numbersOk last ripe late trod))):=CallP_of (by
  refine Val_X (fn:=f60) rfl ?_
  simp only [go_sem,f60,cwithin,ge_iff_le,numbersOk]
  refine ⟨fun h=>⟨fun h'=>⟨fun h''=>?_,fun h''=>?_⟩,fun h'=>?_⟩,fun h=>?_⟩<;>simp [*])
theorem Flooks (hs:looks.length<Big) {h:List Obj} (hu:underH h.length h=true) {Q:V→List Obj→Prop}:Fn tab (.f 67 [.c (L g5 looks),.c (.fn 59 true [.int .i64 last,L g1 growth,L g2 wet,L g3 base,L g4 crops,.int .i64 ripe,.int .i64 late,.int .i64 trod,L g5 looks] [])] h) Q↔Q (.c (.bool (looks.all (lookOk last)))) (h++[.cells [.fn 59 true [.int .i64 last,L g1 growth,L g2 wet,L g3 base,L g4 crops,.int .i64 ripe,.int .i64 late,.int .i64 trod,L g5 looks] []]]):=by
  refine All_pureS elemLk (fun _ z=>⟨_,rfl,rfl,rfl,fun _=>rfl⟩) (kN:=105) (kC:=104) (kI:=121) rfl rfl rfl rfl hs hu (by simp only [go_sem]) (lookOk last) ?_
  intro z hz h' hu'
  simp only [go_sem,elemLk]
  rw [Flook hu']
  exact ⟨rfl,rfl⟩
end
theorem Fgrowths {g:Bool × Bool} {l:List Rg} (hs:l.length<Big) {h:List Obj} (hu:underH h.length h=true) {Q:V→List Obj→Prop}:Fn tab (.f 63 [.c (L g l),.c (.fn 64 false [] [])] h) Q↔Q (.c (.bool (l.all fun r=>rgOf r.lo r.hi 50))) (h++[.cells [.fn 64 false [] []]]):=by
  refine All_pureS elemRg (fun _ z=>⟨_,rfl,rfl,rfl,fun _=>rfl⟩) (kN:=101) (kC:=100) (kI:=119) rfl rfl rfl rfl hs hu (by simp only [go_sem]) (fun r=>rgOf r.lo r.hi 50) ?_
  intro z hz h' hu'
  simp only [go_sem,elemRg]
  rw [Fgrowth hu']
  exact ⟨rfl,rfl⟩
theorem Fwets {g:Bool × Bool} {l:List Int} (hs:l.length<Big) {h:List Obj} (hu:underH h.length h=true) {Q:V→List Obj→Prop}:Fn tab (.f 65 [.c (L g l),.c (.fn 66 false [] [])] h) Q↔Q (.c (.bool (l.all fun n=>inR n 0 2))) (h++[.cells [.fn 66 false [] []]]):=by
  refine All_pure elemInt (kN:=103) (kC:=102) (kI:=120) rfl rfl rfl rfl hs hu (by simp only [go_sem]) (fun n=>inR n 0 2) ?_
  intro z hz h' hu'
  simp only [go_sem,elemInt]
  rw [Fwet]
  exact ⟨rfl,rfl⟩
end Am.Cr
namespace Am.Cr
open Go Am Am.Tm
set_option maxRecDepth 100000
set_option maxHeartbeats 4000000
set_option linter.unusedSimpArgs false
set_option linter.unusedVariables false
def chain (p:Int→Int→Bool):Int→List Int→Bool
  | _,[]=>true
  | la,y::l=>p la y&&chain p y l
def prevAt (x0:Int) (l:List Int):Nat→Int
  | 0=>x0
  | i+1=>l.getD i default
theorem chain_iff {p:Int→Int→Bool} {x0:Int} {ws:List Int}:chain p x0 ws=true↔∀i,i<ws.length→p (prevAt x0 ws i) (ws.getD i default)=true:=by
  have hall:∀(l:List Int) (j:Nat) (la:Int),ws.drop j=l→la=prevAt x0 ws j→(chain p la l=true↔∀i,j≤i→i<ws.length→p (prevAt x0 ws i) (ws.getD i default)=true):=by
    intro l
    induction l with
    | nil=>
      intro j la hd _
      have:ws.length≤j:=by simpa using hd
      exact ⟨fun _ i hi hi'=>by omega,fun _=>rfl⟩
    | cons y l ih=>
      intro j la hd hla
      have hj:j<ws.length:=by
        have:=congrArg List.length hd
        simp at this;omega
      have hy:ws.getD j default=y:=by
        have:=congrArg (·[0]?) hd
        simp at this
        simp [this]
      have hd':ws.drop (j+1)=l:=by
        have:=congrArg List.tail hd
        simpa [List.tail_drop] using this
      have:=ih (j+1) y hd' (by show y=ws.getD j default;rw [hy])
      simp only [chain,Bool.and_eq_true,this]
      constructor
      · rintro ⟨a,b⟩ i hi hi'
        by_cases e:i=j
        · subst e;rw [hy,←hla];exact a
        · exact b i (by omega) hi'
      · intro hh
        refine ⟨?_,fun i hi hi'=>hh i (by omega) hi'⟩
        have:=hh j (Nat.le_refl _) hj
        rw [hla,←hy];exact this
  have h0:=hall ws 0 x0 rfl rfl
  exact h0.trans ⟨fun h i hi=>h i (Nat.zero_le _) hi,fun h i _ hi=>h i hi⟩
def planP (last:Int) (la y:Int):Bool:=inR y (IntKind.i64.wrap (la+1)) last
def planOk (last:Int) (base l:List Int):Bool:=decide (l.length≤base.length)&&chain (planP last) (-1) l
def baseP (la y:Int):Bool:=inR y 0 la
def baseOk (base:List Int):Bool:=decide (0<base.length)&&chain baseP 200 base
section
variable {last ripe late trod:Int} {growth:List Rg} {wet base crops:List Int} {looks:List Lk} {g1 g2 g3 g4 g5:Bool × Bool}
abbrev fieldC (g1 g2 g3 g4 g5:Bool × Bool) (last:Int) (growth:List Rg) (wet base crops:List Int) (ripe late trod:Int) (looks:List Lk):List C:=[.int .i64 last,L g1 growth,L g2 wet,L g3 base,L g4 crops,.int .i64 ripe,.int .i64 late,.int .i64 trod,L g5 looks]
theorem cplan {g:Bool × Bool} {ws:List Int} (hp:ws.length<Big) {Q:V→Prop}:CallP tab 38 [.agg [.int .i64 last,L g1 growth,L g2 wet,L g3 base,L g4 crops,.int .i64 ripe,.int .i64 late,.int .i64 trod,L g5 looks],.c (L g ws)] Q↔Q (.c (.bool (planOk last base ws))):=CallP_of (by
  refine Val_X (fn:=f38) rfl ?_
  by_cases hl:ws.length≤base.length
  · simp only [go_sem,f38,hl]
    refine (All_ok elemInt (kN:=103) (kC:=102) (kI:=120) rfl rfl rfl rfl hp (fun i=>[.cells (fieldC g1 g2 g3 g4 g5 last growth wet base crops ripe late trod looks),.cells [.int .i64 (prevAt (-1) ws i)]]) 2 (fun _=>rfl) (fun i=>planP last (prevAt (-1) ws i) (ws.getD i default)) ?_).mono ?_
    · intro i hi _
      rw [CallV_fn]
      refine Fn_X (fn:=f73) rfl rfl ?_
      simp only [go_sem,f73,cwithin,elemInt,prevAt,planP]
    · rintro v h' (⟨a,rfl,rfl⟩ | ⟨i,a,b,c,rfl,rfl⟩)
      · have:planOk last base ws=true:=by simp only [planOk,chain_iff.2 a,hl,decide_true,Bool.and_self]
        simp only [go_sem,this]
      · have:planOk last base ws=false:=by
          cases h:planOk last base ws with
          | false=>rfl
          | true=>
            simp only [planOk,Bool.and_eq_true] at h
            rw [chain_iff.1 h.2 i a] at b;cases b
        simp only [go_sem,this]
  · have:planOk last base ws=false:=by simp only [planOk,hl,decide_false,Bool.false_and]
    simp only [go_sem,f38,hl,this])
theorem cbase (hp:base.length<Big) {Q:V→Prop}:CallP tab 62 [.agg [.int .i64 last,L g1 growth,L g2 wet,L g3 base,L g4 crops,.int .i64 ripe,.int .i64 late,.int .i64 trod,L g5 looks]] Q↔Q (.c (.bool (baseOk base))):=CallP_of (by
  refine Val_X (fn:=f62) rfl ?_
  by_cases hl:0<base.length
  · have hl':(base.length:Int)>0:=by omega
    simp only [go_sem,f62,hl']
    refine (All_ok elemInt (kN:=103) (kC:=102) (kI:=120) rfl rfl rfl rfl hp (fun i=>[.cells (fieldC g1 g2 g3 g4 g5 last growth wet base crops ripe late trod looks),.cells [.int .i64 (prevAt 200 base i)]]) 2 (fun _=>rfl) (fun i=>baseP (prevAt 200 base i) (base.getD i default)) ?_).mono ?_
    · intro i hi _
      rw [CallV_fn]
      refine Fn_X (fn:=f99) rfl rfl ?_
      simp only [go_sem,f99,cwithin,elemInt,prevAt,baseP]
    · rintro v h' (⟨a,rfl,rfl⟩ | ⟨i,a,b,c,rfl,rfl⟩)
      · have:baseOk base=true:=by simp only [baseOk,chain_iff.2 a,hl,decide_true,Bool.and_self]
        simp only [go_sem,this]
      · have:baseOk base=false:=by
          cases h:baseOk base with
          | false=>rfl
          | true=>
            simp only [baseOk,Bool.and_eq_true] at h
            rw [chain_iff.1 h.2 i a] at b;cases b
        simp only [go_sem,this]
  · have hl':¬(base.length:Int)>0:=by omega
    have:baseOk base=false:=by simp only [baseOk,hl,decide_false,Bool.false_and]
    simp only [go_sem,f62,hl',this])
def wetR (n:Int):Rg:=if n=2 then ⟨0,1⟩ else ⟨n,n⟩
def rangesL (growth:List Rg) (wet:List Int):List Rg:=growth++wet.map wetR
theorem cranges (h1:growth.length≤1000) (h2:wet.length≤1000) {Q:V→Prop}:CallP tab 68 [.agg [.int .i64 last,L g1 growth,L g2 wet,L g3 base,L g4 crops,.int .i64 ripe,.int .i64 late,.int .i64 trod,L g5 looks]] Q↔Q (.c (L (false,false) (rangesL growth wet))):=CallP_of (by
  refine Val_X (fn:=f68) rfl ?_
  have e1:growth.length*16≤2^40:=by omega
  simp only [go_sem,f68,e1]
  refine RX_for wet.length (fun k=>[(3,.c (.sl 1 k 0 (growth.length+k))),(13,.c (.int .i64 k))]) (fun k=>[.cells (fieldC g1 g2 g3 g4 g5 last growth wet base crops ripe late trod looks),.arr false k 2 ((growth++(wet.take k).map wetR).map Row.row)]) (fun _=>True) trivial (by simp only [go_sem]<;>rfl) ?_
  intro k hk _
  by_cases hlt:k<wet.length
  · have e2:(growth.length+k+1)*16≤2^40:=by omega
    have e3:(growth.length+(k+1))*16≤2^40:=by omega
    have e4:IntKind.i64.wrap ((k:Int)+1)=((k+1:Nat):Int):=wrap_succ (n:=2000) (by omega) (by decide)
    have e5:(growth++(wet.take k).map wetR).length=growth.length+k:=by simp;omega
    have e6:(growth++(wet.take (k+1)).map wetR).map (Row.row (α:=Rg))=(growth++(wet.take k).map wetR).map Row.row++[Row.row (wetR (wet.getD k default))]:=by
      rw [take_getD hlt default];simp
    have e7:min k wet.length=k:=by omega
    by_cases hw:wet.getD k default=2
    · have e8:wetR 2=⟨0,1⟩:=rfl
      simp only [go_sem,hlt,atI_nat,hw,e2,e3,e4,e5,e6,e8]
    · have e8:wetR (wet.getD k default)=⟨wet.getD k default,wet.getD k default⟩:=by rw [wetR,if_neg hw]
      simp only [go_sem,hlt,atI_nat,hw,e2,e3,e4,e5,e6,e8]
  · have:k=wet.length:=by omega
    subst this
    have e9:growth++(wet.take wet.length).map wetR=rangesL growth wet:=by rw [List.take_length];rfl
    have e10:(rangesL growth wet).length=growth.length+wet.length:=by simp [rangesL]
    simp only [go_sem,hlt,e9,e10])
def manyL (rs:List Rg):Int:=rs.foldl (fun m r=>min (IntKind.i64.wrap (m*sizeI r.lo r.hi)) 2001) 1
def checkField (f:Field):Int:=
  if f.last>9 then 3 else if (f.base.length:Int)>3 then 3 else if (f.looks.length:Int)>5 then 3
  else if numbersOk f.last f.ripe f.late f.trod=false then 1
  else if ¬(f.growth.length:Int)=IntKind.i64.wrap (f.last+1) then 1 else if ¬(f.wet.length:Int)=IntKind.i64.wrap (f.last+1) then 1
  else if baseOk f.base=false then 1 else if planOk f.last f.base f.crops=false then 1
  else if f.growth.all (fun r=>rgOf r.lo r.hi 50)=false then 1 else if f.wet.all (fun n=>inR n 0 2)=false then 1
  else if f.looks.all (lookOk f.last)=false then 1
  else if manyL (rangesL f.growth f.wet)>2000 then 3 else 0
structure Field.Fits (f:Field):Prop where
  growth:f.growth.length≤1000
  wet:f.wet.length≤1000
  base:f.base.length≤1000
  crops:f.crops.length≤1000
  looks:f.looks.length≤1000
abbrev fieldV (g1 g2 g3 g4 g5:Bool × Bool) (f:Field):V:=.agg [.int .i64 f.last,L g1 f.growth,L g2 f.wet,L g3 f.base,L g4 f.crops,.int .i64 f.ripe,.int .i64 f.late,.int .i64 f.trod,L g5 f.looks]
attribute [go_sem] fieldV fieldC
theorem big_of {n:Nat} (h:n≤1000):n<Big:=Nat.lt_of_le_of_lt h (by decide)
theorem cCheckField {f:Field} (hf:f.Fits) {Q:V→Prop}:CallP tab 36 [fieldV g1 g2 g3 g4 g5 f] Q↔Q (.c (.int .i64 (checkField f))):=CallP_of (by
  have b1:=big_of hf.growth
  have b2:=big_of hf.wet
  have b3:=big_of hf.base
  have b4:=big_of hf.crops
  have b5:=big_of hf.looks
  refine Val_X (fn:=f36) rfl ?_
  by_cases a1:f.last>9
  · simp only [go_sem,f36,a1,checkField]
  by_cases a2:(f.base.length:Int)>3
  · simp only [go_sem,f36,a1,a2,checkField]
  by_cases a3:(f.looks.length:Int)>5
  · simp only [go_sem,f36,a1,a2,a3,checkField]
  cases a4:numbersOk f.last f.ripe f.late f.trod with
  | false=>simp only [go_sem,f36,a1,a2,a3,cnumbers,a4,checkField]
  | true=>
  by_cases a5:¬(f.growth.length:Int)=IntKind.i64.wrap (f.last+1)
  · simp only [go_sem,f36,a1,a2,a3,cnumbers,cweeks,a4,a5,checkField]
  have a5:=Decidable.not_not.1 a5
  by_cases a6:¬(f.wet.length:Int)=IntKind.i64.wrap (f.last+1)
  · simp only [go_sem,f36,a1,a2,a3,cnumbers,cweeks,a4,a5,a6,checkField]
  have a6:=Decidable.not_not.1 a6
  cases a7:baseOk f.base with
  | false=>simp only [go_sem,f36,a1,a2,a3,cnumbers,cweeks,cbase b3,a4,a5,a6,a7,checkField]
  | true=>
  cases a8:planOk f.last f.base f.crops with
  | false=>simp only [go_sem,f36,a1,a2,a3,cnumbers,cweeks,cbase b3,cplan b4,a4,a5,a6,a7,a8,checkField]
  | true=>
  cases a9:f.growth.all (fun r=>rgOf r.lo r.hi 50) with
  | false=>simp only [go_sem,f36,a1,a2,a3,cnumbers,cweeks,cbase b3,cplan b4,Fgrowths b1,a4,a5,a6,a7,a8,a9,checkField]
  | true=>
  cases a10:f.wet.all (fun n=>inR n 0 2) with
  | false=>simp only [go_sem,f36,a1,a2,a3,cnumbers,cweeks,cbase b3,cplan b4,Fgrowths b1,Fwets b2,a4,a5,a6,a7,a8,a9,a10,checkField]
  | true=>
  cases a11:f.looks.all (lookOk f.last) with
  | false=>simp only [go_sem,f36,a1,a2,a3,cnumbers,cweeks,cbase b3,cplan b4,Fgrowths b1,Fwets b2,Flooks b5,a4,a5,a6,a7,a8,a9,a10,a11,checkField]
  | true=>
  have hr:checkField f=if manyL (rangesL f.growth f.wet)>2000 then 3 else 0:=by
    simp only [checkField,a1,a2,a3,a4,a5,a6,a7,a8,a9,a10,a11,if_false,not_true_eq_false,Bool.true_eq_false]
  rw [hr]
  have hrl:(rangesL f.growth f.wet).length≤2000:=by
    have h1:=hf.growth
    have h2:=hf.wet
    simp [rangesL];omega
  simp only [go_sem,f36,a1,a2,a3,cnumbers,cweeks,cbase b3,cplan b4,Fgrowths b1,Fwets b2,Flooks b5,cranges hf.growth hf.wet,a4,a5,a6,a7,a8,a9,a10,a11]
  unfold manyL
  generalize rangesL f.growth f.wet=rs at *
  refine RX_forC rs.length (fun k=>[(4,.c (.int .i64 ((rs.take k).foldl (fun m r=>min (IntKind.i64.wrap (m*sizeI r.lo r.hi)) 2001) 1))),(79,.c (.int .i64 k))]) (fun _=>True) rfl trivial (by simp only [go_sem]<;>rfl) ?_
  intro k hk _
  by_cases hlt:k<rs.length
  · have e4:IntKind.i64.wrap ((k:Int)+1)=((k+1:Nat):Int):=wrap_succ (n:=3000) (by omega) (by decide)
    simp only [go_sem,hlt,atI_nat,csize,cmin2,e4,take_getD hlt default,List.foldl_append,List.foldl_cons,List.foldl_nil]
  · have:k=rs.length:=by omega
    subst this
    simp only [go_sem,hlt,List.take_length]
    exact ⟨fun h=>by rw [if_pos h],fun h=>by rw [if_neg h]⟩)
end
end Am.Cr
namespace Am.Cr
open Go Am Am.Tm
set_option maxRecDepth 100000
set_option maxHeartbeats 4000000
set_option linter.unusedSimpArgs false
set_option linter.unusedVariables false
theorem splice_all {α:Type}:∀{xs l:List α},xs.length=l.length→splice 0 xs l=some xs
  | [],[],_=>rfl
  | [],_::_,h=>by simp at h
  | _::_,[],h=>by simp at h
  | x::xs,y::l,h=>by simp only [splice,splice_all (xs:=xs) (l:=l) (by simpa using h),Option.map_some]
def stF (g plan:List Int):Nat→Int × List Int
  | 0=>(0,List.replicate 10 0)
  | k+1=>(if (k:Int)∈plan then 0 else IntKind.i64.wrap ((stF g plan k).1+g.getD k default),(stF g plan k).2.set k (IntKind.i64.wrap ((stF g plan k).1+g.getD k default)))
def standing (g plan:List Int):List Int:=(stF g plan g.length).2
theorem stF_len {g plan:List Int} {k:Nat}:(stF g plan k).2.length=10:=by
  induction k with
  | zero=>rfl
  | succ k ih=>simp only [stF,List.length_set,ih]
theorem standing_len {g plan:List Int}:(standing g plan).length=10:=stF_len
theorem P54 {x:V} {g1 g2 g:Bool × Bool} {gr wt plan:List Int} (h1:gr.length≤10) (hp:plan.length<Big) {Q:V→Prop}:CallP tab 75 [x,.agg [L g1 gr,L g2 wt],.c (L g plan)] Q↔Q (.agg ((standing gr plan).map intC)):=CallP_of (by
  refine Val_X (fn:=f75) rfl ?_
  have hz:List.replicate 10 (C.int .i64 0)=(List.replicate 10 (0:Int)).map intC:=by rw [List.map_replicate]
  simp only [go_sem,f75]
  refine RX_for gr.length (fun k=>[(7,.c (.int .i64 (stF gr plan k).1)),(13,.c (.int .i64 k))]) (fun k=>[.cells [L g1 gr,L g2 wt],.cells ((stF gr plan k).2.map intC)]) (fun _=>True) trivial (by simp only [go_sem]<;>exact ⟨rfl,rfl⟩) ?_
  intro k hk _
  have hl:=stF_len (g:=gr) (plan:=plan) (k:=k)
  by_cases hlt:k<gr.length
  · have e4:IntKind.i64.wrap ((k:Int)+1)=((k+1:Nat):Int):=wrap_succ (n:=3000) (by omega) (by decide)
    have e5:(k:Int)<10:=by omega
    have e6:k<(stF gr plan k).2.length:=by omega
    have hC:=fun {Q:V→Prop}=>CallP_of (Contains_ok (G:=tab) (k:=92) rfl rfl (g:=g) (l:=plan) (v:=(k:Int)) hp) (Q:=Q)
    by_cases hm:(k:Int)∈plan
    · simp only [go_sem,hlt,atI_nat,e4,e5,hC,splice_ints e6,stF,hm]
    · simp only [go_sem,hlt,atI_nat,e4,e5,hC,splice_ints e6,stF,hm]
  · have:k=gr.length:=by omega
    subst this
    have e6:takeN 10 ((stF gr plan gr.length).2.map intC)=some ((stF gr plan gr.length).2.map intC):=part_ints hl
    have e7:=splice_all (xs:=(stF gr plan gr.length).2.map intC) (l:=(stF gr plan gr.length).2.map intC) rfl
    simp only [go_sem,hlt,standing,e6,e7,hl,toResCs_ints,known_ints])
end Am.Cr
namespace Am.Cr
open Go Am Am.Tm
set_option maxRecDepth 100000
set_option maxHeartbeats 4000000
set_option linter.unusedSimpArgs false
set_option linter.unusedVariables false
section
variable {last ripe late trod:Int} {growth:List Rg} {wet base crops:List Int} {looks:List Lk} {g1 g2 g3 g4 g5:Bool × Bool}
def before (plan:List Int) (i:Int):Int:=if 0<i then atI plan (i-1) else -1
def strengthI (base:List Int) (late ripe:Int) (plan:List Int) (i:Int):Int:=max 0 (IntKind.i64.wrap (atI base i-IntKind.i64.wrap (late*max 0 (IntKind.i64.wrap (IntKind.i64.wrap (atI plan i-before plan i)-ripe)))))
theorem P91 {g:Bool × Bool} {plan:List Int} {i:Int} (h0:0≤i) (h1:i<plan.length) (h2:i<base.length) (hp:plan.length≤1000) {Q:V→Prop}:CallP tab 32 [.agg [.int .i64 last,L g1 growth,L g2 wet,L g3 base,L g4 crops,.int .i64 ripe,.int .i64 late,.int .i64 trod,L g5 looks],.c (L g plan),.c (.int .i64 i)] Q↔Q (.c (.int .i64 (strengthI base late ripe plan i))):=CallP_of (by
  refine Val_X (fn:=f32) rfl ?_
  by_cases hi:0<i
  · have e1:IntKind.i64.wrap (i-1)=i-1:=wrapB (by omega) (by omega)
    have e2:0≤i-1:=by omega
    have e3:i-1<plan.length:=by omega
    simp only [go_sem,f32,gt_iff_lt,hi,h0,h1,h2,e1,e2,e3,strengthI,before,Int.max_comm]
  · simp only [go_sem,f32,gt_iff_lt,hi,h0,h1,h2,strengthI,before])
end
def leftI (trod n:Int) (wet:Bool):Int:=if wet=true then IntKind.i64.wrap (n-IntKind.i64.wrap ((IntKind.i64.wrap (n*trod)).tdiv 100)) else n
abbrev ksS : List (Option IntKind):=[some .i64,none]
def EsOk (trod:Int) (es:List (List D × List C)):Prop:=∀e∈es,∃n b,e.1=[.int .i64 n,.bool b]∧e.2=[.int .i64 (leftI trod n b)]
theorem EsOk.put {trod n:Int} {b:Bool} {es:List (List D × List C)} (h:EsOk trod es):EsOk trod (putE [.int .i64 n,.bool b] [.int .i64 (leftI trod n b)] es):=by
  intro e he
  rcases putE_mem he with he | rfl
  · exact h e he
  · exact ⟨n,b,rfl,rfl⟩
theorem EsOk.under {trod:Int} {es:List (List D × List C)} (h:EsOk trod es) (b:Nat):underE b es=true:=by
  induction es with
  | nil=>rfl
  | cons e es ih=>
    obtain ⟨n,c,_,h2⟩:=h e (by simp)
    simp only [underE,h2,C.underL,C.under,Bool.and_self,Bool.true_and]
    exact ih fun x hx=>h x (by simp [hx])
theorem key_inj {n n':Int} {b b':Bool} (h:keyEq [.int .i64 n,.bool b] [.int .i64 n',.bool b']=true):n=n'∧b=b':=by
  simpa [keyEq,D.key] using h
abbrev workC (g1 g2 g3 g4 g5:Bool × Bool) (f:Field) (mo:Nat):List C:=[.int .i64 f.last,L g1 f.growth,L g2 f.wet,L g3 f.base,L g4 f.crops,.int .i64 f.ripe,.int .i64 f.late,.int .i64 f.trod,L g5 f.looks,.map mo]
attribute [go_sem] workC
abbrev mapO (es:List (List D × List C)):Obj:=.map true false ksS es
variable {g1 g2 g3 g4 g5:Bool × Bool} {f:Field}
theorem F97 {H:List Obj} {wo mo:Nat} {es:List (List D × List C)} {n:Int} {b:Bool} (hw:getH H wo = .cells (workC g1 g2 g3 g4 g5 f mo)) (hm:getH H mo=mapO es) (hok:EsOk f.trod es) :
    Fn tab (.f 76 [.c (.ptr wo 0),.agg [.int .i64 n,.bool b]] H) fun v H'=>v = .c (.int .i64 (leftI f.trod n b))∧∃es' X,EsOk f.trod es'∧H'=setH H mo (mapO es')++X:=by
  refine Fn_X (fn:=f76) rfl rfl ?_
  have hw2:∀X,getH (H++X) wo = .cells (workC g1 g2 g3 g4 g5 f mo):=fun X=>getH_keep hw (by simp)
  have hm2:∀X,getH (H++X) mo=mapO es:=fun X=>getH_keep hm (by simp)
  have lw:=lt_of_getH (h:=H) (o:=wo) (by rw [hw];simp)
  have lm:=lt_of_getH (h:=H) (o:=mo) (by rw [hm];simp)
  have q1:¬wo=H.length:=by omega
  have q2:¬H.length=wo:=by omega
  have q3:¬mo=H.length:=by omega
  have q4:¬H.length=mo:=by omega
  have hset:∀es' X,setH (H++X) mo (mapO es')=setH H mo (mapO es')++X:=fun es' X=>setH_left lm
  cases hfe:findE [.int .i64 n,.bool b] es with
  | some cs=>
    obtain ⟨e,he,hk,rfl⟩:=findE_mem hfe
    obtain ⟨n',b',h1,h2⟩:=hok e he
    rw [h1] at hk
    obtain ⟨rfl,rfl⟩:=key_inj hk
    rw [h2] at hfe
    simp only [go_sem,f76,hw2,hm2,hfe,q1,q2,q3,q4]
    exact ⟨es,_,hok,by rw [setH_same hm (by simp)]⟩
  | none=>
    have hs:=hset (putE [.int .i64 n,.bool b] [.int .i64 (leftI f.trod n b)] es)
    cases b with
    | true=>
      have e1:IntKind.i64.wrap (n-IntKind.i64.wrap ((IntKind.i64.wrap (n*f.trod)).tdiv 100))=leftI f.trod n true:=rfl
      simp only [go_sem,f76,hw2,hm2,hfe,q1,q2,q3,q4,e1,hs]
      exact ⟨_,_,hok.put,rfl⟩
    | false=>
      have e1:n=leftI f.trod n false:=rfl
      rw [←e1] at hs
      simp only [go_sem,f76,hw2,hm2,hfe,q1,q2,q3,q4,hs]
      exact ⟨e1,_,_,by have:=hok.put (n:=n) (b:=false);rw [←e1] at this;exact this,rfl⟩
end Am.Cr
namespace Am.Cr
open Go Am Am.Tm
set_option maxRecDepth 100000
set_option maxHeartbeats 4000000
set_option linter.unusedSimpArgs false
set_option linter.unusedVariables false
variable {g1 g2 g3 g4 g5:Bool × Bool} {f:Field}
def cropAt (f:Field) (t:Truth) (plan:List Int) (i:Nat):Crop:=
  let n:=leftI f.trod (atI (standing t.growth plan) (atI plan i)) (decide (atI t.wet (atI plan i)>0))
  let s:=strengthI f.base f.late f.ripe plan i
  ⟨n,s,IntKind.i64.wrap (n*s)⟩
def cropsL (f:Field) (t:Truth) (plan:List Int):List Crop:=(List.range plan.length).map (cropAt f t plan)
structure Weeks (f:Field) (t:Truth) (plan:List Int):Prop where
  gr:t.growth.length≤10
  wt:∀i,i<plan.length→0≤plan.getD i default∧plan.getD i default<t.wet.length
  wl:t.wet.length≤10
  ln:plan.length≤f.base.length
  pl:plan.length≤100
theorem F52 {H:List Obj} {wo mo:Nat} {es:List (List D × List C)} {t:Truth} {plan:List Int} {c1 c2 cp:C} (hw:getH H wo = .cells (workC g1 g2 g3 g4 g5 f mo)) (hm:getH H mo=mapO es) (hok:EsOk f.trod es)
    (r1:RdI H c1 t.growth) (r2:RdI H c2 t.wet) (rp:RdI H cp plan) (hp:Weeks f t plan) :
    Fn tab (.f 40 [.c (.ptr wo 0),.agg [c1,c2],.c cp] H) fun v H'=>∃es' X,EsOk f.trod es'∧H'=setH H mo (mapO es')++(.cells [c1,c2] :: .cells ((standing t.growth plan).map intC) :: .arr false plan.length 3 ((cropsL f t plan).map Row.row)::X)∧v = .c (.sl (H.length+2) plan.length 0 plan.length):=by
  refine Fn_X (fn:=f40) rfl rfl ?_
  obtain ⟨gp,ap⟩:=rp.arg
  obtain ⟨ga,a1⟩:=r1.arg
  obtain ⟨gb,a2⟩:=r2.arg
  have lw:=lt_of_getH (h:=H) (o:=wo) (by rw [hw];simp)
  have lm:=lt_of_getH (h:=H) (o:=mo) (by rw [hm];simp)
  have hpB:plan.length<Big:=Nat.lt_of_le_of_lt hp.pl (by decide)
  have k1:=r1.kn [c2]
  have k2:=r2.kn []
  have hsl:=standing_len (g:=t.growth) (plan:=plan)
  have e7:=splice_all (xs:=(standing t.growth plan).map intC) (l:=(List.replicate 10 (0:Int)).map intC) (by simp [hsl])
  rw [List.map_replicate] at e7
  simp only [List.replicate_succ,List.replicate_zero] at e7
  simp only [go_sem,f40,k1,k2,ap,a1,a2,P54 hp.gr hpB,hsl,rp.len,e7]
  have hs0:setH H mo (mapO es)=H:=setH_same hm (by simp)
  refine RX_whileU (α:=Nat × List (List D × List C) × List Obj) (fun x=>[(6,.c (.sl (H.length+2) x.1 0 x.1)),(18,.c (.int .i64 x.1))]) (fun x=>setH H mo (mapO x.2.1)++(.cells [c1,c2] :: .cells ((standing t.growth plan).map intC) :: .arr false x.1 3 ((((List.range x.1).map (cropAt f t plan))).map Row.row)::x.2.2)) (fun x=>x.1≤plan.length∧EsOk f.trod x.2.1) (fun x=>plan.length-x.1) (0,es,[]) ⟨Nat.zero_le _,hok⟩ (by simp only [go_sem,hs0]<;>rfl) ?_
  rintro ⟨k,es1,X⟩ ⟨hk,hok1⟩
  simp only at hk hok1
  have nowo:wo≠mo:=by rintro rfl;rw [hw] at hm;cases hm
  have harr:∀fr ver rows,getH H mo ≠ .arr fr ver 1 rows:=fun _ _ _ h=>by rw [hm] at h;cases h
  have hwS:∀e Y,getH (setH H mo (mapO e)++Y) wo = .cells (workC g1 g2 g3 g4 g5 f mo):=fun e Y=>by rw [getH_left (by rw [length_setH];exact lw),getH_setH,if_neg (fun h=>nowo h.1),hw]
  have hmS:∀e Y,getH (setH H mo (mapO e)++Y) mo=mapO e:=fun e Y=>by rw [getH_left (by rw [length_setH];exact lm),getH_setH,if_pos ⟨rfl,lm⟩]
  by_cases h1:k<plan.length
  · have e4:IntKind.i64.wrap ((k:Int)+1)=((k+1:Nat):Int):=wrap_succ (n:=3000) (by have:=hp.pl;omega) (by decide)
    obtain ⟨p0,p1⟩:=hp.wt k h1
    have p2:=hp.wl
    obtain ⟨ea,he⟩:=(rp.set harr (x:=mapO es1)).el (i:=(k:Int)) (by omega) (by exact_mod_cast h1)
    have he1:=fun Y=>(he Y).1
    have he2:=fun Y=>(he Y).2
    have hat:atI plan (k:Int)=plan.getD k default:=atI_nat _ _
    rw [hat] at he2
    generalize hwk:plan.getD k default=wk at *
    have p3:wk<10:=by omega
    have p4:wk.toNat<(standing t.growth plan).length:=by omega
    have hst:=takeN_ints1 (l:=standing t.growth plan) p4
    obtain ⟨eb,hb⟩:=(r2.set harr (x:=mapO es1)).el (i:=wk) p0 p1
    have hb1:=fun Y=>(hb Y).1
    have hb2:=fun Y=>(hb Y).2
    simp only [go_sem,h1,he1,↓he2,hb1,↓hb2,p0,p1,p3,hst]
    refine (F97 (es:=es1) (hwS _ _) (hmS _ _) hok1).mono ?_
    rintro v H' ⟨rfl,es2,X2,hok2,rfl⟩
    rw [setH_left (by rw [length_setH];omega),setH_twice,List.append_assoc,List.cons_append,List.cons_append,List.cons_append]
    generalize X++X2=X at *
    have hw2:=hwS es2
    have hb2':=(rp.set harr (x:=mapO es2)).arg
    obtain ⟨g2',ap2⟩:=hb2'
    have c1':(k+1)*24≤2^40:=by have:=hp.pl;omega
    have k0:(0:Int)≤k:=by omega
    have k1':(k:Int)<plan.length:=by omega
    have k2':(k:Int)<f.base.length:=by have:=hp.ln;omega
    have hPs:=fun {Q:V→Prop}=>P91 (last:=f.last) (ripe:=f.ripe) (late:=f.late) (trod:=f.trod) (growth:=f.growth) (wet:=f.wet) (base:=f.base) (crops:=f.crops) (looks:=f.looks) (g1:=g1) (g2:=g2) (g3:=g3) (g4:=g4) (g5:=g5) (g:=g2') (plan:=plan) (i:=(k:Int)) k0 k1' k2' (by have:=hp.pl;omega) (Q:=Q)
    have hrow:((List.range (k+1)).map (cropAt f t plan)).map Row.row=((List.range k).map (cropAt f t plan)).map Row.row++[[.int .i64 (leftI f.trod ((standing t.growth plan).getD wk.toNat default) (decide (atI t.wet wk>0))),.int .i64 (strengthI f.base f.late f.ripe plan k),.int .i64 (IntKind.i64.wrap (leftI f.trod ((standing t.growth plan).getD wk.toNat default) (decide (atI t.wet wk>0))*strengthI f.base f.late f.ripe plan k))]]:=by
      rw [List.range_succ,List.map_append,List.map_append]
      simp only [List.map_cons,List.map_nil,cropAt,hat]
      rfl
    simp only [go_sem,hw2,hwS,ap2,hPs,e4,c1']
    refine ⟨(k+1,es2,X++[.arr false 0 3 [[.int .i64 (leftI f.trod ((standing t.growth plan).getD wk.toNat default) (decide (atI t.wet wk>0))),.int .i64 (strengthI f.base f.late f.ripe plan k),.int .i64 (IntKind.i64.wrap (leftI f.trod ((standing t.growth plan).getD wk.toNat default) (decide (atI t.wet wk>0))*strengthI f.base f.late f.ripe plan k))]],.none]),⟨by simp only;omega,h1,hok2⟩,?_⟩
    simp only [hrow,and_self]
  · have:k=plan.length:=by omega
    subst this
    simp only [go_sem,h1]
    exact ⟨es1,X,hok1,rfl⟩
end Am.Cr
namespace Am.Cr
open Go Am Am.Tm
set_option maxRecDepth 100000
set_option maxHeartbeats 4000000
set_option linter.unusedSimpArgs false
set_option linter.unusedVariables false
variable {g1 g2 g3 g4 g5:Bool × Bool} {f:Field}
theorem nth_lt' {α:Type} [Inhabited α] {l:List α} {k:Nat} (h:k<l.length):nth l k=some (l.getD k default):=by
  rw [nth_get,List.getElem?_eq_getElem h,List.getD_eq_getElem?_getD,List.getElem?_eq_getElem h];rfl
def sumW (l:List Crop):Int:=l.foldl (fun s c=>IntKind.i64.wrap (s+c.worth)) 0
def worthI (f:Field) (t:Truth) (plan:List Int):Int:=sumW (cropsL f t plan)
theorem cropsL_len {t:Truth} {plan:List Int}:(cropsL f t plan).length=plan.length:=by simp [cropsL]
end Am.Cr
namespace Am.Cr
open Go Am Am.Tm
set_option maxRecDepth 100000
set_option maxHeartbeats 4000000
set_option linter.unusedSimpArgs false
set_option linter.unusedVariables false
variable {g1 g2 g3 g4 g5:Bool × Bool} {f:Field}
structure Field.Valid (f:Field):Prop where
  last0:0≤f.last
  last9:f.last≤9
  base3:f.base.length≤3
  looks5:f.looks.length≤5
  ripe:1≤f.ripe∧f.ripe≤10
  late:0≤f.late∧f.late≤50
  trod:0≤f.trod∧f.trod≤100
  growth:(f.growth.length:Int)=f.last+1
  wet:(f.wet.length:Int)=f.last+1
  base:baseOk f.base=true
  crops:planOk f.last f.base f.crops=true
  growths:∀r∈f.growth,0≤r.lo∧r.lo≤r.hi∧r.hi≤50
  wets:∀n∈f.wet,0≤n∧n≤2
  looks:∀k∈f.looks,(0≤k.week∧k.week≤f.last)∧0≤k.w.lo∧k.w.lo≤k.w.hi∧k.w.hi≤1000
  many:manyL (rangesL f.growth f.wet)≤2000
theorem valid_of (h:checkField f=0):f.Valid:=by
  by_cases a1:f.last>9
  · simp only [checkField,a1,if_true] at h;cases h
  by_cases a2:(f.base.length:Int)>3
  · simp only [checkField,a1,a2,if_true,if_false] at h;cases h
  by_cases a3:(f.looks.length:Int)>5
  · simp only [checkField,a1,a2,a3,if_true,if_false] at h;cases h
  by_cases a4:numbersOk f.last f.ripe f.late f.trod=false
  · simp only [checkField,a1,a2,a3,a4,if_true,if_false] at h;cases h
  by_cases a5:¬(f.growth.length:Int)=IntKind.i64.wrap (f.last+1)
  · rw [checkField,if_neg a1,if_neg a2,if_neg a3,if_neg a4,if_pos a5] at h;cases h
  by_cases a6:¬(f.wet.length:Int)=IntKind.i64.wrap (f.last+1)
  · rw [checkField,if_neg a1,if_neg a2,if_neg a3,if_neg a4,if_neg a5,if_pos a6] at h;cases h
  by_cases a7:baseOk f.base=false
  · rw [checkField,if_neg a1,if_neg a2,if_neg a3,if_neg a4,if_neg a5,if_neg a6,if_pos a7] at h;cases h
  by_cases a8:planOk f.last f.base f.crops=false
  · rw [checkField,if_neg a1,if_neg a2,if_neg a3,if_neg a4,if_neg a5,if_neg a6,if_neg a7,if_pos a8] at h;cases h
  by_cases a9:f.growth.all (fun r=>rgOf r.lo r.hi 50)=false
  · rw [checkField,if_neg a1,if_neg a2,if_neg a3,if_neg a4,if_neg a5,if_neg a6,if_neg a7,if_neg a8,if_pos a9] at h;cases h
  by_cases a10:f.wet.all (fun n=>inR n 0 2)=false
  · rw [checkField,if_neg a1,if_neg a2,if_neg a3,if_neg a4,if_neg a5,if_neg a6,if_neg a7,if_neg a8,if_neg a9,if_pos a10] at h;cases h
  by_cases a11:f.looks.all (lookOk f.last)=false
  · rw [checkField,if_neg a1,if_neg a2,if_neg a3,if_neg a4,if_neg a5,if_neg a6,if_neg a7,if_neg a8,if_neg a9,if_neg a10,if_pos a11] at h;cases h
  by_cases a12:manyL (rangesL f.growth f.wet)>2000
  · rw [checkField,if_neg a1,if_neg a2,if_neg a3,if_neg a4,if_neg a5,if_neg a6,if_neg a7,if_neg a8,if_neg a9,if_neg a10,if_neg a11,if_pos a12] at h;cases h
  clear h
  simp only [numbersOk,Bool.not_eq_false,Bool.and_eq_true,decide_eq_true_eq,inR_iff] at a4
  simp only [Bool.not_eq_false,List.all_eq_true,rgOf,lookOk,Bool.and_eq_true,decide_eq_true_eq,inR_iff] at a9 a10 a11
  simp only [Bool.not_eq_false] at a7 a8
  obtain ⟨b0,b1,b2,b3⟩:=a4
  have hw:IntKind.i64.wrap (f.last+1)=f.last+1:=wrapB (by omega) (by omega)
  rw [hw] at a5 a6
  exact ⟨b0,by omega,by omega,by omega,b1,b2,b3,by omega,by omega,a7,a8,a9,a10,a11,by omega⟩
theorem Field.Valid.fits (hv:f.Valid) (hc:f.crops.length≤1000):f.Fits:=⟨by have:=hv.growth;have:=hv.last9;omega,by have:=hv.wet;have:=hv.last9;omega,by have:=hv.base3;omega,hc,by have:=hv.looks5;omega⟩
theorem plan_le {last:Int} {base l:List Int} (h:planOk last base l=true):l.length≤base.length:=by
  simp only [planOk,Bool.and_eq_true,decide_eq_true_eq] at h;exact h.1
theorem plan_in {last:Int} (h9:last≤9) {base l:List Int} (h:planOk last base l=true):∀i,i<l.length→(-1:Int)<l.getD i default∧l.getD i default≤last∧prevAt (-1) l i<l.getD i default:=by
  simp only [planOk,Bool.and_eq_true,decide_eq_true_eq,chain_iff] at h
  intro i
  induction i with
  | zero=>
    intro hi
    have:=h.2 0 hi
    simp only [prevAt,planP,inR_iff] at this ⊢
    rw [wrapB (by omega) (by omega)] at this
    omega
  | succ i ih=>
    intro hi
    have h1:=ih (by omega)
    have:=h.2 (i+1) hi
    simp only [prevAt,planP,inR_iff] at this ⊢
    rw [wrapB (by omega) (by omega)] at this
    omega
theorem Field.Valid.rgs (hv:f.Valid):Rgs (rangesL f.growth f.wet):=by
  refine ⟨?_,?_⟩
  · have:=hv.growth;have:=hv.wet;have:=hv.last9
    simp [rangesL];omega
  · intro r hr
    simp only [rangesL,List.mem_append,List.mem_map] at hr
    rcases hr with hr | ⟨n,hn,rfl⟩
    · have:=hv.growths r hr;omega
    · have:=hv.wets n hn
      unfold wetR
      split
      · exact ⟨by show (-100000:Int)≤0;omega,by show (0:Int)≤1;omega,by show (1:Int)≤100000;omega⟩
      · exact ⟨by show -100000≤n;omega,Int.le_refl _,by show n≤100000;omega⟩
theorem rangesL_len : (rangesL f.growth f.wet).length=f.growth.length+f.wet.length:=by simp [rangesL]
def tOf (f:Field) (w:List Int):Truth:=⟨w.take f.growth.length,w.drop f.growth.length⟩
def rightAt (f:Field) (out own:List Int) (i:Nat):Bool:=decide ((i:Int)∈out)||inR (atI own (f.looks.getD i default).week) (f.looks.getD i default).w.lo (f.looks.getD i default).w.hi
def rightL (f:Field) (out own:List Int):Bool:=(List.range f.looks.length).all (rightAt f out own)
structure IsT (f:Field) (t:Truth):Prop where
  gl:t.growth.length=f.growth.length
  wl:t.wet.length=f.wet.length
  gr:∀i,i<t.growth.length→(f.growth.getD i default).lo≤t.growth.getD i default∧t.growth.getD i default≤(f.growth.getD i default).hi
  wr:∀i,i<t.wet.length→(wetR (f.wet.getD i default)).lo≤t.wet.getD i default∧t.wet.getD i default≤(wetR (f.wet.getD i default)).hi
def listsA (f:Field):List (List Int):=listsF (rangesL f.growth f.wet) []
def truthsL (f:Field) (out:List Int):List Truth:=((listsA f).map (tOf f)).filter fun t=>rightL f out (standing t.growth f.crops)
theorem isT_of {w:List Int} (hl:w.length=(rangesL f.growth f.wet).length) (hi:InR (rangesL f.growth f.wet) w):IsT f (tOf f w):=by
  rw [rangesL_len] at hl
  refine ⟨by simp [tOf];omega,by simp [tOf];omega,fun i h=>?_,fun i h=>?_⟩
  · have h1:i<f.growth.length:=by simp [tOf] at h;omega
    have:=hi i (by omega)
    rw [show (rangesL f.growth f.wet).getD i default=f.growth.getD i default by simp [rangesL,List.getD_eq_getElem?_getD,List.getElem?_append,h1]] at this
    rwa [show (tOf f w).growth.getD i default=w.getD i default by simp [tOf,List.getD_eq_getElem?_getD,List.getElem?_take,h1]]
  · have h1:i<f.wet.length:=by simp [tOf] at h;omega
    have:=hi (f.growth.length+i) (by omega)
    rw [show (rangesL f.growth f.wet).getD (f.growth.length+i) default=wetR (f.wet.getD i default) by simp [rangesL,List.getD_eq_getElem?_getD,List.getElem?_append,h1]] at this
    rwa [show (tOf f w).wet.getD i default=w.getD (f.growth.length+i) default by simp [tOf,List.getD_eq_getElem?_getD,List.getElem?_drop]]
end Am.Cr
