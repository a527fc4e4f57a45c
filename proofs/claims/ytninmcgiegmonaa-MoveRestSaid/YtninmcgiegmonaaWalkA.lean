/-
  A part of the proof: the texts M1, M2, M3, M4, M5 of this seat, joined.
-/
import Derived.Test.YtninmcgiegmonaaAmI
import Derived.Test.YtninmcgiegmonaaTab
namespace Am.Mv
open Go Am Am.Tm
set_option maxRecDepth 100000
set_option maxHeartbeats 1000000
set_option linter.unusedSimpArgs false
set_option linter.unusedVariables false
structure Site where
  fresh:Int
  second:Int
  rent:Int
  deriving Inhabited,DecidableEq
structure Year where
  crop:Int
  cost:Int
  money:Int
  deriving Inhabited,DecidableEq
structure Land where
  last:Int
  home:Int
  purse:Int
  bad:Int
  rest:Int
  sites:List Site
  roads:List (List Int)
  deriving Inhabited,DecidableEq
instance : Row Site:=⟨3,fun s=>[.int .i64 s.fresh,.int .i64 s.second,.int .i64 s.rent],fun _=>rfl⟩
instance : Row Year:=⟨3,fun s=>[.int .i64 s.crop,.int .i64 s.cost,.int .i64 s.money],fun _=>rfl⟩
@[go_sem] theorem sz_site : Row.sz Site=3:=rfl
@[go_sem] theorem sz_year : Row.sz Year=3:=rfl
@[go_sem] theorem row_site {s:Site}:Row.row s=[.int .i64 s.fresh,.int .i64 s.second,.int .i64 s.rent]:=rfl
@[go_sem] theorem row_year {s:Year}:Row.row s=[.int .i64 s.crop,.int .i64 s.cost,.int .i64 s.money]:=rfl
instance : Scal Site:=⟨fun _=>rfl⟩
instance : Scal Year:=⟨fun _=>rfl⟩
abbrev siteV (s:Site):V:=.agg [.int .i64 s.fresh,.int .i64 s.second,.int .i64 s.rent]
def elemSite : Elem Site 3 (some 3):=⟨fun _ s=>siteV s,rfl,fun _ _ _=>rfl,fun _ _=>rfl⟩
def inR (n low high:Int):Bool:=decide (low≤n)&&decide (n≤high)
theorem inR_iff {n low high:Int}:inR n low high=true↔low≤n∧n≤high:=by simp [inR]
theorem P32 {n low high:Int} {Q:V→Prop}:CallP tab 49 [.c (.int .i64 n),.c (.int .i64 low),.c (.int .i64 high)] Q↔Q (.c (.bool (inR n low high))):=CallP_of (by
  refine Val_X (fn:=f49) rfl ?_
  simp only [go_sem,f49,ge_iff_le]
  constructor<;>intro h<;>simp [h,inR])
theorem P56 {n low high:Int} {Q:V→Prop}:CallP tab 41 [.c (.int .i64 n),.c (.int .i64 low),.c (.int .i64 high)] Q↔Q (.c (.bool (inR n low high))):=CallP_of (by
  refine Val_X (fn:=f41) rfl ?_
  simp only [go_sem,f41,ge_iff_le]
  constructor<;>intro h<;>simp [h,inR])
def isCost (n:Int):Bool:=inR n 0 99
theorem P77 {n:Int} {Q:V→Prop}:CallP tab 57 [.c (.int .i64 n)] Q↔Q (.c (.bool (isCost n))):=CallP_of (by
  refine Val_X (fn:=f57) rfl ?_
  simp only [go_sem,f57,P56,isCost])
theorem F77 {n:Int} {h:List Obj} {Q:V→List Obj→Prop}:Fn tab (.f 57 [.c (.int .i64 n)] h) Q↔Q (.c (.bool (isCost n))) h:=Fn_iff (by
  refine Fn_X (fn:=f57) rfl rfl ?_
  simp only [go_sem,f57,P56,isCost])
section
variable {last home purse bad rest:Int} {g1 g2:Bool × Bool} {sites:List Site} {roads:List (List Int)}
def isSite (sites:List Site) (n:Int):Bool:=inR n 0 (sites.length-1)
theorem P55 {n:Int} (hs:sites.length<Big) {Q:V→Prop}:CallP tab 36 [.agg [.int .i64 last,.int .i64 home,.int .i64 purse,.int .i64 bad,.int .i64 rest,L g1 sites,L g2 roads],.c (.int .i64 n)] Q↔Q (.c (.bool (isSite sites n))):=CallP_of (by
  have hs':sites.length<4611686018427387904:=hs
  have hw:IntKind.i64.wrap ((sites.length:Int)-1)=sites.length-1:=wrap_id _ (by omega) (by omega)
  refine Val_X (fn:=f36) rfl ?_
  simp only [go_sem,f36,P56,isSite,hw])
theorem F55 {n:Int} (hs:sites.length<Big) {h:List Obj} (hu:underH h.length h=true) {Q:V→List Obj→Prop}:Fn tab (.f 36 [.agg [.int .i64 last,.int .i64 home,.int .i64 purse,.int .i64 bad,.int .i64 rest,L g1 sites,L g2 roads],.c (.int .i64 n)] h) Q↔Q (.c (.bool (isSite sites n))) h:=Fn_iff (by
  have hs':sites.length<4611686018427387904:=hs
  have hw:IntKind.i64.wrap ((sites.length:Int)-1)=sites.length-1:=wrap_id _ (by omega) (by omega)
  refine Fn_XD (fn:=f36) rfl rfl ?_
  simp only [go_sem,f36,P56,isSite,hw,hu])
def siteOk (s:Site):Bool:=isCost s.fresh&&(isCost s.second&&(isCost s.rent&&decide (s.second≤s.fresh)))
theorem F54 {a b c:Int} {h:List Obj} (hu:underH h.length h=true) {Q:V→List Obj→Prop}:Fn tab (.f 40 [.agg [.int .i64 last,.int .i64 home,.int .i64 purse,.int .i64 bad,.int .i64 rest,L g1 sites,L g2 roads],.agg [.int .i64 a,.int .i64 b,.int .i64 c]] h) Q↔Q (.c (.bool (siteOk ⟨a,b,c⟩))) h:=Fn_iff (by
  refine Fn_XD (fn:=f40) rfl rfl ?_
  simp only [go_sem,f40,P77,hu,siteOk]
  refine ⟨fun h=>⟨fun h'=>⟨fun h''=>?_,fun h''=>?_⟩,fun h'=>?_⟩,fun h=>?_⟩<;>simp [*])
theorem F57 (hs:sites.length<Big) {h:List Obj} (hu:underH h.length h=true) {Q:V→List Obj→Prop}:Fn tab (.f 42 [.c (L g1 sites),.c (.fn 40 true [.int .i64 last,.int .i64 home,.int .i64 purse,.int .i64 bad,.int .i64 rest,L g1 sites,L g2 roads] [])] h) Q↔Q (.c (.bool (sites.all siteOk))) (h++[.cells [.fn 40 true [.int .i64 last,.int .i64 home,.int .i64 purse,.int .i64 bad,.int .i64 rest,L g1 sites,L g2 roads] []]]):=by
  refine All_pureS elemSite (fun _ z=>⟨_,rfl,rfl,rfl,fun _=>rfl⟩) (kN:=59) (kC:=58) (kI:=67) rfl rfl rfl rfl hs hu (by simp only [go_sem]) siteOk ?_
  intro z hz h' hu'
  simp only [go_sem,elemSite]
  rw [F54 hu']
  exact ⟨rfl,rfl⟩
theorem F67c {g:Bool × Bool} {l:List Int} (hs:l.length<Big) {h:List Obj} (hu:underH h.length h=true) {Q:V→List Obj→Prop}:Fn tab (.f 37 [.c (L g l),.c (.fn 57 false [] [])] h) Q↔Q (.c (.bool (l.all isCost))) (h++[.cells [.fn 57 false [] []]]):=by
  refine All_pure elemInt (kN:=55) (kC:=54) (kI:=65) rfl rfl rfl rfl hs hu (by simp only [go_sem]) isCost ?_
  intro z hz h' hu'
  simp only [go_sem,elemInt]
  rw [F77]
  exact ⟨rfl,rfl⟩
theorem F67s {g:Bool × Bool} {l:List Int} (hl:l.length<Big) (hs:sites.length<Big) {h:List Obj} (hu:underH h.length h=true) {Q:V→List Obj→Prop}:Fn tab (.f 37 [.c (L g l),.c (.fn 36 true [.int .i64 last,.int .i64 home,.int .i64 purse,.int .i64 bad,.int .i64 rest,L g1 sites,L g2 roads] [])] h) Q↔Q (.c (.bool (l.all (isSite sites)))) (h++[.cells [.fn 36 true [.int .i64 last,.int .i64 home,.int .i64 purse,.int .i64 bad,.int .i64 rest,L g1 sites,L g2 roads] []]]):=by
  refine All_pure elemInt (kN:=55) (kC:=54) (kI:=65) rfl rfl rfl rfl hl hu (by simp only [go_sem]) (isSite sites) ?_
  intro z hz h' hu'
  simp only [go_sem,elemInt]
  rw [F55 hs hu']
  exact ⟨rfl,rfl⟩
end
section
variable {last home purse bad rest:Int} {g1 g2:Bool × Bool} {sites:List Site} {roads:List (List Int)}
def roadOk (sites:List Site) (roads:List (List Int)) (k:Nat):Prop:=(roads.getD k default).length=sites.length∧(roads.getD k default).all isCost=true∧atI (roads.getD k default) (min (k:Int) (sites.length-1))=0
instance {sites roads k}:Decidable (roadOk sites roads k):=by unfold roadOk;infer_instance
def roadsOk (sites:List Site) (roads:List (List Int)):Bool:=decide (∀k,k<roads.length→roadOk sites roads k)&&decide (roads.length=sites.length)
theorem P58 (hs:sites.length<Big) (h0:0<sites.length) (hr:roads.length<Big) (hrr:∀r∈roads,r.length<Big) {Q:V→Prop}:CallP tab 43 [.agg [.int .i64 last,.int .i64 home,.int .i64 purse,.int .i64 bad,.int .i64 rest,L g1 sites,L g2 roads]] Q↔Q (.c (.bool (roadsOk sites roads))):=CallP_of (by
  refine Val_X (fn:=f43) rfl ?_
  simp only [go_sem,f43]
  refine RX_for roads.length (fun k=>[(8,.c (.int .i64 k))]) (fun _=>[.cells [.int .i64 last,.int .i64 home,.int .i64 purse,.int .i64 bad,.int .i64 rest,L g1 sites,L g2 roads]]) (fun k=>∀i,i<k→roadOk sites roads i) (fun i h=>by omega) (by simp only [go_sem]<;>rfl) ?_
  intro k hk hP
  by_cases h1:k<roads.length
  · have hr1:(roads.getD k default).length<Big:=hrr _ (by rw [getD_lt _ _ _ h1];exact List.getElem_mem h1)
    have hs':sites.length<4611686018427387904:=hs
    have hw:IntKind.i64.wrap ((sites.length:Int)-1)=sites.length-1:=wrap_id _ (by omega) (by omega)
    have hbad:¬roadOk sites roads k→roadsOk sites roads=false:=fun hn=>by
      have:¬∀k,k<roads.length→roadOk sites roads k:=fun hh=>hn (hh k h1)
      simp [roadsOk,this]
    have hgood:roadOk sites roads k→∀i,i<k+1→roadOk sites roads i:=fun hk i hi=>by
      by_cases e:i=k
      · subst e;exact hk
      · exact hP i (by omega)
    by_cases h2:(roads.getD k default).length=sites.length
    · have hm1:0≤min (k:Int) (sites.length-1):=by omega
      have hm2:min (k:Int) (sites.length-1)<sites.length:=by omega
      simp only [go_sem,h1,hr1,hs,h2,hw,hm1,hm2,F67c,wrap_succ h1 hr,atI_nat]
      refine ⟨fun a1=>⟨fun a2=>?_,fun a2=>?_⟩,fun a1=>?_⟩
      · exact hbad fun hh=>a2 hh.2.2
      · exact hgood ⟨h2,a1,a2⟩
      · exact hbad fun hh=>by rw [hh.2.1] at a1;cases a1
    · simp only [go_sem,h1,hr1,h2,hw,F67c,wrap_succ h1 hr,atI_nat]
      exact hbad fun hh=>h2 hh.1
  · simp only [go_sem,h1]
    have:k=roads.length:=by omega
    subst this
    simp only [roadsOk,decide_eq_true hP,Bool.true_and])
end
end Am.Mv
namespace Am.Mv
open Go Am Am.Tm
set_option maxRecDepth 100000
set_option maxHeartbeats 4000000
set_option linter.unusedSimpArgs false
set_option linter.unusedVariables false
@[go_sem] theorem land_eta {l:Land}:(⟨l.last,l.home,l.purse,l.bad,l.rest,l.sites,l.roads⟩:Land)=l:=rfl
structure Land.Fits (l:Land):Prop where
  sites:l.sites.length<Big
  roads:l.roads.length<Big
  road:∀r∈l.roads,r.length<Big
def checkLand (l:Land):Int:=
  if l.last>4 then 3 else if (l.sites.length:Int)>4 then 3
  else if l.last<0 then 1 else if (l.sites.length:Int)=0 then 1 else if isSite l.sites l.home=false then 1
  else if inR l.purse 0 999=false then 1 else if inR l.bad 0 (IntKind.i64.wrap (l.last+1))=false then 1
  else if inR l.rest 1 5=false then 1 else if l.sites.all siteOk=false then 1 else if roadsOk l.sites l.roads=false then 1 else 0
section
variable {last home purse bad rest:Int} {g1 g2:Bool × Bool} {sites:List Site} {roads:List (List Int)}
theorem P22 (hf:Land.Fits ⟨last,home,purse,bad,rest,sites,roads⟩) {Q:V→Prop}:CallP tab 26 [.agg [.int .i64 last,.int .i64 home,.int .i64 purse,.int .i64 bad,.int .i64 rest,L g1 sites,L g2 roads]] Q↔Q (.c (.int .i64 (checkLand ⟨last,home,purse,bad,rest,sites,roads⟩))):=CallP_of (by
  have h1:sites.length<Big:=hf.sites
  have h2:roads.length<Big:=hf.roads
  have h3:∀r∈roads,r.length<Big:=hf.road
  refine Val_X (fn:=f26) rfl ?_
  by_cases h0:(sites.length:Int)=0
  · simp only [go_sem,f26,P55,P56,P58,F57,h1,h2,h3,h0]
    simp only [checkLand,h0]
    repeat' (first | apply And.intro | intro hh)
    all_goals simp_all
  · have h4:0<sites.length:=by omega
    simp only [go_sem,f26,P55,P56,P58 h1 h4 h2 h3,F57,h1,h0]
    simp only [checkLand,h0]
    generalize sites.all siteOk=sa
    repeat' (first | apply And.intro | intro hh)
    all_goals (try omega)
    all_goals simp_all
    all_goals (repeat' split)<;>omega)
def isPlan (l:Land) (plan:List Int):Bool:=decide ((plan.length:Int)=IntKind.i64.wrap (l.last+1))&&plan.all (isSite l.sites)
theorem P51 (hs:sites.length<Big) {g:Bool × Bool} {plan:List Int} (hp:plan.length<Big) {Q:V→Prop}:CallP tab 27 [.agg [.int .i64 last,.int .i64 home,.int .i64 purse,.int .i64 bad,.int .i64 rest,L g1 sites,L g2 roads],.c (L g plan)] Q↔Q (.c (.bool (isPlan ⟨last,home,purse,bad,rest,sites,roads⟩ plan))):=CallP_of (by
  refine Val_X (fn:=f27) rfl ?_
  simp only [go_sem,f27,F67s,hs,hp,isPlan]
  refine ⟨fun h=>?_,fun h=>?_⟩<;>simp [h])
def weatherOk (below:Int):Int→List Int→Bool
  | _,[]=>true
  | last,y::l=>inR y (IntKind.i64.wrap (last+1)) (IntKind.i64.wrap (below-1))&&weatherOk below y l
def isWeather (l:Land) (bad:List Int) (below:Int):Bool:=decide ((bad.length:Int)≤l.bad)&&weatherOk below (-1) bad
theorem P52 {g:Bool × Bool} {ws:List Int} {below:Int} (hp:ws.length<Big) {Q:V→Prop}:CallP tab 28 [.agg [.int .i64 last,.int .i64 home,.int .i64 purse,.int .i64 bad,.int .i64 rest,L g1 sites,L g2 roads],.c (L g ws),.c (.int .i64 below)] Q↔Q (.c (.bool (isWeather ⟨last,home,purse,bad,rest,sites,roads⟩ ws below))):=CallP_of (by
  refine Val_X (fn:=f28) rfl ?_
  simp only [go_sem,f28]
  refine ⟨fun h=>?_,fun h=>by simp [isWeather,h]⟩
  let lastAt:Nat→Int:=fun i=>match i with | 0=>-1 | i+1=>ws.getD i default
  let p:Nat→Bool:=fun i=>inR (ws.getD i default) (IntKind.i64.wrap (lastAt i+1)) (IntKind.i64.wrap (below-1))
  have hall:∀(l:List Int) (j:Nat) (la:Int),ws.drop j=l→la=lastAt j→(weatherOk below la l=true↔∀i,j≤i→i<ws.length→p i=true):=by
    intro l
    induction l with
    | nil=>
      intro j la hd _
      have:ws.length≤j:=by simpa using hd
      exact ⟨fun _ i hi hi'=>by omega,fun _=>rfl⟩
    | cons y l ih=>
      intro j la hd hla
      have hj:j<ws.length:=by
        have:=congrArg List.length hd
        simp at this;omega
      have hy:ws.getD j default=y:=by
        have:=congrArg (·[0]?) hd
        simp at this
        simp [this]
      have hd':ws.drop (j+1)=l:=by
        have:=congrArg List.tail hd
        simpa [List.tail_drop] using this
      have:=ih (j+1) y hd' (by show y=ws.getD j default;rw [hy])
      simp only [weatherOk,Bool.and_eq_true,this]
      constructor
      · rintro ⟨a,b⟩ i hi hi'
        by_cases e:i=j
        · subst e;show inR _ _ _=true;rw [hy,←hla];exact a
        · exact b i (by omega) hi'
      · intro hh
        refine ⟨?_,fun i hi hi'=>hh i (by omega) hi'⟩
        have:=hh j (Nat.le_refl _) hj
        show inR y _ _=true
        rw [hla,←hy];exact this
  have h0:=hall ws 0 (-1) rfl rfl
  refine (All_ok elemInt (kN:=55) (kC:=54) (kI:=65) rfl rfl rfl rfl hp (fun i=>[.cells [.int .i64 last,.int .i64 home,.int .i64 purse,.int .i64 bad,.int .i64 rest,L g1 sites,L g2 roads],.cells [.int .i64 below],.cells [.int .i64 (lastAt i)]]) 3 (fun _=>rfl) p ?_).mono ?_
  · intro i hi _
    rw [CallV_fn]
    refine Fn_X (fn:=f44) rfl rfl ?_
    simp only [go_sem,f44,P56,elemInt,lastAt]
    rfl
  · rintro v h' (⟨a,rfl,rfl⟩ | ⟨i,a,b,c,rfl,rfl⟩)
    · simp only [go_sem,isWeather,h]
      exact h0.2 fun i _ hi=>a i hi
    · simp only [go_sem,isWeather,h]
      cases hb:weatherOk below (-1) ws with
      | false=>rfl
      | true=>rw [h0.1 hb i (Nat.zero_le _) a] at b;cases b)
end
end Am.Mv
namespace Am.Mv
open Go Am Am.Tm
set_option maxRecDepth 100000
set_option maxHeartbeats 4000000
set_option linter.unusedSimpArgs false
set_option linter.unusedVariables false
structure Soils where
  (t0 d0 t1 d1 t2 d2 t3 d3:Int)
  deriving Inhabited,DecidableEq
structure S where
  (year site money:Int)
  so:Soils
  deriving Inhabited,DecidableEq
abbrev Soils.cs (s:Soils):List C:=[.int .i64 s.t0,.int .i64 s.d0,.int .i64 s.t1,.int .i64 s.d1,.int .i64 s.t2,.int .i64 s.d2,.int .i64 s.t3,.int .i64 s.d3]
abbrev S.cs (s:S):List C:=[.int .i64 s.year,.int .i64 s.site,.int .i64 s.money,.int .i64 s.so.t0,.int .i64 s.so.d0,.int .i64 s.so.t1,.int .i64 s.so.d1,.int .i64 s.so.t2,.int .i64 s.so.d2,.int .i64 s.so.t3,.int .i64 s.so.d3]
attribute [go_sem] Soils.cs S.cs
def Soils.zero : Soils:=⟨0,0,0,0,0,0,0,0⟩
def Soils.taken (s:Soils) (i:Int):Int:=if i=0 then s.t0 else if i=1 then s.t1 else if i=2 then s.t2 else s.t3
def startS (l:Land):S:=⟨0,l.home,l.purse,.zero⟩
section
variable {last home purse bad rest:Int} {g1 g2:Bool × Bool} {sites:List Site} {roads:List (List Int)}
theorem P73 {Q:V→Prop}:CallP tab 45 [.agg [.int .i64 last,.int .i64 home,.int .i64 purse,.int .i64 bad,.int .i64 rest,L g1 sites,L g2 roads]] Q↔Q (.agg (S.cs (startS ⟨last,home,purse,bad,rest,sites,roads⟩))):=CallP_of (by
  refine Val_X (fn:=f45) rfl ?_
  simp only [go_sem,f45,startS,Soils.zero])
def roadAt (roads:List (List Int)) (a b:Int):Int:=atI (atI roads a) b
def costOf (sites:List Site) (roads:List (List Int)) (a b:Int):Int:=IntKind.i64.wrap (roadAt roads a b+(atI sites b).rent)
theorem P74 {y si m a0 a1 a2 a3 a4 a5 a6 a7 site:Int} (h0:0≤si) (h1:si<roads.length) (h2:0≤site) (h3:site<(atI roads si).length) (h4:site<sites.length) {Q:V→Prop}:CallP tab 46 [.agg [.int .i64 last,.int .i64 home,.int .i64 purse,.int .i64 bad,.int .i64 rest,L g1 sites,L g2 roads],.agg [.int .i64 y,.int .i64 si,.int .i64 m,.int .i64 a0,.int .i64 a1,.int .i64 a2,.int .i64 a3,.int .i64 a4,.int .i64 a5,.int .i64 a6,.int .i64 a7],.c (.int .i64 site)] Q↔Q (.tup [.c (.int .i64 (costOf sites roads si site)),.c (.bool (decide (costOf sites roads si site≤m)))]):=CallP_of (by
  refine Val_X (fn:=f46) rfl ?_
  simp only [go_sem,f46,h0,h1,h2,h3,h4,costOf,roadAt]
  rfl)
theorem P87 {a b:Int} {g:Bool × Bool} {l:List Int} (h0:0<l.length) (hl:l.length<Big) {Q:V→Prop}:CallP tab 56 [.c (L g l)] Q↔Q (.c (.int .i64 (minL l))):=CallP_of (by
  refine Val_X (fn:=f56) rfl ?_
  simp only [go_sem,f56,CallP_of (Min_ok (G:=tab) (k:=66) rfl (g:=g) h0 hl)])
theorem P87p {t:Bool} {a b:Int} {Q:V→Prop}:CallP tab 56 [.c (.lst t [[.int .i64 a],[.int .i64 b]])] Q↔Q (.c (.int .i64 (min a b))):=by
  have:=P87 (a:=a) (b:=b) (g:=(false,t)) (l:=[a,b]) (show 0<2 by decide) (show 2<Big by decide) (Q:=Q)
  exact this
def cropOf (s:Site) (t:Int):Int:=if t=0 then s.fresh else if t=1 then s.second else 0
theorem F97 {s:Site} {h:List Obj} (hu:underH h.length h=true) {Q:V→List Obj→Prop}:Fn tab (.f 68 [.agg [.int .i64 s.fresh,.int .i64 s.second,.int .i64 s.rent]] h) Q↔Q (.c (.int .i64 s.fresh)) h:=Fn_iff (by
  refine Fn_XD (fn:=f68) rfl rfl ?_
  simp only [go_sem,f68,hu])
theorem F98 {s:Site} {h:List Obj} (hu:underH h.length h=true) {Q:V→List Obj→Prop}:Fn tab (.f 69 [.agg [.int .i64 s.fresh,.int .i64 s.second,.int .i64 s.rent]] h) Q↔Q (.c (.int .i64 s.second)) h:=Fn_iff (by
  refine Fn_XD (fn:=f69) rfl rfl ?_
  simp only [go_sem,f69,hu])
theorem F99 {s:Site} {h:List Obj} (hu:underH h.length h=true) {Q:V→List Obj→Prop}:Fn tab (.f 70 [.agg [.int .i64 s.fresh,.int .i64 s.second,.int .i64 s.rent]] h) Q↔Q (.c (.int .i64 0)) h:=Fn_iff (by
  refine Fn_XD (fn:=f70) rfl rfl ?_
  simp only [go_sem,f70,hu])
theorem P89 {t0 d0 t1 d1 t2 d2 t3 d3 site:Int} (h0:0≤site) (h1:site<sites.length) (h2:site<4) (h3:0≤Soils.taken ⟨t0,d0,t1,d1,t2,d2,t3,d3⟩ site) {Q:V→Prop}:CallP tab 60 [.agg [.int .i64 last,.int .i64 home,.int .i64 purse,.int .i64 bad,.int .i64 rest,L g1 sites,L g2 roads],.agg [.int .i64 t0,.int .i64 d0,.int .i64 t1,.int .i64 d1,.int .i64 t2,.int .i64 d2,.int .i64 t3,.int .i64 d3],.c (.int .i64 site)] Q↔Q (.c (.int .i64 (cropOf (atI sites site) (Soils.taken ⟨t0,d0,t1,d1,t2,d2,t3,d3⟩ site)))):=CallP_of (by
  refine Val_X (fn:=f60) rfl ?_
  have:site=0∨site=1∨site=2∨site=3:=by omega
  rcases this with rfl | rfl | rfl | rfl
  all_goals (simp only [Soils.taken,Int.reduceEq,↓reduceIte] at h3 ⊢)
  · by_cases e0:t0=0
    · simp only [go_sem,f60,h1,P87p,e0,F97,cropOf,show min (0:Int) 2=0 from rfl]
    · by_cases e1:t0=1
      · simp only [go_sem,f60,h1,P87p,e1,F98,cropOf,show min (1:Int) 2=1 from rfl]
      · simp only [go_sem,f60,h1,P87p,e0,e1,F99,cropOf,show min t0 2=2 by omega]
  · by_cases e0:t1=0
    · simp only [go_sem,f60,h1,P87p,e0,F97,cropOf,show min (0:Int) 2=0 from rfl]
    · by_cases e1:t1=1
      · simp only [go_sem,f60,h1,P87p,e1,F98,cropOf,show min (1:Int) 2=1 from rfl]
      · simp only [go_sem,f60,h1,P87p,e0,e1,F99,cropOf,show min t1 2=2 by omega]
  · by_cases e0:t2=0
    · simp only [go_sem,f60,h1,P87p,e0,F97,cropOf,show min (0:Int) 2=0 from rfl]
    · by_cases e1:t2=1
      · simp only [go_sem,f60,h1,P87p,e1,F98,cropOf,show min (1:Int) 2=1 from rfl]
      · simp only [go_sem,f60,h1,P87p,e0,e1,F99,cropOf,show min t2 2=2 by omega]
  · by_cases e0:t3=0
    · simp only [go_sem,f60,h1,P87p,e0,F97,cropOf,show min (0:Int) 2=0 from rfl]
    · by_cases e1:t3=1
      · simp only [go_sem,f60,h1,P87p,e1,F98,cropOf,show min (1:Int) 2=1 from rfl]
      · simp only [go_sem,f60,h1,P87p,e0,e1,F99,cropOf,show min t3 2=2 by omega])
def soilAft (rest site:Int) (i t d:Int):Int × Int:=if i=site then (IntKind.i64.wrap (t+1),0) else (if rest≤IntKind.i64.wrap (d+1) then 0 else t,IntKind.i64.wrap (d+1))
def Soils.upTo (k:Nat) (rest site:Int) (s:Soils):Soils:=
  ⟨if 0<k then (soilAft rest site 0 s.t0 s.d0).1 else s.t0,if 0<k then (soilAft rest site 0 s.t0 s.d0).2 else s.d0,
   if 1<k then (soilAft rest site 1 s.t1 s.d1).1 else s.t1,if 1<k then (soilAft rest site 1 s.t1 s.d1).2 else s.d1,
   if 2<k then (soilAft rest site 2 s.t2 s.d2).1 else s.t2,if 2<k then (soilAft rest site 2 s.t2 s.d2).2 else s.d2,
   if 3<k then (soilAft rest site 3 s.t3 s.d3).1 else s.t3,if 3<k then (soilAft rest site 3 s.t3 s.d3).2 else s.d3⟩
def Soils.after (s:Soils) (rest site:Int):Soils:=
  ⟨(soilAft rest site 0 s.t0 s.d0).1,(soilAft rest site 0 s.t0 s.d0).2,(soilAft rest site 1 s.t1 s.d1).1,(soilAft rest site 1 s.t1 s.d1).2,(soilAft rest site 2 s.t2 s.d2).1,(soilAft rest site 2 s.t2 s.d2).2,(soilAft rest site 3 s.t3 s.d3).1,(soilAft rest site 3 s.t3 s.d3).2⟩
theorem P90 {t0 d0 t1 d1 t2 d2 t3 d3 site:Int} {Q:V→Prop}:CallP tab 61 [.agg [.int .i64 t0,.int .i64 d0,.int .i64 t1,.int .i64 d1,.int .i64 t2,.int .i64 d2,.int .i64 t3,.int .i64 d3],.agg [.int .i64 last,.int .i64 home,.int .i64 purse,.int .i64 bad,.int .i64 rest,L g1 sites,L g2 roads],.c (.int .i64 site)] Q↔Q (.agg (Soils.cs (Soils.after ⟨t0,d0,t1,d1,t2,d2,t3,d3⟩ rest site))):=CallP_of (by
  refine Val_X (fn:=f61) rfl ?_
  simp only [go_sem,f61]
  refine RX_for 4 (fun k=>[(8,.c (.int .i64 k))]) (fun k=>[.cells (Soils.cs (Soils.upTo k rest site ⟨t0,d0,t1,d1,t2,d2,t3,d3⟩)),.cells [.int .i64 last,.int .i64 home,.int .i64 purse,.int .i64 bad,.int .i64 rest,L g1 sites,L g2 roads],.cells [.int .i64 0,.int .i64 0,.int .i64 0,.int .i64 0,.int .i64 0,.int .i64 0,.int .i64 0,.int .i64 0]]) (fun _=>True) trivial (by simp only [go_sem,Soils.upTo]<;>rfl) ?_
  intro k hk _
  have:k=0∨k=1∨k=2∨k=3∨k=4:=by omega
  rcases this with rfl | rfl | rfl | rfl | rfl
  · by_cases e:0=site
    · subst e
      simp only [go_sem,Soils.upTo,soilAft]
    · have e':¬(((0:Nat):Int))=site:=by simpa using e
      simp only [go_sem,e,Soils.upTo,soilAft]
      refine ⟨fun h=>?_,fun h=>?_⟩<;>simp [h]
  · by_cases e:1=site
    · subst e
      simp only [go_sem,Soils.upTo,soilAft]
    · have e':¬(((1:Nat):Int))=site:=by simpa using e
      simp only [go_sem,e,Soils.upTo,soilAft]
      refine ⟨fun h=>?_,fun h=>?_⟩<;>simp [h]
  · by_cases e:2=site
    · subst e
      simp only [go_sem,Soils.upTo,soilAft]
    · have e':¬(((2:Nat):Int))=site:=by simpa using e
      simp only [go_sem,e,Soils.upTo,soilAft]
      refine ⟨fun h=>?_,fun h=>?_⟩<;>simp [h]
  · by_cases e:3=site
    · subst e
      simp only [go_sem,Soils.upTo,soilAft]
    · have e':¬(((3:Nat):Int))=site:=by simpa using e
      simp only [go_sem,e,Soils.upTo,soilAft]
      refine ⟨fun h=>?_,fun h=>?_⟩<;>simp [h]
  · simp only [go_sem,Soils.upTo,Soils.after])
def cropB (s:Site) (t:Int) (bad:Bool):Int:=if bad then IntKind.i64.wrap ((cropOf s t).tdiv 2) else cropOf s t
def nextY (l:Land) (s:S) (site:Int) (bad:Bool):Year:=
  ⟨cropB (atI l.sites site) (s.so.taken site) bad,costOf l.sites l.roads s.site site,IntKind.i64.wrap (IntKind.i64.wrap (s.money-costOf l.sites l.roads s.site site)+cropB (atI l.sites site) (s.so.taken site) bad)⟩
def nextS (l:Land) (s:S) (site:Int) (bad:Bool):S:=⟨IntKind.i64.wrap (s.year+1),site,(nextY l s site bad).money,s.so.after l.rest site⟩
abbrev Year.cs (y:Year):List C:=[.int .i64 y.crop,.int .i64 y.cost,.int .i64 y.money]
attribute [go_sem] Year.cs
theorem P75 {y si m t0 d0 t1 d1 t2 d2 t3 d3 site:Int} {b:Bool} (h0:0≤si) (h1:si<roads.length) (h2:0≤site) (h3:site<(atI roads si).length) (h4:site<sites.length) (h5:site<4) (h6:0≤Soils.taken ⟨t0,d0,t1,d1,t2,d2,t3,d3⟩ site) {Q:V→Prop} :
    CallP tab 47 [.agg [.int .i64 last,.int .i64 home,.int .i64 purse,.int .i64 bad,.int .i64 rest,L g1 sites,L g2 roads],.agg [.int .i64 y,.int .i64 si,.int .i64 m,.int .i64 t0,.int .i64 d0,.int .i64 t1,.int .i64 d1,.int .i64 t2,.int .i64 d2,.int .i64 t3,.int .i64 d3],.c (.int .i64 site),.c (.bool b)] Q ↔
      Q (.tup [.agg (S.cs (nextS ⟨last,home,purse,bad,rest,sites,roads⟩ ⟨y,si,m,⟨t0,d0,t1,d1,t2,d2,t3,d3⟩⟩ site b)),.agg (Year.cs (nextY ⟨last,home,purse,bad,rest,sites,roads⟩ ⟨y,si,m,⟨t0,d0,t1,d1,t2,d2,t3,d3⟩⟩ site b))]):=CallP_of (by
  refine Val_X (fn:=f47) rfl ?_
  cases b
  · simp only [go_sem,f47,P89,P74,P90,h0,h1,h2,h3,h4,h5,h6,nextS,nextY,cropB]
  · simp only [go_sem,f47,P89,P74,P90,h0,h1,h2,h3,h4,h5,h6,nextS,nextY,cropB])
end
end Am.Mv
namespace Am.Mv
open Go Am Am.Tm
set_option maxRecDepth 100000
set_option maxHeartbeats 4000000
set_option linter.unusedSimpArgs false
set_option linter.unusedVariables false
structure Land.Valid (l:Land):Prop where
  last0:0≤l.last
  last4:l.last≤4
  n0:0<l.sites.length
  n4:l.sites.length≤4
  home0:0≤l.home
  home1:l.home<l.sites.length
  purse0:0≤l.purse
  purse1:l.purse≤999
  bad0:0≤l.bad
  bad1:l.bad≤l.last+1
  rest1:1≤l.rest
  rest5:l.rest≤5
  site:∀s∈l.sites,0≤s.second∧s.second≤s.fresh∧s.fresh≤99∧0≤s.rent∧s.rent≤99
  roads:l.roads.length=l.sites.length
  road:∀r∈l.roads,r.length=l.sites.length∧∀x∈r,0≤x∧x≤99
  home:∀k,k<l.sites.length→(l.roads.getD k default).getD k 0=0
theorem wrapB {n:Int} (h1 : -1000000≤n) (h2:n≤1000000):IntKind.i64.wrap n=n:=wrap_id _ (by omega) (by omega)
theorem valid_of {l:Land} (h:checkLand l=0):l.Valid:=by
  unfold checkLand at h
  repeat' (split at h;first | (exfalso;omega) | skip)
  rename_i a1 a2 a3 a4 a5 a6 a7 a8 a9 a10
  simp only [Bool.not_eq_false,isSite,inR_iff] at a5 a6 a7 a8 a9 a10
  rw [wrapB (by omega) (by omega)] at a7
  have b10:(∀k,k<l.roads.length→roadOk l.sites l.roads k)∧l.roads.length=l.sites.length:=by simpa [roadsOk] using a10
  refine ⟨by omega,by omega,by omega,by omega,by omega,by omega,by omega,by omega,by omega,by omega,by omega,by omega,?_,b10.2,?_,?_⟩
  · intro s hs
    have:=(List.all_eq_true.1 a9) s hs
    simp only [siteOk,isCost,Bool.and_eq_true,inR_iff,decide_eq_true_eq] at this
    omega
  · intro r hr
    obtain ⟨k,hk,rfl⟩:=List.getElem_of_mem hr
    have:=b10.1 k hk
    rw [roadOk,getD_lt _ _ _ hk] at this
    refine ⟨this.1,fun x hx=>?_⟩
    have:=(List.all_eq_true.1 this.2.1) x hx
    simpa [isCost,inR_iff] using this
  · intro k hk
    have:=(b10.1 k (by omega)).2.2
    rw [show min (k:Int) ((l.sites.length:Int)-1)=k by omega,atI_nat] at this
    exact this
theorem Land.Valid.fits {l:Land} (h:l.Valid):l.Fits:=by
  have:=h.n4
  have:=h.roads
  refine ⟨?_,?_,fun r hr=>?_⟩
  · show l.sites.length<4611686018427387904;omega
  · show l.roads.length<4611686018427387904;omega
  · show r.length<4611686018427387904;have:=(h.road r hr).1;omega
section
variable (l:Land) (bad plan:List Int)
def stAt : Nat→S
  | 0=>startS l
  | k+1=>nextS l (stAt k) (plan.getD k default) (decide ((k:Int)∈bad))
def yrAt (k:Nat):Year:=nextY l (stAt l bad plan k) (plan.getD k default) (decide ((k:Int)∈bad))
def canAt (k:Nat):Bool:=decide (costOf l.sites l.roads (stAt l bad plan k).site (plan.getD k default)≤(stAt l bad plan k).money)
def failAt : Option Nat:=(List.range plan.length).find? fun k=>!canAt l bad plan k
def playC : V:=match failAt l bad plan with
  | some k=>.tup [.c .nils,.agg (stAt l bad plan k).cs,.c (.bool false)]
  | none=>.tup [.c (L (false,false) ((List.range plan.length).map (yrAt l bad plan))),.agg (stAt l bad plan plan.length).cs,.c (.bool true)]
end
@[go_sem] theorem S_eta {s:S}:(⟨s.year,s.site,s.money,⟨s.so.t0,s.so.d0,s.so.t1,s.so.d1,s.so.t2,s.so.d2,s.so.t3,s.so.d3⟩⟩:S)=s:=rfl
@[go_sem] theorem S_eta' {s:S}:(⟨s.year,s.site,s.money,s.so⟩:S)=s:=rfl
@[go_sem] theorem Soils_eta {s:Soils}:(⟨s.t0,s.d0,s.t1,s.d1,s.t2,s.d2,s.t3,s.d3⟩:Soils)=s:=rfl
@[go_sem] theorem Year_eta {s:Year}:(⟨s.crop,s.cost,s.money⟩:Year)=s:=rfl
structure Soils.Le (k:Int) (s:Soils):Prop where
  t0:0≤s.t0∧s.t0≤k
  d0:0≤s.d0∧s.d0≤k
  t1:0≤s.t1∧s.t1≤k
  d1:0≤s.d1∧s.d1≤k
  t2:0≤s.t2∧s.t2≤k
  d2:0≤s.d2∧s.d2≤k
  t3:0≤s.t3∧s.t3≤k
  d3:0≤s.d3∧s.d3≤k
theorem soilAft_le {k rest site i t d:Int} (hk:k≤1000) (ht:0≤t∧t≤k) (hd:0≤d∧d≤k):(0≤(soilAft rest site i t d).1∧(soilAft rest site i t d).1≤k+1)∧0≤(soilAft rest site i t d).2∧(soilAft rest site i t d).2≤k+1:=by
  have e1:=wrapB (n:=t+1) (by omega) (by omega)
  have e2:=wrapB (n:=d+1) (by omega) (by omega)
  unfold soilAft
  rw [e1,e2]
  split
  · simp only;omega
  · split<;>simp only<;>omega
theorem Soils.Le.after {k:Int} {s:Soils} (h:s.Le k) (hk:k≤1000) (rest site:Int):(s.after rest site).Le (k+1):=
  ⟨(soilAft_le hk h.t0 h.d0).1,(soilAft_le hk h.t0 h.d0).2,(soilAft_le hk h.t1 h.d1).1,(soilAft_le hk h.t1 h.d1).2,(soilAft_le hk h.t2 h.d2).1,(soilAft_le hk h.t2 h.d2).2,(soilAft_le hk h.t3 h.d3).1,(soilAft_le hk h.t3 h.d3).2⟩
theorem Soils.Le.taken {k:Int} {s:Soils} (h:s.Le k) (i:Int):0≤s.taken i∧s.taken i≤k:=by
  unfold Soils.taken
  split
  · exact h.t0
  · split
    · exact h.t1
    · split
      · exact h.t2
      · exact h.t3
theorem zero_le : Soils.zero.Le 0:=by constructor<;>decide
theorem stAt_le (l:Land) (bad plan:List Int):∀k:Nat,k≤1000→(stAt l bad plan k).so.Le k
  | 0,_=>zero_le
  | k+1,h=>(stAt_le l bad plan k (by omega)).after (by omega) _ _
def AreSites (l:Land) (plan:List Int):Prop:=∀x∈plan,0≤x∧x<l.sites.length
theorem stAt_site {l:Land} (hv:l.Valid) {bad plan:List Int} (hp:AreSites l plan):∀k:Nat,k≤plan.length→0≤(stAt l bad plan k).site∧(stAt l bad plan k).site<l.sites.length
  | 0,_=>⟨hv.home0,hv.home1⟩
  | k+1,h=>by
    show 0≤plan.getD k default∧plan.getD k default<_
    rw [getD_lt _ _ _ (by omega)]
    exact hp _ (List.getElem_mem _)
abbrev landV (g1 g2:Bool × Bool) (l:Land):V:=.agg [.int .i64 l.last,.int .i64 l.home,.int .i64 l.purse,.int .i64 l.bad,.int .i64 l.rest,L g1 l.sites,L g2 l.roads]
attribute [go_sem] landV
theorem failAt_some {l:Land} {bad plan:List Int} {k:Nat} (hk:k<plan.length) (hP:∀i,i<k→canAt l bad plan i=true) (hn:canAt l bad plan k=false):failAt l bad plan=some k:=by
  unfold failAt
  rw [List.find?_range_eq_some]
  exact ⟨by simp [hn],by simpa using hk,fun i hi=>by simpa using hP i hi⟩
theorem failAt_none {l:Land} {bad plan:List Int}:failAt l bad plan=none↔∀i,i<plan.length→canAt l bad plan i=true:=by
  unfold failAt
  rw [List.find?_range_eq_none]
  simp
section
variable {l:Land} {g1 g2:Bool × Bool}
theorem road_len (hv:l.Valid) {i:Int} (h0:0≤i) (h1:i<l.sites.length):(atI l.roads i).length=l.sites.length:=by
  have hr:=hv.roads
  refine (hv.road _ ?_).1
  unfold atI
  rw [getD_lt _ _ _ (by omega)];exact List.getElem_mem _
theorem P53 {g3 g4:Bool × Bool} {plan ws:List Int} (hv:l.Valid) (hp:AreSites l plan) (hpl:plan.length≤100) (hw:ws.length<Big) {Q:V→Prop} :
    CallP tab 29 [landV g1 g2 l,.c (L g3 plan),.c (L g4 ws)] Q↔Q (playC l ws plan):=CallP_of (by
  refine Val_X (fn:=f29) rfl ?_
  simp only [go_sem,f29,P73]
  refine RX_for plan.length (fun k=>[(6,.c (.sl 2 k 0 k)),(18,.c (.int .i64 k))]) (fun k=>[.cells [.int .i64 l.last,.int .i64 l.home,.int .i64 l.purse,.int .i64 l.bad,.int .i64 l.rest,L g1 l.sites,L g2 l.roads],.cells (stAt l ws plan k).cs,.arr false k 3 (((List.range k).map (yrAt l ws plan)).map Row.row)]) (fun k=>∀i,i<k→canAt l ws plan i=true) (fun i h=>by omega) (by simp only [go_sem,stAt,List.range_zero]<;>rfl) ?_
  intro k hk hP
  by_cases h1:k<plan.length
  · have a1:=stAt_site hv (bad:=ws) hp k hk
    have a2:=((stAt_le l ws plan k (by omega)).taken (plan.getD k default)).1
    have a3:0≤plan.getD k default∧plan.getD k default<l.sites.length:=by rw [getD_lt _ _ _ h1];exact hp _ (List.getElem_mem _)
    have hn4:=hv.n4
    have hr:=hv.roads
    have a5:=road_len hv a1.1 a1.2
    have b2:(stAt l ws plan k).site<l.roads.length:=by rw [hr];exact a1.2
    have b4:plan.getD k default<(atI l.roads (stAt l ws plan k).site).length:=by rw [a5];exact a3.2
    have b6:plan.getD k default<4:=by omega
    have b7:((k:Nat)+1)*24≤2^40:=by omega
    simp only [go_sem,h1,P74,P75,a1.1,b2,a3,b4,b6,a2,b7,atI_nat,CallP_of (Contains_ok (G:=tab) (k:=48) (kI:=62) rfl rfl (g:=g4) (l:=ws) hw)]
    refine ⟨fun hn=>?_,fun hc=>⟨?_,wrap_succ (n:=1000) (by omega) (by decide),rfl,?_⟩⟩
    · have hn':canAt l ws plan k=false:=decide_eq_false hn
      simp only [playC,failAt_some h1 hP hn']
    · intro i hi
      by_cases e:i=k
      · subst e;exact decide_eq_true hc
      · exact hP i (by omega)
    · rw [List.range_succ,List.map_append,List.map_append];rfl
  · simp only [go_sem,h1]
    have:k=plan.length:=by omega
    subst this
    simp only [playC,failAt_none.2 hP])
theorem areSites_of {plan:List Int} (h:plan.all (isSite l.sites)=true):AreSites l plan:=by
  intro x hx
  have:=(List.all_eq_true.1 h) x hx
  simp only [isSite,inR_iff] at this
  omega
def playR (l:Land) (plan ws:List Int):V:=
  if checkLand l=0 then
    if isPlan l plan=true then
      if isWeather l ws (IntKind.i64.wrap (l.last+1))=true then
        match failAt l ws plan with
        | some _=>.tup [.c .nils,.c (.int .i64 9)]
        | none=>.tup [.c (L (false,false) ((List.range plan.length).map (yrAt l ws plan))),.c (.int .i64 0)]
      else .tup [.c .nils,.c (.int .i64 2)]
    else .tup [.c .nils,.c (.int .i64 2)]
  else .tup [.c .nils,.c (.int .i64 (checkLand l))]
theorem P18 {g3 g4:Bool × Bool} {plan ws:List Int} (hf:l.Fits) (hp:plan.length<Big) (hw:ws.length<Big) {Q:V→Prop} :
    CallP tab 9 [landV g1 g2 l,.c (L g3 plan),.c (L g4 ws)] Q↔Q (playR l plan ws):=CallP_of (by
  refine Val_X (fn:=f9) rfl ?_
  by_cases h0:checkLand l=0
  · have hv:=valid_of h0
    by_cases h1:isPlan l plan=true
    · have h2:AreSites l plan:=areSites_of (by simp [isPlan] at h1;simpa using h1.2)
      have h3:plan.length≤100:=by
        simp [isPlan] at h1
        have a:=h1.1
        have:=hv.last0
        have:=hv.last4
        rw [wrapB (by omega) (by omega)] at a
        omega
      by_cases h4:isWeather l ws (IntKind.i64.wrap (l.last+1))=true
      · cases hfa:failAt l ws plan with
        | some k=>simp only [go_sem,f9,P22 hf,h0,P51 hf.sites hp,P52 hw,h1,h4,P53 hv h2 h3 hw,playC,playR,hfa]
        | none=>simp only [go_sem,f9,P22 hf,h0,P51 hf.sites hp,P52 hw,h1,h4,P53 hv h2 h3 hw,playC,playR,hfa]
      · simp only [go_sem,f9,P22 hf,h0,P51 hf.sites hp,P52 hw,h1,h4,playR]
    · simp only [go_sem,f9,P22 hf,h0,P51 hf.sites hp,P52 hw,h1,playR]
  · simp only [go_sem,f9,P22 hf,h0,playR])
end
end Am.Mv
namespace Am.Mv
open Go Am Am.Tm
set_option maxRecDepth 100000
set_option maxHeartbeats 4000000
set_option linter.unusedSimpArgs false
set_option linter.unusedVariables false
variable {l:Land} {g1 g2:Bool × Bool}
theorem check_valid (h:l.Valid):checkLand l=0:=by
  have a1:=h.last0;have a2:=h.last4;have a3:=h.n0;have a4:=h.n4
  have b1:isSite l.sites l.home=true:=by simp only [isSite,inR_iff];have:=h.home0;have:=h.home1;omega
  have b2:inR l.purse 0 999=true:=inR_iff.2 ⟨h.purse0,h.purse1⟩
  have b3:inR l.bad 0 (IntKind.i64.wrap (l.last+1))=true:=by rw [wrapB (by omega) (by omega)];exact inR_iff.2 ⟨h.bad0,h.bad1⟩
  have b4:inR l.rest 1 5=true:=inR_iff.2 ⟨h.rest1,h.rest5⟩
  have b5:l.sites.all siteOk=true:=by
    rw [List.all_eq_true]
    intro s hs
    have:=h.site s hs
    simp only [siteOk,isCost,Bool.and_eq_true,inR_iff,decide_eq_true_eq]
    omega
  have b6:roadsOk l.sites l.roads=true:=by
    have hr:=h.roads
    have key:∀k,k<l.roads.length→roadOk l.sites l.roads k:=by
      intro k hk
      have hm:l.roads.getD k default∈l.roads:=by rw [getD_lt _ _ _ hk];exact List.getElem_mem hk
      refine ⟨(h.road _ hm).1,?_,?_⟩
      · rw [List.all_eq_true]
        intro x hx
        simp only [isCost,inR_iff]
        exact (h.road _ hm).2 x hx
      · rw [show min (k:Int) ((l.sites.length:Int)-1)=k by omega,atI_nat]
        exact h.home k (by omega)
    simp [roadsOk,hr]
    intro k hk
    exact key k (by omega)
  unfold checkLand
  rw [if_neg (by omega),if_neg (by omega),if_neg (by omega),if_neg (by omega),if_neg (by simp [b1]),if_neg (by simp [b2]),if_neg (by simp [b3]),if_neg (by simp [b4]),if_neg (by simp [b5]),if_neg (by simp [b6])]
theorem check_cases (h1:l.last≤4) (h2:l.sites.length≤4):checkLand l=0∨checkLand l=1:=by
  unfold checkLand
  rw [if_neg (by omega),if_neg (by omega)]
  repeat' split
  all_goals simp
theorem check_not (h1:l.last≤4) (h2:l.sites.length≤4) (h:¬l.Valid):checkLand l=1:=by
  rcases check_cases h1 h2 with e | e
  · exact absurd (valid_of e) h
  · exact e
structure goodF (l:Land) (k:Nat):Prop where
  fresh:inR (l.sites.getD k default).fresh 0 99=true
  second:inR (l.sites.getD k default).second 0 (l.sites.getD k default).fresh=true
  rent:inR (l.sites.getD k default).rent 0 99=true
  len:(l.roads.getD k default).length=l.sites.length
  home:(l.roads.getD k default).getD k default=0
  road:∀j,j<l.sites.length→inR ((l.roads.getD k default).getD j default) 0 99=true
theorem goodF_of (h:l.Valid) {k:Nat} (hk:k<l.sites.length):goodF l k:=by
  have hr:=h.roads
  have hm:l.roads.getD k default∈l.roads:=by rw [getD_lt _ _ _ (show k<l.roads.length by omega)];exact List.getElem_mem (show k<l.roads.length by omega)
  have hs:l.sites.getD k default∈l.sites:=by rw [getD_lt _ _ _ hk];exact List.getElem_mem hk
  have a:=h.site _ hs
  have b:=h.road _ hm
  refine ⟨inR_iff.2 (by omega),inR_iff.2 (by omega),inR_iff.2 (by omega),b.1,h.home k hk,fun j hj=>inR_iff.2 (b.2 _ ?_)⟩
  have hj':j<(l.roads.getD k default).length:=by omega
  rw [getD_lt _ _ _ hj'];exact List.getElem_mem hj'
theorem valid_goodF (a1:0≤l.last) (a2:l.last≤4) (a3:0<l.sites.length) (a4:l.sites.length≤4) (b1:inR l.home 0 (l.sites.length-1)=true) (b2:inR l.purse 0 999=true) (b3:inR l.bad 0 (IntKind.i64.wrap (l.last+1))=true) (b4:inR l.rest 1 5=true) (hr:l.roads.length=l.sites.length)
    (h:∀k,k<l.sites.length→goodF l k):l.Valid:=by
  rw [wrapB (by omega) (by omega)] at b3
  simp only [inR_iff] at b1 b2 b3 b4
  refine ⟨a1,a2,a3,a4,b1.1,by omega,b2.1,b2.2,b3.1,b3.2,b4.1,b4.2,?_,hr,?_,?_⟩
  · intro s hs
    obtain ⟨k,hk,rfl⟩:=List.getElem_of_mem hs
    have g:=h k hk
    have g1:=g.fresh;have g2:=g.second;have g3:=g.rent
    rw [getD_lt _ _ _ hk] at g1 g2 g3
    simp only [inR_iff] at g1 g2 g3
    omega
  · intro r hr'
    obtain ⟨k,hk,rfl⟩:=List.getElem_of_mem hr'
    have g:=h k (by omega)
    have g1:=g.len;have g2:=g.road
    rw [getD_lt _ _ _ hk] at g1 g2
    refine ⟨g1,fun x hx=>?_⟩
    obtain ⟨j,hj,rfl⟩:=List.getElem_of_mem hx
    have:=g2 j (by omega)
    rw [getD_lt _ _ _ hj] at this
    exact inR_iff.1 this
  · intro k hk
    exact (h k hk).home
theorem P49 (hf:l.Fits) {Q:V→Prop}:CallP tab 30 [landV g1 g2 l] Q↔Q (.c (.int .i64 (checkLand l))):=CallP_of (by
  have hs:=hf.sites
  have hs':l.sites.length<4611686018427387904:=hs
  have hw:IntKind.i64.wrap ((l.sites.length:Int)-1)=l.sites.length-1:=wrap_id _ (by omega) (by omega)
  refine Val_X (fn:=f30) rfl ?_
  by_cases h1:l.last>4
  · simp only [go_sem,f30,h1]
    simp [checkLand,h1]
  by_cases h2:(l.sites.length:Int)>4
  · simp only [go_sem,f30,h1,h2]
    simp [checkLand,h2]
  by_cases hB:0≤l.last∧0<l.sites.length∧inR l.home 0 (l.sites.length-1)=true∧inR l.purse 0 999=true∧inR l.bad 0 (IntKind.i64.wrap (l.last+1))=true∧inR l.rest 1 5=true∧l.roads.length=l.sites.length
  · obtain ⟨a1,a3,b1,b2,b3,b4,hr⟩:=hB
    have a1':¬l.last<0:=by omega
    have a3':¬(l.sites.length:Int)=0:=by omega
    simp only [go_sem,f30,P32,hw,h1,h2,a1',a3',b1,b2,b3,b4,hr]
    have hv:(∀k,k<l.sites.length→goodF l k)→checkLand l=0:=fun h=>check_valid (valid_goodF a1 (by omega) a3 (by omega) b1 b2 b3 b4 hr h)
    have hn:∀k,k<l.sites.length→¬goodF l k→checkLand l=1:=fun k hk h=>check_not (by omega) (by omega) fun hv=>h (goodF_of hv hk)
    refine RX_for l.sites.length (fun k=>[(4,.c (.int .i64 k))]) (fun k=>[.cells [.int .i64 l.last,.int .i64 l.home,.int .i64 l.purse,.int .i64 l.bad,.int .i64 l.rest,L g1 l.sites,L g2 l.roads]]) (fun k=>∀i,i<k→goodF l i) (fun i h=>by omega) (by simp only [go_sem]<;>rfl) ?_
    intro k hk hP
    by_cases h3:k<l.sites.length
    · have h4:(k:Int)<l.roads.length:=by omega
      by_cases hl:(l.roads.getD k default).length=l.sites.length
      · simp only [go_sem,P32,h3,h4,hl,atI_nat]
        refine ⟨fun c1=>⟨fun c2=>⟨fun c3=>⟨fun c4=>?_,fun c4=>?_⟩,fun c3=>?_⟩,fun c2=>?_⟩,fun c1=>?_⟩
        · rw [hn k h3 fun g=>c4 g.home]
        · refine RX_for l.sites.length (fun j=>[(6,.c (.int .i64 j))]) (fun _=>[.cells [.int .i64 l.last,.int .i64 l.home,.int .i64 l.purse,.int .i64 l.bad,.int .i64 l.rest,L g1 l.sites,L g2 l.roads],.cells [.int .i64 (l.sites.getD k default).fresh,.int .i64 (l.sites.getD k default).second,.int .i64 (l.sites.getD k default).rent]]) (fun j=>∀i,i<j→inR ((l.roads.getD k default).getD i default) 0 99=true) (fun i h=>by omega) (by simp only [go_sem]<;>rfl) ?_
          intro j hj hPj
          by_cases h5:j<l.sites.length
          · have h6:(j:Int)<(l.roads.getD k default).length:=by omega
            simp only [go_sem,P32,h3,h4,h5,h6,hl,atI_nat,wrap_succ h5 hs]
            refine ⟨fun c5=>?_,fun c5=>?_⟩
            · rw [hn k h3 fun g=>by rw [g.road j h5] at c5;cases c5]
            · intro i hi
              by_cases e:i=j
              · subst e;exact c5
              · exact hPj i (by omega)
          · simp only [go_sem,h5,wrap_succ h3 hs]
            intro i hi
            by_cases e:i=k
            · subst e;exact ⟨c1,c2,c3,hl,c4,fun j hj=>hPj j (by omega)⟩
            · exact hP i (by omega)
        · rw [hn k h3 fun g=>by rw [g.rent] at c3;cases c3]
        · rw [hn k h3 fun g=>by rw [g.second] at c2;cases c2]
        · rw [hn k h3 fun g=>by rw [g.fresh] at c1;cases c1]
      · simp only [go_sem,P32,h3,h4,hl,atI_nat]
        have:=hn k h3 fun g=>hl g.len
        refine ⟨fun c1=>⟨fun c2=>⟨fun c3=>?_,fun c3=>?_⟩,fun c2=>?_⟩,fun c1=>?_⟩<;>rw [this]
    · simp only [go_sem,h3]
      rw [hv fun i hi=>hP i (by omega)]
  · have hc:checkLand l=1:=check_not (by omega) (by omega) fun hv=>hB ⟨hv.last0,hv.n0,inR_iff.2 ⟨hv.home0,by have:=hv.home1;omega⟩,inR_iff.2 ⟨hv.purse0,hv.purse1⟩,by
      have:=hv.last0
      have:=hv.last4
      rw [wrapB (by omega) (by omega)];exact inR_iff.2 ⟨hv.bad0,hv.bad1⟩,inR_iff.2 ⟨hv.rest1,hv.rest5⟩,hv.roads⟩
    simp only [go_sem,f30,P32,hw,h1,h2,hc]
    intro c1 c2 c3 c4 c5 c6 c7
    exact absurd ⟨by omega,by omega,c3,c4,c5,c6,c7⟩ hB)
end Am.Mv
