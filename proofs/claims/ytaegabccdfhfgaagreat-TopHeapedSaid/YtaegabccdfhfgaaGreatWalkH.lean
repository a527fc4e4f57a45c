/-
  A part of the proof: the texts HP1, HP2, HP3, HP4 of this seat, joined.
-/
import Derived.Test.YtaegabccdfhfgaaGreatWalkA
namespace Am.Hp
open Go Am Am.Tm Am.Cr
set_option maxRecDepth 100000
set_option maxHeartbeats 4000000
set_option linter.unusedSimpArgs false
set_option linter.unusedVariables false
structure Rd where
  hour:Int
  seen:Int
  err:Int
  deriving Inhabited,DecidableEq
structure Heap where
  last:Int
  size:Int
  cool:Int
  die:Int
  burn:Int
  start:Rg
  wet:List Rg
  turns:List Int
  reads:List Rd
  deriving Inhabited,DecidableEq
instance : Row Rd:=⟨3,fun s=>[.int .i64 s.hour,.int .i64 s.seen,.int .i64 s.err],fun _=>rfl⟩
@[go_sem] theorem sz_rd : Row.sz Rd=3:=rfl
@[go_sem] theorem row_rd {s:Rd}:Row.row s=[.int .i64 s.hour,.int .i64 s.seen,.int .i64 s.err]:=rfl
instance : Scal Rd:=⟨fun _=>rfl⟩
abbrev heapC (g1 g2 g3:Bool × Bool) (h:Heap):List C:=[.int .i64 h.last,.int .i64 h.size,.int .i64 h.cool,.int .i64 h.die,.int .i64 h.burn,.int .i64 h.start.lo,.int .i64 h.start.hi,L g1 h.wet,L g2 h.turns,L g3 h.reads]
abbrev heapV (g1 g2 g3:Bool × Bool) (h:Heap):V:=.agg [.int .i64 h.last,.int .i64 h.size,.int .i64 h.cool,.int .i64 h.die,.int .i64 h.burn,.int .i64 h.start.lo,.int .i64 h.start.hi,L g1 h.wet,L g2 h.turns,L g3 h.reads]
attribute [go_sem] heapC heapV
abbrev rdV (s:Rd):V:=.agg [.int .i64 s.hour,.int .i64 s.seen,.int .i64 s.err]
def elemRd : Elem Rd 3 (some 3):=⟨fun _ s=>rdV s,rfl,fun _ _ _=>rfl,fun _ _=>rfl⟩
variable {g1 g2 g3:Bool × Bool} {x:Heap}
theorem hwithin {n low high:Int} {Q:V→Prop}:CallP tab 90 [.c (.int .i64 n),.c (.int .i64 low),.c (.int .i64 high)] Q↔Q (.c (.bool (inR n low high))):=CallP_of (by
  refine Val_X (fn:=f90) rfl ?_
  simp only [go_sem,f90,ge_iff_le]
  constructor<;>intro h<;>simp [h,inR])
theorem hof {lo hi high:Int} {Q:V→Prop}:CallP tab 110 [.agg [.int .i64 lo,.int .i64 hi],.c (.int .i64 high)] Q↔Q (.c (.bool (rgOf lo hi high))):=CallP_of (by
  refine Val_X (fn:=f110) rfl ?_
  simp only [go_sem,f110]
  refine ⟨fun h=>⟨fun h'=>?_,fun h'=>?_⟩,fun h=>?_⟩<;>simp [rgOf, *])
theorem hhas {lo hi n:Int} {Q:V→Prop}:CallP tab 87 [.agg [.int .i64 lo,.int .i64 hi],.c (.int .i64 n)] Q↔Q (.c (.bool (inR n lo hi))):=CallP_of (by
  refine Val_X (fn:=f87) rfl ?_
  simp only [go_sem,f87,hwithin])
theorem hsize {lo hi:Int} {Q:V→Prop}:CallP tab 86 [.agg [.int .i64 lo,.int .i64 hi]] Q↔Q (.c (.int .i64 (sizeI lo hi))):=CallP_of (by
  refine Val_X (fn:=f86) rfl ?_
  simp only [go_sem,f86,sizeI])
theorem Hwet {lo hi:Int} {h:List Obj} (hu:underH h.length h=true) {Q:V→List Obj→Prop}:Fn tab (.f 82 [.agg [.int .i64 lo,.int .i64 hi]] h) Q↔Q (.c (.bool (rgOf lo hi 20))) h:=Fn_iff (by
  refine Fn_XD (fn:=f82) rfl rfl ?_
  simp only [go_sem,f82,hof,hu])
theorem hminimum {g:Bool × Bool} {l:List Int} (h0:0<l.length) (hl:l.length<Big) {Q:V→Prop}:CallP tab 85 [.c (L g l)] Q↔Q (.c (.int .i64 (minL l))):=CallP_of (by
  refine Val_X (fn:=f85) rfl ?_
  simp only [go_sem,f85,CallP_of (Min_ok (G:=tab) (k:=107) rfl (g:=g) h0 hl)])
theorem hmin2 {t:Bool} {a b:Int} {Q:V→Prop}:CallP tab 85 [.c (.lst t [[.int .i64 a],[.int .i64 b]])] Q↔Q (.c (.int .i64 (min a b))):=by
  have:=hminimum (g:=(false,t)) (l:=[a,b]) (show 0<2 by decide) (show 2<Big by decide) (Q:=Q)
  exact this
theorem hhours {Q:V→Prop}:CallP tab 53 [heapV g1 g2 g3 x] Q↔Q (.c (.int .i64 (IntKind.i64.wrap (x.last+1)))):=CallP_of (by
  refine Val_X (fn:=f53) rfl ?_
  simp only [go_sem,f53])
theorem hturnings {g:Bool × Bool} {ws:List Int} (hp:ws.length<Big) {Q:V→Prop}:CallP tab 49 [heapV g1 g2 g3 x,.c (L g ws)] Q↔Q (.c (.bool (chain (planP x.last) (-1) ws))):=CallP_of (by
  refine Val_X (fn:=f49) rfl ?_
  simp only [go_sem,f49]
  refine (All_ok elemInt (kN:=115) (kC:=102) (kI:=120) rfl rfl rfl rfl hp (fun i=>[.cells (heapC g1 g2 g3 x),.cells [.int .i64 (prevAt (-1) ws i)]]) 2 (fun _=>rfl) (fun i=>planP x.last (prevAt (-1) ws i) (ws.getD i default)) ?_).mono ?_
  · intro i hi _
    rw [CallV_fn]
    refine Fn_X (fn:=f89) rfl rfl ?_
    simp only [go_sem,f89,hwithin,elemInt,prevAt,planP]
  · rintro v h' (⟨a,rfl,rfl⟩ | ⟨i,a,b,c,rfl,rfl⟩)
    · have:chain (planP x.last) (-1) ws=true:=chain_iff.2 a
      simp only [go_sem,this]
    · have:chain (planP x.last) (-1) ws=false:=by
        cases h:chain (planP x.last) (-1) ws with
        | false=>rfl
        | true=>rw [chain_iff.1 h i a] at b;cases b
      simp only [go_sem,this])
def numsOk (x:Heap):Bool:=decide (0≤x.last)&&(inR x.size 0 20&&(inR x.cool 0 100&&(decide (0≤x.die)&&(inR x.burn x.die 500&&rgOf x.start.lo x.start.hi 500))))
theorem hnumbers {Q:V→Prop}:CallP tab 80 [heapV g1 g2 g3 x] Q↔Q (.c (.bool (numsOk x))):=CallP_of (by
  refine Val_X (fn:=f80) rfl ?_
  by_cases a1:0≤x.last
  · cases a2:inR x.size 0 20 with
    | false=>simp only [go_sem,f80,hwithin,hof,a1,a2,numsOk,ge_iff_le]
    | true=>
    cases a3:inR x.cool 0 100 with
    | false=>simp only [go_sem,f80,hwithin,hof,a1,a2,a3,numsOk,ge_iff_le]
    | true=>
    by_cases a4:0≤x.die
    · cases a5:inR x.burn x.die 500 with
      | false=>simp only [go_sem,f80,hwithin,hof,a1,a2,a3,a4,a5,numsOk,ge_iff_le]
      | true=>simp only [go_sem,f80,hwithin,hof,a1,a2,a3,a4,a5,numsOk,ge_iff_le,Bool.true_and]
    · simp only [go_sem,f80,hwithin,hof,a1,a2,a3,a4,numsOk,ge_iff_le]
  · simp only [go_sem,f80,hwithin,hof,a1,numsOk,ge_iff_le])
theorem hranges (h1:x.wet.length≤1000) {Q:V→Prop}:CallP tab 84 [heapV g1 g2 g3 x] Q↔Q (.c (L (false,false) (x.start::x.wet))):=CallP_of (by
  refine Val_X (fn:=f84) rfl ?_
  have e1:(x.wet.length+1)*16≤2^40:=by omega
  have e2:(1+x.wet.length)*16≤2^40:=by omega
  have e3:takeN (1+x.wet.length) ([D.int .i64 x.start.lo,.int .i64 x.start.hi]::x.wet.map Row.row)=some ((x.start::x.wet).map Row.row):=by
    have:=takeN_whole ((x.start::x.wet).map (Row.row (α:=Rg)))
    rw [List.length_map,List.length_cons,Nat.add_comm] at this
    exact this
  simp only [go_sem,f84,e1,e2,e3]
  rfl)
end Am.Hp
namespace Am.Hp
open Go Am Am.Tm Am.Cr
set_option maxRecDepth 100000
set_option maxHeartbeats 4000000
set_option linter.unusedSimpArgs false
set_option linter.unusedVariables false
variable {g1 g2 g3:Bool × Bool} {x:Heap}
theorem Hwets {g:Bool × Bool} {l:List Rg} (hs:l.length<Big) {h:List Obj} (hu:underH h.length h=true) {Q:V→List Obj→Prop}:Fn tab (.f 81 [.c (L g l),.c (.fn 82 false [] [])] h) Q↔Q (.c (.bool (l.all fun r=>rgOf r.lo r.hi 20))) (h++[.cells [.fn 82 false [] []]]):=by
  refine All_pureS elemRg (fun _ z=>⟨_,rfl,rfl,rfl,fun _=>rfl⟩) (kN:=112) (kC:=111) (kI:=122) rfl rfl rfl rfl hs hu (by simp only [go_sem]) (fun r=>rgOf r.lo r.hi 20) ?_
  intro z hz h' hu'
  simp only [go_sem,elemRg]
  rw [Hwet hu']
  exact ⟨rfl,rfl⟩
theorem Hreads {g:Bool × Bool} {l:List Rd} (hl:l=[]) {h:List Obj} (hu:underH h.length h=true) {Q:V→List Obj→Prop}:Fn tab (.f 83 [.c (L g l),.c (.fn 79 true (heapC g1 g2 g3 x) [])] h) Q↔Q (.c (.bool true)) (h++[.cells [.fn 79 true (heapC g1 g2 g3 x) []]]):=by
  subst hl
  refine All_pureS elemRd (fun _ z=>⟨_,rfl,rfl,rfl,fun _=>rfl⟩) (kN:=114) (kC:=113) (kI:=123) rfl rfl rfl rfl (l:=[]) (by decide) hu (by simp only [go_sem]) (fun _=>true) ?_
  intro z hz
  cases hz
structure Heap.Ok (x:Heap):Prop where
  last0:0≤x.last
  last9:x.last≤9
  nums:numsOk x=true
  wetl:(x.wet.length:Int)=x.last+1
  turns:chain (planP x.last) (-1) x.turns=true
  turnl:x.turns.length≤12
  wets:∀r∈x.wet,0≤r.lo∧r.lo≤r.hi∧r.hi≤20
  reads:x.reads=[]
  many:manyL (x.start::x.wet)≤2000
theorem hCheck (hv:x.Ok) {Q:V→Prop}:CallP tab 47 [heapV g1 g2 g3 x] Q↔Q (.c (.int .i64 0)):=CallP_of (by
  have l0:=hv.last0
  have l9:=hv.last9
  have hwl:=hv.wetl
  have htl:=hv.turnl
  have hm:=hv.many
  refine Val_X (fn:=f47) rfl ?_
  have a1:¬x.last>9:=by omega
  have a5:(x.wet.length:Int)=IntKind.i64.wrap (x.last+1):=by rw [wrapB (by omega) (by omega)];exact hwl
  have a9:x.wet.all (fun r=>rgOf r.lo r.hi 20)=true:=by
    rw [List.all_eq_true];intro r hr
    have:=hv.wets r hr
    simp [rgOf,this.1,this.2.1,this.2.2]
  have b1:x.wet.length<Big:=Nat.lt_of_le_of_lt (show x.wet.length≤1000 by omega) (by decide)
  have b2:x.turns.length<Big:=Nat.lt_of_le_of_lt htl (by decide)
  have hR:=fun {g:Bool × Bool} {h:List Obj} (hu:underH h.length h=true) {Q:V→List Obj→Prop}=>Hreads (g1:=g1) (g2:=g2) (g3:=g3) (x:=x) (g:=g) hv.reads hu (Q:=Q)
  have hT:=fun {g:Bool × Bool} {Q:V→Prop}=>hturnings (g1:=g1) (g2:=g2) (g3:=g3) (x:=x) (g:=g) (ws:=x.turns) b2 (Q:=Q)
  rw [hv.turns] at hT
  have hN:=fun {Q:V→Prop}=>hnumbers (g1:=g1) (g2:=g2) (g3:=g3) (x:=x) (Q:=Q)
  rw [hv.nums] at hN
  have hH:=fun {Q:V→Prop}=>hhours (g1:=g1) (g2:=g2) (g3:=g3) (x:=x) (Q:=Q)
  have hRg:=fun {Q:V→Prop}=>hranges (g1:=g1) (g2:=g2) (g3:=g3) (x:=x) (by omega) (Q:=Q)
  have hrl:(x.start::x.wet).length≤2000:=by simp;omega
  generalize x.start::x.wet=rs at hm hrl hRg
  unfold manyL at hm
  have a2:¬(x.reads.length:Int)>5:=by rw [hv.reads];decide
  simp only [go_sem,f47,a1,a2,hN,hH,a5,hT,Hwets b1,a9,hR,hRg]
  refine RX_forC rs.length (fun k=>[(4,.c (.int .i64 ((rs.take k).foldl (fun m r=>min (IntKind.i64.wrap (m*sizeI r.lo r.hi)) 2001) 1))),(54,.c (.int .i64 k))]) (fun _=>True) rfl trivial (by simp only [go_sem]<;>rfl) ?_
  intro k hk _
  by_cases hlt:k<rs.length
  · have e4:IntKind.i64.wrap ((k:Int)+1)=((k+1:Nat):Int):=wrap_succ (n:=3000) (by omega) (by decide)
    simp only [go_sem,hlt,atI_nat,hsize,hmin2,e4,take_getD hlt default,List.foldl_append,List.foldl_cons,List.foldl_nil]
  · have:k=rs.length:=by omega
    subst this
    have hm2:¬(rs.foldl (fun m r=>min (IntKind.i64.wrap (m*sizeI r.lo r.hi)) 2001) 1>2000):=by omega
    simp only [go_sem,hlt,List.take_length,hm2])
end Am.Hp
namespace Am.Hp
open Go Am Am.Tm Am.Cr
set_option maxRecDepth 100000
set_option maxHeartbeats 4000000
set_option linter.unusedSimpArgs false
set_option linter.unusedVariables false
variable {g1 g2 g3:Bool × Bool} {x:Heap}
abbrev workH (g1 g2 g3:Bool × Bool) (x:Heap) (mo:Nat):List C:=[.int .i64 x.last,.int .i64 x.size,.int .i64 x.cool,.int .i64 x.die,.int .i64 x.burn,.int .i64 x.start.lo,.int .i64 x.start.hi,L g1 x.wet,L g2 x.turns,L g3 x.reads,.map mo]
attribute [go_sem] workH
theorem Hcool {H:List Obj} {wo mo:Nat} {es:List (List D × List C)} {n:Int} {b:Bool} (hw:getH H wo = .cells (workH g1 g2 g3 x mo)) (hm:getH H mo=mapO es) (hok:EsOk x.cool es) :
    Fn tab (.f 91 [.c (.ptr wo 0),.agg [.int .i64 n,.bool b]] H) fun v H'=>v = .c (.int .i64 (leftI x.cool n b))∧∃es' X,EsOk x.cool es'∧H'=setH H mo (mapO es')++X:=by
  refine Fn_X (fn:=f91) rfl rfl ?_
  have hw2:∀X,getH (H++X) wo = .cells (workH g1 g2 g3 x mo):=fun X=>getH_keep hw (by simp)
  have hm2:∀X,getH (H++X) mo=mapO es:=fun X=>getH_keep hm (by simp)
  have lw:=lt_of_getH (h:=H) (o:=wo) (by rw [hw];simp)
  have lm:=lt_of_getH (h:=H) (o:=mo) (by rw [hm];simp)
  have q1:¬wo=H.length:=by omega
  have q2:¬H.length=wo:=by omega
  have q3:¬mo=H.length:=by omega
  have q4:¬H.length=mo:=by omega
  have hset:∀es' X,setH (H++X) mo (mapO es')=setH H mo (mapO es')++X:=fun es' X=>setH_left lm
  cases hfe:findE [.int .i64 n,.bool b] es with
  | some cs=>
    obtain ⟨e,he,hk,rfl⟩:=findE_mem hfe
    obtain ⟨n',b',h1,h2⟩:=hok e he
    rw [h1] at hk
    obtain ⟨rfl,rfl⟩:=key_inj hk
    rw [h2] at hfe
    simp only [go_sem,f91,hw2,hm2,hfe,q1,q2,q3,q4]
    exact ⟨es,_,hok,by rw [setH_same hm (by simp)]⟩
  | none=>
    have hs:=hset (putE [.int .i64 n,.bool b] [.int .i64 (leftI x.cool n b)] es)
    cases b with
    | true=>
      have e1:IntKind.i64.wrap (n-IntKind.i64.wrap ((IntKind.i64.wrap (n*x.cool)).tdiv 100))=leftI x.cool n true:=rfl
      simp only [go_sem,f91,hw2,hm2,hfe,q1,q2,q3,q4,e1,hs]
      exact ⟨_,_,hok.put,rfl⟩
    | false=>
      have e1:n=leftI x.cool n false:=rfl
      rw [←e1] at hs
      simp only [go_sem,f91,hw2,hm2,hfe,q1,q2,q3,q4,hs]
      exact ⟨e1,_,_,by have:=hok.put (n:=n) (b:=false);rw [←e1] at this;exact this,rfl⟩
def heatF (x:Heap) (st:Int) (wet turns:List Int):Nat→Int
  | 0=>st
  | k+1=>IntKind.i64.wrap (leftI x.cool (heatF x st wet turns k) (decide ((k:Int)∈turns))+IntKind.i64.wrap ((IntKind.i64.wrap (x.size*wet.getD k default)).tdiv 10))
def outF (x:Heap) (st:Int) (wet turns:List Int):Nat→List Int
  | 0=>List.replicate 10 0
  | k+1=>(outF x st wet turns k).set k (heatF x st wet turns (k+1))
theorem outF_len {st:Int} {wet turns:List Int} {k:Nat}:(outF x st wet turns k).length=10:=by
  induction k with
  | zero=>rfl
  | succ k ih=>simp only [outF,List.length_set,ih]
theorem Hplay {H:List Obj} {wo mo:Nat} {es:List (List D × List C)} {st:Int} {wet turns:List Int} {gw gt:Bool × Bool} (hw:getH H wo = .cells (workH g1 g2 g3 x mo)) (hm:getH H mo=mapO es) (hok:EsOk x.cool es)
    (hwl:wet.length≤10) (htl:turns.length≤1000) :
    Fn tab (.f 51 [.c (.ptr wo 0),.agg [.int .i64 st,L gw wet],.c (L gt turns)] H) fun v H'=>∃es' X,EsOk x.cool es'∧H'=setH H mo (mapO es')++X∧v = .agg ((outF x st wet turns wet.length).map intC):=by
  refine Fn_X (fn:=f51) rfl rfl ?_
  have lw:=lt_of_getH (h:=H) (o:=wo) (by rw [hw];simp)
  have lm:=lt_of_getH (h:=H) (o:=mo) (by rw [hm];simp)
  have hs0:setH H mo (mapO es)=H:=setH_same hm (by simp)
  have hz:List.replicate 10 (C.int .i64 0)=(outF x st wet turns 0).map intC:=by rfl
  simp only [go_sem,f51]
  refine RX_whileU (α:=Nat × List (List D × List C) × List Obj) (fun y=>[(7,.c (.int .i64 (heatF x st wet turns y.1))),(15,.c (.int .i64 y.1))]) (fun y=>setH H mo (mapO y.2.1)++(.cells [.int .i64 st,L gw wet] :: .cells ((outF x st wet turns y.1).map intC)::y.2.2)) (fun y=>y.1≤wet.length∧EsOk x.cool y.2.1) (fun y=>wet.length-y.1) (0,es,[]) ⟨Nat.zero_le _,hok⟩ (by simp only [go_sem,hs0]<;>first | rfl | exact ⟨rfl,rfl⟩) ?_
  rintro ⟨k,es1,X⟩ ⟨hk,hok1⟩
  simp only at hk hok1
  have nowo:wo≠mo:=by rintro rfl;rw [hw] at hm;cases hm
  have hwS:∀e Y,getH (setH H mo (mapO e)++Y) wo = .cells (workH g1 g2 g3 x mo):=fun e Y=>by rw [getH_left (by rw [length_setH];exact lw),getH_setH,if_neg (fun h=>nowo h.1),hw]
  have hmS:∀e Y,getH (setH H mo (mapO e)++Y) mo=mapO e:=fun e Y=>by rw [getH_left (by rw [length_setH];exact lm),getH_setH,if_pos ⟨rfl,lm⟩]
  have hl:=outF_len (x:=x) (st:=st) (wet:=wet) (turns:=turns) (k:=k)
  by_cases h1:k<wet.length
  · have e4:IntKind.i64.wrap ((k:Int)+1)=((k+1:Nat):Int):=wrap_succ (n:=3000) (by omega) (by decide)
    have e5:(k:Int)<10:=by omega
    have e6:k<(outF x st wet turns k).length:=by omega
    have hC:=fun {Q:V→Prop}=>CallP_of (Contains_ok (G:=tab) (k:=92) rfl rfl (g:=gt) (l:=turns) (v:=(k:Int)) (Nat.lt_of_le_of_lt htl (by decide))) (Q:=Q)
    simp only [go_sem,h1,atI_nat,hC]
    refine (Hcool (es:=es1) (hwS _ _) (hmS _ _) hok1).mono ?_
    rintro v H' ⟨rfl,es2,X2,hok2,rfl⟩
    rw [setH_left (by rw [length_setH];omega),setH_twice,List.append_assoc,List.cons_append,List.cons_append]
    generalize X++X2=X at *
    have hw2:=hwS es2
    have hst:IntKind.i64.wrap (leftI x.cool (heatF x st wet turns k) (decide ((k:Int)∈turns))+IntKind.i64.wrap ((IntKind.i64.wrap (x.size*wet.getD k default)).tdiv 10))=heatF x st wet turns (k+1):=rfl
    have hos:(outF x st wet turns k).set k (heatF x st wet turns (k+1))=outF x st wet turns (k+1):=rfl
    simp only [go_sem,hw2,hwS,hst,e4,e5,splice_ints e6,hos]
    exact ⟨(k+1,es2,X),⟨by simp only;omega,h1,hok2⟩,⟨rfl,rfl⟩,rfl⟩
  · have:k=wet.length:=by omega
    subst this
    have e6:takeN 10 ((outF x st wet turns wet.length).map intC)=some ((outF x st wet turns wet.length).map intC):=part_ints hl
    have e7:=splice_all (xs:=(outF x st wet turns wet.length).map intC) (l:=(outF x st wet turns wet.length).map intC) rfl
    simp only [go_sem,h1,e6,e7,hl,known_ints]
    exact ⟨es1,_,hok1,rfl⟩
end Am.Hp
namespace Am.Hp
open Go Am Am.Tm Am.Cr
set_option maxRecDepth 100000
set_option maxHeartbeats 4000000
set_option linter.unusedSimpArgs false
set_option linter.unusedVariables false
variable {g1 g2 g3:Bool × Bool} {x:Heap}
theorem Hwork {H:List Obj} {Q:V→List Obj→Prop}:Fn tab (.f 50 [heapV g1 g2 g3 x] H) Q↔Q (.c (.ptr (H.length+2) 0)) (H++[.cells (heapC g1 g2 g3 x),mapO [],.cells (workH g1 g2 g3 x (H.length+1))]):=by
  refine Fn_iff (Fn_X (fn:=f50) rfl rfl ?_)
  simp only [go_sem,f50]
structure Heap.Has (x:Heap) (st:Int) (wet:List Int):Prop where
  st0:x.start.lo≤st
  st1:st≤x.start.hi
  len:wet.length=x.wet.length
  el:∀i,i<wet.length→(x.wet.getD i default).lo≤wet.getD i default∧wet.getD i default≤(x.wet.getD i default).hi
theorem hlisted (hv:x.Ok) {g:Bool × Bool} {st:Int} {wet:List Int} (hh:x.Has st wet) {Q:V→Prop}:CallP tab 48 [heapV g1 g2 g3 x,.agg [.int .i64 st,L g wet]] Q↔Q (.c (.bool true)):=CallP_of (by
  have l0:=hv.last0
  have l9:=hv.last9
  have hwl:=hv.wetl
  have hl:=hh.len
  have a1:(wet.length:Int)=IntKind.i64.wrap (x.last+1):=by rw [wrapB (by omega) (by omega),hl];exact hwl
  have a2:inR st x.start.lo x.start.hi=true:=inR_iff.2 ⟨hh.st0,hh.st1⟩
  have hH:=fun {Q:V→Prop}=>hhours (g1:=g1) (g2:=g2) (g3:=g3) (x:=x) (Q:=Q)
  refine Val_X (fn:=f48) rfl ?_
  simp only [go_sem,f48,hH,a1,hhas,a2]
  refine RX_for x.wet.length (fun k=>[(24,.c (.int .i64 k))]) (fun _=>[.cells (heapC g1 g2 g3 x),.cells [.int .i64 st,L g wet]]) (fun _=>True) trivial (by simp only [go_sem]<;>first | rfl | exact ⟨rfl,rfl⟩) ?_
  intro k hk _
  by_cases hlt:k<x.wet.length
  · have e4:IntKind.i64.wrap ((k:Int)+1)=((k+1:Nat):Int):=wrap_succ (n:=3000) (by omega) (by decide)
    have k2:k<wet.length:=by omega
    have a3:inR (wet.getD k default) (x.wet.getD k default).lo (x.wet.getD k default).hi=true:=inR_iff.2 (hh.el k k2)
    simp only [go_sem,hlt,k2,atI_nat,hhas,a3,e4]
  · have:k=x.wet.length:=by omega
    subst this
    simp only [go_sem,hlt])
theorem hPlay (hv:x.Ok) {g gt:Bool × Bool} {st:Int} {wet:List Int} (hh:x.Has st wet) {Q:V→Prop}:CallP tab 25 [heapV g1 g2 g3 x,.agg [.int .i64 st,L g wet],.c (L gt x.turns)] Q↔Q (.tup [.c (L (false,false) ((outF x st wet x.turns wet.length).take wet.length)),.c (.int .i64 0)]):=CallP_of (by
  have l0:=hv.last0
  have l9:=hv.last9
  have hwl:=hv.wetl
  have htl:=hv.turnl
  have hl:=hh.len
  have hw:IntKind.i64.wrap (x.last+1)=(wet.length:Int):=by rw [wrapB (by omega) (by omega),hl];omega
  have hH:=fun {Q:V→Prop}=>hhours (g1:=g1) (g2:=g2) (g3:=g3) (x:=x) (Q:=Q)
  rw [hw] at hH
  have hC:=fun {Q:V→Prop}=>hCheck (g1:=g1) (g2:=g2) (g3:=g3) hv (Q:=Q)
  have hL:=fun {Q:V→Prop}=>hlisted (g1:=g1) (g2:=g2) (g3:=g3) hv (g:=g) hh (Q:=Q)
  have hT:=fun {Q:V→Prop}=>hturnings (g1:=g1) (g2:=g2) (g3:=g3) (x:=x) (g:=gt) (ws:=x.turns) (Nat.lt_of_le_of_lt htl (by decide)) (Q:=Q)
  rw [hv.turns] at hT
  have hW:=fun {H:List Obj} {Q:V→List Obj→Prop}=>Hwork (g1:=g1) (g2:=g2) (g3:=g3) (x:=x) (H:=H) (Q:=Q)
  refine Val_X (fn:=f25) rfl ?_
  simp only [go_sem,f25,hC,hL,hT,hW]
  refine (Hplay (es:=[]) (wo:=5) (mo:=4) (x:=x) (g1:=g1) (g2:=g2) (g3:=g3) rfl rfl (by intro e he;simp at he) (by omega) (by omega)).mono ?_
  rintro v H' ⟨es1,X,hok1,rfl,rfl⟩
  have hol:=outF_len (x:=x) (st:=st) (wet:=wet) (turns:=x.turns) (k:=wet.length)
  have e7:=splice_all (xs:=(outF x st wet x.turns wet.length).map intC) (l:=(List.replicate 10 (0:Int)).map intC) (by simp [hol])
  rw [List.map_replicate] at e7
  simp only [List.replicate_succ,List.replicate_zero] at e7
  have e8:takeN wet.length ((outF x st wet x.turns wet.length).map intC)=some (((outF x st wet x.turns wet.length).take wet.length).map intC):=by
    rw [takeN_take (by rw [List.length_map,hol];omega),List.map_take]
  have e9:wet.length≤10:=by omega
  have e10:wet.length*8≤2^40:=by omega
  have e11:((outF x st wet x.turns wet.length).take wet.length).length=wet.length:=by rw [List.length_take,hol];omega
  simp only [go_sem,bound,hH,hol,e7,e8,e9,e10,e11,known_ints])
end Am.Hp
