/-
  A part of the proof: the texts K1, K2, K3, K4, K5, K6 of this seat, joined.
-/
import Derived.Test.YtnknceencnjnkaaGreatWalkA
namespace Am.Vt
open Go Am
set_option maxRecDepth 100000
set_option maxHeartbeats 2000000
set_option linter.unusedSimpArgs false
set_option linter.unusedVariables false
structure Tr where
  cask:Bool
  number:Int
  n:Rg
  deriving Inhabited,DecidableEq
structure Cellar where
  heaps:List Rg
  casks:List (List Int)
  trials:List Tr
  deriving Inhabited,DecidableEq
instance : Row Tr:=⟨4,fun s=>[.bool s.cask,.int .i64 s.number,.int .i64 s.n.lo,.int .i64 s.n.hi],fun _=>rfl⟩
@[go_sem] theorem sz_tr : Row.sz Tr=4:=rfl
@[go_sem] theorem row_tr {s:Tr}:Row.row s=[.bool s.cask,.int .i64 s.number,.int .i64 s.n.lo,.int .i64 s.n.hi]:=rfl
instance : Scal Tr:=⟨fun _=>rfl⟩
abbrev trV (s:Tr):V:=.agg [.bool s.cask,.int .i64 s.number,.int .i64 s.n.lo,.int .i64 s.n.hi]
def elemTr : Elem Tr 4 (some 4):=⟨fun _ s=>trV s,rfl,fun _ _ _=>rfl,fun _ _=>rfl⟩
def elemLst : Elem (List Int) 1 none:=⟨fun t x=>.c (L (false,t) x),rfl,fun _ _ _=>rfl,fun _ _=>rfl⟩
abbrev cellC (g1 g2 g3:Bool × Bool) (c:Cellar):List C:=[L g1 c.heaps,L g2 c.casks,L g3 c.trials]
abbrev cellV (g1 g2 g3:Bool × Bool) (c:Cellar):V:=.agg [L g1 c.heaps,L g2 c.casks,L g3 c.trials]
attribute [go_sem] cellC cellV
theorem kwithin {n low high:Int} {Q:V→Prop}:CallP tab 97 [.c (.int .i64 n),.c (.int .i64 low),.c (.int .i64 high)] Q↔Q (.c (.bool (inR n low high))):=CallP_of (by
  refine Val_X (fn:=f97) rfl ?_
  simp only [go_sem,f97,ge_iff_le]
  constructor<;>intro h<;>simp [h,inR])
theorem kstrong {lo hi:Int} {Q:V→Prop}:CallP tab 65 [.agg [.int .i64 lo,.int .i64 hi]] Q↔Q (.c (.bool (rgOf lo hi 0 100))):=CallP_of (by
  refine Val_X (fn:=f65) rfl ?_
  simp only [go_sem,f65]
  refine ⟨fun h=>⟨fun h'=>?_,fun h'=>?_⟩,fun h=>?_⟩<;>simp [rgOf, *])
theorem khas {lo hi n:Int} {Q:V→Prop}:CallP tab 70 [.agg [.int .i64 lo,.int .i64 hi],.c (.int .i64 n)] Q↔Q (.c (.bool (inR n lo hi))):=CallP_of (by
  refine Val_X (fn:=f70) rfl ?_
  simp only [go_sem,f70,kwithin])
theorem ksize {lo hi:Int} {Q:V→Prop}:CallP tab 69 [.agg [.int .i64 lo,.int .i64 hi]] Q↔Q (.c (.int .i64 (sizeI lo hi))):=CallP_of (by
  refine Val_X (fn:=f69) rfl ?_
  simp only [go_sem,f69,sizeI])
theorem kminimum {g:Bool × Bool} {l:List Int} (h0:0<l.length) (hl:l.length<Big) {Q:V→Prop}:CallP tab 68 [.c (L g l)] Q↔Q (.c (.int .i64 (minL l))):=CallP_of (by
  refine Val_X (fn:=f68) rfl ?_
  simp only [go_sem,f68,CallP_of (Min_ok (G:=tab) (k:=105) rfl (g:=g) h0 hl)])
theorem kmin2 {t:Bool} {a b:Int} {Q:V→Prop}:CallP tab 68 [.c (.lst t [[.int .i64 a],[.int .i64 b]])] Q↔Q (.c (.int .i64 (min a b))):=by
  have:=kminimum (g:=(false,t)) (l:=[a,b]) (show 0<2 by decide) (show 2<Big by decide) (Q:=Q)
  exact this
theorem kwider {lo hi n:Int} {Q:V→Prop}:CallP tab 61 [.agg [.int .i64 lo,.int .i64 hi],.c (.int .i64 n)] Q↔Q (.agg [.int .i64 (min lo n),.int .i64 (max hi n)]):=CallP_of (by
  refine Val_X (fn:=f61) rfl ?_
  simp only [go_sem,f61,kmin2])
theorem kweight {n:Int} {h:List Obj} {Q:V→List Obj→Prop}:Fn tab (.f 125 [.c (.int .i64 n)] h) Q↔Q (.c (.bool (inR n 0 30))) h:=Fn_iff (by
  refine Fn_X (fn:=f125) rfl rfl ?_
  simp only [go_sem,f125,kwithin])
def sumW (l:List Int):Int:=l.foldl (fun a x=>IntKind.i64.wrap (a+x)) 0
theorem ksum {g:Bool × Bool} {l:List Int} (hl:l.length<Big) {Q:V→Prop}:CallP tab 71 [.c (L g l)] Q↔Q (.c (.int .i64 (sumW l))):=CallP_of (by
  refine Val_X (fn:=f71) rfl ?_
  simp only [go_sem,f71]
  refine RX_for l.length (fun k=>[(2,.c (.int .i64 (sumW (l.take k)))),(7,.c (.int .i64 k))]) (fun _=>[]) (fun _=>True) trivial (by simp only [go_sem]<;>rfl) ?_
  intro k hk _
  by_cases hlt:k<l.length
  · simp only [go_sem,hlt,atI_nat,wrap_succ hlt hl]
    simp only [sumW,take_getD hlt default,List.foldl_append,List.foldl_cons,List.foldl_nil]
  · have:k=l.length:=by omega
    subst this
    simp only [go_sem,hlt,List.take_length])
theorem Fweights {g:Bool × Bool} {l:List Int} (hs:l.length<Big) {h:List Obj} (hu:underH h.length h=true) {Q:V→List Obj→Prop}:Fn tab (.f 124 [.c (L g l),.c (.fn 125 false [] [])] h) Q↔Q (.c (.bool (l.all fun n=>inR n 0 30))) (h++[.cells [.fn 125 false [] []]]):=by
  refine All_pure elemInt (kN:=136) (kC:=112) (kI:=131) rfl rfl rfl rfl hs hu (by simp only [go_sem]) (fun n=>inR n 0 30) ?_
  intro z hz h' hu'
  simp only [go_sem,elemInt]
  rw [kweight]
  exact ⟨rfl,rfl⟩
def wtsOk (n:Nat) (l:List Int):Bool:=decide (l.length=n)&&l.all fun n=>inR n 0 30
variable {g1 g2 g3:Bool × Bool} {c:Cellar}
theorem kweights {g:Bool × Bool} {l:List Int} (hs:l.length<Big) {Q:V→Prop}:CallP tab 98 [cellV g1 g2 g3 c,.c (L g l)] Q↔Q (.c (.bool (wtsOk c.heaps.length l))):=CallP_of (by
  refine Val_X (fn:=f98) rfl ?_
  by_cases h:l.length=c.heaps.length
  · simp only [go_sem,f98,Fweights hs,h,wtsOk]
  · have h':¬((l.length:Int)=(c.heaps.length:Int)):=by omega
    simp only [go_sem,f98,h,h',wtsOk,decide_false,Bool.false_and])
def caskOk (n:Nat) (l:List Int):Bool:=wtsOk n l&&decide (sumW l>0)
end Am.Vt
namespace Am.Vt
open Go Am
set_option maxRecDepth 100000
set_option maxHeartbeats 2000000
set_option linter.unusedSimpArgs false
set_option linter.unusedVariables false
variable {g1 g2 g3:Bool × Bool} {c:Cellar}
theorem FisCask {g:Bool × Bool} {l:List Int} (hs:l.length<Big) {h:List Obj} {Q:V→List Obj→Prop}:Fn tab (.f 63 [cellV g1 g2 g3 c,.c (L g l)] h) Q↔Q (.c (.bool (caskOk c.heaps.length l))) (h++[.cells (cellC g1 g2 g3 c)]):=Fn_iff (by
  refine Fn_X (fn:=f63) rfl rfl ?_
  cases h1:wtsOk c.heaps.length l with
  | true=>
    simp only [go_sem,f63,kweights hs,ksum hs,h1,caskOk,Bool.true_and,gt_iff_lt,true_and]
  | false=>simp only [go_sem,f63,kweights hs,h1,caskOk,Bool.false_and])
theorem Fcasks (hs:c.casks.length<Big) (hl:∀l∈c.casks,l.length<Big) {h:List Obj}:Fn tab (.f 66 [.c (L g2 c.casks),.c (.fn 63 true (cellC g1 g2 g3 c) [])] h) fun r H'=>∃X,r = .c (.bool (c.casks.all (caskOk c.heaps.length)))∧H'=h++(.cells [.fn 63 true (cellC g1 g2 g3 c) []]::X):=by
  refine All_grow elemLst (kN:=102) (kC:=101) (kI:=127) rfl rfl rfl hs (caskOk c.heaps.length) (fun z=>[.cells (cellC g1 g2 g3 c)]) ?_
  intro z hz X
  rw [CallV_fn]
  refine Fn_X (fn:=f102) rfl rfl ?_
  simp only [go_sem,f102,elemLst,FisCask (hl z hz)]
def trOk (c:Cellar) (t:Tr):Bool:=inR t.number 0 (IntKind.i64.wrap ((if t.cask then (c.casks.length:Int) else c.heaps.length)-1))&&rgOf t.n.lo t.n.hi 0 100
theorem Ftrial {a:Bool} {b x y:Int} {h:List Obj} {Q:V→List Obj→Prop}:Fn tab (.f 62 [cellV g1 g2 g3 c,.agg [.bool a,.int .i64 b,.int .i64 x,.int .i64 y]] h) Q↔Q (.c (.bool (trOk c ⟨a,b,⟨x,y⟩⟩))) (h++[.cells (cellC g1 g2 g3 c),.cells [.bool a,.int .i64 b,.int .i64 x,.int .i64 y]]):=Fn_iff (by
  refine Fn_X (fn:=f62) rfl rfl ?_
  cases a
  · simp only [go_sem,f62,kwithin,kstrong,trOk]
    cases inR b 0 (IntKind.i64.wrap ((c.heaps.length:Int)-1))<;>simp
  · simp only [go_sem,f62,kwithin,kstrong,trOk]
    cases inR b 0 (IntKind.i64.wrap ((c.casks.length:Int)-1))<;>simp)
theorem Ftrials (hs:c.trials.length<Big) {h:List Obj}:Fn tab (.f 67 [.c (L g3 c.trials),.c (.fn 62 true (cellC g1 g2 g3 c) [])] h) fun r H'=>∃X,r = .c (.bool (c.trials.all (trOk c)))∧H'=h++(.cells [.fn 62 true (cellC g1 g2 g3 c) []]::X):=by
  refine All_grow elemTr (kN:=104) (kC:=103) (kI:=128) rfl rfl rfl hs (trOk c) (fun z=>[.cells [.bool z.cask,.int .i64 z.number,.int .i64 z.n.lo,.int .i64 z.n.hi],.cells (cellC g1 g2 g3 c),.cells [.bool z.cask,.int .i64 z.number,.int .i64 z.n.lo,.int .i64 z.n.hi]]) ?_
  intro z hz X
  rw [CallV_fn]
  refine Fn_X (fn:=f104) rfl rfl ?_
  simp only [go_sem,f104,elemTr,Ftrial]
theorem Fstrong {lo hi:Int} {h:List Obj} (hu:underH h.length h=true) {Q:V→List Obj→Prop}:Fn tab (.f 65 [.agg [.int .i64 lo,.int .i64 hi]] h) Q↔Q (.c (.bool (rgOf lo hi 0 100))) h:=Fn_iff (by
  refine Fn_XD (fn:=f65) rfl rfl ?_
  simp only [go_sem,f65,hu]
  refine ⟨fun h=>⟨fun h'=>?_,fun h'=>?_⟩,fun h=>?_⟩<;>simp [rgOf, *])
theorem Fheaps {g:Bool × Bool} {l:List Rg} (hs:l.length<Big) {h:List Obj} (hu:underH h.length h=true) {Q:V→List Obj→Prop}:Fn tab (.f 64 [.c (L g l),.c (.fn 65 false [] [])] h) Q↔Q (.c (.bool (l.all fun r=>rgOf r.lo r.hi 0 100))) (h++[.cells [.fn 65 false [] []]]):=by
  refine All_pureS elemRg (fun _ z=>⟨_,rfl,rfl,rfl,fun _=>rfl⟩) (kN:=100) (kC:=99) (kI:=126) rfl rfl rfl rfl hs hu (by simp only [go_sem]) (fun r=>rgOf r.lo r.hi 0 100) ?_
  intro z hz h' hu'
  simp only [go_sem,elemRg]
  rw [Fstrong hu']
  exact ⟨rfl,rfl⟩
end Am.Vt
namespace Am.Vt
open Go Am
set_option maxRecDepth 100000
set_option maxHeartbeats 4000000
set_option linter.unusedSimpArgs false
set_option linter.unusedVariables false
variable {g1 g2 g3:Bool × Bool} {c:Cellar}
structure Cellar.Fits (c:Cellar):Prop where
  heaps:c.heaps.length≤1000
  casks:c.casks.length≤1000
  cask:∀l∈c.casks,l.length≤1000
  trials:c.trials.length≤1000
def checkCell (c:Cellar):Int:=
  if (c.heaps.length:Int)>3 then 3 else if (c.casks.length:Int)>3 then 3 else if (c.trials.length:Int)>5 then 3
  else if (c.heaps.length:Int)=0 then 1 else if c.heaps.all (fun r=>rgOf r.lo r.hi 0 100)=false then 1
  else if c.casks.all (caskOk c.heaps.length)=false then 1 else if c.trials.all (trOk c)=false then 1
  else if manyL c.heaps>2000 then 3 else 0
theorem cCheckCellar (hf:c.Fits) {Q:V→Prop}:CallP tab 36 [cellV g1 g2 g3 c] Q↔Q (.c (.int .i64 (checkCell c))):=CallP_of (by
  have b1:=big_of hf.heaps
  have b2:=big_of hf.casks
  have b3:=fun l h=>big_of (hf.cask l h)
  have b4:=big_of hf.trials
  refine Val_X (fn:=f36) rfl ?_
  by_cases a1:(c.heaps.length:Int)>3
  · simp only [go_sem,f36,a1,checkCell]
  by_cases a2:(c.casks.length:Int)>3
  · simp only [go_sem,f36,a1,a2,checkCell]
  by_cases a3:(c.trials.length:Int)>5
  · simp only [go_sem,f36,a1,a2,a3,checkCell]
  by_cases a4:(c.heaps.length:Int)=0
  · simp only [go_sem,f36,a1,a2,a3,a4,checkCell]
  cases a5:c.heaps.all (fun r=>rgOf r.lo r.hi 0 100) with
  | false=>simp only [go_sem,f36,a1,a2,a3,a4,Fheaps b1,a5,checkCell]
  | true=>
  have kl:=fun {h:List Obj}=>Fcasks (g1:=g1) (g2:=g2) (g3:=g3) (c:=c) b2 b3 (h:=h)
  have kt:=fun {h:List Obj}=>Ftrials (g1:=g1) (g2:=g2) (g3:=g3) (c:=c) b4 (h:=h)
  simp only [go_sem,f36,a1,a2,a3,a4,Fheaps b1,a5]
  refine kl.mono ?_
  rintro r H' ⟨X,rfl,rfl⟩
  cases a6:c.casks.all (caskOk c.heaps.length) with
  | false=>simp only [go_sem,checkCell,a1,a2,a3,a4,a5,a6]
  | true=>
  simp only [go_sem]
  refine kt.mono ?_
  rintro r H' ⟨X',rfl,rfl⟩
  cases a7:c.trials.all (trOk c) with
  | false=>simp only [go_sem,checkCell,a1,a2,a3,a4,a5,a6,a7]
  | true=>
  have hr:checkCell c=if manyL c.heaps>2000 then 3 else 0:=by
    simp only [checkCell,a1,a2,a3,a4,a5,a6,a7,if_false,Bool.true_eq_false]
  rw [hr]
  have hrl:c.heaps.length≤2000:=by have:=hf.heaps;omega
  simp only [go_sem]
  unfold manyL
  refine RX_whileU (α:=Nat × List Obj) (fun x=>[(5,.c (.int .i64 ((c.heaps.take x.1).foldl (fun m r=>min (IntKind.i64.wrap (m*sizeI r.lo r.hi)) 2001) 1))),(57,.c (.int .i64 x.1))]) (fun x=>.cells (cellC g1 g2 g3 c)::x.2) (fun x=>x.1≤c.heaps.length) (fun x=>c.heaps.length-x.1) (0,_) (Nat.zero_le _) (by simp only [go_sem]<;>exact ⟨rfl,rfl⟩) ?_
  rintro ⟨k,Y⟩ hk
  simp only at hk
  by_cases hlt:k<c.heaps.length
  · have e4:IntKind.i64.wrap ((k:Int)+1)=((k+1:Nat):Int):=wrap_succ (n:=3000) (by omega) (by decide)
    simp only [go_sem,hlt,atI_nat,ksize,kmin2,e4]
    exact ⟨(k+1,_),⟨by simp only;omega,by simp only;omega⟩,⟨by simp only [take_getD hlt default,List.foldl_append,List.foldl_cons,List.foldl_nil],rfl⟩,rfl⟩
  · have:k=c.heaps.length:=by omega
    subst this
    simp only [go_sem,hlt,List.take_length]
    exact ⟨fun h=>by rw [if_pos h],fun h=>by rw [if_neg h]⟩)
def dotW (l w:List Int):Int:=(List.range w.length).foldl (fun n i=>IntKind.i64.wrap (n+IntKind.i64.wrap (w.getD i default*l.getD i default))) 0
def meanW (l w:List Int):Int:=IntKind.i64.wrap ((dotW l w).tdiv (sumW w))
theorem kmean {g:Bool × Bool} {a b d:Int} {w:List Int} (hl:w.length≤3) (h0:sumW w≠0) {Q:V→Prop}:CallP tab 38 [.agg [.int .i64 a,.int .i64 b,.int .i64 d],.c (L g w)] Q↔Q (.c (.int .i64 (meanW [a,b,d] w))):=CallP_of (by
  have hb:w.length<Big:=by unfold Big;omega
  refine Val_X (fn:=f38) rfl ?_
  simp only [go_sem,f38]
  refine RX_for w.length (fun k=>[(5,.c (.int .i64 ((List.range k).foldl (fun n i=>IntKind.i64.wrap (n+IntKind.i64.wrap (w.getD i default*[a,b,d].getD i default))) 0))),(10,.c (.int .i64 k))]) (fun _=>[.cells [.int .i64 a,.int .i64 b,.int .i64 d]]) (fun _=>True) trivial (by simp only [go_sem]<;>rfl) ?_
  intro k hk _
  by_cases hlt:k<w.length
  · have h3:k<3:=by omega
    have hc:k=0∨k=1∨k=2:=by omega
    have hI:(k:Int)<3:=by omega
    have hp:takeN 1 (dropN k [C.int .i64 a,.int .i64 b,.int .i64 d])=some [.int .i64 ([a,b,d].getD k default)]:=by rcases hc with rfl | rfl | rfl<;>rfl
    simp only [go_sem,hlt,atI_nat,wrap_succ hlt hb,hI,hp,List.range_succ,List.foldl_append,List.foldl_cons,List.foldl_nil]
  · have:k=w.length:=by omega
    subst this
    simp only [go_sem,hlt,ksum hb,h0]
    rfl)
end Am.Vt
namespace Am.Vt
open Go Am
set_option maxRecDepth 100000
set_option maxHeartbeats 4000000
set_option linter.unusedSimpArgs false
set_option linter.unusedVariables false
variable {g1 g2 g3:Bool × Bool} {c:Cellar}
structure Cellar.Valid (c:Cellar):Prop where
  n0:0<c.heaps.length
  n3:c.heaps.length≤3
  casks3:c.casks.length≤3
  trials5:c.trials.length≤5
  heap:∀r∈c.heaps,0≤r.lo∧r.lo≤r.hi∧r.hi≤100
  cask:∀l∈c.casks,l.length=c.heaps.length∧(∀x∈l,0≤x∧x≤30)∧0<sumW l
  trial:∀t∈c.trials,0≤t.number∧t.number<(if t.cask then (c.casks.length:Int) else c.heaps.length)∧0≤t.n.lo∧t.n.lo≤t.n.hi∧t.n.hi≤100
  many:manyL c.heaps≤2000
theorem cell_valid (h:checkCell c=0):c.Valid:=by
  unfold checkCell at h
  split at h;· cases h
  split at h;· cases h
  split at h;· cases h
  split at h;· cases h
  split at h;· cases h
  split at h;· cases h
  split at h;· cases h
  split at h;· cases h
  rename_i a1 a2 a3 a4 a5 a6 a7 a8
  simp only [Bool.not_eq_false,List.all_eq_true,rgOf,caskOk,wtsOk,trOk,Bool.and_eq_true,decide_eq_true_eq,inR_iff] at a5 a6 a7
  have w1:IntKind.i64.wrap ((c.casks.length:Int)-1)=(c.casks.length:Int)-1:=by rw [wrap_id _ (by omega) (by omega)]
  have w2:IntKind.i64.wrap ((c.heaps.length:Int)-1)=(c.heaps.length:Int)-1:=by rw [wrap_id _ (by omega) (by omega)]
  refine ⟨by omega,by omega,by omega,by omega,fun r hr=>?_,fun l hl=>?_,fun t ht=>?_,by omega⟩
  · have:=a5 r hr;omega
  · obtain ⟨⟨x,y⟩,z⟩:=a6 l hl;exact ⟨x,y,z⟩
  · obtain ⟨⟨x,y⟩,z⟩:=a7 t ht
    cases ht2:t.cask
    · rw [ht2] at y;simp only [Bool.false_eq_true,if_false] at y ⊢;rw [w2] at y;omega
    · rw [ht2] at y;simp only [if_true] at y ⊢;rw [w1] at y;omega
def thingI (c:Cellar) (t:Tr):Int:=if t.cask then IntKind.i64.wrap ((c.heaps.length:Int)+t.number) else t.number
theorem kthing {a:Bool} {b x y:Int} {Q:V→Prop}:CallP tab 123 [cellV g1 g2 g3 c,.agg [.bool a,.int .i64 b,.int .i64 x,.int .i64 y]] Q↔Q (.c (.int .i64 (thingI c ⟨a,b,⟨x,y⟩⟩))):=CallP_of (by
  refine Val_X (fn:=f123) rfl ?_
  cases a<;>simp only [go_sem,f123,thingI])
def ofK (c:Cellar) (l:List Int) (t:Nat):Int:=if t<c.heaps.length then l.getD t default else meanW l (c.casks.getD (t-c.heaps.length) default)
theorem kof (hv:c.Valid) {a b d:Int} {t:Nat} (ht:t<c.heaps.length+c.casks.length) {Q:V→Prop}:CallP tab 60 [cellV g1 g2 g3 c,.agg [.int .i64 a,.int .i64 b,.int .i64 d],.c (.int .i64 t)] Q↔Q (.c (.int .i64 (ofK c [a,b,d] t))):=CallP_of (by
  have h3:=hv.n3
  have h4:=hv.casks3
  refine Val_X (fn:=f60) rfl ?_
  by_cases h:t<c.heaps.length
  · have hc:t=0∨t=1∨t=2:=by omega
    have hI:(t:Int)<3:=by omega
    have hn:¬(c.heaps.length:Int)≤(t:Int):=by omega
    have hp:takeN 1 (dropN t [C.int .i64 a,.int .i64 b,.int .i64 d])=some [.int .i64 ([a,b,d].getD t default)]:=by rcases hc with rfl | rfl | rfl<;>rfl
    simp only [go_sem,f60,ge_iff_le,hn,hI,hp,ofK,h]
  · have hn:(c.heaps.length:Int)≤(t:Int):=by omega
    have hw:IntKind.i64.wrap ((t:Int)-(c.heaps.length:Int))=((t-c.heaps.length:Nat):Int):=by rw [wrap_id _ (by omega) (by omega)];omega
    have hlt:t-c.heaps.length<c.casks.length:=by omega
    have hm:c.casks.getD (t-c.heaps.length) default∈c.casks:=by rw [getD_lt _ _ _ hlt];exact List.getElem_mem hlt
    have hk:=hv.cask _ hm
    simp only [go_sem,f60,ge_iff_le,hn,hw,hlt,atI_nat,kmean (show (c.casks.getD (t-c.heaps.length) default).length≤3 by omega) (show sumW (c.casks.getD (t-c.heaps.length) default)≠0 by omega),ofK,h])
def rightC (c:Cellar) (l:List Int):Bool:=c.trials.all fun t=>inR (ofK c l (thingI c t).toNat) t.n.lo t.n.hi
theorem kright (hv:c.Valid) {a b d:Int} {Q:V→Prop}:CallP tab 96 [cellV g1 g2 g3 c,.agg [.int .i64 a,.int .i64 b,.int .i64 d],.c .nils] Q↔Q (.c (.bool (rightC c [a,b,d]))):=CallP_of (by
  have h3:=hv.n3
  have h4:=hv.casks3
  have h5:=hv.trials5
  have hb:c.trials.length<Big:=by unfold Big;omega
  refine Val_X (fn:=f96) rfl ?_
  have hC:∀{x:Int} {Q:V→Prop},CallP tab 120 [.c .nils,.c (.int .i64 x)] Q↔Q (.c (.bool false)):=fun {x Q}=>CallP_of (Contains_ok (G:=tab) (k:=120) (kI:=135) rfl rfl (g:=(true,false)) (l:=[]) (v:=x) (by decide)) (Q:=Q)
  simp only [go_sem,f96]
  refine RX_for c.trials.length (fun k=>[(12,.c (.int .i64 k))]) (fun _=>[.cells (cellC g1 g2 g3 c),.cells [.int .i64 a,.int .i64 b,.int .i64 d]]) (fun k=>∀i,i<k→inR (ofK c [a,b,d] (thingI c (c.trials.getD i default)).toNat) (c.trials.getD i default).n.lo (c.trials.getD i default).n.hi=true) (fun i h=>by omega) (by simp only [go_sem]<;>rfl) ?_
  intro k hk hP
  by_cases hlt:k<c.trials.length
  · have hm:c.trials.getD k default∈c.trials:=by rw [getD_lt _ _ _ hlt];exact List.getElem_mem hlt
    have ht:=hv.trial _ hm
    obtain ⟨tn,htn,htl⟩:∃tn:Nat,thingI c (c.trials.getD k default)=tn∧tn<c.heaps.length+c.casks.length:=by
      refine ⟨(thingI c (c.trials.getD k default)).toNat,?_,?_⟩<;>unfold thingI<;>split<;>rename_i hq<;>simp only [hq,if_true,if_false] at ht
      · rw [wrap_id _ (by omega) (by omega)];omega
      · simp only [Bool.false_eq_true,if_false] at ht;omega
      · rw [wrap_id _ (by omega) (by omega)];omega
      · simp only [Bool.false_eq_true,if_false] at ht;omega
    have htI:(thingI c (c.trials.getD k default)).toNat=tn:=by rw [htn];rfl
    have hPk:=hP
    generalize hz:c.trials.getD k default=z at *
    obtain ⟨za,zb,⟨zx,zy⟩⟩:=z
    simp only [go_sem,hlt,atI_nat,hz,wrap_succ hlt hb,hC,kthing,htn,kof hv htl,khas]
    refine ⟨fun h=>?_,fun h=>?_⟩
    · simp only [rightC,List.all_eq_false]
      refine ⟨_,hm,?_⟩
      rw [htI]
      simpa using h
    · intro i hi
      by_cases hik:i=k
      · subst hik;rw [hz,htI];exact h
      · exact hPk i (by omega)
  · have:k=c.trials.length:=by omega
    subst this
    simp only [go_sem,hlt]
    simp only [rightC,List.all_eq_true]
    intro z hz
    obtain ⟨i,hi,rfl⟩:=List.getElem_of_mem hz
    have:=hP i hi
    rwa [getD_lt _ _ _ hi] at this)
end Am.Vt
namespace Am.Vt
open Go Am
set_option maxRecDepth 100000
set_option maxHeartbeats 4000000
set_option linter.unusedSimpArgs false
set_option linter.unusedVariables false
variable {g1 g2 g3:Bool × Bool} {c:Cellar}
def listedK (c:Cellar) (l:List Int):Bool:=decide (l.length=c.heaps.length)&&(List.range c.heaps.length).all fun i=>inR (l.getD i default) (c.heaps.getD i default).lo (c.heaps.getD i default).hi
def padK (l:List Int):List Int:=[l.getD 0 0,l.getD 1 0,l.getD 2 0]
theorem klisted (hv:c.Valid) {g:Bool × Bool} {l:List Int} (hl:l.length<Big) {Q:V→Prop}:CallP tab 37 [cellV g1 g2 g3 c,.c (L g l)] Q↔Q (if listedK c l then .tup [.agg [.int .i64 (l.getD 0 0),.int .i64 (l.getD 1 0),.int .i64 (l.getD 2 0)],.c (.bool true)] else .tup [.agg [.int .i64 0,.int .i64 0,.int .i64 0],.c (.bool false)]):=CallP_of (by
  have h3:=hv.n3
  have h0:=hv.n0
  have hb:c.heaps.length<Big:=by unfold Big;omega
  refine Val_X (fn:=f37) rfl ?_
  by_cases hn:l.length=c.heaps.length
  · have hc:l.length=1∨l.length=2∨l.length=3:=by omega
    simp only [go_sem,f37,hn]
    refine RX_for c.heaps.length (fun k=>[(18,.c (.int .i64 k))]) (fun _=>[.cells (cellC g1 g2 g3 c),.cells [.int .i64 0,.int .i64 0,.int .i64 0]]) (fun k=>∀i,i<k→inR (l.getD i default) (c.heaps.getD i default).lo (c.heaps.getD i default).hi=true) (fun i h=>by omega) (by simp only [go_sem]<;>rfl) ?_
    intro k hk hP
    by_cases hlt:k<c.heaps.length
    · have hl2:k<l.length:=by omega
      simp only [go_sem,hlt,hl2,atI_nat,wrap_succ hlt hb,khas]
      refine ⟨fun h=>?_,fun h=>?_⟩
      · have:listedK c l=false:=by
          simp only [listedK,hn,decide_true,Bool.true_and,List.all_eq_false]
          exact ⟨k,List.mem_range.2 hlt,by simpa using h⟩
        rw [this]
        simp only [Bool.false_eq_true,if_false]
      · intro i hi
        by_cases hik:i=k
        · subst hik;exact h
        · exact hP i (by omega)
    · have:k=c.heaps.length:=by omega
      subst this
      have hT:listedK c l=true:=by
        simp only [listedK,hn,decide_true,Bool.true_and,List.all_eq_true]
        exact fun i hi=>hP i (List.mem_range.1 hi)
      rw [hT]
      simp only [if_true]
      have h13:1≤3:=by decide
      have h23:2≤3:=by decide
      obtain ⟨x,rfl⟩ | ⟨x,y,rfl⟩ | ⟨x,y,z,rfl⟩:(∃x,l=[x])∨(∃x y,l=[x,y])∨∃x y z,l=[x,y,z]:=by
        match l,hc with
        | [x],_=>exact .inl ⟨x,rfl⟩
        | [x,y],_=>exact .inr (.inl ⟨x,y,rfl⟩)
        | [x,y,z],_=>exact .inr (.inr ⟨x,y,z,rfl⟩)
      all_goals
        simp only [go_sem,hlt,bound,Nat.le_refl,headLen,scalRows,List.map_cons,List.map_nil,List.length_cons,List.length_nil,List.all_cons,List.all_nil,List.flatMap_cons,List.flatMap_nil,beq_self_eq_true,h13,h23]
      · exact ⟨rfl,rfl,rfl⟩
      · exact ⟨rfl,rfl,rfl⟩
      · exact ⟨rfl,rfl,rfl⟩
  · have hn':¬(l.length:Int)=(c.heaps.length:Int):=by omega
    simp only [go_sem,f37,hn',hn,listedK,decide_false,Bool.false_and,Bool.false_eq_true,if_false])
end Am.Vt
namespace Am.Vt
open Go Am
set_option maxRecDepth 100000
set_option maxHeartbeats 4000000
set_option linter.unusedSimpArgs false
set_option linter.unusedVariables false
variable {g1 g2 g3:Bool × Bool} {c:Cellar}
def playC (c:Cellar) (l:List Int):List Int:=(List.range c.casks.length).map fun i=>meanW (padK l) (c.casks.getD i default)
def PlayC (c:Cellar) (l:List Int):V:=
  if checkCell c=0 then
    if listedK c l then .tup [.c (L (false,false) (playC c l)),.c (.int .i64 0)]
    else .tup [.c .nils,.c (.int .i64 2)]
  else .tup [.c .nils,.c (.int .i64 (checkCell c))]
theorem kPlay (hf:c.Fits) {g:Bool × Bool} {l:List Int} (hl:l.length<Big) {Q:V→Prop}:CallP tab 12 [cellV g1 g2 g3 c,.c (L g l)] Q↔Q (PlayC c l):=CallP_of (by
  refine Val_X (fn:=f12) rfl ?_
  by_cases h0:checkCell c=0
  · have hv:=cell_valid h0
    have h3:=hv.casks3
    have h4:=hv.n3
    cases h1:listedK c l with
    | false=>simp only [go_sem,f12,cCheckCellar hf,klisted hv hl,h0,h1,PlayC,if_true,Bool.false_eq_true,if_false]
    | true=>
      simp only [go_sem,f12,cCheckCellar hf,klisted hv hl,h0,h1,PlayC,if_true]
      refine RX_for c.casks.length (fun k=>[(9,.c (.sl 2 k 0 k)),(28,.c (.int .i64 k))]) (fun k=>[.cells (cellC g1 g2 g3 c),.cells [.int .i64 (l.getD 0 0),.int .i64 (l.getD 1 0),.int .i64 (l.getD 2 0)],.arr false k 1 (((List.range k).map fun i=>meanW (padK l) (c.casks.getD i default)).map Row.row)]) (fun _=>True) trivial (by simp only [go_sem]<;>first | rfl | exact ⟨rfl,rfl⟩) ?_
      intro k hk _
      by_cases hlt:k<c.casks.length
      · have hm:c.casks.getD k default∈c.casks:=by rw [getD_lt _ _ _ hlt];exact List.getElem_mem hlt
        have hc:=hv.cask _ hm
        have b7:(k+1)*8≤2^40:=by omega
        simp only [go_sem,hlt,atI_nat,kmean (show (c.casks.getD k default).length≤3 by omega) (show sumW (c.casks.getD k default)≠0 by omega),b7]
        refine ⟨wrap_succ (n:=1000) (by omega) (by decide),?_⟩
        rw [List.range_succ,List.map_append,List.map_append];rfl
      · have:k=c.casks.length:=by omega
        subst this
        simp only [go_sem,hlt]
        rfl
  · simp only [go_sem,f12,cCheckCellar hf,h0,PlayC,if_false])
end Am.Vt
