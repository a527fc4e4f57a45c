/-
  A part of the proof: the texts PB, PK, P7, P8, P9, P10 of this seat, joined.
-/
import Derived.Test.YtphjbeffckignaaGreatWalkD
namespace Am.Vt
open Go Am
set_option maxRecDepth 100000
set_option maxHeartbeats 4000000
set_option linter.unusedSimpArgs false
set_option linter.unusedVariables false
variable {j:Job} {v:Vat} {plan:List Stp} {t:Truth} {s:Sh}
def addS (S:List Sh) (s:Sh):List Sh:=if s∈S then S else S++[s]
def askStep (j:Job) (S:List Sh) (t:Truth):List Sh:=addS S (dipS j t)
def workL (j:Job):List Sh:=(allP j.vat).foldl (tst j.vat (askStep j)) []
theorem mem_addS {S:List Sh} {s x:Sh}:x∈addS S s↔x∈S∨x=s:=by
  unfold addS
  split
  · rename_i h
    exact ⟨.inl,fun h'=>h'.elim id fun e=>by rw [e];exact h⟩
  · simp
theorem mem_fold {x:Sh}:∀{T:List Truth} {S:List Sh},x∈T.foldl (tst j.vat (askStep j)) S↔x∈S∨∃t∈T,provesTruth j.vat t=true∧x=dipS j t
  | [],S=>by simp
  | t::T,S=>by
    rw [List.foldl_cons,mem_fold (T:=T)]
    unfold tst askStep
    cases hp:provesTruth j.vat t with
    | true=>
      simp only [if_true,mem_addS,List.mem_cons]
      constructor
      · rintro ((h | h) | ⟨y,h1,h2⟩)
        · exact .inl h
        · exact .inr ⟨t,.inl rfl,hp,h⟩
        · exact .inr ⟨y,.inr h1,h2⟩
      · rintro (h | ⟨y,rfl | h1,h2,h3⟩)
        · exact .inl (.inl h)
        · exact .inl (.inr h3)
        · exact .inr ⟨y,h1,h2,h3⟩
    | false=>
      simp only [Bool.false_eq_true,if_false,List.mem_cons]
      constructor
      · rintro (h | ⟨y,h1,h2⟩)
        · exact .inl h
        · exact .inr ⟨y,.inr h1,h2⟩
      · rintro (h | ⟨y,rfl | h1,h2,h3⟩)
        · exact .inl h
        · rw [hp] at h2;cases h2
        · exact .inr ⟨y,h1,h2,h3⟩
theorem mem_allP (hv:v.Valid) {t:Truth} (h:IsT v t):t∈allP v:=by
  have h1:=h.st
  have h2:=h.bl
  simp only [allP,List.mem_flatMap,List.mem_range,List.mem_map]
  refine ⟨(t.start-v.start.lo).toNat,by unfold szN;omega,(t.blue-v.blue.lo).toNat,by unfold szN;omega,t.drift,?_,?_⟩
  · have:=listsF_mem (rs:=v.drift) (y:=t.drift) (w:=[]) h.dl fun i hi=>h.dr i (by have:=h.dl;omega)
    simpa using this
  · cases t;simp only [Truth.mk.injEq,and_true];simp only at h1 h2;omega
theorem proves_iff (h0:checkVat v=0) {t:Truth}:provesTruth v t=true↔IsT v t∧v.looks.all (fun k=>rightK k (playL v t))=true:=by
  simp only [provesTruth,h0,decide_true,Bool.true_and,Bool.and_eq_true,listed_iff]
theorem looks_all {t:Truth}:rightL v [] (playL v t)=v.looks.all fun k=>rightK k (playL v t):=by
  rw [Bool.eq_iff_iff,rightL_iff,List.all_eq_true]
  constructor
  · intro h k hk
    obtain ⟨i,hi,rfl⟩:=List.getElem_of_mem hk
    have:=(h i hi).resolve_left (by simp)
    simpa [rightB,rightAt,List.getD_eq_getElem?_getD,List.getElem?_eq_getElem hi] using this
  · intro h i hi
    right
    have:=h _ (List.getElem_mem hi)
    simpa [rightB,rightAt,List.getD_eq_getElem?_getD,List.getElem?_eq_getElem hi] using this
theorem proves_mem (hv:v.Valid) (h0:checkVat v=0) {t:Truth}:provesTruth v t=true↔t∈truthsL v []:=by
  rw [proves_iff h0,mem_truths hv,looks_all]
theorem dip_ok (hj:j.Valid) {t:Truth} (h:IsT j.vat t):dipS j t=shadesT j t:=by
  have h1:=listed_iff.2 h
  rw [dipS,if_pos]
  have:=hj.day
  simp only [dipOk,hj.check,decide_true,h1,Bool.true_and,Bool.and_eq_true,inR_iff]
  omega
theorem mem_workL (hj:j.Valid) {s:Sh}:s∈workL j↔∃t∈truthsL j.vat [],s=shadesT j t:=by
  rw [workL,mem_fold]
  simp only [List.not_mem_nil,false_or]
  constructor
  · rintro ⟨t,_,h1,rfl⟩
    have h:=(proves_mem hj.vat hj.check).1 h1
    exact ⟨t,h,dip_ok hj (truths_isT hj.vat _ h)⟩
  · rintro ⟨t,h,rfl⟩
    have hT:=truths_isT hj.vat _ h
    exact ⟨t,mem_allP hj.vat hT,(proves_mem hj.vat hj.check).2 h,(dip_ok hj hT).symm⟩
theorem workL_ne (hj:j.Valid):workL j≠[]:=by
  obtain ⟨t,ht⟩:=pos_mem.1 hj.pos
  have:=(mem_workL hj).2 ⟨t,ht,rfl⟩
  intro h;rw [h] at this;cases this
theorem dayN (hj:j.Valid):j.day.toNat<j.vat.drift.length∧(j.day.toNat:Int)=j.day:=by
  have h1:=hj.day
  have h2:=hj.vat.drift
  omega
theorem shadesT_ok (hj:j.Valid) {t:Truth} (h:IsT j.vat t):(shadesT j t).Ok:=by
  intro x hx
  have hb:=stBlue_bd hj.vat h (dayN hj).1
  have:=shadesL_bd hj.vat (s:=stAt j.vat t (j.day.toNat+1)) (by omega) (n:=20) x hx
  omega
theorem workL_ok (hj:j.Valid):∀s∈workL j,s.Ok:=by
  intro s hs
  obtain ⟨t,ht,rfl⟩:=(mem_workL hj).1 hs
  exact shadesT_ok hj (truths_isT hj.vat _ ht)
theorem addS_len {S:List Sh} {s:Sh}:(addS S s).length≤S.length+1:=by unfold addS;split<;>simp
theorem FoldL_len {N:Nat}:∀{T:List Truth} {S:List Sh},S.length+T.length≤N→FoldL (tC j.vat fun S _=>S.length<N) (tst j.vat (askStep j)) S T
  | [],S,_=>trivial
  | t::T,S,h=>by
    simp only [List.length_cons] at h
    refine ⟨fun _=>by omega,FoldL_len ?_⟩
    unfold tst askStep
    have:=addS_len (S:=S) (s:=dipS j t)
    split<;>omega
theorem allP_len (hv:v.Valid):(allP v).length≤2000:=by
  have e:(allP v).length=prodN (rangesL v):=by
    simp only [allP,List.length_flatMap,List.length_map,listsF_len,rangesL]
    show _=szN v.start*(szN v.blue*prodN v.drift)
    simp [List.map_const',List.sum_replicate_nat]
  rw [e];exact hv.prod.1
theorem workL_len (hj:j.Valid):(workL j).length≤2000:=by
  have key:∀{T:List Truth} {S:List Sh},(T.foldl (tst j.vat (askStep j)) S).length≤S.length+T.length:=by
    intro T
    induction T with
    | nil=>intro S;simp
    | cons t T ih=>
      intro S
      rw [List.foldl_cons]
      have:=ih (S:=tst j.vat (askStep j) S t)
      have h1:(tst j.vat (askStep j) S t).length≤S.length+1:=by
        unfold tst askStep
        have:=addS_len (S:=S) (s:=dipS j t)
        split<;>omega
      simp only [List.length_cons];omega
  have:=key (T:=allP j.vat) (S:=[])
  have:=allP_len hj.vat
  unfold workL
  simp only [List.length_nil] at *
  omega
def rightS (j:Job) (s:Sh) (i b d:Nat):Bool:=inR (sumS s b d) (j.pieces.getD i default).lo (j.pieces.getD i default).hi
def rightW (j:Job) (i b d:Nat):Bool:=decide (b+d≤20)&&(workL j).all fun s=>rightS j s i b d
def vd (yes many:Nat):Int:=if yes=many then 1 else if yes=0 then 2 else 3
end Am.Vt
namespace Am.Vt
open Go Am
set_option maxRecDepth 100000
set_option maxHeartbeats 4000000
set_option linter.unusedSimpArgs false
set_option linter.unusedVariables false
variable {g1 g2 g3 g4 g5 g gt:Bool × Bool} {j:Job} {v:Vat} {plan:List Stp} {t:Truth} {s:Sh}
abbrev intD (x:Int):D:=.int .i64 x
theorem toDs_ints {h:List Obj}:∀{l:List Int},toDs h (l.map intC)=some (l.map intD,[])
  | []=>rfl
  | a::l=>by simp only [List.map_cons,toDs,toD,toDs_ints (l:=l)];rfl
theorem kinds_ints : ∀{l:List Int} {n:Nat},l.length=n→kindsD (List.replicate n (some .i64)) (l.map intD)=true
  | [],_,h=>by subst h;rfl
  | a::l,n,h=>by subst h;simp only [List.length_cons,List.replicate_succ,List.map_cons,kindsD,beq_self_eq_true,Bool.true_and,kinds_ints (l:=l) rfl]
abbrev ks20 : List (Option IntKind):=[some .i64,some .i64,some .i64,some .i64,some .i64,some .i64,some .i64,some .i64,some .i64,some .i64,some .i64,some .i64,some .i64,some .i64,some .i64,some .i64,some .i64,some .i64,some .i64,some .i64]
theorem kinds20 : kindsD ks20 (s.l.map intD)=true:=kinds_ints (n:=20) s.h
theorem keyEq_ints : ∀{l m:List Int},keyEq (l.map intD) (m.map intD)=decide (l=m)
  | [],[]=>rfl
  | [],b::m=>by simp [keyEq]
  | a::l,[]=>by simp [keyEq]
  | a::l,b::m=>by
    simp only [List.map_cons,keyEq,D.key,keyEq_ints (l:=l) (m:=m)]
    by_cases h:a=b<;>simp [h]
theorem sh_ext {s x:Sh} (h:s.l=x.l):s=x:=by cases s;cases x;cases h;rfl
def esS (S:List Sh):List (List D × List C):=S.map fun s=>(s.l.map intD,[.bool true])
theorem findE_S {s:Sh}:∀{S:List Sh},findE (s.l.map intD) (esS S)=if s∈S then some [.bool true] else none
  | []=>by simp [esS,findE]
  | x::S=>by
    have ih:=findE_S (s:=s) (S:=S)
    unfold esS at ih ⊢
    simp only [List.map_cons,findE,keyEq_ints,decide_eq_true_eq,ih,List.mem_cons]
    by_cases h:s.l=x.l
    · rw [if_pos h,if_pos (.inl (sh_ext h))]
    · rw [if_neg h]
      by_cases h':s∈S
      · rw [if_pos h',if_pos (.inr h')]
      · rw [if_neg h',if_neg]
        rintro (rfl | h2)
        · exact h rfl
        · exact h' h2
theorem putE_S {s:Sh}:∀{S:List Sh},s∉S→putE (s.l.map intD) [.bool true] (esS S)=esS (S++[s])
  | [],_=>rfl
  | x::S,h=>by
    have ih:=putE_S (s:=s) (S:=S) (fun h'=>h (by simp [h']))
    unfold esS at ih ⊢
    have hn:¬s.l=x.l:=fun e=>h (by rw [sh_ext e];simp)
    simp only [List.map_cons,List.cons_append,putE,keyEq_ints,hn,decide_false,Bool.false_eq_true,if_false,ih]
abbrev wkC (g1 g2 g3 g4 g5:Bool × Bool) (j:Job) (c:C):List C:=[.int .i64 j.vat.last,.int .i64 j.vat.band,.int .i64 j.vat.start.lo,.int .i64 j.vat.start.hi,.int .i64 j.vat.blue.lo,.int .i64 j.vat.blue.hi,.int .i64 j.vat.gain,.int .i64 j.vat.take,L g1 j.vat.drift,L g2 j.vat.feeds,L g3 j.vat.dips,L g4 j.vat.looks,.int .i64 j.day,L g5 j.pieces,.int .i64 j.eye,.int .i64 j.old.lo,.int .i64 j.old.hi,c]
attribute [go_sem] wkC
def TL (n:Nat) (S:List Sh) (c:C) (H:List Obj):Prop:=(S=[]∧c = .nils)∨(S≠[]∧∃o,n≤o∧c = .sl o (S.length-1) 0 S.length∧getH H o = .arr false (S.length-1) 20 (S.map Row.row))
theorem TL.keep {n:Nat} {S:List Sh} {c:C} {H H':List Obj} (h:TL n S c H) (hk:∀o x,getH H o=x→n≤o→(∃f ver w,x = .arr f ver 20 w)→getH H' o=x):TL n S c H':=by
  rcases h with h | ⟨h1,o,h2,h3,h4⟩
  · exact .inl h
  · exact .inr ⟨h1,o,h2,h3,hk _ _ h4 h2 ⟨_,_,_,rfl⟩⟩
theorem TL.rd {n:Nat} {S:List Sh} {c:C} {H:List Obj} (h:TL n S c H):Rd 20 H c S:=by
  rcases h with ⟨rfl,rfl⟩ | ⟨h1,o,h2,rfl,h4⟩
  · exact .lst (true,false) [] rfl
  · exact .sl o _ _ S h4
end Am.Vt
namespace Am.Vt
open Go Am
set_option maxRecDepth 100000
set_option maxHeartbeats 4000000
set_option linter.unusedSimpArgs false
set_option linter.unusedVariables false
variable {g1 g2 g3 g4 g5 g gt:Bool × Bool} {j:Job} {v:Vat} {plan:List Stp} {t:Truth} {s:Sh}
theorem obj_ints : ∀{l:List Int},(l.map intC).flatMap C.obj=[]
  | []=>rfl
  | a::l=>by rw [List.map_cons,List.flatMap_cons,obj_ints (l:=l)];rfl
def askAssign : ACode:=(.region 1 [] [
        ⟨(some 9),.alloc [(.int .i64 0),(.int .i64 0),.nils],none,0⟩,
        ⟨none,.store (some 3) (.tmp 9) (.tmp 26),none,1⟩])
def askBody : ACode:=(.block 1 (.seq (.region 1 [] [
          ⟨(some 28),.load (some 17) (.tmp 2),none,0⟩,
          ⟨(some 29),.load (some 3) (.tmp 9),none,0⟩,
          ⟨(some 30),.call 62 true [(.tmp 28),(.tmp 29)],none,0⟩,
          ⟨(some 27),.mov (.tmp 30),none,0⟩,
          ⟨(some 31),.extract 0 (.tmp 27),none,0⟩,
          ⟨(some 32),.extract 1 (.tmp 27),none,0⟩,
          ⟨(some 10),.alloc [(.int .i64 0),(.int .i64 0),(.int .i64 0),(.int .i64 0),(.int .i64 0),(.int .i64 0),(.int .i64 0),(.int .i64 0),(.int .i64 0),(.int .i64 0),(.int .i64 0),(.int .i64 0),(.int .i64 0),(.int .i64 0),(.int .i64 0),(.int .i64 0),(.int .i64 0),(.int .i64 0),(.int .i64 0),(.int .i64 0)],none,0⟩,
          ⟨none,.store (some 20) (.tmp 10) (.tmp 31),none,1⟩,
          ⟨(some 11),.mov (.tmp 32),none,1⟩])
        (.seq (.region 0 [] [
          ⟨(some 33),.load none (.tmp 8),none,0⟩,
          ⟨(some 34),.load (some 20) (.tmp 10),none,0⟩,
          ⟨(some 35),.lookup true false [(some .i64),(some .i64),(some .i64),(some .i64),(some .i64),(some .i64),(some .i64),(some .i64),(some .i64),(some .i64),(some .i64),(some .i64),(some .i64),(some .i64),(some .i64),(some .i64),(some .i64),(some .i64),(some .i64),(some .i64)] (.c (.bool false)) false (.tmp 33) (.tmp 34),none,0⟩,
          ⟨(some 36),.not (.tmp 35),none,0⟩])
        (.cond (.tmp 36)
          (.seq (.region 0 [] [
            ⟨(some 37),.load none (.tmp 8),none,0⟩,
            ⟨(some 38),.load (some 20) (.tmp 10),none,0⟩,
            ⟨none,.mapupd true false [(some .i64),(some .i64),(some .i64),(some .i64),(some .i64),(some .i64),(some .i64),(some .i64),(some .i64),(some .i64),(some .i64),(some .i64),(some .i64),(some .i64),(some .i64),(some .i64),(some .i64),(some .i64),(some .i64),(some .i64)] (.tmp 37) (.tmp 38) (.cst (.c (.bool true))),none,0⟩])
          (.region 2 [(0,1),(0,2),(0,3),(0,4),(0,5),(1,5),(2,5),(3,5),(4,5),(0,6),(1,6),(2,6),(3,6),(4,6),(0,7)] [
            ⟨(some 39),.load none (.tmp 7),none,0⟩,
            ⟨(some 40),.load none (.tmp 7),none,0⟩,
            ⟨(some 41),.nilchk (.tmp 40),none,0⟩,
            ⟨(some 42),.faddr 17 (.tmp 41),none,0⟩,
            ⟨(some 43),.load none (.tmp 42),none,0⟩,
            ⟨(some 44),.load (some 20) (.tmp 10),none,0⟩,
            ⟨(some 45),.bslice 20 1 [(.int .i64 0),(.int .i64 0),(.int .i64 0),(.int .i64 0),(.int .i64 0),(.int .i64 0),(.int .i64 0),(.int .i64 0),(.int .i64 0),(.int .i64 0),(.int .i64 0),(.int .i64 0),(.int .i64 0),(.int .i64 0),(.int .i64 0),(.int .i64 0),(.int .i64 0),(.int .i64 0),(.int .i64 0),(.int .i64 0)] [(0,(.tmp 44))],none,0⟩,
            ⟨(some 46),.append 20 160 (.tmp 43) (.tmp 45),none,1⟩,
            ⟨(some 47),.nilchk (.tmp 39),none,2⟩,
            ⟨(some 48),.faddr 17 (.tmp 47),none,2⟩,
            ⟨none,.store none (.tmp 48) (.tmp 46),none,2⟩]))
          .skip))))
structure aR (g1 g2 g3 g4 g5:Bool × Bool) (j:Job) (jb n:Nat) (lp:ALoop) (S:List Sh) (H:List Obj):Prop where
  job:getH H jb = .cells (jobC g1 g2 g3 g4 g5 j)
  wk:∃c,getH H n = .cells (wkC g1 g2 g3 g4 g5 j c)∧TL n S c H
  pw:getH H (n+1) = .cells [.ptr n 0]
  mp:getH H (n+2) = .map true false ks20 (esS S)
  pm:getH H (n+3) = .cells [.map (n+2)]
  lp:getH H (n+5) = .loop lp
theorem ask_yield (hj:j.Valid) {jb n:Nat} (hjb:jb<n) {v0 v1 v3 v4 v5 v6 v9 v10 v11 v12 v13 v14 v15 v16 v17 v18 v19 v20 v21 v22 v23 v24 v25:V} {lp:ALoop}
    (hlp:lp=⟨.ready,.normal,[v0,v1,.c (.ptr jb 0),v3,v4,v5,v6,.c (.ptr (n+1) 0),.c (.ptr (n+3) 0),v9,v10,v11,v12,v13,v14,v15,v16,v17,v18,v19,v20,v21,v22,v23,v24,v25]++List.replicate 24 (.c .any),[26],askAssign,askBody⟩) :
    PYield j.vat (n+10) n (n+8) (fun S _=>S.length<5000) (.yld (n+5)) (aR g1 g2 g3 g4 g5 j jb n lp) (askStep j):=by
  intro S H t hlen hC hp hR hoo
  rw [CallV_y]
  have l5:=lt_of_getH (h:=H) (o:=n+5) (by rw [hR.lp];simp)
  refine Fn_y hR.lp (by rw [hlp];rfl) ?_
  rw [show lp.assign=askAssign by rw [hlp],show lp.params=[26] by rw [hlp],show lp.slots=_ by rw [hlp]]
  simp only [go_sem,askAssign,setParams,assignX,hR.lp]
  have l5':n+5<H.length:=l5
  refine ⟨lp,getH_keep hR.lp (by simp),by rw [hlp],rfl,?_⟩
  generalize hlb:ALoop.mk .busy _ _ _ _ _=lb
  rw [show lp.body=askBody by rw [hlp]]
  have hlb1:∀l:ALoop,Obj.loop lb = .loop l→({ l with state:=.ready,pending:=.normal }:ALoop)=lp:=fun l h=>by cases h;rw [←hlb,hlp]
  clear hlb
  have hq:=hlb1 lb rfl
  obtain ⟨H1,hH1⟩:∃H1,H1=setH (H++[.cells [.int .i64 t.start,.int .i64 t.blue,.sl (n+8) 0 0 t.drift.length]]) (n+5) (.loop lb):=⟨_,rfl⟩
  rw [←hH1]
  have len:H1.length=H.length+1:=by rw [hH1,length_setH];simp
  have g:∀o,o≠n+5→o<H.length→getH H1 o=getH H o:=fun o ho hl=>by rw [hH1,getH_setH,if_neg (fun h=>ho h.1),getH_left hl]
  obtain ⟨c,hw,hT⟩:=hR.wk
  have e0:=(g jb (by omega) (by omega)).trans hR.job
  have e1:=(g n (by omega) (by omega)).trans hw
  have e2:=(g (n+1) (by omega) (by omega)).trans hR.pw
  have e3:=(g (n+2) (by omega) (by omega)).trans hR.mp
  have e4:=(g (n+3) (by omega) (by omega)).trans hR.pm
  have e8:=(g (n+8) (by omega) (by omega)).trans hoo
  have e5:getH H1 (n+5) = .loop lb:=by rw [hH1,getH_setH,if_pos ⟨rfl,by simp;omega⟩]
  have eb:getH H1 H.length = .cells [.int .i64 t.start,.int .i64 t.blue,.sl (n+8) 0 0 t.drift.length]:=by rw [hH1,getH_setH,if_neg (by omega),getH_at0];rfl
  have hP:=fun {gt:Bool × Bool} {Q:V→Prop}=>pdip (j:=j) (t:=t) (g1:=g1) (g2:=g2) (g3:=g3) (g4:=g4) (g5:=g5) (gt:=gt) hj.fits (Q:=Q)
  simp only [jobV,truthG] at hP
  have hpt:=part_map (l:=t.drift) (n:=t.drift.length) rfl
  simp only [part,dropN] at hpt
  have hd:=(dipS j t).h
  have hz:([.int .i64 0,.int .i64 0,.int .i64 0,.int .i64 0,.int .i64 0,.int .i64 0,.int .i64 0,.int .i64 0,.int .i64 0,.int .i64 0,.int .i64 0,.int .i64 0,.int .i64 0,.int .i64 0,.int .i64 0,.int .i64 0,.int .i64 0,.int .i64 0,.int .i64 0,.int .i64 0]:List C)=(default:Sh).l.map intC:=rfl
  have t1:=takeN20 (l:=(dipS j t).l) hd
  have t2:=splice_eq (xs:=(dipS j t).l.map intC) (l:=(default:Sh).l.map intC) (by rw [List.length_map,List.length_map,hd];rfl)
  have t3:((dipS j t).l.map intC).length=20:=by rw [List.length_map];exact hd
  have k2:=kinds20 (s:=dipS j t)
  have b160:(160:Nat)≤2^40:=by decide
  have hdef:(default:Sh).l.length=20:=(default:Sh).h
  obtain ⟨d,hdd⟩:∃d,d=dipS j t:=⟨_,rfl⟩
  rw [←hdd] at hd t1 t2 t3 k2
  have q0:n<H1.length:=by omega
  have q1:n+1<H1.length:=by omega
  have q2:n+2<H1.length:=by omega
  have q3:n+3<H1.length:=by omega
  have q4:n+5<H1.length:=by omega
  have q5:n+8<H1.length:=by omega
  have q6:jb<H1.length:=by omega
  have lH:H.length<H1.length:=by omega
  have fin:∀(S':List Sh) (c':C) (oa:Nat) (H2:List Obj),H1.length≤H2.length→(oa<H1.length→n≤oa∧∃f ver w,getH H1 oa = .arr f ver 20 w)→(∀o',o'<H1.length→o'≠n→o'≠n+2→o'≠n+5→o'≠oa→getH H2 o'=getH H1 o')→getH H2 n = .cells (wkC g1 g2 g3 g4 g5 j c')→TL n S' c' H2→getH H2 (n+2) = .map true false ks20 (esS S')→getH H2 (n+5) = .loop lp→KeepX HardX n H H2∧aR g1 g2 g3 g4 g5 j jb n lp S' H2:=by
    intro S' c' oa H2 hl ha hg2 hn hT2 hm hl5
    have na:∀o' x,getH H1 o'=x→(∀f ver w,x ≠ .arr f ver 20 w)→o'<H1.length→o'≠oa:=fun o' x hx hne hlt=>by
      rintro rfl
      obtain ⟨_,f,ver,w,h⟩:=ha hlt
      exact hne f ver w (hx ▸ h)
    refine ⟨⟨by omega,fun o' ho' hp=>?_⟩,?_,⟨c',hn,hT2⟩,?_,hm,?_,hl5⟩
    · have x0:o'≠n:=by
        rintro rfl
        rw [hw] at hp
        rcases hp with h | h
        · omega
        · exact h (.inr (.inr (.inr ⟨_,rfl,rfl⟩)))
      have x2:o'≠n+2:=by
        rintro rfl
        rw [hR.mp] at hp
        rcases hp with h | h
        · omega
        · exact h (.inr (.inl ⟨_,_,_,_,rfl⟩))
      have x5:o'≠n+5:=by
        rintro rfl
        rw [hR.lp] at hp
        rcases hp with h | h
        · omega
        · exact h (.inl ⟨_,rfl⟩)
      have xa:o'≠oa:=by
        rintro rfl
        obtain ⟨h1,f,ver,w,h⟩:=ha (by omega)
        rw [g o' x5 ho'] at h
        rw [h] at hp
        rcases hp with h | h
        · omega
        · exact h (.inr (.inr (.inl ⟨_,_,_,rfl⟩)))
      rw [hg2 o' (by omega) x0 x2 x5 xa,g o' x5 ho']
    · rw [hg2 jb (by omega) (by omega) (by omega) (by omega) (na _ _ e0 (by simp) (by omega)),e0]
    · rw [hg2 (n+1) (by omega) (by omega) (by omega) (by omega) (na _ _ e2 (by simp) (by omega)),e2]
    · rw [hg2 (n+3) (by omega) (by omega) (by omega) (by omega) (na _ _ e4 (by simp) (by omega)),e4]
  by_cases hin:d∈S
  · have hs:askStep j S t=S:=by rw [askStep,←hdd,addS,if_pos hin]
    rw [hs]
    simp only [go_sem,askBody,e0,e1,e2,e3,e4,e8,eb,hpt,hP,←hdd,getH_left,setH_left,q0,q1,q2,q3,q4,q5,q6,lH,disj_nil,hz,t1,t2,t3,toDs_ints,k2,findE_S,hin,bodyX,e5]
    refine ⟨lb,rfl,?_⟩
    rw [hq]
    refine fin S c H1.length _ (by simp [length_setH]) (fun h=>by omega) (fun o' h0 h1 h2 h3 h4=>?_) ?_ (hT.keep fun o' x hx hn he=>?_) ?_ ?_
    · rw [getH_left (by simp only [length_setH];omega),getH_setH,if_neg (fun h=>by omega)]
    · simp only [go_sem,getH_left,getH_setH,length_setH,false_and,if_false,q0,q1,q2,q3,q4,q5,q6,e1]
    · have hx2:getH H1 o'=x:=by
        rw [g o' (by rintro rfl;rw [hR.lp] at hx;subst hx;obtain ⟨_,_,_,h⟩:=he;cases h) (lt_of_getH (by rw [hx];obtain ⟨_,_,_,h⟩:=he;rw [h];simp)),hx]
      have l1:=lt_of_getH (h:=H1) (o:=o') (by rw [hx2];obtain ⟨_,_,_,h⟩:=he;rw [h];simp)
      have n5:o'≠n+5:=by rintro rfl;rw [e5] at hx2;subst hx2;obtain ⟨_,_,_,h⟩:=he;cases h
      rw [getH_left (by simp only [length_setH];omega),getH_setH,if_neg (fun h=>n5 h.1),hx2]
    · simp only [go_sem,getH_left,getH_setH,length_setH,false_and,if_false,q0,q1,q2,q3,q4,q5,q6,e3]
    · simp only [go_sem,getH_left,getH_setH,length_setH,false_and,if_false,q0,q1,q2,q3,q4,q5,q6]
  · have hs:askStep j S t=S++[d]:=by rw [askStep,←hdd,addS,if_neg hin]
    rw [hs]
    have hps:=putE_S hin
    rcases hT with ⟨rfl,rfl⟩ | ⟨hne,o,ho1,rfl,ho2⟩
    · simp only [go_sem,askBody,e0,e1,e2,e3,e4,e8,eb,hpt,hP,←hdd,getH_left,setH_left,getH_setH,length_setH,q0,q1,q2,q3,q4,q5,q6,lH,disj_nil,hz,t1,t2,t3,toDs_ints,k2,findE_S,hin,hps,hd,hdef,headLen,List.length_map,beq_self_eq_true,b160,obj_ints,bodyX,e5]
      refine ⟨⟨by omega,by omega,by omega⟩,lb,rfl,?_⟩
      rw [hq]
      refine fin [d] (.sl (H1.length+2) 0 0 1) H1.length _ (by simp [length_setH]) (fun h=>by omega) (fun o' h0 h1 h2 h3 h4=>?_) ?_ (.inr ⟨by simp,H1.length+2,by omega,rfl,?_⟩) ?_ ?_
      · rw [getH_left (by simp only [length_setH];omega),getH_setH,if_neg (fun h=>by omega),getH_setH,if_neg (fun h=>by omega),getH_setH,if_neg (fun h=>by omega)]
      · simp only [go_sem,getH_left,getH_setH,length_setH,false_and,if_false,q0,q1,q2,q3,q4,q5,q6]
      · rw [getH_ge (by simp only [length_setH];omega)]
        simp only [length_setH,Nat.add_sub_cancel_left]
        rfl
      · simp only [go_sem,getH_left,getH_setH,length_setH,false_and,if_false,q0,q1,q2,q3,q4,q5,q6]
      · simp only [go_sem,getH_left,getH_setH,length_setH,false_and,if_false,q0,q1,q2,q3,q4,q5,q6]
    · have k1:1≤S.length:=by cases S with | nil=>exact absurd rfl hne | cons a S=>simp
      have b5:(S.length+1)*160≤2^40:=by omega
      have lo:=lt_of_getH (h:=H) (o:=o) (by rw [ho2];simp)
      have no5:o≠n+5:=by rintro rfl;rw [hR.lp] at ho2;cases ho2
      have no2:o≠n+2:=by rintro rfl;rw [hR.mp] at ho2;cases ho2
      have no0:o≠n:=by rintro rfl;rw [hw] at ho2;cases ho2
      have eo:=(g o no5 lo).trans ho2
      have e6:S.length-1+1=S.length:=by omega
      have e7:S.length+1-1=S.length:=by omega
      have qo0:o<H1.length:=by omega
      have qn0:¬o=n:=by omega
      have qn1:¬n=o:=by omega
      have qn2:¬o=n+2:=by omega
      have qn3:¬n+2=o:=by omega
      have qn4:¬o=n+5:=by omega
      have qn5:¬n+5=o:=by omega
      simp only [go_sem,askBody,e0,e1,e2,e3,e4,e8,eb,eo,hpt,hP,←hdd,getH_left,setH_left,getH_setH,length_setH,q0,q1,q2,q3,q4,q5,q6,qo0,qn0,qn1,qn2,qn3,qn4,qn5,lH,disj_nil,hz,t1,t2,t3,toDs_ints,k2,findE_S,hin,hps,hd,hdef,headLen,List.length_map,beq_self_eq_true,b5,e6,obj_ints,bodyX,e5]
      refine ⟨⟨by omega,by omega,by omega,by rintro rfl;rw [hR.pw] at ho2;cases ho2⟩,lb,rfl,?_⟩
      rw [hq]
      refine fin (S++[d]) (.sl o S.length 0 (S.length+1)) o _ (by simp [length_setH]) (fun h=>⟨ho1,_,_,_,eo⟩) (fun o' h0 h1 h2 h3 h4=>?_) ?_ (.inr ⟨by simp,o,ho1,by simp,?_⟩) ?_ ?_
      · rw [getH_left (by simp only [length_setH];omega),getH_setH,if_neg (fun h=>by omega),getH_setH,if_neg (fun h=>by omega),getH_setH,if_neg (fun h=>by omega),getH_setH,if_neg (fun h=>by omega)]
      · simp only [go_sem,getH_left,getH_setH,length_setH,false_and,if_false,q0,q1,q2,q3,q4,q5,q6]
      · simp only [go_sem,getH_left,getH_setH,length_setH,false_and,if_false,q0,q1,q2,q3,q4,q5,q6,qo0,qn0,qn1,qn2,qn3,qn4,qn5,List.map_append]
        rw [e7];rfl
      · simp only [go_sem,getH_left,getH_setH,length_setH,false_and,if_false,q0,q1,q2,q3,q4,q5,q6,qo0,qn0,qn1,qn2,qn3,qn4,qn5]
      · simp only [go_sem,getH_left,getH_setH,length_setH,false_and,if_false,q0,q1,q2,q3,q4,q5,q6,qo0,qn0,qn1,qn2,qn3,qn4,qn5]
theorem FtruthsP {H:List Obj} {Q:V→List Obj→Prop}:Fn tab (.f 124 [jobV g1 g2 g3 g4 g5 j] H) Q↔Q (.c (.fn 162 false [] [.ptr H.length 0])) (H++[.cells (jobC g1 g2 g3 g4 g5 j)]):=Fn_iff (by
  refine Fn_X (fn:=f124) rfl rfl ?_
  simp only [go_sem,f124])
def askJ (j:Job) (b:Bool):Int:=if checkJob j≠0 then checkJob j else if b=false then 2 else 0
def AskJ (g1 g2 g3 g4 g5:Bool × Bool) (j:Job) (b:Bool) (H:List Obj) (r:V) (H':List Obj):Prop:=
  Keep K0 H H'∧((askJ j b≠0∧r = .tup [.c .nilp,.c (.int .i64 (askJ j b))])∨(askJ j b=0∧∃wo c,H.length≤wo∧r = .tup [.c (.ptr wo 0),.c (.int .i64 0)]∧getH H' wo = .cells (wkC g1 g2 g3 g4 g5 j c)∧TL H.length (workL j) c H'))
theorem Fasked7 (hf:j.Fits) {b:Bool} {F:C} {H:List Obj} (hkn:known [F]=true) (hF:checkJob j=0→∀H',Keep K0 H H'→CallV tab (.c F) [] H' fun r H''=>r = .c (.bool b)∧Keep K0 H' H'') :
    Fn tab (.f 74 [jobV g1 g2 g3 g4 g5 j,.c F] H) (AskJ g1 g2 g3 g4 g5 j b H):=by
  refine Fn_X (fn:=f74) rfl rfl ?_
  have hc:=fun {Q:V→Prop}=>pCheckJob (j:=j) (g1:=g1) (g2:=g2) (g3:=g3) (g4:=g4) (g5:=g5) hf (Q:=Q)
  simp only [jobV] at hc
  by_cases h0:checkJob j=0
  · have hj:=jvalid_of h0
    simp only [go_sem,f74,hkn,hc,h0]
    refine (hF h0 _ Keep.append).mono ?_
    rintro r H' ⟨rfl,hk⟩
    have hk2:Keep K0 H H':=Keep.append.trans hk
    have l1:=hk.1
    have lh:H.length<H'.length:=by simp at l1;omega
    have ej:=hk.get (o:=H.length) id (by rw [getH_at0];rfl) (show Obj.cells (jobC g1 g2 g3 g4 g5 j) ≠ .none by simp)
    cases b with
    | false=>
      simp only [go_sem]
      exact ⟨hk2,.inl ⟨by rw [askJ,if_neg (by rw [h0];simp),if_pos rfl];decide,by rw [askJ,if_neg (by rw [h0];simp),if_pos rfl]⟩⟩
    | true=>
      have ft:=fun {H:List Obj} {Q:V→List Obj→Prop}=>FtruthsP (j:=j) (g1:=g1) (g2:=g2) (g3:=g3) (g4:=g4) (g5:=g5) (H:=H) (Q:=Q)
      simp only [jobV] at ft
      simp only [go_sem,ej,ft,getH_left,lh]
      refine RX_range ?_
      generalize hlp:ALoop.mk .ready _ _ _ _ _=lp
      simp only [Opd.ev,getS,CallV_fn,firstV,List.length_append,List.length_cons,List.length_nil,List.append_assoc,List.cons_append,List.nil_append,List.map_cons,List.map_nil,Nat.zero_add,Nat.reduceAdd,Nat.add_assoc,Bool.false_eq_true,if_false]
      have hy:=ask_yield (g1:=g1) (g2:=g2) (g3:=g3) (g4:=g4) (g5:=g5) hj (jb:=H.length) (n:=H'.length) lh (lp:=lp) hlp.symm
      obtain ⟨Hc,hHc⟩:∃Hc,Hc=H'++[.cells (wkC g1 g2 g3 g4 g5 j .nils),.cells [.ptr H'.length 0],.map true false ks20 [],.cells [.map (H'.length+2)],.cells (jobC g1 g2 g3 g4 g5 j),.loop lp]:=⟨_,rfl⟩
      have lc:Hc.length=H'.length+6:=by rw [hHc];simp
      have c4:getH Hc (H'.length+4) = .cells (jobC g1 g2 g3 g4 g5 j):=by rw [hHc];simp only [go_sem]
      have hR0:aR g1 g2 g3 g4 g5 j H.length H'.length lp [] Hc:=by
        rw [hHc]
        exact ⟨getH_keep ej (by simp),⟨.nils,by simp only [go_sem],.inl ⟨rfl,rfl⟩⟩,by simp only [go_sem],by simp only [go_sem];rfl,by simp only [go_sem],by simp only [go_sem]⟩
      have hsoft:∀(s:List Sh) H1 H2,aR g1 g2 g3 g4 g5 j H.length H'.length lp s H1→KeepX SoftX Hc.length H1 H2→aR g1 g2 g3 g4 g5 j H.length H'.length lp s H2:=fun s H1 H2 h k=>by
        obtain ⟨c,hw,hT⟩:=h.wk
        refine ⟨k.low h.job (by simp) (by omega),⟨c,k.low hw (by simp) (by omega),hT.keep fun o x hx ho he=>?_⟩,k.low h.pw (by simp) (by omega),k.low h.mp (by simp) (by omega),k.low h.pm (by simp) (by omega),k.low h.lp (by simp) (by omega)⟩
        obtain ⟨f,ver,w,rfl⟩:=he
        exact k.get hx (by simp) (by rintro (⟨_,h⟩ | h | ⟨_,h⟩)<;>cases h)
      have key:=truthsP_ok (g1:=g1) (g2:=g2) (g3:=g3) (g4:=g4) (g5:=g5) (j:=j) (F:=.yld (H'.length+5)) (R:=aR g1 g2 g3 g4 g5 j H.length H'.length lp) (step:=askStep j) (C0:=fun S _=>S.length<5000) (m:=H'.length) (jb:=H'.length+4) (H:=Hc) hj.vat (by omega) rfl (fun n h=>by cases h) (fun h=>by cases h) hsoft (by rw [lc];exact hy) c4 (s:=[]) hR0 (FoldL_len (by have:=allP_len hj.vat;simp only [List.length_nil];omega))
      rw [hHc] at key
      refine key.mono ?_
      rintro r H2 ⟨hk3,hr⟩
      refine ⟨lp,hr.lp,by rw [←hlp];simp,?_⟩
      rw [show lp.pending = .normal by rw [←hlp]]
      obtain ⟨c,hw,hT⟩:=hr.wk
      have e1:=hr.pw
      have l5:=lt_of_getH (h:=H2) (o:=H'.length+5) (by rw [hr.lp];simp)
      have ask0:askJ j true=0:=by rw [askJ,if_neg (by rw [h0];simp),if_neg (by decide)]
      generalize ALoop.mk .exhausted _ _ _ _ _=lx
      obtain ⟨H3,hH3⟩:∃H3,H3=setH H2 (H'.length+5) (.loop lx):=⟨_,rfl⟩
      rw [←hH3]
      have g:∀o,o≠H'.length+5→getH H3 o=getH H2 o:=fun o ho=>by rw [hH3,getH_setH,if_neg (fun h=>ho h.1)]
      have e2:=(g _ (by omega)).trans e1
      have l3:H3.length=H2.length:=by rw [hH3,length_setH]
      simp only [go_sem,e2]
      have hkl:=hk3.1
      simp only [List.length_append,List.length_cons,List.length_nil] at hkl
      refine ⟨hk2.trans ⟨by omega,fun o _ ho=>?_⟩,.inr ⟨ask0,H'.length,c,by omega,rfl,by rw [g _ (by omega)];exact hw,?_⟩⟩
      · rw [g _ (by omega),hk3.2 o (by simp;omega) (.inl ho),getH_left ho]
      · have hT':TL H.length (workL j) c H2:=by
          rcases hT with h | ⟨h1,o,h2,h3,h4⟩
          · exact .inl h
          · exact .inr ⟨h1,o,by omega,h3,h4⟩
        refine hT'.keep fun o x hx ho he=>?_
        rw [g o ?_,hx]
        rintro rfl
        rw [hr.lp] at hx;subst hx;obtain ⟨_,_,_,h⟩:=he;cases h
  · simp only [go_sem,f74,hkn,hc,h0]
    exact ⟨Keep.append,.inl ⟨by rw [askJ,if_pos h0];exact h0,by rw [askJ,if_pos h0]⟩⟩
end Am.Vt
namespace Am.Vt
open Go Am
set_option maxRecDepth 100000
set_option maxHeartbeats 4000000
set_option linter.unusedSimpArgs false
set_option linter.unusedVariables false
variable {g1 g2 g3 g4 g5 g gt:Bool × Bool} {j:Job} {v:Vat} {plan:List Stp} {t:Truth} {s:Sh}
theorem big2 {n:Nat} (h:n≤2000):n<Big:=Nat.lt_of_le_of_lt h (by decide)
structure WS (g1 g2 g3 g4 g5:Bool × Bool) (j:Job) (wo:Nat) (H:List Obj):Prop where
  w:∃c,getH H wo = .cells (wkC g1 g2 g3 g4 g5 j c)∧TL 0 (workL j) c H
theorem WS.keep {wo:Nat} {H H':List Obj} (h:WS g1 g2 g3 g4 g5 j wo H) (hk:Keep K0 H H'):WS g1 g2 g3 g4 g5 j wo H':=by
  obtain ⟨c,hw,hT⟩:=h.w
  exact ⟨c,hk.get id hw (by simp),hT.keep fun o x hx _ he=>hk.get id hx (by obtain ⟨_,_,_,rfl⟩:=he;simp)⟩
theorem WS.app {wo:Nat} {H X:List Obj} (h:WS g1 g2 g3 g4 g5 j wo H):WS g1 g2 g3 g4 g5 j wo (H++X):=h.keep Keep.append
theorem WS.lt {wo:Nat} {H:List Obj} (h:WS g1 g2 g3 g4 g5 j wo H):wo<H.length:=by
  obtain ⟨c,hw,_⟩:=h.w
  exact lt_of_getH (by rw [hw];simp)
theorem TL.zero {n:Nat} {S:List Sh} {c:C} {H:List Obj} (h:TL n S c H):TL 0 S c H:=by
  rcases h with h | ⟨h1,o,h2,h3,h4⟩
  · exact .inl h
  · exact .inr ⟨h1,o,Nat.zero_le _,h3,h4⟩
theorem TL.kn {n:Nat} {S:List Sh} {c:C} {H:List Obj} (h:TL n S c H):known [c]=true:=by
  rcases h with ⟨_,rfl⟩ | ⟨_,o,_,rfl,_⟩<;>rfl
theorem Fright (hj:j.Valid) {H:List Obj} {wo i b d:Nat} (hi:i<j.pieces.length) (hb:b≤1000) (hd:d≤1000) (hW:WS g1 g2 g3 g4 g5 j wo H) :
    Fn tab (.f 77 [.c (.ptr wo 0),.c (.int .i64 i),.c (.int .i64 b),.c (.int .i64 d)] H) fun r H'=>r = .c (.bool (rightW j i b d))∧Keep K0 H H':=by
  refine Fn_X (fn:=f77) rfl rfl ?_
  obtain ⟨c,hw,hT⟩:=hW.w
  have lw:=hW.lt
  have e1:IntKind.i64.wrap ((b:Int)+d)=(b:Int)+d:=wrapB (by omega) (by omega)
  by_cases hbd:(b:Int)+d≤20
  · have kn:=hT.kn
    simp only [go_sem,f77,getH_left,lw,hw,e1,hbd]
    obtain ⟨H0,hH0⟩:∃H0,H0=H++[.cells [.ptr wo 0],.cells [.int .i64 i],.cells [.int .i64 b],.cells [.int .i64 d]]:=⟨_,rfl⟩
    rw [←hH0]
    have hk0:Keep K0 H H0:=by rw [hH0];exact Keep.append
    have q1:getH H0 H.length = .cells [.ptr wo 0]:=by rw [hH0];simp only [go_sem]
    have q2:getH H0 (H.length+1) = .cells [.int .i64 i]:=by rw [hH0];simp only [go_sem]
    have q3:getH H0 (H.length+2) = .cells [.int .i64 b]:=by rw [hH0];simp only [go_sem]
    have q4:getH H0 (H.length+3) = .cells [.int .i64 d]:=by rw [hH0];simp only [go_sem]
    have W0:=hW.keep hk0
    have R0:Rd 20 H0 c (workL j):=(hT.keep fun o x hx _ he=>hk0.get id hx (by obtain ⟨_,_,_,rfl⟩:=he;simp)).rd
    have w0:=hk0.get id hw (by simp)
    refine (All_rdS elemSh (fun _ z=>⟨_,rfl,by rw [List.length_map,z.h],known_ints⟩) (kN:=166) (kC:=165) (kI:=187) rfl rfl rfl rfl (big2 (workL_len hj)) R0 (fun s=>rightS j s i b d) ?_).mono ?_
    · intro z hz t H' hk
      rw [CallV_fn]
      refine Fn_X (fn:=f126) rfl rfl ?_
      have hz':=workL_ok hj z hz
      have h1:=hk.get id q1 (by simp)
      have h2:=hk.get id q2 (by simp)
      have h3:=hk.get id q3 (by simp)
      have h4:=hk.get id q4 (by simp)
      have h5:=hk.get id w0 (by simp)
      have l1:=lt_of_getH (h:=H') (o:=H.length) (by rw [h1];simp)
      have l2:=lt_of_getH (h:=H') (o:=H.length+1) (by rw [h2];simp)
      have l3:=lt_of_getH (h:=H') (o:=H.length+2) (by rw [h3];simp)
      have l4:=lt_of_getH (h:=H') (o:=H.length+3) (by rw [h4];simp)
      have l5:=lt_of_getH (h:=H') (o:=wo) (by rw [h5];simp)
      have hS:=fun {Q:V→Prop}=>psum hz' (b:=b) (d:=d) (by omega) (Q:=Q)
      have i0:(0:Int)≤i:=by omega
      have i1:(i:Int)<j.pieces.length:=by omega
      have t1:=takeN20 (l:=z.l) z.h
      have t3:(z.l.map intC).length=20:=by rw [List.length_map];exact z.h
      simp only [go_sem,f126,elemSh,known_ints,getH_left,l1,l2,l3,l4,l5,h1,h2,h3,h4,h5,i0,i1,t1,t3,hS,phas,disj_nil,obj_ints]
      exact ⟨rfl,Keep.append⟩
    · rintro r H' ⟨rfl,hk⟩
      simp only [go_sem]
      exact ⟨by rw [rightW,decide_eq_true (by omega)];rfl,hk0.trans hk⟩
  · simp only [go_sem,f77,getH_left,lw,hw,e1,hbd]
    exact ⟨by rw [rightW,decide_eq_false (by omega)];rfl,Keep.append⟩
def dipsO (j:Job) (i b:Nat):Option Nat:=(List.range (21-b)).find? fun d=>rightW j i b d
def dipsOk (j:Job) (i b:Int):Bool:=pieceOk j i&&inR b 0 20
def DipsR (j:Job) (i b:Int):V:=if askJ j (dipsOk j i b)≠0 then .tup [.c (.int .i64 0),.c (.int .i64 (askJ j (dipsOk j i b)))] else
  match dipsO j i.toNat b.toNat with
  | some d=>.tup [.c (.int .i64 (d:Int)),.c (.int .i64 0)]
  | none=>.tup [.c (.int .i64 0),.c (.int .i64 10)]
theorem pDips (hf:j.Fits) {i b:Int} {Q:V→Prop}:CallP tab 28 [jobV g1 g2 g3 g4 g5 j,.c (.int .i64 i),.c (.int .i64 b)] Q↔Q (DipsR j i b):=CallP_of (by
  refine Val_X (fn:=f28) rfl ?_
  have fa:=fun H (hH:H=[.cells (jobC g1 g2 g3 g4 g5 j),.cells [.int .i64 i],.cells [.int .i64 b]])=>Fasked7 (j:=j) (b:=dipsOk j i b) (F:=.fn 75 false [] [.ptr 0 0,.ptr 1 0,.ptr 2 0]) (H:=H) (g1:=g1) (g2:=g2) (g3:=g3) (g4:=g4) (g5:=g5) hf rfl (fun h0 H' hk=>by
    subst hH
    rw [CallV_fn]
    refine Fn_X (fn:=f75) rfl rfl ?_
    have e0:=hk.get (o:=0) id rfl (by simp [getH])
    have e1:=hk.get (o:=1) id rfl (by simp [getH])
    have e2:=hk.get (o:=2) id rfl (by simp [getH])
    have h4:=hf.pieces
    have hP:=fun {n:Int} {Q:V→Prop}=>pisPiece (n:=n) (g1:=g1) (g2:=g2) (g3:=g3) (g4:=g4) (g5:=g5) h4 (Q:=Q)
    simp only [jobV] at hP
    simp only [getH] at e0 e1 e2
    cases hp:inR i 0 ((j.pieces.length:Int)-1) with
    | true=>
      simp only [go_sem,f75,e0,e1,e2,hP,hp,pwithin]
      exact ⟨by simp [dipsOk,pieceOk,hp],Keep.refl⟩
    | false=>
      simp only [go_sem,f75,e0,e1,e2,hP,hp]
      exact ⟨by simp [dipsOk,pieceOk,hp],Keep.refl⟩)
  simp only [jobV] at fa
  simp only [go_sem,f28]
  refine (fa _ rfl).mono ?_
  rintro r H' ⟨hk,⟨h1,rfl⟩ | ⟨h1,wo,c,hwo,rfl,hw,hT⟩⟩
  · simp only [go_sem,DipsR,h1]
  · have e1:=hk.get (o:=1) id rfl (by simp [getH])
    have e2:=hk.get (o:=2) id rfl (by simp [getH])
    simp only [getH] at e1 e2
    have h0:checkJob j=0:=by
      unfold askJ at h1;split at h1
      · exact absurd h1 (by assumption)
      · rename_i h;exact Decidable.not_not.1 h
    have hok:dipsOk j i b=true:=by
      unfold askJ at h1;rw [if_neg (by rw [h0];simp)] at h1;split at h1
      · cases h1
      · rename_i h;simpa using h
    have hj:=jvalid_of h0
    simp only [dipsOk,pieceOk,Bool.and_eq_true,inR_iff] at hok
    obtain ⟨iN,rfl⟩:∃n:Nat,i=n:=⟨i.toNat,by omega⟩
    obtain ⟨bN,rfl⟩:∃n:Nat,b=n:=⟨b.toNat,by omega⟩
    have f1:IntKind.i64.wrap (IntKind.i64.wrap (20-(bN:Int))+1)=((21-bN:Nat):Int):=by rw [wrapB (n:=20-(bN:Int)) (by omega) (by omega),wrapB (by omega) (by omega)];omega
    have W0:WS g1 g2 g3 g4 g5 j wo H':=⟨c,hw,hT.zero⟩
    have hD:DipsR j (iN:Int) bN=match dipsO j iN bN with
      | some d=>.tup [.c (.int .i64 (d:Int)),.c (.int .i64 0)]
      | none=>.tup [.c (.int .i64 0),.c (.int .i64 10)]:=by rw [DipsR,if_neg (by rw [h1];simp)];rfl
    rw [hD]
    simp only [go_sem,e1,e2,f1]
    refine RX_whileU (α:=Nat × List Obj) (fun x=>[(23,.c (.int .i64 (x.1:Nat)))]) (fun x=>x.2) (fun x=>x.1≤21-bN∧Keep K0 H' x.2∧∀d,d<x.1→rightW j iN bN d=false) (fun x=>21-bN-x.1) (0,H') ⟨Nat.zero_le _,Keep.refl,fun d h=>by omega⟩ (by simp only [go_sem]<;>rfl) ?_
    rintro ⟨k,H2⟩ ⟨hk2,K2,hP⟩
    simp only at hk2 K2 hP
    have d1:=K2.get id e1 (by simp)
    have d2:=K2.get id e2 (by simp)
    by_cases hlt:k<21-bN
    · have hlt':(k:Int)<((21-bN:Nat):Int):=by omega
      have e4:IntKind.i64.wrap ((k:Int)+1)=((k+1:Nat):Int):=wrap_succ (n:=3000) (by omega) (by decide)
      simp only [go_sem,hlt,d1,d2]
      refine (Fright hj (i:=iN) (b:=bN) (d:=k) (by omega) (by omega) (by omega) (W0.keep K2)).mono ?_
      rintro r H3 ⟨rfl,K3⟩
      cases hr:rightW j iN bN k with
      | true=>
        have hf:dipsO j iN bN=some k:=find_range hlt hP hr
        simp only [go_sem,hf]
      | false=>
        simp only [go_sem,e4]
        refine ⟨(k+1,H3),⟨by simp only;omega,by simp only;omega,K2.trans K3,fun d hd=>?_⟩,rfl,rfl⟩
        simp only at hd
        by_cases hdk:d=k
        · rw [hdk];exact hr
        · exact hP d (by omega)
    · have:k=21-bN:=by omega
      subst this
      have hf:dipsO j iN bN=none:=by
        rw [dipsO,List.find?_eq_none]
        intro d hd
        rw [hP d (List.mem_range.1 hd)];decide
      simp only [go_sem,hlt,hf])
end Am.Vt
namespace Am.Vt
open Go Am
set_option maxRecDepth 100000
set_option maxHeartbeats 4000000
set_option linter.unusedSimpArgs false
set_option linter.unusedVariables false
variable {g1 g2 g3 g4 g5 g gt:Bool × Bool} {j:Job} {v:Vat} {plan:List Stp} {t:Truth} {s:Sh}
theorem WS.arr (hj:j.Valid) {wo:Nat} {H:List Obj} (h:WS g1 g2 g3 g4 g5 j wo H):∃o,getH H wo = .cells (wkC g1 g2 g3 g4 g5 j (.sl o ((workL j).length-1) 0 (workL j).length))∧getH H o = .arr false ((workL j).length-1) 20 ((workL j).map Row.row):=by
  obtain ⟨c,hw,hT⟩:=h.w
  rcases hT with ⟨h1,_⟩ | ⟨h1,o,h2,rfl,h4⟩
  · exact absurd h1 (workL_ne hj)
  · exact ⟨o,hw,h4⟩
theorem takeD20 {l:List Int} (h:l.length=20):takeN 20 (l.map fun x=>D.int .i64 x)=some (l.map fun x=>D.int .i64 x):=by
  have:=takeN_whole (l.map fun x=>D.int .i64 x)
  rwa [List.length_map,h] at this
theorem pverdict {a b:Nat} {Q:V→Prop}:CallP tab 133 [.c (.int .i64 (a:Int)),.c (.int .i64 (b:Int))] Q↔Q (.c (.int .i64 (vd a b))):=CallP_of (by
  refine Val_X (fn:=f133) rfl ?_
  by_cases h:a=b
  · subst h
    simp only [go_sem,f133,vd]
  · by_cases h0:a=0
    · subst h0
      have h':¬(0:Int)=b:=by omega
      simp only [go_sem,f133,vd,h,h',Int.natCast_zero]
    · have h1:¬(a:Int)=b:=by omega
      have h2:¬(a:Int)=0:=by omega
      simp only [go_sem,f133,vd,h,h0,h1,h2])
def sumN (f:Sh→Nat) (l:List Sh):Nat:=(l.map f).sum
theorem sumN_take {f:Sh→Nat} {l:List Sh} {k:Nat} (h:k<l.length):sumN f (l.take (k+1))=sumN f (l.take k)+f (l.getD k default):=by
  unfold sumN
  rw [take_getD h default,List.map_append,List.sum_append]
  simp
theorem sumN_le {f:Sh→Nat} {M:Nat}:∀{l:List Sh},(∀s,f s≤M)→sumN f l≤l.length*M
  | [],_=>by simp [sumN]
  | s::l,h=>by
    have:=sumN_le (f:=f) (l:=l) h
    have:=h s
    unfold sumN at *
    simp only [List.map_cons,List.sum_cons,List.length_cons,Nat.succ_mul];omega
def judgeOk (j:Job) (plan:List Stp) (l:List Int):Bool:=totalB j plan&&l.all (pieceOk j)
def JudgeR (j:Job) (plan:List Stp) (l:List Int) (ys ms:Sh→Nat):V:=if askJ j (judgeOk j plan l)≠0 then .tup [.c (.int .i64 0),.c (.int .i64 (askJ j (judgeOk j plan l)))] else .tup [.c (.int .i64 (vd (sumN ys (workL j)) (sumN ms (workL j)))),.c (.int .i64 0)]
theorem askJ_ok {b:Bool} (h:askJ j b=0):checkJob j=0∧b=true:=by
  unfold askJ at h
  split at h
  · exact absurd h (by assumption)
  · rename_i h0
    split at h
    · cases h
    · rename_i h1
      exact ⟨Decidable.not_not.1 h0,by simpa using h1⟩
theorem Fjudged (hf:j.Fits) (hp:plan.length<Big) {l:List Int} (hl:l.length<Big) {c F:C} {H:List Obj} (hr:Rd 1 H c l) (hkn:known [F]=true) {ys ms:Sh→Nat} (hy:∀s,ys s≤3) (hm:∀s,ms s≤3)
    (hA:j.Valid→judgeOk j plan l=true→∀s∈workL j,∀H',Keep K0 H H'→∀wo,CallV tab (.c F) [.c (.ptr wo 0),.c (L (false,false) (ofS j s plan))] H' fun r H''=>r = .tup [.c (.int .i64 (ys s:Nat)),.c (.int .i64 (ms s:Nat))]∧Keep K0 H' H'') :
    Fn tab (.f 83 [jobV g1 g2 g3 g4 g5 j,.c (L g plan),.c c,.c F] H) fun r H'=>r=JudgeR j plan l ys ms∧Keep K0 H H':=by
  refine Fn_X (fn:=f83) rfl rfl ?_
  have hkc:=hr.kn []
  have h4:=hf.pieces
  obtain ⟨H0,hH0⟩:∃H0,H0=H++[.cells (jobC g1 g2 g3 g4 g5 j),.cells [L g plan],.cells [c],.cells [.fn 76 true (jobC g1 g2 g3 g4 g5 j) []]]:=⟨_,rfl⟩
  have hk0:Keep K0 H H0:=by rw [hH0];exact Keep.append
  have q0:getH H0 H.length = .cells (jobC g1 g2 g3 g4 g5 j):=by rw [hH0];simp only [go_sem]
  have q1:getH H0 (H.length+1) = .cells [L g plan]:=by rw [hH0];simp only [go_sem]
  have q2:getH H0 (H.length+2) = .cells [c]:=by rw [hH0];simp only [go_sem]
  have q3:getH H0 (H.length+3) = .cells [.fn 76 true (jobC g1 g2 g3 g4 g5 j) []]:=by rw [hH0];simp only [go_sem]
  have fa:=Fasked7 (j:=j) (b:=judgeOk j plan l) (F:=.fn 131 false [] [.ptr H.length 0,.ptr (H.length+1) 0,.ptr (H.length+2) 0,.ptr (H.length+3) 0]) (H:=H0) (g1:=g1) (g2:=g2) (g3:=g3) (g4:=g4) (g5:=g5) hf rfl (fun h0 H' hk=>by
    rw [CallV_fn]
    refine Fn_X (fn:=f131) rfl rfl ?_
    have e0:=hk.get id q0 (by simp)
    have e1:=hk.get id q1 (by simp)
    have e2:=hk.get id q2 (by simp)
    have e3:=hk.get id q3 (by simp)
    have hT:=fun {Q:V→Prop}=>ptotal (plan:=plan) (g:=g) (g1:=g1) (g2:=g2) (g3:=g3) (g4:=g4) (g5:=g5) h4 hp (Q:=Q)
    simp only [jobV] at hT
    cases ht:totalB j plan with
    | false=>
      simp only [go_sem,f131,e0,e1,hT,ht]
      exact ⟨by simp [judgeOk,ht],Keep.refl⟩
    | true=>
      simp only [go_sem,f131,e0,e1,e2,e3,hT,ht]
      refine (ppieces (g1:=g1) (g2:=g2) (g3:=g3) (g4:=g4) (g5:=g5) hl h4 ((hr.keep hk0).keep hk)).mono ?_
      rintro r H2 ⟨rfl,hk2⟩
      simp only [go_sem]
      exact ⟨by simp [judgeOk,ht],hk2⟩)
  simp only [jobV] at fa
  simp only [go_sem,f83,hkc,hkn,←hH0,q0]
  refine fa.mono ?_
  rintro r H1 ⟨hk,⟨h1,rfl⟩ | ⟨h1,wo,c1,hwo,rfl,hw,hT⟩⟩
  · simp only [go_sem,h1]
    exact ⟨by rw [JudgeR,if_pos h1],hk0.trans hk⟩
  · obtain ⟨h0,hok⟩:=askJ_ok h1
    have hj:=jvalid_of h0
    have hR:JudgeR j plan l ys ms = .tup [.c (.int .i64 (vd (sumN ys (workL j)) (sumN ms (workL j)))),.c (.int .i64 0)]:=by rw [JudgeR,if_neg (by rw [h1];simp)]
    rw [hR]
    have W1:WS g1 g2 g3 g4 g5 j wo H1:=⟨c1,hw,hT.zero⟩
    obtain ⟨o,hw2,ho⟩:=W1.arr hj
    have wl:=workL_len hj
    have e0:=hk.get id q0 (by simp)
    have e1:=hk.get id q1 (by simp)
    have htot:totalB j plan=true:=by simp only [judgeOk,Bool.and_eq_true] at hok;exact hok.1
    simp only [go_sem,hw2]
    refine RX_whileU (α:=Nat × List Obj) (fun x=>[(13,.c (.int .i64 (sumN ys ((workL j).take x.1):Nat))),(14,.c (.int .i64 (sumN ms ((workL j).take x.1):Nat))),(35,.c (.int .i64 (x.1:Nat)))]) (fun x=>x.2) (fun x=>x.1≤(workL j).length∧Keep K0 H1 x.2) (fun x=>(workL j).length-x.1) (0,H1) ⟨Nat.zero_le _,Keep.refl⟩ (by simp only [go_sem]<;>exact ⟨rfl,rfl⟩) ?_
    rintro ⟨k,H2⟩ ⟨hk2,K2⟩
    simp only at hk2 K2
    have d0:=K2.get id e0 (by simp)
    have d1:=K2.get id e1 (by simp)
    have dw:=K2.get id hw2 (by simp)
    have dox:=K2.get id ho (by simp)
    by_cases hlt:k<(workL j).length
    · have k0:(0:Int)≤k:=by omega
      have e4:IntKind.i64.wrap ((k:Int)+1)=((k+1:Nat):Int):=wrap_succ (n:=3000) (by omega) (by decide)
      have hn:nth ((workL j).map (Row.row (α:=Sh))) k=some (Row.row ((workL j).getD k default)):=by rw [nth_get];simp [hlt]
      have hin:(workL j).getD k default∈workL j:=getD_mem hlt
      have s1:=sumN_take (f:=ys) hlt
      have s2:=sumN_take (f:=ms) hlt
      have n1:=sumN_le (l:=(workL j).take (k+1)) hy
      have n2:=sumN_le (l:=(workL j).take (k+1)) hm
      have n3:((workL j).take (k+1)).length≤2000:=by rw [List.length_take];omega
      obtain ⟨z,hz⟩:∃z,z=(workL j).getD k default:=⟨_,rfl⟩
      rw [←hz] at hn hin s1 s2
      have w1:IntKind.i64.wrap ((sumN ys ((workL j).take k):Int)+ys z)=((sumN ys ((workL j).take (k+1)):Nat):Int):=by rw [s1,wrapB (by omega) (by omega)];omega
      have w2:IntKind.i64.wrap ((sumN ms ((workL j).take k):Int)+ms z)=((sumN ms ((workL j).take (k+1)):Nat):Int):=by rw [s2,wrapB (by omega) (by omega)];omega
      have hO:=fun {Q:V→Prop}=>pof (g:=g) (g1:=g1) (g2:=g2) (g3:=g3) (g4:=g4) (g5:=g5) (workL_ok hj z hin) h4 htot (Q:=Q)
      simp only [jobV] at hO
      have t1:=takeN20 (l:=z.l) z.h
      have t3:(z.l.map intC).length=20:=by rw [List.length_map];exact z.h
      have hz0:([.int .i64 0,.int .i64 0,.int .i64 0,.int .i64 0,.int .i64 0,.int .i64 0,.int .i64 0,.int .i64 0,.int .i64 0,.int .i64 0,.int .i64 0,.int .i64 0,.int .i64 0,.int .i64 0,.int .i64 0,.int .i64 0,.int .i64 0,.int .i64 0,.int .i64 0,.int .i64 0]:List C)=(default:Sh).l.map intC:=rfl
      have t2:=splice_eq (xs:=z.l.map intC) (l:=(default:Sh).l.map intC) (by rw [List.length_map,List.length_map,z.h];rfl)
      have lo:=lt_of_getH (h:=H2) (o:=o) (by rw [dox];simp)
      have l0:=lt_of_getH (h:=H2) (o:=H.length) (by rw [d0];simp)
      have l1:=lt_of_getH (h:=H2) (o:=H.length+1) (by rw [d1];simp)
      simp only [go_sem,hlt,k0,dox,hn,row_sh,takeD20 z.h,ofD_ints,hz0,t1,t2,t3,d0,d1,getH_left,lo,l0,l1,hO,obj_ints,disj_nil]
      refine (hA hj hok z hin _ ((hk0.trans hk).trans (K2.trans Keep.append)) wo).mono ?_
      rintro r H3 ⟨rfl,K3⟩
      simp only [go_sem,e4,w1,w2]
      exact ⟨(k+1,H3),⟨by simp only;omega,by simp only;omega,(K2.trans Keep.append).trans K3⟩,⟨rfl,rfl,rfl⟩,rfl⟩
    · have:k=(workL j).length:=by omega
      subst this
      simp only [go_sem,hlt,List.take_length,pverdict]
      exact (hk0.trans hk).trans K2
end Am.Vt
namespace Am.Vt
open Go Am
set_option maxRecDepth 100000
set_option maxHeartbeats 4000000
set_option linter.unusedSimpArgs false
set_option linter.unusedVariables false
variable {g1 g2 g3 g4 g5 g gt:Bool × Bool} {j:Job} {v:Vat} {plan:List Stp} {t:Truth} {s:Sh}
theorem ofS_len : (ofS j s plan).length=j.pieces.length:=ofK_len
theorem ofK_bd (hs:s.Ok):∀{k:Nat},∀x∈(ofK j s plan k).1,0≤x∧x≤100000
  | 0,x,h=>by
    simp only [ofK,List.mem_replicate] at h
    omega
  | k+1,x,h=>by
    simp only [ofK] at h
    rcases List.mem_or_eq_of_mem_set h with h | h
    · exact ofK_bd hs x h
    · rw [h];exact sumS_bd hs
theorem ofS_bd (hs:s.Ok) {k:Nat}:0≤(ofS j s plan).getD k default∧(ofS j s plan).getD k default≤100000:=by
  by_cases h:k<(ofS j s plan).length
  · exact ofK_bd hs _ (getD_mem h)
  · rw [List.getD_eq_getElem?_getD,List.getElem?_eq_none (by omega)];decide
def nearB (j:Job) (a b:Int):Bool:=inR (a-b) (-j.eye) j.eye
theorem pnear (hj:j.Valid) {a b:Int} (ha:0≤a∧a≤100000) (hb:0≤b∧b≤100000) {H:List Obj}:Fn tab (.f 85 [jobV g1 g2 g3 g4 g5 j,.c (.int .i64 a),.c (.int .i64 b)] H) fun r H'=>r = .c (.bool (nearB j a b))∧Keep K0 H H':=by
  refine Fn_X (fn:=f85) rfl rfl ?_
  have he:=hj.eye
  have e1:IntKind.i64.wrap (a-b)=a-b:=wrapB (by omega) (by omega)
  have e2:IntKind.i64.wrap (-j.eye) = -j.eye:=wrapB (by omega) (by omega)
  have e3:IntKind.i64.wrap (0-j.eye) = -j.eye:=by rw [wrapB (by omega) (by omega)];omega
  simp only [go_sem,f85,pwithin,e1,e2,e3]
  exact ⟨rfl,Keep.append⟩
theorem pfits {a:Int} {k:Nat} (hk:k<j.pieces.length) {H:List Obj}:Fn tab (.f 89 [jobV g1 g2 g3 g4 g5 j,.c (.int .i64 a),.c (.int .i64 k)] H) fun r H'=>r = .c (.bool (inR a (j.pieces.getD k default).lo (j.pieces.getD k default).hi))∧Keep K0 H H':=by
  refine Fn_X (fn:=f89) rfl rfl ?_
  have k0:(0:Int)≤k:=by omega
  have k1:(k:Int)<j.pieces.length:=by omega
  simp only [go_sem,f89,phas,k0,k1]
  exact ⟨rfl,Keep.append⟩
def rightP (j:Job) (plan:List Stp) (i:Int) (s:Sh):Bool:=inR ((ofS j s plan).getD i.toNat default) (j.pieces.getD i.toNat default).lo (j.pieces.getD i.toNat default).hi
def matchP (j:Job) (plan:List Stp) (a b:Int) (s:Sh):Bool:=nearB j ((ofS j s plan).getD a.toNat default) ((ofS j s plan).getD b.toNat default)
def b2n (b:Bool):Nat:=if b=true then 1 else 0
theorem b2n_le {b:Bool}:b2n b≤3:=by cases b<;>decide
theorem judge_in {l:List Int} (h:judgeOk j plan l=true):∀i∈l,0≤i∧i<j.pieces.length:=by
  intro i hi
  simp only [judgeOk,Bool.and_eq_true,List.all_eq_true,pieceOk,inR_iff] at h
  have:=h.2 i hi
  omega
theorem pRight (hf:j.Fits) (hp:plan.length<Big) {i:Int} {Q:V→Prop}:CallP tab 41 [jobV g1 g2 g3 g4 g5 j,.c (L g plan),.c (.int .i64 i)] Q↔Q (JudgeR j plan [i] (fun s=>b2n (rightP j plan i s)) (fun _=>1)):=CallP_of (by
  refine Val_X (fn:=f41) rfl ?_
  have key:=fun (H:List Obj) (hH:H=[.cells (jobC g1 g2 g3 g4 g5 j),.cells [.int .i64 i],.arr false 0 1 [[.int .i64 i]]])=>Fjudged (g:=g) (g1:=g1) (g2:=g2) (g3:=g3) (g4:=g4) (g5:=g5) (plan:=plan) hf hp (l:=[i]) (big_of (by simp)) (c:=.sl 2 0 0 1) (F:=.fn 88 false [] [.ptr 0 0,.ptr 1 0]) (H:=H) (.sl 2 0 false [i] (by rw [hH];rfl)) rfl (ys:=fun s=>b2n (rightP j plan i s)) (ms:=fun _=>1) (fun s=>b2n_le) (fun s=>by decide) (fun hj hok s hs H' hk wo=>by
    have hi:=judge_in hok i (by simp)
    obtain ⟨n,rfl⟩:∃n:Nat,i=n:=⟨i.toNat,by omega⟩
    have hn:n<j.pieces.length:=by omega
    have hl:=ofS_len (j:=j) (s:=s) (plan:=plan)
    have n0:(0:Int)≤n:=by omega
    have n1:(n:Int)<j.pieces.length:=by omega
    have e0:=hk.get (o:=0) (x:=.cells (jobC g1 g2 g3 g4 g5 j)) id (by rw [hH];rfl) (by simp)
    have e1:=hk.get (o:=1) (x:=.cells [.int .i64 (n:Int)]) id (by rw [hH];rfl) (by simp)
    rw [CallV_fn]
    refine Fn_X (fn:=f88) rfl rfl ?_
    simp only [go_sem,f88,e0,e1,n0,n1,hl,disj_nil]
    refine (pfits (g1:=g1) (g2:=g2) (g3:=g3) (g4:=g4) (g5:=g5) hn).mono ?_
    rintro r H2 ⟨rfl,K2⟩
    have hb:rightP j plan (n:Int) s=inR ((ofS j s plan).getD n default) (j.pieces.getD n default).lo (j.pieces.getD n default).hi:=rfl
    rw [hb,atI_nat]
    cases inR ((ofS j s plan).getD n default) (j.pieces.getD n default).lo (j.pieces.getD n default).hi <;>
    · simp only [go_sem]
      exact ⟨rfl,K2⟩)
  simp only [go_sem,f41]
  refine (key _ rfl).mono ?_
  rintro r H' ⟨rfl,hk⟩
  unfold JudgeR
  split<;>simp only [go_sem])
theorem pMatch (hf:j.Fits) (hp:plan.length<Big) {a b:Int} {Q:V→Prop}:CallP tab 39 [jobV g1 g2 g3 g4 g5 j,.c (L g plan),.c (.int .i64 a),.c (.int .i64 b)] Q↔Q (JudgeR j plan [a,b] (fun s=>b2n (matchP j plan a b s)) (fun _=>1)):=CallP_of (by
  refine Val_X (fn:=f39) rfl ?_
  have key:=fun (H:List Obj) (hH:H=[.cells (jobC g1 g2 g3 g4 g5 j),.cells [.int .i64 a],.cells [.int .i64 b],.arr false 0 1 [[.int .i64 a],[.int .i64 b]]])=>Fjudged (g:=g) (g1:=g1) (g2:=g2) (g3:=g3) (g4:=g4) (g5:=g5) (plan:=plan) hf hp (l:=[a,b]) (big_of (by simp)) (c:=.sl 3 0 0 2) (F:=.fn 84 false [] [.ptr 0 0,.ptr 1 0,.ptr 2 0]) (H:=H) (.sl 3 0 false [a,b] (by rw [hH];rfl)) rfl (ys:=fun s=>b2n (matchP j plan a b s)) (ms:=fun _=>1) (fun s=>b2n_le) (fun s=>by decide) (fun hj hok s hs H' hk wo=>by
    have ha:=judge_in hok a (by simp)
    have hb:=judge_in hok b (by simp)
    obtain ⟨n,rfl⟩:∃n:Nat,a=n:=⟨a.toNat,by omega⟩
    obtain ⟨m,rfl⟩:∃n:Nat,b=n:=⟨b.toNat,by omega⟩
    have hl:=ofS_len (j:=j) (s:=s) (plan:=plan)
    have n0:(0:Int)≤n:=by omega
    have n1:(n:Int)<j.pieces.length:=by omega
    have m0:(0:Int)≤m:=by omega
    have m1:(m:Int)<j.pieces.length:=by omega
    have e0:=hk.get (o:=0) (x:=.cells (jobC g1 g2 g3 g4 g5 j)) id (by rw [hH];rfl) (by simp)
    have e1:=hk.get (o:=1) (x:=.cells [.int .i64 (n:Int)]) id (by rw [hH];rfl) (by simp)
    have e2:=hk.get (o:=2) (x:=.cells [.int .i64 (m:Int)]) id (by rw [hH];rfl) (by simp)
    rw [CallV_fn]
    refine Fn_X (fn:=f84) rfl rfl ?_
    simp only [go_sem,f84,e0,e1,e2,n0,n1,m0,m1,hl,disj_nil]
    refine (pnear (g1:=g1) (g2:=g2) (g3:=g3) (g4:=g4) (g5:=g5) hj (ofS_bd (workL_ok hj s hs)) (ofS_bd (workL_ok hj s hs))).mono ?_
    rintro r H2 ⟨rfl,K2⟩
    have hb:matchP j plan (n:Int) m s=nearB j ((ofS j s plan).getD n default) ((ofS j s plan).getD m default):=rfl
    rw [hb]
    simp only [Int.toNat_natCast]
    cases nearB j ((ofS j s plan).getD n default) ((ofS j s plan).getD m default) <;>
    · simp only [go_sem]
      exact ⟨rfl,K2⟩)
  simp only [go_sem,f39]
  refine (key _ rfl).mono ?_
  rintro r H' ⟨rfl,hk⟩
  unfold JudgeR
  split<;>simp only [go_sem])
theorem pminimum {g:Bool × Bool} {l:List Int} (h0:0<l.length) (hl:l.length<Big) {Q:V→Prop}:CallP tab 87 [.c (L g l)] Q↔Q (.c (.int .i64 (minL l))):=CallP_of (by
  refine Val_X (fn:=f87) rfl ?_
  simp only [go_sem,f87,CallP_of (Min_ok (G:=tab) (k:=134) rfl (g:=g) h0 hl)])
theorem pmin2 {t:Bool} {a b:Int} {Q:V→Prop}:CallP tab 87 [.c (.lst t [[.int .i64 a],[.int .i64 b]])] Q↔Q (.c (.int .i64 (min a b))):=by
  have:=pminimum (g:=(false,t)) (l:=[a,b]) (show 0<2 by decide) (show 2<Big by decide) (Q:=Q)
  exact this
def oldC (j:Job) (x:Int):List Int:=[j.old.lo,j.old.hi,max j.old.lo (min j.old.hi x)]
def oldN (j:Job) (plan:List Stp) (i:Int) (s:Sh):Nat:=(oldC j ((ofS j s plan).getD i.toNat default)).countP fun y=>nearB j ((ofS j s plan).getD i.toNat default) y
theorem oldN_le {i:Int}:oldN j plan i s≤3:=Nat.le_trans List.countP_le_length (by simp [oldC])
theorem countP_take {p:Int→Bool} {l:List Int} {k:Nat} (h:k<l.length):(l.take (k+1)).countP p=(l.take k).countP p+b2n (p (l.getD k default)):=by
  rw [take_getD h default,List.countP_append]
  have:[l.getD k default].countP p=b2n (p (l.getD k default)):=by
    generalize l.getD k default=z
    cases hp:p z<;>simp [b2n,hp]
  rw [this]
theorem old1 (hj:j.Valid) (hs:s.Ok) {n:Nat} (hn:n<j.pieces.length) {H:List Obj} {a b wo:Nat} (e0:getH H a = .cells (jobC g1 g2 g3 g4 g5 j)) (e1:getH H b = .cells [.int .i64 (n:Int)]) :
    Fn tab (.f 86 [.c (.ptr wo 0),.c (L (false,false) (ofS j s plan)),.c (.ptr a 0),.c (.ptr b 0)] H) fun r H''=>r = .tup [.c (.int .i64 (oldN j plan n s:Nat)),.c (.int .i64 (3:Nat))]∧Keep K0 H H'':=by
  refine Fn_X (fn:=f86) rfl rfl ?_
  have hl:=ofS_len (j:=j) (s:=s) (plan:=plan)
  have n0:(0:Int)≤n:=by omega
  have n1:(n:Int)<j.pieces.length:=by omega
  have l0:=lt_of_getH (h:=H) (o:=a) (by rw [e0];simp)
  have l1:=lt_of_getH (h:=H) (o:=b) (by rw [e1];simp)
  have hx:=ofS_bd (j:=j) (plan:=plan) hs (k:=n)
  have ho:=hj.old
  have hR:oldN j plan n s=(oldC j ((ofS j s plan).getD n default)).countP fun y=>nearB j ((ofS j s plan).getD n default) y:=rfl
  rw [hR]
  have z0:¬a=H.length:=by omega
  have z1:¬H.length=a:=by omega
  have z2:¬a=H.length+1:=by omega
  have z3:¬H.length+1=a:=by omega
  have z4:¬a=H.length+2:=by omega
  have z5:¬H.length+2=a:=by omega
  have z6:¬b=H.length:=by omega
  have z7:¬H.length=b:=by omega
  have z8:¬b=H.length+1:=by omega
  have z9:¬H.length+1=b:=by omega
  have z10:¬b=H.length+2:=by omega
  have z11:¬H.length+2=b:=by omega
  simp only [go_sem,f86,getH_left,l0,l1,e0,e1,n0,n1,hl,disj_nil,pmin2,atI_nat,z0,z1,z2,z3,z4,z5,z6,z7,z8,z9,z10,z11]
  obtain ⟨x,hxe⟩:∃x,x=(ofS j s plan).getD n default:=⟨_,rfl⟩
  rw [←hxe] at hx ⊢
  obtain ⟨w,hw⟩:∃w,w=oldC j x:=⟨_,rfl⟩
  have hwr:([[.int .i64 j.old.lo],[.int .i64 j.old.hi],[.int .i64 (max j.old.lo (min j.old.hi x))]]:List (List D))=w.map Row.row:=by rw [hw];rfl
  have hwl:w.length=3:=by rw [hw];rfl
  have hwb:∀y∈w,0≤y∧y≤100000:=by
    intro y hy
    rw [hw] at hy
    simp only [oldC,List.mem_cons,List.not_mem_nil,or_false] at hy
    omega
  rw [hwr,←hw]
  obtain ⟨H0,hH0⟩:∃H0,H0=H++[.cells [.fn 85 false [] []],.arr false 0 1 [[.int .i64 j.old.hi],[.int .i64 x]],.arr false 0 1 (w.map Row.row)]:=⟨_,rfl⟩
  rw [←hH0]
  have hk0:Keep K0 H H0:=by rw [hH0];exact Keep.append
  have q0:getH H0 H.length = .cells [.fn 85 false [] []]:=by rw [hH0];simp only [go_sem]
  have q2:getH H0 (H.length+2) = .arr false 0 1 (w.map Row.row):=by rw [hH0];simp only [go_sem]
  refine RX_whileU (α:=Nat × List Obj) (fun y=>[(6,.c (.int .i64 ((w.take y.1).countP (nearB j x):Nat))),(7,.c (.int .i64 (y.1:Nat))),(33,.c (.int .i64 (y.1:Nat)))]) (fun y=>y.2) (fun y=>y.1≤3∧Keep K0 H0 y.2) (fun y=>3-y.1) (0,H0) ⟨Nat.zero_le _,Keep.refl⟩ (by simp only [go_sem]<;>rfl) ?_
  rintro ⟨k,H2⟩ ⟨hk2,K2⟩
  simp only at hk2 K2
  have d0:=(hk0.trans K2).get id e0 (by simp)
  have d1:=(hk0.trans K2).get id e1 (by simp)
  have dq:=K2.get id q0 (by simp)
  have dw:=K2.get id q2 (by simp)
  by_cases hlt:k<3
  · have k0:(0:Int)≤k:=by omega
    have k1:(k:Int)<3:=by omega
    have e4:IntKind.i64.wrap ((k:Int)+1)=((k+1:Nat):Int):=wrap_succ (n:=3000) (by omega) (by decide)
    have hn:=nth_row (w:=w) (y:=k) (by omega)
    have hct:=countP_take (p:=nearB j x) (l:=w) (k:=k) (by omega)
    have hcl:(w.take k).countP (nearB j x)≤3:=Nat.le_trans List.countP_le_length (by rw [List.length_take];omega)
    have hz:=hwb _ (getD_mem (l:=w) (d:=default) (i:=k) (by omega))
    obtain ⟨z,hze⟩:∃z,z=w.getD k default:=⟨_,rfl⟩
    rw [←hze] at hn hct hz
    simp only [go_sem,k0,k1,dw,hn,dq,d0,d1,n0,n1,hl,disj_nil,e4,←hxe,atI_nat]
    refine (pnear (g1:=g1) (g2:=g2) (g3:=g3) (g4:=g4) (g5:=g5) hj hx hz).mono ?_
    rintro r H3 ⟨rfl,K3⟩
    cases hb:nearB j x z with
    | true=>
      rw [hb] at hct
      have e5:IntKind.i64.wrap (((w.take k).countP (nearB j x):Int)+1)=(((w.take (k+1)).countP (nearB j x):Nat):Int):=by rw [hct,wrapB (by omega) (by omega)];rfl
      simp only [go_sem,e4,e5]
      exact ⟨(k+1,H3),⟨by simp only;omega,by simp only;omega,K2.trans K3⟩,by trivial⟩
    | false=>
      rw [hb] at hct
      have e5:(w.take k).countP (nearB j x)=(w.take (k+1)).countP (nearB j x):=by rw [hct];rfl
      simp only [go_sem,e4,e5]
      exact ⟨(k+1,H3),⟨by simp only;omega,by simp only;omega,K2.trans K3⟩,by trivial⟩
  · have:k=3:=by omega
    subst this
    have ht:w.take 3=w:=List.take_of_length_le (by omega)
    have k1:¬(3:Int)<3:=by omega
    simp only [go_sem,k1,ht]
    exact hk0.trans K2
theorem pOld (hf:j.Fits) (hp:plan.length<Big) {i:Int} {Q:V→Prop}:CallP tab 40 [jobV g1 g2 g3 g4 g5 j,.c (L g plan),.c (.int .i64 i)] Q↔Q (JudgeR j plan [i] (oldN j plan i) (fun _=>3)):=CallP_of (by
  refine Val_X (fn:=f40) rfl ?_
  have key:=fun (H:List Obj) (hH:H=[.cells (jobC g1 g2 g3 g4 g5 j),.cells [.int .i64 i],.arr false 0 1 [[.int .i64 i]]])=>Fjudged (g:=g) (g1:=g1) (g2:=g2) (g3:=g3) (g4:=g4) (g5:=g5) (plan:=plan) hf hp (l:=[i]) (big_of (by simp)) (c:=.sl 2 0 0 1) (F:=.fn 86 false [] [.ptr 0 0,.ptr 1 0]) (H:=H) (.sl 2 0 false [i] (by rw [hH];rfl)) rfl (ys:=oldN j plan i) (ms:=fun _=>3) (fun s=>oldN_le) (fun s=>by decide) (fun hj hok s hs H' hk wo=>by
    have hi:=judge_in hok i (by simp)
    obtain ⟨n,rfl⟩:∃n:Nat,i=n:=⟨i.toNat,by omega⟩
    rw [CallV_fn]
    exact old1 hj (workL_ok hj s hs) (by omega) (hk.get (o:=0) id (by rw [hH];rfl) (by simp)) (hk.get (o:=1) id (by rw [hH];rfl) (by simp)))
  simp only [go_sem,f40]
  refine (key _ rfl).mono ?_
  rintro r H' ⟨rfl,hk⟩
  unfold JudgeR
  split<;>simp only [go_sem])
end Am.Vt
