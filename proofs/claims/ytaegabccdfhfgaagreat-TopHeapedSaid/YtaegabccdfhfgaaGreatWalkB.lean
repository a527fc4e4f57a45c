/-
  A part of the proof: the texts C8, C9, C10, C11, C12, C13, C14, C15 of this seat, joined.
-/
import Derived.Test.YtaegabccdfhfgaaGreatWalkA
import Derived.Test.YtaegabccdfhfgaaGreatAmK
namespace Am.Cr
open Go Am Am.Tm
set_option maxRecDepth 100000
set_option maxHeartbeats 4000000
set_option linter.unusedSimpArgs false
set_option linter.unusedVariables false
variable {g1 g2 g3 g4 g5:Bool × Bool} {f:Field}
def truthsAssign : ACode:=(.region 0 [] [
        ⟨(some 7),.mov (.tmp 18),none,0⟩])
def truthsBody : ACode:=(.block 1 (.seq (.region 1 [(0,1),(0,2),(0,3),(0,4),(0,5),(0,7),(1,7),(2,7),(3,7),(4,7),(5,7),(6,7),(0,8),(1,8),(2,8),(3,8),(4,8),(5,8),(6,8),(7,8),(0,9),(1,9),(2,9),(3,9),(4,9),(5,9),(6,9),(7,9),(0,10),(1,10),(2,10),(3,10),(4,10),(5,10),(6,10),(7,10),(0,11),(1,11),(2,11),(3,11),(4,11),(5,11),(6,11),(7,11),(0,12),(6,12),(7,12),(0,13),(6,13),(0,15),(1,15),(2,15),(3,15),(4,15),(5,15),(6,15),(7,15),(8,15),(9,15),(10,15),(11,15),(12,15),(13,15),(14,15)] [
          ⟨(some 19),.mov (.tmp 7),none,0⟩,
          ⟨(some 20),.load none (.tmp 1),none,0⟩,
          ⟨(some 21),.nilchk (.tmp 20),none,0⟩,
          ⟨(some 22),.faddr 0 (.tmp 21),none,0⟩,
          ⟨(some 23),.load (some 9) (.tmp 22),none,0⟩,
          ⟨(some 24),.call 61 true [(.tmp 23)],none,0⟩,
          ⟨(some 25),.slice 1 (.tmp 19) none (some (.tmp 24)),none,0⟩,
          ⟨(some 26),.mov (.tmp 7),none,0⟩,
          ⟨(some 27),.load none (.tmp 1),none,0⟩,
          ⟨(some 28),.nilchk (.tmp 27),none,0⟩,
          ⟨(some 29),.faddr 0 (.tmp 28),none,0⟩,
          ⟨(some 30),.load (some 9) (.tmp 29),none,0⟩,
          ⟨(some 31),.call 61 true [(.tmp 30)],none,0⟩,
          ⟨(some 32),.slice 1 (.tmp 26) (some (.tmp 31)) none,none,0⟩,
          ⟨(some 33),.build [.nils,.nils] [(0,1,(.tmp 25)),(1,1,(.tmp 32))],none,0⟩,
          ⟨(some 8),.alloc [.nils,.nils],none,0⟩,
          ⟨none,.store (some 2) (.tmp 8) (.tmp 33),none,1⟩])
        (.seq (.seq (.region 1 [(0,1),(0,2),(1,2),(0,3),(1,3),(0,4),(1,4),(0,5),(1,5),(0,6),(1,6),(0,8),(1,8),(2,8),(3,8),(4,8),(5,8),(6,8),(7,8)] [
          ⟨(some 34),.load none (.tmp 1),none,0⟩,
          ⟨(some 35),.load (some 2) (.tmp 8),none,0⟩,
          ⟨(some 36),.load none (.tmp 1),none,0⟩,
          ⟨(some 37),.nilchk (.tmp 36),none,0⟩,
          ⟨(some 38),.faddr 0 (.tmp 37),none,0⟩,
          ⟨(some 39),.faddr 4 (.tmp 38),none,0⟩,
          ⟨(some 40),.load none (.tmp 39),none,0⟩,
          ⟨(some 41),.call 75 true [(.tmp 34),(.tmp 35),(.tmp 40)],none,0⟩,
          ⟨(some 9),.alloc [(.int .i64 0),(.int .i64 0),(.int .i64 0),(.int .i64 0),(.int .i64 0),(.int .i64 0),(.int .i64 0),(.int .i64 0),(.int .i64 0),(.int .i64 0)],none,0⟩,
          ⟨none,.store (some 10) (.tmp 9) (.tmp 41),none,1⟩])
        (.seq (.region 0 [] [
          ⟨(some 42),.load none (.tmp 6),none,0⟩,
          ⟨(some 43),.mov (.tmp 42),none,0⟩,
          ⟨(some 44),.load (some 10) (.tmp 9),some (43,false),0⟩,
          ⟨(some 45),.load (some 10) (.tmp 4),some (43,false),0⟩,
          ⟨(some 46),.eqA true [(some .i64),(some .i64),(some .i64),(some .i64),(some .i64),(some .i64),(some .i64),(some .i64),(some .i64),(some .i64)] (.tmp 44) (.tmp 45),some (43,false),0⟩,
          ⟨(some 47),.pick (.tmp 43) (.cst (.c (.bool true))) (.tmp 46),none,0⟩])
        (.cond (.tmp 47)
          (.seq (.region 0 [(0,1)] [
            ⟨(some 48),.load (some 10) (.tmp 9),none,0⟩,
            ⟨none,.store none (.tmp 6) (.cst (.c (.bool false))),none,0⟩,
            ⟨none,.store (some 10) (.tmp 4) (.tmp 48),none,0⟩,
            ⟨none,.store none (.tmp 5) (.cst (.c (.bool true))),none,0⟩])
          (.seq (.region 0 [] [
            ⟨(some 49),.load none (.tmp 1),none,0⟩,
            ⟨(some 50),.nilchk (.tmp 49),none,0⟩,
            ⟨(some 51),.faddr 0 (.tmp 50),none,0⟩,
            ⟨(some 52),.faddr 8 (.tmp 51),none,0⟩,
            ⟨(some 53),.load none (.tmp 52),none,0⟩,
            ⟨(some 54),.len (.tmp 53),none,0⟩,
            ⟨(some 55),.mov (.cst (.c (.int .i64 0))),none,0⟩])
          (.block 2 (.loop ⟨[10,11,56,57,58,59,60,61,62,63,64,65,66,67,68,69,70,71,72,73,74,75],false,[]⟩
              (.seq (.region 0 [] [
                ⟨(some 56),.bin .lss (.tmp 55) (.tmp 54),none,0⟩])
              (.seq (.cond (.tmp 56)
                .skip
                (.exit 2))
              (.seq (.block 3 (.seq (.region 1 [] [
                  ⟨(some 57),.mov (.tmp 55),none,0⟩,
                  ⟨(some 58),.iaddr 3 (.tmp 53) (.tmp 55),none,0⟩,
                  ⟨(some 59),.load (some 3) (.tmp 58),none,0⟩,
                  ⟨(some 11),.alloc [(.int .i64 0),(.int .i64 0),(.int .i64 0)],none,0⟩,
                  ⟨(some 10),.mov (.tmp 57),none,1⟩,
                  ⟨none,.store (some 3) (.tmp 11) (.tmp 59),none,1⟩])
                (.region 0 [(2,3),(6,8),(7,8),(6,9),(7,9),(6,10),(7,10),(6,11),(7,11)] [
                  ⟨(some 60),.load none (.tmp 5),none,0⟩,
                  ⟨(some 61),.mov (.tmp 60),none,0⟩,
                  ⟨(some 62),.load none (.tmp 2),some (61,true),0⟩,
                  ⟨(some 63),.mov (.tmp 10),some (61,true),0⟩,
                  ⟨(some 64),.call 92 true [(.tmp 62),(.tmp 63)],some (61,true),0⟩,
                  ⟨(some 65),.mov (.tmp 64),some (61,true),0⟩,
                  ⟨(some 66),.faddr 1 (.tmp 11),some (65,false),0⟩,
                  ⟨(some 67),.load (some 2) (.tmp 66),some (65,false),0⟩,
                  ⟨(some 68),.faddr 0 (.tmp 11),some (65,false),0⟩,
                  ⟨(some 69),.load none (.tmp 68),some (65,false),0⟩,
                  ⟨(some 70),.iaddrA 10 1 (.tmp 9) (.tmp 69),some (65,false),0⟩,
                  ⟨(some 71),.load none (.tmp 70),some (65,false),0⟩,
                  ⟨(some 72),.call 72 true [(.tmp 67),(.tmp 71)],some (65,false),0⟩,
                  ⟨(some 73),.pick (.tmp 65) (.cst (.c (.bool true))) (.tmp 72),some (61,true),0⟩,
                  ⟨(some 74),.pick (.tmp 61) (.tmp 73) (.cst (.c (.bool false))),none,0⟩,
                  ⟨none,.store none (.tmp 5) (.tmp 74),none,0⟩])))
              (.region 0 [] [
                ⟨(some 75),.bin .add (.tmp 55) (.cst (.c (.int .i64 1))),none,0⟩,
                ⟨(some 55),.mov (.tmp 75),none,0⟩]))))))))
          .skip)))
        (.seq (.region 0 [] [
          ⟨(some 76),.load none (.tmp 5),none,0⟩,
          ⟨(some 77),.mov (.tmp 76),none,0⟩,
          ⟨(some 78),.load none (.tmp 3),some (77,true),0⟩,
          ⟨(some 79),.load (some 2) (.tmp 8),some (77,true),0⟩,
          ⟨(some 80),.callv (.tmp 78) [(.tmp 79)],some (77,true),0⟩,
          ⟨(some 81),.not (.tmp 80),some (77,true),0⟩,
          ⟨(some 82),.pick (.tmp 77) (.tmp 81) (.cst (.c (.bool false))),none,0⟩])
        (.cond (.tmp 82)
          .ret
          .skip)))))
section
variable {σ:Type} {own:Nat→Prop} {F:C} {R RS:σ→List Obj→Prop} {step:σ→Truth→σ × Bool} {C0:σ→Truth→Prop} {n wb ob wo mo:Nat} {out:List Int} {oc:C}
def TYield (f:Field) (N:Nat) (C0:σ→Truth→Prop) (own:Nat→Prop) (F:C) (R RS:σ→List Obj→Prop) (step:σ→Truth→σ × Bool):Prop:=
  ∀s H t c1 c2,N≤H.length→C0 s t→IsT f t→RdI H c1 t.growth→RdI H c2 t.wet→R s H→CallV tab (.c F) [.agg [c1,c2]] H fun v H'=>v = .c (.bool (step s t).2)∧Keep own H H'∧(((step s t).2=true∧R (step s t).1 H')∨((step s t).2=false∧RS (step s t).1 H'))
abbrev t4 (n:Nat) (o:Nat):Prop:=o=n+1∨o=n+2∨o=n+3∨o=n+5
abbrev tOwn (n:Nat) (own:Nat→Prop) (o:Nat):Prop:=own o∨t4 n o
def lastOf (p:Option (List Int)):List Int:=p.getD (List.replicate 10 0)
def rightOf (f:Field) (out:List Int) (p:Option (List Int)):Bool:=match p with
  | none=>false
  | some l=>rightL f out l
def tstep (f:Field) (out:List Int) (step:σ→Truth→σ × Bool) (s:σ × Option (List Int)) (w:List Int):(σ × Option (List Int)) × Bool:=
  if rightL f out (standing (tOf f w).growth f.crops)=true then (((step s.1 (tOf f w)).1,some (standing (tOf f w).growth f.crops)),(step s.1 (tOf f w)).2) else ((s.1,some (standing (tOf f w).growth f.crops)),true)
theorem foldY_t {s:σ} {p:Option (List Int)} {ws:List (List Int)}:(foldY (tstep f out step) (s,p) ws).2=(foldY step s ((ws.map (tOf f)).filter fun t=>rightL f out (standing t.growth f.crops))).2∧(foldY (tstep f out step) (s,p) ws).1.1=(foldY step s ((ws.map (tOf f)).filter fun t=>rightL f out (standing t.growth f.crops))).1:=by
  induction ws generalizing s p with
  | nil=>exact ⟨rfl,rfl⟩
  | cons w ws ih=>
    by_cases hr:rightL f out (standing (tOf f w).growth f.crops)=true
    · have e:tstep f out step (s,p) w=(((step s (tOf f w)).1,some (standing (tOf f w).growth f.crops)),(step s (tOf f w)).2):=by simp only [tstep];rw [if_pos hr]
      simp only [List.map_cons,List.filter_cons,hr,if_true,foldY,e]
      by_cases hs:(step s (tOf f w)).2=true
      · simp only [hs,if_true];exact ih
      · rw [if_neg hs,if_neg hs];exact ⟨rfl,rfl⟩
    · have e:tstep f out step (s,p) w=((s,some (standing (tOf f w).growth f.crops)),true):=by simp only [tstep];rw [if_neg hr]
      simp only [List.map_cons,List.filter_cons,hr,if_false,foldY,e,if_true,Bool.false_eq_true]
      exact ih
theorem FoldC_t {s:σ} {p:Option (List Int)} {ws:List (List Int)} (h:FoldC C0 step s ((ws.map (tOf f)).filter fun t=>rightL f out (standing t.growth f.crops))):FoldC (fun s w=>rightL f out (standing (tOf f w).growth f.crops)=true→C0 s.1 (tOf f w)) (tstep f out step) (s,p) ws:=by
  induction ws generalizing s p with
  | nil=>trivial
  | cons w ws ih=>
    by_cases hr:rightL f out (standing (tOf f w).growth f.crops)=true
    · have e:tstep f out step (s,p) w=(((step s (tOf f w)).1,some (standing (tOf f w).growth f.crops)),(step s (tOf f w)).2):=by simp only [tstep];rw [if_pos hr]
      simp only [List.map_cons,List.filter_cons,hr,if_true] at h
      exact ⟨fun _=>h.1,fun hs=>by rw [e] at hs ⊢;exact ih (h.2 hs)⟩
    · have e:tstep f out step (s,p) w=((s,some (standing (tOf f w).growth f.crops)),true):=by simp only [tstep];rw [if_neg hr]
      simp only [List.map_cons,List.filter_cons,hr,if_false,Bool.false_eq_true] at h
      exact ⟨fun h'=>absurd h' hr,fun _=>by rw [e];exact ih h⟩
structure tR (f:Field) (out:List Int) (n:Nat) (F:C) (own:Nat→Prop) (H0:List Obj) (lp:ALoop) (R:σ→List Obj→Prop) (s:σ × Option (List Int)) (H:List Obj):Prop where
  k:Keep own H0 H
  yb:getH H n = .cells [F]
  la:getH H (n+1) = .cells ((lastOf s.2).map intC)
  ri:getH H (n+2) = .cells [.bool (rightOf f out s.2)]
  fi:getH H (n+3) = .cells [.bool s.2.isNone]
  lp:getH H (n+5) = .loop lp
  r:R s.1 H
  ll:(lastOf s.2).length=10
theorem truths_fin {H0 H Hx H':List Obj} {lp lp':ALoop} {s s':σ} {p:Option (List Int)} {own1:List Int} {R':σ→List Obj→Prop} (hn:H0.length=n) (hown:∀o,n≤o→o<n+10→¬own o) (hRr:tR f out n F own H0 lp R (s,p) H) (hk4:Keep (t4 n) H Hx)
    (e1:getH Hx (n+1) = .cells (own1.map intC)) (e2:getH Hx (n+2) = .cells [.bool (rightL f out own1)]) (e3:getH Hx (n+3) = .cells [.bool false]) (l5:n+5<Hx.length) (ol:own1.length=10) (hk':Keep own Hx H') (r:R' s' (setH H' (n+5) (.loop lp'))) :
    Keep (tOwn n own) H (setH H' (n+5) (.loop lp'))∧tR f out n F own H0 lp' R' (s',some own1) (setH H' (n+5) (.loop lp')):=by
  have hk:Keep (tOwn n own) H Hx:=hk4.mono fun o h=>.inr h
  have l1:=hk'.1
  have l2:=hRr.k.1
  have l3:=hk.1
  have g:∀o,o≠n+5→getH (setH H' (n+5) (.loop lp')) o=getH H' o:=fun o ho=>by rw [getH_setH,if_neg (fun h=>ho h.1)]
  have e0:=hk.get (o:=n) (fun h=>by rcases h with h | h | h | h | h;exact hown n (Nat.le_refl _) (by omega) h;all_goals omega) hRr.yb (by simp)
  have hK:Keep (tOwn n own) H (setH H' (n+5) (.loop lp')):=by
    refine hk.trans ⟨by rw [length_setH];exact l1,fun o ho hl=>?_⟩
    simp only [tOwn,not_or] at ho
    rw [g o ho.2.2.2.2,hk'.2 o ho.1 hl]
  refine ⟨hK,⟨?_,?_,?_,?_,?_,?_,r,ol⟩⟩
  · refine ⟨by have:=hK.1;omega,fun o ho hl=>?_⟩
    rw [hK.2 o (fun h=>by rcases h with h | h | h | h | h;exact ho h;all_goals omega) (by omega),hRr.k.2 o ho hl]
  · rw [g _ (by omega),hk'.get (hown _ (by omega) (by omega)) e0 (by simp)]
  · rw [g _ (by omega),hk'.get (hown _ (by omega) (by omega)) e1 (by simp)];rfl
  · rw [g _ (by omega),hk'.get (hown _ (by omega) (by omega)) e2 (by simp)];rfl
  · rw [g _ (by omega),hk'.get (hown _ (by omega) (by omega)) e3 (by simp)];rfl
  · rw [getH_setH,if_pos ⟨rfl,by omega⟩]
theorem truths_yield (hv:f.Valid) {H0:List Obj} (hn:H0.length=n) (hcr:f.crops.length<Big) (hoB:out.length<Big) (hkn:known [F]=true) (h1:¬own wb) (h2:¬own ob) (h3:¬own wo) (hown:∀o,n≤o→o<n+10→¬own o)
    (hR:∀s H H',R s H→Keep (fun o=>n≤o∧o<n+10) H H'→R s H') (hRS:∀s H H',RS s H→Keep (fun o=>n≤o∧o<n+10) H H'→RS s H') (hF:TYield f (n+10) C0 own F R RS step)
    (hwb:getH H0 wb = .cells [.ptr wo 0]) (hob:getH H0 ob = .cells [oc]) (hw:getH H0 wo = .cells (workC g1 g2 g3 g4 g5 f mo)) (ho:∀H,Keep own H0 H→RdI H oc out) {v0 v7 v8 v9 v10 v11 v12 v13 v14 v15 v16 v17:V} {vs:List V} (hvs:vs=List.replicate 65 (.c .any)) {lp lpd:ALoop}
    (hlp:lp=⟨.ready,.normal,[v0,.c (.ptr wb 0),.c (.ptr ob 0),.c (.ptr n 0),.c (.ptr (n+1) 0),.c (.ptr (n+2) 0),.c (.ptr (n+3) 0),v7,v8,v9,v10,v11,v12,v13,v14,v15,v16,v17]++vs,[18],truthsAssign,truthsBody⟩) (hlpd:lpd={ lp with state:=.done,pending:=.ret }) :
    LYield tab (rangesL f.growth f.wet) (n+10) (fun s w=>rightL f out (standing (tOf f w).growth f.crops)=true→C0 s.1 (tOf f w)) (tOwn n own) (n+7) (.yld (n+5)) (tR f out n F own H0 lp R) (tR f out n F own H0 lpd RS) (tstep f out step):=by
  subst hvs
  rintro ⟨s,p⟩ H w hlen hCw hwl hin hRr hg
  rw [CallV_y]
  change Fn tab _ (yQ (tOwn n own) H (tR f out n F own H0 lp R) (tR f out n F own H0 lpd RS) (tstep f out step (s,p) w))
  refine Fn_y hRr.lp (by rw [hlp];rfl) ?_
  rw [show lp.assign=truthsAssign by rw [hlp],show lp.params=[18] by rw [hlp],show lp.slots=_ by rw [hlp]]
  have l5:=lt_of_getH (h:=H) (o:=n+5) (by rw [hRr.lp];simp)
  have l7:=lt_of_getH (h:=H) (o:=n+7) (by rw [hg];simp)
  simp only [go_sem,truthsAssign,setParams,assignX,hRr.lp]
  refine ⟨lp,rfl,by rw [hlp],rfl,?_⟩
  generalize hlb:ALoop.mk .busy _ _ _ _ _=lb
  rw [show lp.body=truthsBody by rw [hlp]]
  have hlb1:∀l:ALoop,Obj.loop lb = .loop l→({ l with state:=.ready,pending:=.normal }:ALoop)=lp:=fun l h=>by cases h;rw [←hlb,hlp]
  have hlb2:∀l:ALoop,Obj.loop lb = .loop l→({ l with state:=.done,pending:=.ret }:ALoop)=lpd:=fun l h=>by cases h;rw [←hlb,hlpd]
  clear hlb
  obtain ⟨H1,hH1⟩:∃H1,H1=setH H (n+5) (.loop lb):=⟨_,rfl⟩
  rw [←hH1]
  have len:H1.length=H.length:=by rw [hH1,length_setH]
  have g:∀o,o≠n+5→getH H1 o=getH H o:=fun o ho=>by rw [hH1,getH_setH,if_neg (fun h=>ho h.1)]
  have lt0:∀{o x},getH H0 o=x→x ≠ .none→o<n:=fun {o x} h hne=>by rw [←hn];exact lt_of_getH (by rw [h];exact hne)
  have lwb:=lt0 hwb (by simp)
  have lob:=lt0 hob (by simp)
  have lwo:=lt0 hw (by simp)
  have ewb:=(g wb (by omega)).trans (hRr.k.get h1 hwb (by simp))
  have eob:=(g ob (by omega)).trans (hRr.k.get h2 hob (by simp))
  have ew:=(g wo (by omega)).trans (hRr.k.get h3 hw (by simp))
  have e0:=(g n (by omega)).trans hRr.yb
  have e1:=(g (n+1) (by omega)).trans hRr.la
  have e2:=(g (n+2) (by omega)).trans hRr.ri
  have e3:=(g (n+3) (by omega)).trans hRr.fi
  have e7:=(g (n+7) (by omega)).trans hg
  have e5:getH H1 (n+5) = .loop lb:=by rw [hH1,getH_setH,if_pos ⟨rfl,l5⟩]
  have k0:wb<H1.length:=by omega
  have k1:ob<H1.length:=by omega
  have k2:wo<H1.length:=by omega
  have k3:n<H1.length:=by omega
  have k4:n+1<H1.length:=by omega
  have k5:n+2<H1.length:=by omega
  have k6:n+3<H1.length:=by omega
  have k7:n+5<H1.length:=by omega
  have k8:n+7<H1.length:=by omega
  have u0:¬wb=n:=by omega
  have u1:¬n=wb:=by omega
  have u2:¬wb=n+1:=by omega
  have u3:¬n+1=wb:=by omega
  have u4:¬wb=n+2:=by omega
  have u5:¬n+2=wb:=by omega
  have u6:¬wb=n+3:=by omega
  have u7:¬n+3=wb:=by omega
  have u8:¬wb=n+5:=by omega
  have u9:¬n+5=wb:=by omega
  have u10:¬wb=n+7:=by omega
  have u11:¬n+7=wb:=by omega
  have u12:¬ob=n:=by omega
  have u13:¬n=ob:=by omega
  have u14:¬ob=n+1:=by omega
  have u15:¬n+1=ob:=by omega
  have u16:¬ob=n+2:=by omega
  have u17:¬n+2=ob:=by omega
  have u18:¬ob=n+3:=by omega
  have u19:¬n+3=ob:=by omega
  have u20:¬ob=n+5:=by omega
  have u21:¬n+5=ob:=by omega
  have u22:¬ob=n+7:=by omega
  have u23:¬n+7=ob:=by omega
  have u24:¬wo=n:=by omega
  have u25:¬n=wo:=by omega
  have u26:¬wo=n+1:=by omega
  have u27:¬n+1=wo:=by omega
  have u28:¬wo=n+2:=by omega
  have u29:¬n+2=wo:=by omega
  have u30:¬wo=n+3:=by omega
  have u31:¬n+3=wo:=by omega
  have u32:¬wo=n+5:=by omega
  have u33:¬n+5=wo:=by omega
  have u34:¬wo=n+7:=by omega
  have u35:¬n+7=wo:=by omega
  have z0:¬wb=H1.length:=by omega
  have z1:¬H1.length=wb:=by omega
  have z2:¬wb=H1.length+1:=by omega
  have z3:¬H1.length+1=wb:=by omega
  have z4:¬ob=H1.length:=by omega
  have z5:¬H1.length=ob:=by omega
  have z6:¬ob=H1.length+1:=by omega
  have z7:¬H1.length+1=ob:=by omega
  have z8:¬wo=H1.length:=by omega
  have z9:¬H1.length=wo:=by omega
  have z10:¬wo=H1.length+1:=by omega
  have z11:¬H1.length+1=wo:=by omega
  have z12:¬n=H1.length:=by omega
  have z13:¬H1.length=n:=by omega
  have z14:¬n=H1.length+1:=by omega
  have z15:¬H1.length+1=n:=by omega
  have z16:¬n+1=H1.length:=by omega
  have z17:¬H1.length=n+1:=by omega
  have z18:¬n+1=H1.length+1:=by omega
  have z19:¬H1.length+1=n+1:=by omega
  have z20:¬n+2=H1.length:=by omega
  have z21:¬H1.length=n+2:=by omega
  have z22:¬n+2=H1.length+1:=by omega
  have z23:¬H1.length+1=n+2:=by omega
  have z24:¬n+3=H1.length:=by omega
  have z25:¬H1.length=n+3:=by omega
  have z26:¬n+3=H1.length+1:=by omega
  have z27:¬H1.length+1=n+3:=by omega
  have z28:¬n+5=H1.length:=by omega
  have z29:¬H1.length=n+5:=by omega
  have z30:¬n+5=H1.length+1:=by omega
  have z31:¬H1.length+1=n+5:=by omega
  have z32:¬n+7=H1.length:=by omega
  have z33:¬H1.length=n+7:=by omega
  have z34:¬n+7=H1.length+1:=by omega
  have z35:¬H1.length+1=n+7:=by omega
  have hrl:=rangesL_len (f:=f)
  have v1:=hv.growth
  have v2:=hv.wet
  have v3:=hv.last0
  have v4:=hv.last9
  have hw1:IntKind.i64.wrap (f.last+1)=(f.growth.length:Nat):=by rw [wrapB (by omega) (by omega)];omega
  have p1:takeN f.growth.length (w.map (Row.row (α:=Int)))=some ((w.take f.growth.length).map Row.row):=by
    have:=part_rows (w:=w) (off:=0) (len:=f.growth.length) (by omega)
    rwa [List.drop_zero] at this
  have p2:takeN (w.length-f.growth.length) (dropN f.growth.length (w.map (Row.row (α:=Int))))=some ((w.drop f.growth.length).map Row.row):=by
    have:=part_rows (w:=w) (off:=f.growth.length) (len:=w.length-f.growth.length) (by omega)
    rwa [List.take_of_length_le (by simp)] at this
  have q1:(0:Int)≤(f.growth.length:Nat):=by omega
  have q2:f.growth.length≤w.length:=by omega
  have q3:(w.take f.growth.length).length≤10:=by simp;omega
  obtain ⟨own1,hown1⟩:∃x,x=standing (w.take f.growth.length) f.crops:=⟨_,rfl⟩
  have ol:own1.length=10:=by rw [hown1];exact standing_len
  have x1:=splice_all (xs:=own1.map intC) (l:=(List.replicate 10 (0:Int)).map intC) (by simp [ol])
  rw [List.map_replicate] at x1
  simp only [List.replicate_succ,List.replicate_zero] at x1
  have x2:takeN 10 (own1.map intC)=some (own1.map intC):=part_ints ol
  have hP:=fun {x:V} {g1 g2 g:Bool × Bool} {wt:List Int} {Q:V→Prop}=>P54 (x:=x) (g1:=g1) (g2:=g2) (g:=g) (wt:=wt) q3 hcr (Q:=Q)
  rw [←hown1] at hP
  have hCw':rightL f out own1=true→C0 s (tOf f w):=by rw [hown1];exact hCw
  have hlk:=hv.looks5
  have hl:=hRr.ll
  have hll:(lastOf p).length=10:=hl
  have x3:takeN 10 ((lastOf p).map intC)=some ((lastOf p).map intC):=part_ints hll
  have x4:=splice_all (xs:=own1.map intC) (l:=(lastOf p).map intC) (by simp [ol,hll])
  have hIs:=isT_of (f:=f) hwl hin
  obtain ⟨go,hgo⟩:=(ho _ hRr.k).arg2
  have hKx:∀Hx:List Obj,H1.length≤Hx.length→(∀o,o<H1.length→¬t4 n o→getH Hx o=getH H1 o)→Keep (t4 n) H Hx:=fun Hx hl hg=>⟨by omega,fun o h h'=>by rw [hg o (by omega) h,g o (fun h2=>h (.inr (.inr (.inr h2))))]⟩
  have hK0:∀Hx:List Obj,Keep (t4 n) H Hx→Keep own H0 Hx:=fun Hx hk=>⟨by have:=hk.1;have:=hRr.k.1;omega,fun o h h'=>by
    rw [hk.2 o (fun h2=>by rcases h2 with h2 | h2 | h2 | h2;all_goals omega) (by have:=hRr.k.1;omega),hRr.k.2 o h h']⟩
  have hOc:∀Hx:List Obj,Keep (t4 n) H Hx→toArgC Hx oc=some (L go out):=fun Hx hk=>hgo _ (ho _ (hK0 _ hk))
  have hKn:∀Hx:List Obj,Keep (t4 n) H Hx→Keep (fun o=>n≤o∧o<n+10) H Hx:=fun Hx hk=>hk.mono fun o h=>by rcases h with h | h | h | h<;>omega
  -- behind the looks
  have fin:∀(Hx:List Obj) (Q:V→List Obj→Prop),Keep (t4 n) H Hx→getH Hx (n+1) = .cells (own1.map intC)→getH Hx (n+2) = .cells [.bool (rightL f out own1)]→getH Hx (n+3) = .cells [.bool false]→H1.length≤Hx.length→getH Hx (n+5) = .loop lb→getH Hx (n+7) = .arr false 0 1 (w.map Row.row)→rightL f out own1=true →
      (∀H',getH H' (n+5) = .loop lb→(step s (tOf f w)).2=true→(Keep (tOwn n own) H (setH H' (n+5) (.loop lp))∧tR f out n F own H0 lp R ((step s (tOf f w)).1,some own1) (setH H' (n+5) (.loop lp)))→Q (.c (.bool true)) H') →
      (∀H',getH H' (n+5) = .loop lb→(step s (tOf f w)).2=false→(Keep (tOwn n own) H (setH H' (n+5) (.loop lpd))∧tR f out n F own H0 lpd RS ((step s (tOf f w)).1,some own1) (setH H' (n+5) (.loop lpd)))→Q (.c (.bool false)) H') →
      CallV tab (.c F) [.agg [.sl (n+7) 0 0 f.growth.length,.sl (n+7) 0 f.growth.length (w.length-f.growth.length)]] Hx Q:=by
    intro Hx Q hk e1 e2 e3 hl e5 e7 hr hA hB
    refine (hF s Hx (tOf f w) _ _ (by omega) (hCw' hr) hIs (by
      have:=RdI.sl (H:=Hx) (n+7) 0 false 0 f.growth.length w e7 (by omega)
      rwa [List.drop_zero] at this) (by
      have:=RdI.sl (H:=Hx) (n+7) 0 false f.growth.length (w.length-f.growth.length) w e7 (by omega)
      rwa [List.take_of_length_le (by simp)] at this) (hR _ _ _ hRr.r (hKn _ hk))).mono ?_
    rintro v H' ⟨rfl,hk',hr'⟩
    have e5':=hk'.get (hown _ (by omega) (by omega)) e5 (by simp)
    have hst:∀(s':σ) (lp':ALoop),Keep (fun o=>n≤o∧o<n+10) H' (setH H' (n+5) (.loop lp')):=fun _ lp'=>⟨by rw [length_setH];omega,fun o h h'=>by rw [getH_setH,if_neg (fun h2=>h (by omega))]⟩
    rcases hr' with ⟨a,b⟩ | ⟨a,b⟩
    · rw [a]
      exact hA H' e5' a (truths_fin hn hown hRr hk e1 e2 e3 (by omega) ol hk' (hR _ _ _ b (hst s lp)))
    · rw [a]
      exact hB H' e5' a (truths_fin hn hown hRr hk e1 e2 e3 (by omega) ol hk' (hRS _ _ _ b (hst s lpd)))
  have fin2:∀(Hx:List Obj),Keep (t4 n) H Hx→getH Hx (n+1) = .cells (own1.map intC)→getH Hx (n+2) = .cells [.bool (rightL f out own1)]→getH Hx (n+3) = .cells [.bool false]→H1.length≤Hx.length →
      Keep (tOwn n own) H (setH Hx (n+5) (.loop lp))∧tR f out n F own H0 lp R (s,some own1) (setH Hx (n+5) (.loop lp)):=by
    intro Hx hk e1 e2 e3 hl
    exact truths_fin hn hown hRr hk e1 e2 e3 (by omega) ol Keep.refl (hR _ _ _ hRr.r ((hKn _ hk).trans ⟨by rw [length_setH];omega,fun o h h'=>by rw [getH_setH,if_neg (fun h2=>h (by omega))]⟩))
  have hts:tstep f out step (s,p) w=if rightL f out own1=true then (((step s (tOf f w)).1,some own1),(step s (tOf f w)).2) else ((s,some own1),true):=by rw [hown1];rfl
  have hK2:∀(b:Bool) X,Keep (t4 n) H (setH (setH (setH H1 (n+3) (Obj.cells [C.bool false])) (n+1) (Obj.cells (List.map intC own1))) (n+2) (Obj.cells [C.bool b])++X):=fun b X=>hKx _ (by simp [length_setH]) fun o h h'=>by
      simp only [t4,not_or] at h'
      simp only [getH_left,length_setH,h,getH_setH,h',false_and,if_false]
  have hA1:∀(b:Bool) X,getH (setH (setH (setH H1 (n+3) (Obj.cells [C.bool false])) (n+1) (Obj.cells (List.map intC own1))) (n+2) (Obj.cells [C.bool b])++X) (n+1) = .cells (List.map intC own1):=fun b X=>by simp only [go_sem,getH_left,getH_setH,length_setH,k0,k1,k2,k3,k4,k5,k6,k7,k8]
  have hA2:∀(b:Bool) X,getH (setH (setH (setH H1 (n+3) (Obj.cells [C.bool false])) (n+1) (Obj.cells (List.map intC own1))) (n+2) (Obj.cells [C.bool b])++X) (n+2) = .cells [C.bool b]:=fun b X=>by simp only [go_sem,getH_left,getH_setH,length_setH,k0,k1,k2,k3,k4,k5,k6,k7,k8]
  have hA3:∀(b:Bool) X,getH (setH (setH (setH H1 (n+3) (Obj.cells [C.bool false])) (n+1) (Obj.cells (List.map intC own1))) (n+2) (Obj.cells [C.bool b])++X) (n+3) = .cells [C.bool false]:=fun b X=>by simp only [go_sem,getH_left,getH_setH,length_setH,k0,k1,k2,k3,k4,k5,k6,k7,k8]
  have hA5:∀(b:Bool) X,getH (setH (setH (setH H1 (n+3) (Obj.cells [C.bool false])) (n+1) (Obj.cells (List.map intC own1))) (n+2) (Obj.cells [C.bool b])++X) (n+5) = .loop lb:=fun b X=>by simp only [go_sem,getH_left,getH_setH,length_setH,k0,k1,k2,k3,k4,k5,k6,k7,k8,e5]
  have hA7:∀(b:Bool) X,getH (setH (setH (setH H1 (n+3) (Obj.cells [C.bool false])) (n+1) (Obj.cells (List.map intC own1))) (n+2) (Obj.cells [C.bool b])++X) (n+7) = .arr false 0 1 (w.map Row.row):=fun b X=>by simp only [go_sem,getH_left,getH_setH,length_setH,k0,k1,k2,k3,k4,k5,k6,k7,k8,e7]
  have lb5:=e5
  cases p with
  | none=>
    simp only [go_sem,truthsBody,getH_left,setH_left,getH_setH,length_setH,getH_atL,getH_atL0,k0,k1,k2,k3,k4,k5,k6,k7,k8,u0,u1,u2,u3,u4,u5,u6,u7,u8,u9,u10,u11,u12,u13,u14,u15,u16,u17,u18,u19,u20,u21,u22,u23,u24,u25,u26,u27,u28,u29,u30,u31,u32,u33,u34,u35,z0,z1,z2,z3,z4,z5,z6,z7,z8,z9,z10,z11,z12,z13,z14,z15,z16,z17,z18,z19,z20,z21,z22,z23,z24,z25,z26,z27,z28,z29,z30,z31,z32,z33,z34,z35,ewb,eob,ew,e0,e1,e2,e3,e5,e7,cweeks,hw1,p1,p2,Option.isNone_none,x3,x4,q1,q2,q3,hP,x1,x2,ol]
    refine RX_whileU (α:=Nat × List Obj) (fun x=>[(55,.c (.int .i64 x.1))]) (fun x=>setH (setH (setH H1 (n+3) (Obj.cells [C.bool false])) (n+1) (Obj.cells (List.map intC own1))) (n+2) (Obj.cells [C.bool ((List.range x.1).all (rightAt f out own1))])++(Obj.cells [C.sl (n+7) 0 0 f.growth.length,C.sl (n+7) 0 f.growth.length (w.length-f.growth.length)]::Obj.cells (List.map intC own1)::x.2)) (fun x=>x.1≤f.looks.length) (fun x=>f.looks.length-x.1) (0,[]) (Nat.zero_le _) (by simp only [go_sem]<;>rfl) ?_
    rintro ⟨k,X⟩ hk
    simp only at hk
    by_cases hlt:k<f.looks.length
    · have ki:(k:Int)<f.looks.length:=by omega
      have k0:(0:Int)≤k:=by omega
      have e4:IntKind.i64.wrap ((k:Int)+1)=((k+1:Nat):Int):=wrap_succ (n:=3000) (by omega) (by decide)
      obtain ⟨lk,hlkk⟩:∃lk,lk=f.looks.getD k default:=⟨_,rfl⟩
      have hmem:lk∈f.looks:=by rw [hlkk,getD_lt _ _ _ hlt];exact List.getElem_mem hlt
      have hlkv:=hv.looks lk hmem
      have w0:0≤lk.week:=hlkv.1.1
      have w1:lk.week<10:=by omega
      have w2:lk.week.toNat<own1.length:=by omega
      have w3:=takeN_ints1 (l:=own1) w2
      have hat:atI f.looks (k:Int)=lk:=by rw [atI_nat,hlkk]
      have hro:rightAt f out own1 k=(decide ((k:Int)∈out)||inR (atI own1 lk.week) lk.w.lo lk.w.hi):=by rw [rightAt,←hlkk]
      have hrk:(List.range (k+1)).all (rightAt f out own1)=((List.range k).all (rightAt f out own1)&&rightAt f out own1 k):=by rw [List.range_succ,List.all_append];simp
      have hC:=fun {g:Bool × Bool} {Q:V→Prop}=>CallP_of (Contains_ok (G:=tab) (k:=92) rfl rfl (g:=g) (l:=out) (v:=(k:Int)) hoB) (Q:=Q)
      have hoc:=fun b X=>hOc _ (hK2 b X)
      cases hb:(List.range k).all (rightAt f out own1) with
      | false=>
        simp only [go_sem,getH_left,setH_left,getH_setH,setH_twice,length_setH,getH_atL,getH_atL0,setH_atL,setH_atL0,isHole_atL,isHole_atL0,k0,k1,k2,k3,k4,k5,k6,k7,k8,u0,u1,u2,u3,u4,u5,u6,u7,u8,u9,u10,u11,u12,u13,u14,u15,u16,u17,u18,u19,u20,u21,u22,u23,u24,u25,u26,u27,u28,u29,u30,u31,u32,u33,u34,u35,z0,z1,z2,z3,z4,z5,z6,z7,z8,z9,z10,z11,z12,z13,z14,z15,z16,z17,z18,z19,z20,z21,z22,z23,z24,z25,z26,z27,z28,z29,z30,z31,z32,z33,z34,z35,hlt,ki,k0,hat,hb,ewb,eob,ew,e0,e1,e2,e3,e5,e7,e4]
        refine ⟨(k+1,X++[Obj.cells [C.int IntKind.i64 lk.week,C.int IntKind.i64 lk.w.lo,C.int IntKind.i64 lk.w.hi]]),⟨by simp only;omega,by simp only;omega⟩,rfl,?_⟩
        simp only [hrk,hb,Bool.false_and]
      | true=>
        by_cases hm:(k:Int)∈out
        · simp only [go_sem,getH_left,setH_left,getH_setH,setH_twice,length_setH,getH_atL,getH_atL0,setH_atL,setH_atL0,isHole_atL,isHole_atL0,k0,k1,k2,k3,k4,k5,k6,k7,k8,u0,u1,u2,u3,u4,u5,u6,u7,u8,u9,u10,u11,u12,u13,u14,u15,u16,u17,u18,u19,u20,u21,u22,u23,u24,u25,u26,u27,u28,u29,u30,u31,u32,u33,u34,u35,z0,z1,z2,z3,z4,z5,z6,z7,z8,z9,z10,z11,z12,z13,z14,z15,z16,z17,z18,z19,z20,z21,z22,z23,z24,z25,z26,z27,z28,z29,z30,z31,z32,z33,z34,z35,hlt,ki,k0,hat,hb,ewb,eob,ew,e0,e1,e2,e3,e5,e7,e4,hoc,hC,hm]
          refine ⟨(k+1,X++[Obj.cells [C.int IntKind.i64 lk.week,C.int IntKind.i64 lk.w.lo,C.int IntKind.i64 lk.w.hi]]),⟨by simp only;omega,by simp only;omega⟩,rfl,?_⟩
          simp only [hrk,hb,hro,hm,Bool.true_and,decide_true,Bool.true_or]
        · simp only [go_sem,getH_left,setH_left,getH_setH,setH_twice,length_setH,getH_atL,getH_atL0,setH_atL,setH_atL0,isHole_atL,isHole_atL0,k0,k1,k2,k3,k4,k5,k6,k7,k8,u0,u1,u2,u3,u4,u5,u6,u7,u8,u9,u10,u11,u12,u13,u14,u15,u16,u17,u18,u19,u20,u21,u22,u23,u24,u25,u26,u27,u28,u29,u30,u31,u32,u33,u34,u35,z0,z1,z2,z3,z4,z5,z6,z7,z8,z9,z10,z11,z12,z13,z14,z15,z16,z17,z18,z19,z20,z21,z22,z23,z24,z25,z26,z27,z28,z29,z30,z31,z32,z33,z34,z35,hlt,ki,k0,hat,hb,ewb,eob,ew,e0,e1,e2,e3,e5,e7,e4,hoc,hC,hm,chas,w0,w1,w3]
          refine ⟨(k+1,X++[Obj.cells [C.int IntKind.i64 lk.week,C.int IntKind.i64 lk.w.lo,C.int IntKind.i64 lk.w.hi]]),⟨by simp only;omega,by simp only;omega⟩,rfl,?_⟩
          simp only [hrk,hb,hro,hm,Bool.true_and,decide_false,Bool.false_or,atI]
    · have:k=f.looks.length:=by omega
      subst this
      have hrr:(List.range f.looks.length).all (rightAt f out own1)=rightL f out own1:=rfl
      rw [hrr]
      cases hr:rightL f out own1 with
      | false=>
        simp only [go_sem,getH_left,setH_left,getH_setH,setH_twice,length_setH,getH_atL,getH_atL0,setH_atL,setH_atL0,isHole_atL,isHole_atL0,k0,k1,k2,k3,k4,k5,k6,k7,k8,u0,u1,u2,u3,u4,u5,u6,u7,u8,u9,u10,u11,u12,u13,u14,u15,u16,u17,u18,u19,u20,u21,u22,u23,u24,u25,u26,u27,u28,u29,u30,u31,u32,u33,u34,u35,z0,z1,z2,z3,z4,z5,z6,z7,z8,z9,z10,z11,z12,z13,z14,z15,z16,z17,z18,z19,z20,z21,z22,z23,z24,z25,z26,z27,z28,z29,z30,z31,z32,z33,z34,z35,hlt,ewb,eob,ew,e0,e1,e2,e3,e5,e7,hr,bodyX]
        refine ⟨lb,rfl,?_⟩
        have hq:=hlb1 lb rfl
        rw [hq,←setH_left (by simp only [length_setH];exact k7),hts,if_neg (by rw [hr];decide)]
        obtain ⟨q1,q2⟩:=fin2 _ (hK2 _ _) (hA1 _ _) ((hA2 _ _).trans (by rw [hr])) (hA3 _ _) (by simp [length_setH])
        exact yQ_true rfl q1 q2
      | true=>
        simp only [go_sem,getH_left,setH_left,getH_setH,setH_twice,length_setH,getH_atL,getH_atL0,setH_atL,setH_atL0,isHole_atL,isHole_atL0,k0,k1,k2,k3,k4,k5,k6,k7,k8,u0,u1,u2,u3,u4,u5,u6,u7,u8,u9,u10,u11,u12,u13,u14,u15,u16,u17,u18,u19,u20,u21,u22,u23,u24,u25,u26,u27,u28,u29,u30,u31,u32,u33,u34,u35,z0,z1,z2,z3,z4,z5,z6,z7,z8,z9,z10,z11,z12,z13,z14,z15,z16,z17,z18,z19,z20,z21,z22,z23,z24,z25,z26,z27,z28,z29,z30,z31,z32,z33,z34,z35,hlt,ewb,eob,ew,e0,e1,e2,e3,e5,e7,hr]
        refine fin _ _ (hK2 _ _) (hA1 _ _) ((hA2 _ _).trans (by rw [hr])) (hA3 _ _) (by simp [length_setH]) (hA5 _ _) (hA7 _ _) hr ?_ ?_
        · intro H' e5' hst hh
          simp only [go_sem,e5',bodyX]
          refine ⟨lb,rfl,?_⟩
          have hq:=hlb1 lb rfl
          rw [hq,hts,if_pos hr]
          exact yQ_true hst hh.1 hh.2
        · intro H' e5' hst hh
          simp only [go_sem,e5',bodyX]
          refine ⟨lb,rfl,?_⟩
          have hq:=hlb2 lb rfl
          rw [hq,hts,if_pos hr]
          exact yQ_false hst hh.1 hh.2
  | some l=>
    have hl':l.length=10:=hl
    have x5:=eqCs_ints ol hl'
    have x6:lastOf (some l)=l:=rfl
    simp only [List.replicate_succ,List.replicate_zero] at x5
    rw [x6] at x3 x4 e1
    by_cases hne:own1=l
    · subst hne
      have hB1:∀X,getH (H1++X) (n+1) = .cells (List.map intC own1):=fun X=>by simp only [getH_left,k0,k1,k2,k3,k4,k5,k6,k7,k8,e1]
      have hB3:∀X,getH (H1++X) (n+3) = .cells [C.bool false]:=fun X=>by simp only [getH_left,k0,k1,k2,k3,k4,k5,k6,k7,k8,e3,Option.isNone_some]
      have hB5:∀X,getH (H1++X) (n+5) = .loop lb:=fun X=>by simp only [getH_left,k0,k1,k2,k3,k4,k5,k6,k7,k8,e5]
      have hB7:∀X,getH (H1++X) (n+7) = .arr false 0 1 (w.map Row.row):=fun X=>by simp only [getH_left,k0,k1,k2,k3,k4,k5,k6,k7,k8,e7]
      have hrO:rightOf f out (some own1)=rightL f out own1:=rfl
      have hB2:∀X,getH (H1++X) (n+2) = .cells [C.bool (rightL f out own1)]:=fun X=>by simp only [getH_left,k0,k1,k2,k3,k4,k5,k6,k7,k8,e2,hrO]
      have hKB:∀X,Keep (t4 n) H (H1++X):=fun X=>hKx _ (by simp) fun o h h'=>by simp only [getH_left,h]
      cases hr:rightL f out own1 with
      | false=>
        simp only [go_sem,truthsBody,getH_left,setH_left,getH_setH,length_setH,getH_atL,getH_atL0,k0,k1,k2,k3,k4,k5,k6,k7,k8,u0,u1,u2,u3,u4,u5,u6,u7,u8,u9,u10,u11,u12,u13,u14,u15,u16,u17,u18,u19,u20,u21,u22,u23,u24,u25,u26,u27,u28,u29,u30,u31,u32,u33,u34,u35,z0,z1,z2,z3,z4,z5,z6,z7,z8,z9,z10,z11,z12,z13,z14,z15,z16,z17,z18,z19,z20,z21,z22,z23,z24,z25,z26,z27,z28,z29,z30,z31,z32,z33,z34,z35,ewb,eob,ew,e0,e1,e2,e3,e5,e7,cweeks,hw1,p1,p2,Option.isNone_some,x5,hrO,hr,bodyX,hl',x3,x4,q1,q2,q3,hP,x1,x2,ol]
        refine ⟨lb,rfl,?_⟩
        have hq:=hlb1 lb rfl
        rw [hq,←setH_left k7,hts,if_neg (by rw [hr];decide)]
        obtain ⟨q1,q2⟩:=fin2 _ (hKB _) (hB1 _) (hB2 _) (hB3 _) (by simp [length_setH])
        exact yQ_true rfl q1 q2
      | true=>
        simp only [go_sem,truthsBody,getH_left,setH_left,getH_setH,length_setH,getH_atL,getH_atL0,k0,k1,k2,k3,k4,k5,k6,k7,k8,u0,u1,u2,u3,u4,u5,u6,u7,u8,u9,u10,u11,u12,u13,u14,u15,u16,u17,u18,u19,u20,u21,u22,u23,u24,u25,u26,u27,u28,u29,u30,u31,u32,u33,u34,u35,z0,z1,z2,z3,z4,z5,z6,z7,z8,z9,z10,z11,z12,z13,z14,z15,z16,z17,z18,z19,z20,z21,z22,z23,z24,z25,z26,z27,z28,z29,z30,z31,z32,z33,z34,z35,ewb,eob,ew,e0,e1,e2,e3,e5,e7,cweeks,hw1,p1,p2,Option.isNone_some,x5,hrO,hr,hl',x3,x4,q1,q2,q3,hP,x1,x2,ol]
        refine fin _ _ (hKB _) (hB1 _) (hB2 _) (hB3 _) (by simp [length_setH]) (hB5 _) (hB7 _) hr ?_ ?_
        · intro H' e5' hst hh
          simp only [go_sem,e5',bodyX]
          refine ⟨lb,rfl,?_⟩
          have hq:=hlb1 lb rfl
          rw [hq,hts,if_pos hr]
          exact yQ_true hst hh.1 hh.2
        · intro H' e5' hst hh
          simp only [go_sem,e5',bodyX]
          refine ⟨lb,rfl,?_⟩
          have hq:=hlb2 lb rfl
          rw [hq,hts,if_pos hr]
          exact yQ_false hst hh.1 hh.2
    · skip
      simp only [go_sem,truthsBody,getH_left,setH_left,getH_setH,length_setH,getH_atL,getH_atL0,k0,k1,k2,k3,k4,k5,k6,k7,k8,u0,u1,u2,u3,u4,u5,u6,u7,u8,u9,u10,u11,u12,u13,u14,u15,u16,u17,u18,u19,u20,u21,u22,u23,u24,u25,u26,u27,u28,u29,u30,u31,u32,u33,u34,u35,z0,z1,z2,z3,z4,z5,z6,z7,z8,z9,z10,z11,z12,z13,z14,z15,z16,z17,z18,z19,z20,z21,z22,z23,z24,z25,z26,z27,z28,z29,z30,z31,z32,z33,z34,z35,ewb,eob,ew,e0,e1,e2,e3,e5,e7,cweeks,hw1,p1,p2,Option.isNone_some,x5,hne,hl',x3,x4,q1,q2,q3,hP,x1,x2,ol]
      refine RX_whileU (α:=Nat × List Obj) (fun x=>[(55,.c (.int .i64 x.1))]) (fun x=>setH (setH (setH H1 (n+3) (Obj.cells [C.bool false])) (n+1) (Obj.cells (List.map intC own1))) (n+2) (Obj.cells [C.bool ((List.range x.1).all (rightAt f out own1))])++(Obj.cells [C.sl (n+7) 0 0 f.growth.length,C.sl (n+7) 0 f.growth.length (w.length-f.growth.length)]::Obj.cells (List.map intC own1)::x.2)) (fun x=>x.1≤f.looks.length) (fun x=>f.looks.length-x.1) (0,[]) (Nat.zero_le _) (by simp only [go_sem]<;>rfl) ?_
      rintro ⟨k,X⟩ hk
      simp only at hk
      by_cases hlt:k<f.looks.length
      · have ki:(k:Int)<f.looks.length:=by omega
        have k0:(0:Int)≤k:=by omega
        have e4:IntKind.i64.wrap ((k:Int)+1)=((k+1:Nat):Int):=wrap_succ (n:=3000) (by omega) (by decide)
        obtain ⟨lk,hlkk⟩:∃lk,lk=f.looks.getD k default:=⟨_,rfl⟩
        have hmem:lk∈f.looks:=by rw [hlkk,getD_lt _ _ _ hlt];exact List.getElem_mem hlt
        have hlkv:=hv.looks lk hmem
        have w0:0≤lk.week:=hlkv.1.1
        have w1:lk.week<10:=by omega
        have w2:lk.week.toNat<own1.length:=by omega
        have w3:=takeN_ints1 (l:=own1) w2
        have hat:atI f.looks (k:Int)=lk:=by rw [atI_nat,hlkk]
        have hro:rightAt f out own1 k=(decide ((k:Int)∈out)||inR (atI own1 lk.week) lk.w.lo lk.w.hi):=by rw [rightAt,←hlkk]
        have hrk:(List.range (k+1)).all (rightAt f out own1)=((List.range k).all (rightAt f out own1)&&rightAt f out own1 k):=by rw [List.range_succ,List.all_append];simp
        have hC:=fun {g:Bool × Bool} {Q:V→Prop}=>CallP_of (Contains_ok (G:=tab) (k:=92) rfl rfl (g:=g) (l:=out) (v:=(k:Int)) hoB) (Q:=Q)
        have hoc:=fun b X=>hOc _ (hK2 b X)
        cases hb:(List.range k).all (rightAt f out own1) with
        | false=>
          simp only [go_sem,getH_left,setH_left,getH_setH,setH_twice,length_setH,getH_atL,getH_atL0,setH_atL,setH_atL0,isHole_atL,isHole_atL0,k0,k1,k2,k3,k4,k5,k6,k7,k8,u0,u1,u2,u3,u4,u5,u6,u7,u8,u9,u10,u11,u12,u13,u14,u15,u16,u17,u18,u19,u20,u21,u22,u23,u24,u25,u26,u27,u28,u29,u30,u31,u32,u33,u34,u35,z0,z1,z2,z3,z4,z5,z6,z7,z8,z9,z10,z11,z12,z13,z14,z15,z16,z17,z18,z19,z20,z21,z22,z23,z24,z25,z26,z27,z28,z29,z30,z31,z32,z33,z34,z35,hlt,ki,k0,hat,hb,ewb,eob,ew,e0,e1,e2,e3,e5,e7,e4]
          refine ⟨(k+1,X++[Obj.cells [C.int IntKind.i64 lk.week,C.int IntKind.i64 lk.w.lo,C.int IntKind.i64 lk.w.hi]]),⟨by simp only;omega,by simp only;omega⟩,rfl,?_⟩
          simp only [hrk,hb,Bool.false_and]
        | true=>
          by_cases hm:(k:Int)∈out
          · simp only [go_sem,getH_left,setH_left,getH_setH,setH_twice,length_setH,getH_atL,getH_atL0,setH_atL,setH_atL0,isHole_atL,isHole_atL0,k0,k1,k2,k3,k4,k5,k6,k7,k8,u0,u1,u2,u3,u4,u5,u6,u7,u8,u9,u10,u11,u12,u13,u14,u15,u16,u17,u18,u19,u20,u21,u22,u23,u24,u25,u26,u27,u28,u29,u30,u31,u32,u33,u34,u35,z0,z1,z2,z3,z4,z5,z6,z7,z8,z9,z10,z11,z12,z13,z14,z15,z16,z17,z18,z19,z20,z21,z22,z23,z24,z25,z26,z27,z28,z29,z30,z31,z32,z33,z34,z35,hlt,ki,k0,hat,hb,ewb,eob,ew,e0,e1,e2,e3,e5,e7,e4,hoc,hC,hm]
            refine ⟨(k+1,X++[Obj.cells [C.int IntKind.i64 lk.week,C.int IntKind.i64 lk.w.lo,C.int IntKind.i64 lk.w.hi]]),⟨by simp only;omega,by simp only;omega⟩,rfl,?_⟩
            simp only [hrk,hb,hro,hm,Bool.true_and,decide_true,Bool.true_or]
          · simp only [go_sem,getH_left,setH_left,getH_setH,setH_twice,length_setH,getH_atL,getH_atL0,setH_atL,setH_atL0,isHole_atL,isHole_atL0,k0,k1,k2,k3,k4,k5,k6,k7,k8,u0,u1,u2,u3,u4,u5,u6,u7,u8,u9,u10,u11,u12,u13,u14,u15,u16,u17,u18,u19,u20,u21,u22,u23,u24,u25,u26,u27,u28,u29,u30,u31,u32,u33,u34,u35,z0,z1,z2,z3,z4,z5,z6,z7,z8,z9,z10,z11,z12,z13,z14,z15,z16,z17,z18,z19,z20,z21,z22,z23,z24,z25,z26,z27,z28,z29,z30,z31,z32,z33,z34,z35,hlt,ki,k0,hat,hb,ewb,eob,ew,e0,e1,e2,e3,e5,e7,e4,hoc,hC,hm,chas,w0,w1,w3]
            refine ⟨(k+1,X++[Obj.cells [C.int IntKind.i64 lk.week,C.int IntKind.i64 lk.w.lo,C.int IntKind.i64 lk.w.hi]]),⟨by simp only;omega,by simp only;omega⟩,rfl,?_⟩
            simp only [hrk,hb,hro,hm,Bool.true_and,decide_false,Bool.false_or,atI]
      · have:k=f.looks.length:=by omega
        subst this
        have hrr:(List.range f.looks.length).all (rightAt f out own1)=rightL f out own1:=rfl
        rw [hrr]
        cases hr:rightL f out own1 with
        | false=>
          simp only [go_sem,getH_left,setH_left,getH_setH,setH_twice,length_setH,getH_atL,getH_atL0,setH_atL,setH_atL0,isHole_atL,isHole_atL0,k0,k1,k2,k3,k4,k5,k6,k7,k8,u0,u1,u2,u3,u4,u5,u6,u7,u8,u9,u10,u11,u12,u13,u14,u15,u16,u17,u18,u19,u20,u21,u22,u23,u24,u25,u26,u27,u28,u29,u30,u31,u32,u33,u34,u35,z0,z1,z2,z3,z4,z5,z6,z7,z8,z9,z10,z11,z12,z13,z14,z15,z16,z17,z18,z19,z20,z21,z22,z23,z24,z25,z26,z27,z28,z29,z30,z31,z32,z33,z34,z35,hlt,ewb,eob,ew,e0,e1,e2,e3,e5,e7,hr,bodyX]
          refine ⟨lb,rfl,?_⟩
          have hq:=hlb1 lb rfl
          rw [hq,←setH_left (by simp only [length_setH];exact k7),hts,if_neg (by rw [hr];decide)]
          obtain ⟨q1,q2⟩:=fin2 _ (hK2 _ _) (hA1 _ _) ((hA2 _ _).trans (by rw [hr])) (hA3 _ _) (by simp [length_setH])
          exact yQ_true rfl q1 q2
        | true=>
          simp only [go_sem,getH_left,setH_left,getH_setH,setH_twice,length_setH,getH_atL,getH_atL0,setH_atL,setH_atL0,isHole_atL,isHole_atL0,k0,k1,k2,k3,k4,k5,k6,k7,k8,u0,u1,u2,u3,u4,u5,u6,u7,u8,u9,u10,u11,u12,u13,u14,u15,u16,u17,u18,u19,u20,u21,u22,u23,u24,u25,u26,u27,u28,u29,u30,u31,u32,u33,u34,u35,z0,z1,z2,z3,z4,z5,z6,z7,z8,z9,z10,z11,z12,z13,z14,z15,z16,z17,z18,z19,z20,z21,z22,z23,z24,z25,z26,z27,z28,z29,z30,z31,z32,z33,z34,z35,hlt,ewb,eob,ew,e0,e1,e2,e3,e5,e7,hr]
          refine fin _ _ (hK2 _ _) (hA1 _ _) ((hA2 _ _).trans (by rw [hr])) (hA3 _ _) (by simp [length_setH]) (hA5 _ _) (hA7 _ _) hr ?_ ?_
          · intro H' e5' hst hh
            simp only [go_sem,e5',bodyX]
            refine ⟨lb,rfl,?_⟩
            have hq:=hlb1 lb rfl
            rw [hq,hts,if_pos hr]
            exact yQ_true hst hh.1 hh.2
          · intro H' e5' hst hh
            simp only [go_sem,e5',bodyX]
            refine ⟨lb,rfl,?_⟩
            have hq:=hlb2 lb rfl
            rw [hq,hts,if_pos hr]
            exact yQ_false hst hh.1 hh.2
end
end Am.Cr
namespace Am.Cr
open Go Am Am.Tm
set_option maxRecDepth 100000
set_option maxHeartbeats 4000000
set_option linter.unusedSimpArgs false
set_option linter.unusedVariables false
variable {g1 g2 g3 g4 g5:Bool × Bool} {f:Field}
section
variable {σ:Type} {own:Nat→Prop} {F:C} {R RS:σ→List Obj→Prop} {step:σ→Truth→σ × Bool} {C0:σ→Truth→Prop} {n wb ob wo mo:Nat} {out:List Int} {oc:C}
theorem truths1_ok (hv:f.Valid) {H:List Obj} (hn:H.length=n) (hcr:f.crops.length<Big) (hoB:out.length<Big) (hkn:known [F]=true) (h1:¬own wb) (h2:¬own ob) (h3:¬own wo) (hown:∀o,n≤o→o<n+10→¬own o)
    (hR:∀s H H',R s H→Keep (fun o=>n≤o∧o<n+10) H H'→R s H') (hRS:∀s H H',RS s H→Keep (fun o=>n≤o∧o<n+10) H H'→RS s H') (hF:TYield f (n+10) C0 own F R RS step)
    (hwb:getH H wb = .cells [.ptr wo 0]) (hob:getH H ob = .cells [oc]) (hw:getH H wo = .cells (workC g1 g2 g3 g4 g5 f mo)) (ho:∀H',Keep own H H'→RdI H' oc out) {s:σ} (hRs:R s H) (hC:FoldC C0 step s (truthsL f out)) :
    Fn tab (.f 117 [.c F,.c (.ptr wb 0),.c (.ptr ob 0)] H) fun _ H'=>Keep own H H'∧(((foldY step s (truthsL f out)).2=true∧R (foldY step s (truthsL f out)).1 H')∨((foldY step s (truthsL f out)).2=false∧RS (foldY step s (truthsL f out)).1 H')):=by
  refine Fn_X (fn:=f117) rfl rfl ?_
  have lwb:=lt_of_getH (h:=H) (o:=wb) (by rw [hwb];simp)
  have lob:=lt_of_getH (h:=H) (o:=ob) (by rw [hob];simp)
  have lwo:=lt_of_getH (h:=H) (o:=wo) (by rw [hw];simp)
  have v1:=hv.growth
  have v2:=hv.wet
  have v4:=hv.last9
  have hP:=fun {Q:V→Prop}=>cranges (last:=f.last) (ripe:=f.ripe) (late:=f.late) (trod:=f.trod) (growth:=f.growth) (wet:=f.wet) (base:=f.base) (crops:=f.crops) (looks:=f.looks) (g1:=g1) (g2:=g2) (g3:=g3) (g4:=g4) (g5:=g5) (show f.growth.length≤1000 by omega) (show f.wet.length≤1000 by omega) (Q:=Q)
  subst hn
  have z0:¬wb=H.length:=by omega
  have z1:¬H.length=wb:=by omega
  have z2:¬wb=H.length+1:=by omega
  have z3:¬H.length+1=wb:=by omega
  have z4:¬wb=H.length+2:=by omega
  have z5:¬H.length+2=wb:=by omega
  have z6:¬wb=H.length+3:=by omega
  have z7:¬H.length+3=wb:=by omega
  have z8:¬ob=H.length:=by omega
  have z9:¬H.length=ob:=by omega
  have z10:¬ob=H.length+1:=by omega
  have z11:¬H.length+1=ob:=by omega
  have z12:¬ob=H.length+2:=by omega
  have z13:¬H.length+2=ob:=by omega
  have z14:¬ob=H.length+3:=by omega
  have z15:¬H.length+3=ob:=by omega
  have z16:¬wo=H.length:=by omega
  have z17:¬H.length=wo:=by omega
  have z18:¬wo=H.length+1:=by omega
  have z19:¬H.length+1=wo:=by omega
  have z20:¬wo=H.length+2:=by omega
  have z21:¬H.length+2=wo:=by omega
  have z22:¬wo=H.length+3:=by omega
  have z23:¬H.length+3=wo:=by omega
  have hLs:=fun {g:Bool × Bool} {H:List Obj} {Q:V→List Obj→Prop}=>lists_ok (G:=tab) (k:=118) (kL:=124) rfl (rs:=rangesL f.growth f.wet) (g:=g) (H:=H) (Q:=Q)
  simp only [go_sem,f117,hkn,getH_left,lwb,lob,lwo,z0,z1,z2,z3,z4,z5,z6,z7,z8,z9,z10,z11,z12,z13,z14,z15,z16,z17,z18,z19,z20,z21,z22,z23,hwb,hob,hw,hP,hLs]
  refine RX_range ?_
  generalize hlp:ALoop.mk .ready _ _ _ _ _=lp
  simp only [Opd.ev,getS,CallV_fn,firstV,List.length_append,List.length_cons,List.length_nil,List.append_assoc,List.cons_append,List.nil_append,List.map_cons,List.map_nil,Nat.zero_add,Nat.reduceAdd,Bool.false_eq_true,if_false]
  have hy:=truths_yield (F:=F) (out:=out) (oc:=oc) (R:=R) (RS:=RS) (step:=step) (g1:=g1) (g2:=g2) (g3:=g3) (g4:=g4) (g5:=g5) (n:=H.length) hv (H0:=H) rfl hcr hoB hkn h1 h2 h3 hown hR hRS hF hwb hob hw ho (vs:=List.replicate 65 (.c .any)) rfl (lp:=lp) (lpd:={ lp with state:=.done,pending:=.ret }) hlp.symm rfl
  refine (lists1_ok (G:=tab) (F:=.yld (H.length+5)) (kL:=124) (kC:=125) (kS:=70) rfl rfl csize hv.rgs (g:=(false,false)) (lb:=H.length+4) (own:=tOwn H.length own) (R:=tR f out H.length F own H lp R) (RS:=tR f out H.length F own H { lp with state:=.done,pending:=.ret } RS) (step:=tstep f out step) rfl (fun h=>by rcases h with h | h | h | h | h;exact hown _ (by omega) (by omega) h;all_goals omega) (s:=(s,none)) (fun o ho ho2 h=>?_) (fun s' H1 H2 hr hk=>?_) ?_ (FoldC_t hC) ?_ ?_).mono ?_
  · simp only [List.length_append,List.length_cons,List.length_nil] at ho ho2
    rcases h with h | h | h | h | h
    · exact hown _ (by omega) (by omega) h
    all_goals omega
  · simp only [List.length_append,List.length_cons,List.length_nil] at hk
    have hk1:=hk.1
    have l0:=lt_of_getH (h:=H1) (o:=H.length+5) (by rw [hr.lp];simp)
    refine ⟨⟨by have:=hr.k.1;omega,fun o ho hl=>by rw [hk.2 o (by omega) (by omega),hr.k.2 o ho hl]⟩,hk.get (by omega) hr.yb (by simp),hk.get (by omega) hr.la (by simp),hk.get (by omega) hr.ri (by simp),hk.get (by omega) hr.fi (by simp),hk.get (by omega) hr.lp (by simp),hR _ _ _ hr.r (hk.mono fun o h=>by omega),hr.ll⟩
  · simp only [List.length_append,List.length_cons,List.length_nil,Nat.zero_add,Nat.reduceAdd,Nat.add_assoc]
    exact hy
  · refine ⟨Keep.append,?_,?_,?_,?_,?_,hR _ _ _ hRs Keep.append,rfl⟩
    · simp only [go_sem]
    · simp only [go_sem];rfl
    · simp only [go_sem];rfl
    · simp only [go_sem];rfl
    · simp only [go_sem]
  · simp only [go_sem]
  · rintro v H' ⟨hk,hr⟩
    have f1:=(foldY_t (f:=f) (out:=out) (step:=step) (s:=s) (p:=none) (ws:=listsF (rangesL f.growth f.wet) [])).1
    have f2:=(foldY_t (f:=f) (out:=out) (step:=step) (s:=s) (p:=none) (ws:=listsF (rangesL f.growth f.wet) [])).2
    have hst:∀lp',Keep (fun o=>H.length≤o∧o<H.length+10) H' (setH H' (H.length+5) (.loop lp')):=fun lp'=>⟨by rw [length_setH];omega,fun o h h'=>by rw [getH_setH,if_neg (fun h2=>h (by omega))]⟩
    have fin:∀lp',Keep own H H'→Keep own H (setH H' (H.length+5) (.loop lp')):=fun lp' k=>⟨by rw [length_setH];exact k.1,fun o ho hl=>by rw [getH_setH,if_neg (fun h=>by omega),k.2 o ho hl]⟩
    rcases hr with ⟨a,b⟩ | ⟨a,b⟩
    · refine ⟨lp,b.lp,by rw [←hlp];simp,?_⟩
      have hpn:lp.pending = .normal:=by rw [←hlp]
      rw [hpn]
      simp only [go_sem]
      exact ⟨fin _ b.k,.inl ⟨f1.symm.trans a,(fun lp'=>by have:=hR _ _ _ b.r (hst lp');rw [f2] at this;exact this:∀lp',R (foldY step s (truthsL f out)).1 (setH H' (H.length+5) (.loop lp'))) _⟩⟩
    · refine ⟨_,b.lp,by simp,?_⟩
      simp only [go_sem]
      exact ⟨fin _ b.k,.inr ⟨f1.symm.trans a,(fun lp'=>by have:=hRS _ _ _ b.r (hst lp');rw [f2] at this;exact this:∀lp',RS (foldY step s (truthsL f out)).1 (setH H' (H.length+5) (.loop lp'))) _⟩⟩
end
theorem F81 {wo:Nat} {oc:C} {H:List Obj} (hk:known [oc]=true) {Q:V→List Obj→Prop}:Fn tab (.f 95 [.c (.ptr wo 0),.c oc] H) Q↔Q (.c (.fn 117 false [] [.ptr H.length 0,.ptr (H.length+1) 0])) (H++[.cells [.ptr wo 0],.cells [oc]]):=by
  refine Fn_iff (Fn_X (fn:=f95) rfl rfl ?_)
  simp only [go_sem,f95,hk]
def posBody : ACode:=(.block 1 (.seq (.region 0 [] [
          ⟨none,.store none (.tmp 4) (.cst (.c (.bool true))),none,0⟩])
        .ret))
structure posR (n:Nat) (b:Bool) (lp:ALoop) (u:Unit) (H:List Obj):Prop where
  c:getH H n = .cells [.bool b]
  lp:getH H (n+3) = .loop lp
theorem pos_yield {n:Nat} {own:Nat→Prop} (ho:own=fun o=>o=n∨o=n+3) {lp lpd:ALoop} {v0 v1 v2 v3 v5 v6 v7 v8:V} (hlp:lp=⟨.ready,.normal,[v0,v1,v2,v3,.c (.ptr n 0),v5,v6,v7,v8],[8],.skip,posBody⟩) (hlpd:lpd={ lp with state:=.done,pending:=.ret }) :
    TYield f (n+14) (fun _ _=>True) own (.yld (n+3)) (posR n false lp) (posR n true lpd) (fun _ _=>((),false)):=by
  intro s H t c1 c2 hlen _ hIs r1 r2 hR
  rw [CallV_y]
  change Fn tab _ (yQ own H (posR n false lp) (posR n true lpd) ((),false))
  have l3:=lt_of_getH (h:=H) (o:=n+3) (by rw [hR.lp];simp)
  refine Fn_y hR.lp (by rw [hlp];rfl) ?_
  rw [show lp.assign = .skip by rw [hlp],show lp.params=[8] by rw [hlp],show lp.slots=_ by rw [hlp]]
  simp only [go_sem,setParams,assignX,hR.lp]
  refine ⟨lp,rfl,by rw [hlp],rfl,?_⟩
  generalize hlb:ALoop.mk .busy _ _ _ _ _=lb
  rw [show lp.body=posBody by rw [hlp]]
  have hlb2:∀l:ALoop,Obj.loop lb = .loop l→({ l with state:=.done,pending:=.ret }:ALoop)=lpd:=fun l h=>by cases h;rw [←hlb,hlpd]
  clear hlb
  have k0:n<H.length:=by omega
  have e0:=hR.c
  simp only [go_sem,posBody,bodyX,getH_setH,length_setH,l3,k0,e0]
  refine ⟨lb,rfl,?_⟩
  have hq:=hlb2 lb rfl
  rw [hq]
  refine yQ_false rfl ?_ ⟨?_,?_⟩
  · subst ho
    refine ⟨by simp [length_setH],fun o h hl=>?_⟩
    simp only [not_or] at h
    simp only [getH_setH,h,false_and,if_false]
  · simp only [go_sem,getH_setH,length_setH,k0,l3]
  · simp only [go_sem,getH_setH,length_setH,k0,l3]
def posB (f:Field) (out:List Int):Bool:=!(truthsL f out).isEmpty
theorem F75 (hv:f.Valid) {H:List Obj} {wo mo:Nat} {oc:C} {out:List Int} (hcr:f.crops.length<Big) (hoB:out.length<Big) (hw:getH H wo = .cells (workC g1 g2 g3 g4 g5 f mo)) (ho:RdI H oc out) :
    Fn tab (.f 94 [.c (.ptr wo 0),.c oc] H) fun v H'=>v = .c (.bool (posB f out))∧Keep (fun _=>False) H H':=by
  refine Fn_X (fn:=f94) rfl rfl ?_
  have lwo:=lt_of_getH (h:=H) (o:=wo) (by rw [hw];simp)
  have hk:=ho.kn []
  simp only [go_sem,f94,F81 hk]
  refine RX_range ?_
  generalize hlp:ALoop.mk .ready _ _ _ _ _=lp
  simp only [Opd.ev,getS,CallV_fn,firstV,List.length_append,List.length_cons,List.length_nil,List.append_assoc,List.cons_append,List.nil_append,List.map_cons,List.map_nil,Nat.zero_add,Nat.reduceAdd,Nat.add_assoc,Bool.false_eq_true,if_false]
  have hy:=pos_yield (f:=f) (n:=H.length) rfl (lp:=lp) hlp.symm rfl
  refine (truths1_ok (n:=H.length+4) (wb:=H.length+1) (ob:=H.length+2) (oc:=oc) (out:=out) (wo:=wo) (mo:=mo) (g1:=g1) (g2:=g2) (g3:=g3) (g4:=g4) (g5:=g5) hv (by simp) hcr hoB rfl (by omega) (by omega) (by omega) (fun o h _=>by omega) (fun s H H' hr hk=>⟨hk.get (by omega) hr.c (by simp),hk.get (by omega) hr.lp (by simp)⟩) (fun s H H' hr hk=>⟨hk.get (by omega) hr.c (by simp),hk.get (by omega) hr.lp (by simp)⟩) hy (by simp only [go_sem]) (by simp only [go_sem]) (getH_keep hw (by simp)) ?_ (s:=()) ⟨by simp only [go_sem],by simp only [go_sem]⟩ FoldC_true).mono ?_
  · intro H' hk'
    refine ho.agree fun o fr ver rows hg=>?_
    have:=lt_of_getH (h:=H) (o:=o) (by rw [hg];simp)
    rw [hk'.2 o (by omega) (by simp;omega),getH_left this]
  · rintro v H' ⟨hk',hr⟩
    have hf:(foldY (fun (_:Unit) (_:Truth)=>((),false)) () (truthsL f out)).2 = !(posB f out):=by
      unfold posB
      cases truthsL f out<;>rfl
    rw [hf] at hr
    have l3:H.length+3<H'.length:=by rcases hr with ⟨_,h⟩ | ⟨_,h⟩<;>exact lt_of_getH (by rw [h.lp];simp)
    have l0:H.length<H'.length:=by omega
    have hK:∀W X,Keep (fun _=>False) H (setH (setH H' (H.length+3) W) H.length X):=fun W X=>⟨by simp only [length_setH];omega,fun o _ hl=>by rw [getH_setH,if_neg (by omega),getH_setH,if_neg (by omega),hk'.2 o (by omega) (by simp;omega),getH_left hl]⟩
    have hK2:∀W,Keep (fun _=>False) H (setH H' (H.length+3) W):=fun W=>⟨by simp only [length_setH];omega,fun o _ hl=>by rw [getH_setH,if_neg (by omega),hk'.2 o (by omega) (by simp;omega),getH_left hl]⟩
    rcases hr with ⟨a,b⟩ | ⟨a,b⟩
    · have hb:posB f out=false:=by simpa using a
      refine ⟨lp,b.lp,by rw [←hlp];simp,?_⟩
      rw [show lp.pending = .normal by rw [←hlp]]
      have e0:=b.c
      simp only [go_sem,getH_setH,length_setH,l0,l3,e0,hb]
      exact hK _ _
    · have hb:posB f out=true:=by simpa using a
      refine ⟨_,b.lp,by simp,?_⟩
      have e0:=b.c
      simp only [go_sem,getH_setH,length_setH,l0,l3,e0,hb]
      exact hK2 _
end Am.Cr
namespace Am.Cr
open Go Am Am.Tm
set_option maxRecDepth 100000
set_option maxHeartbeats 4000000
set_option linter.unusedSimpArgs false
set_option linter.unusedVariables false
variable {g1 g2 g3 g4 g5:Bool × Bool} {f:Field}
theorem F51 {H:List Obj} {Q:V→List Obj→Prop}:Fn tab (.f 39 [fieldV g1 g2 g3 g4 g5 f] H) Q↔Q (.c (.ptr (H.length+2) 0)) (H++[.cells (fieldC g1 g2 g3 g4 g5 f.last f.growth f.wet f.base f.crops f.ripe f.late f.trod f.looks),mapO [],.cells (workC g1 g2 g3 g4 g5 f (H.length+1))]):=by
  refine Fn_iff (Fn_X (fn:=f39) rfl rfl ?_)
  simp only [go_sem,f39]
def askE (f:Field) (b:Bool):Int:=if checkField f≠0 then checkField f else if b=false then 2 else if posB f []=false then 11 else 0
def AskRes (g1 g2 g3 g4 g5:Bool × Bool) (f:Field) (b:Bool) (H:List Obj) (v:V) (H':List Obj):Prop:=
  Keep (fun _=>False) H H'∧((askE f b≠0∧v = .tup [.c .nilp,.c (.int .i64 (askE f b))])∨(askE f b=0∧∃wo mo,H.length≤wo∧H.length≤mo∧v = .tup [.c (.ptr wo 0),.c (.int .i64 0)]∧getH H' wo = .cells (workC g1 g2 g3 g4 g5 f mo)∧getH H' mo=mapO []))
theorem F85 (hf:f.Fits) {F:C} {b:Bool} {H:List Obj} (hF:∀X,CallV tab (.c F) [fieldV g1 g2 g3 g4 g5 f] (H++X) fun v H'=>v = .c (.bool b)∧Keep (fun _=>False) (H++X) H') :
    Fn tab (.f 55 [fieldV g1 g2 g3 g4 g5 f,.c F] H) (AskRes g1 g2 g3 g4 g5 f b H):=by
  refine Fn_X (fn:=f55) rfl rfl ?_
  by_cases h0:checkField f=0
  · have hv:=valid_of h0
    simp only [go_sem,f55,cCheckField hf,h0]
    refine (hF _).mono ?_
    rintro v H' ⟨rfl,hk⟩
    obtain ⟨X,rfl⟩:=hk.none_eq
    cases b with
    | false=>
      simp only [go_sem]
      refine ⟨⟨by simp,fun o _ hl=>getH_left hl⟩,.inl ?_⟩
      have:askE f false=2:=by simp [askE,h0]
      rw [this];exact ⟨by decide,rfl⟩
    | true=>
      simp only [go_sem,F51]
      refine (F75 (f:=f) (g1:=g1) (g2:=g2) (g3:=g3) (g4:=g4) (g5:=g5) (wo:=H.length+(X.length+1+2)) (mo:=H.length+(X.length+1+1)) (out:=[]) hv (big_of hf.crops) (by decide) (by simp only [go_sem]) (.lst (true,false) [])).mono ?_
      rintro v H' ⟨rfl,hk'⟩
      obtain ⟨X2,rfl⟩:=hk'.none_eq
      cases hb:posB f [] with
      | false=>
        simp only [go_sem]
        have:askE f true=11:=by simp [askE,h0,hb]
        exact ⟨⟨by simp,fun o _ hl=>getH_left hl⟩,.inl (by rw [this];exact ⟨by decide,rfl⟩)⟩
      | true=>
        simp only [go_sem]
        have:askE f true=0:=by simp [askE,h0,hb]
        exact ⟨⟨by simp,fun o _ hl=>getH_left hl⟩,.inr (by rw [this];exact ⟨rfl,H.length+(X.length+3),H.length+(X.length+2),by omega,by omega,rfl,by simp only [go_sem],by simp only [go_sem]⟩)⟩
  · simp only [go_sem,f55,cCheckField hf,h0]
    have:askE f b=checkField f:=by simp [askE,h0]
    exact ⟨⟨by simp,fun o _ hl=>getH_left hl⟩,.inl (by rw [this];exact ⟨h0,rfl⟩)⟩
theorem F77 (hf:f.Fits) {c:C} {plan:List Int} (hp:plan.length<Big) {H:List Obj} (hc:RdI H c plan) (hs:∃g,c=L g plan) :
    Fn tab (.f 29 [fieldV g1 g2 g3 g4 g5 f,.c c] H) (AskRes g1 g2 g3 g4 g5 f (planOk f.last f.base plan) H):=by
  obtain ⟨g,rfl⟩:=hs
  refine Fn_X (fn:=f29) rfl rfl ?_
  simp only [go_sem,f29]
  refine (F85 (g1:=g1) (g2:=g2) (g3:=g3) (g4:=g4) (g5:=g5) (b:=planOk f.last f.base plan) hf ?_).mono ?_
  · intro X
    rw [CallV_fn]
    refine Fn_X (fn:=f56) rfl rfl ?_
    have hP:=fun {Q:V→Prop}=>cplan (last:=f.last) (ripe:=f.ripe) (late:=f.late) (trod:=f.trod) (growth:=f.growth) (wet:=f.wet) (base:=f.base) (crops:=f.crops) (looks:=f.looks) (g1:=g1) (g2:=g2) (g3:=g3) (g4:=g4) (g5:=g5) (g:=g) hp (Q:=Q)
    simp only [go_sem,f56,hP]
    exact ⟨by simp,fun o _ hl=>by simp at hl;rw [show H ++ .cells (fieldC g1 g2 g3 g4 g5 f.last f.growth f.wet f.base f.crops f.ripe f.late f.trod f.looks) :: .cells [L g plan]::(X++[.cells (fieldC g1 g2 g3 g4 g5 f.last f.growth f.wet f.base f.crops f.ripe f.late f.trod f.looks)])=(H ++ .cells (fieldC g1 g2 g3 g4 g5 f.last f.growth f.wet f.base f.crops f.ripe f.late f.trod f.looks) :: .cells [L g plan]::X)++[.cells (fieldC g1 g2 g3 g4 g5 f.last f.growth f.wet f.base f.crops f.ripe f.late f.trod f.looks)] by simp];exact getH_left (by simp;omega)⟩
  · rintro v H' ⟨hk,hr⟩
    have hk2:Keep (fun _=>False) H H':=Keep.append.trans hk
    have hl:=hk.1
    simp only [List.length_append,List.length_cons,List.length_nil] at hl
    rcases hr with ⟨a,rfl⟩ | ⟨a,wo,mo,b1,b2,rfl,b3,b4⟩
    · simp only [go_sem]
      exact ⟨hk2,.inl ⟨a,rfl⟩⟩
    · simp only [go_sem]
      simp only [List.length_append,List.length_cons,List.length_nil] at b1 b2
      exact ⟨hk2,.inr ⟨a,wo,mo,by omega,by omega,rfl,b3,b4⟩⟩
end Am.Cr
namespace Am.Cr
open Go Am Am.Tm
set_option maxRecDepth 100000
set_option maxHeartbeats 4000000
set_option linter.unusedSimpArgs false
set_option linter.unusedVariables false
variable {g1 g2 g3 g4 g5:Bool × Bool} {f:Field}
section
variable {own:Nat→Prop} {F:C} {inv:List Obj→Prop} {val:Truth→Int}
def OfOk (f:Field) (own:Nat→Prop) (F:C) (inv:List Obj→Prop) (val:Truth→Int):Prop:=
  ∀H t c1 c2,IsT f t→RdI H c1 t.growth→RdI H c2 t.wet→inv H→CallV tab (.c F) [.agg [c1,c2]] H fun v H'=>v = .c (.int .i64 (val t))∧Keep own H H'∧inv H'
def bdStep (val:Truth→Int) (s:Rg × Bool) (t:Truth):(Rg × Bool) × Bool:=((⟨min (if s.2=true then val t else s.1.lo) (val t),max (if s.2=true then val t else s.1.hi) (val t)⟩,false),true)
def bdL (val:Truth→Int) (ts:List Truth):Rg:=(foldY (bdStep val) (⟨0,0⟩,true) ts).1.1
def bdAssign : ACode:=(.region 1 [] [
        ⟨(some 6),.alloc [.nils,.nils],none,0⟩,
        ⟨none,.store (some 2) (.tmp 6) (.tmp 10),none,1⟩])
def bdBody : ACode:=(.block 1 (.seq (.region 0 [] [
          ⟨(some 11),.load none (.tmp 3),none,0⟩,
          ⟨(some 12),.load (some 2) (.tmp 6),none,0⟩,
          ⟨(some 13),.callv (.tmp 11) [(.tmp 12)],none,0⟩,
          ⟨(some 7),.mov (.tmp 13),none,0⟩])
        (.seq (.seq (.region 0 [] [
          ⟨(some 14),.load none (.tmp 5),none,0⟩])
        (.cond (.tmp 14)
          (.region 0 [] [
            ⟨(some 15),.mov (.tmp 7),none,0⟩,
            ⟨(some 16),.mov (.tmp 7),none,0⟩,
            ⟨(some 17),.build [(.int .i64 0),(.int .i64 0)] [(0,1,(.tmp 15)),(1,1,(.tmp 16))],none,0⟩,
            ⟨none,.store (some 2) (.tmp 4) (.tmp 17),none,0⟩,
            ⟨none,.store none (.tmp 5) (.cst (.c (.bool false))),none,0⟩])
          .skip))
        (.region 0 [] [
          ⟨(some 18),.load (some 2) (.tmp 4),none,0⟩,
          ⟨(some 19),.mov (.tmp 7),none,0⟩,
          ⟨(some 20),.call 96 true [(.tmp 18),(.tmp 19)],none,0⟩,
          ⟨none,.store (some 2) (.tmp 4) (.tmp 20),none,0⟩]))))
structure bdR (n:Nat) (F:C) (inv:List Obj→Prop) (lp:ALoop) (s:Rg × Bool) (H:List Obj):Prop where
  fb:getH H n = .cells [F]
  r:getH H (n+1) = .cells [.int .i64 s.1.lo,.int .i64 s.1.hi]
  fi:getH H (n+2) = .cells [.bool s.2]
  lp:getH H (n+5) = .loop lp
  inv:inv H
abbrev bdOwn (n:Nat) (own:Nat→Prop) (o:Nat):Prop:=own o∨o=n+1∨o=n+2∨o=n+5
theorem bd_yield {n:Nat} (hown:∀o,n≤o→¬own o) (hinv:∀H H',inv H→Keep (fun o=>n≤o) H H'→inv H') (hkn:known [F]=true) (hF:OfOk f own F inv val) {RS:Rg × Bool→List Obj→Prop} {v0 v1 v2 v6 v7 v8 v9 v10:V} {lp:ALoop}
    (hlp:lp=⟨.ready,.normal,[v0,v1,v2,.c (.ptr n 0),.c (.ptr (n+1) 0),.c (.ptr (n+2) 0),v6,v7,v8,v9,v10]++List.replicate 11 (.c .any),[10],bdAssign,bdBody⟩) :
    TYield f (n+16) (fun _ _=>True) (bdOwn n own) (.yld (n+5)) (bdR n F inv lp) RS (bdStep val):=by
  intro s H t c1 c2 hlen _ hIs r1 r2 hR
  rw [CallV_y]
  change Fn tab _ (yQ (bdOwn n own) H (bdR n F inv lp) RS (bdStep val s t))
  have l5:=lt_of_getH (h:=H) (o:=n+5) (by rw [hR.lp];simp)
  refine Fn_y hR.lp (by rw [hlp];rfl) ?_
  rw [show lp.assign=bdAssign by rw [hlp],show lp.params=[10] by rw [hlp],show lp.slots=_ by rw [hlp]]
  have kn1:=r1.kn [c2]
  have kn2:=r2.kn []
  have k0:n<H.length:=by omega
  have k1:n+1<H.length:=by omega
  have k2:n+2<H.length:=by omega
  have k3:n+5<H.length:=by omega
  have z0:¬n=H.length:=by omega
  have z1:¬H.length=n:=by omega
  have z2:¬n+1=H.length:=by omega
  have z3:¬H.length=n+1:=by omega
  have z4:¬n+2=H.length:=by omega
  have z5:¬H.length=n+2:=by omega
  have z6:¬n+5=H.length:=by omega
  have z7:¬H.length=n+5:=by omega
  simp only [go_sem,bdAssign,setParams,assignX,hR.lp,kn1,kn2,getH_left,setH_left,k0,k1,k2,k3]
  refine ⟨lp,rfl,by rw [hlp],rfl,?_⟩
  generalize hlb:ALoop.mk .busy _ _ _ _ _=lb
  rw [show lp.body=bdBody by rw [hlp]]
  have hlb1:∀l:ALoop,Obj.loop lb = .loop l→({ l with state:=.ready,pending:=.normal }:ALoop)=lp:=fun l h=>by cases h;rw [←hlb,hlp]
  clear hlb
  obtain ⟨H1,hH1⟩:∃H1,H1=setH H (n+5) (.loop lb):=⟨_,rfl⟩
  rw [←hH1]
  have len:H1.length=H.length:=by rw [hH1,length_setH]
  have g:∀o,o≠n+5→getH H1 o=getH H o:=fun o ho=>by rw [hH1,getH_setH,if_neg (fun h=>ho h.1)]
  have e0:=(g n (by omega)).trans hR.fb
  have e1:=(g (n+1) (by omega)).trans hR.r
  have e2:=(g (n+2) (by omega)).trans hR.fi
  have e5:getH H1 (n+5) = .loop lb:=by rw [hH1,getH_setH,if_pos ⟨rfl,l5⟩]
  have hKn:∀Y,Keep (fun o=>n≤o) H (H1++Y):=fun Y=>⟨by simp;omega,fun o ho hl=>by rw [getH_left (by omega),g o (by omega)]⟩
  have m0:n<H1.length:=by omega
  have m1:n+1<H1.length:=by omega
  have m2:n+2<H1.length:=by omega
  have m3:n+5<H1.length:=by omega
  have y0:¬n=H1.length:=by omega
  have y1:¬H1.length=n:=by omega
  have y2:¬n+1=H1.length:=by omega
  have y3:¬H1.length=n+1:=by omega
  have y4:¬n+2=H1.length:=by omega
  have y5:¬H1.length=n+2:=by omega
  have y6:¬n+5=H1.length:=by omega
  have y7:¬H1.length=n+5:=by omega
  rw [←len]
  simp only [go_sem,bdBody,getH_left,setH_left,getH_atL,getH_atL0,m0,m1,m2,m3,y0,y1,y2,y3,y4,y5,y6,y7,e0,e1,e2,kn1,kn2]
  have harr:∀fr ver rows,getH H (n+5) ≠ .arr fr ver 1 rows:=fun _ _ _ h=>by rw [hR.lp] at h;cases h
  refine (hF (H1++[.cells [c1,c2]]) t c1 c2 hIs (by rw [hH1];exact (r1.set harr).append _) (by rw [hH1];exact (r2.set harr).append _) (hinv _ _ hR.inv (hKn _))).mono ?_
  rintro v H' ⟨rfl,hk,hi⟩
  have hlen:=hk.1
  simp only [List.length_append,List.length_cons,List.length_nil] at hlen
  have d0:=hk.get (hown n (by omega)) (getH_keep e0 (by simp)) (by simp)
  have d1:=hk.get (hown (n+1) (by omega)) (getH_keep e1 (by simp)) (by simp)
  have d2:=hk.get (hown (n+2) (by omega)) (getH_keep e2 (by simp)) (by simp)
  have d5:=hk.get (hown (n+5) (by omega)) (getH_keep e5 (by simp)) (by simp)
  have h0:n<H'.length:=by omega
  have h1:n+1<H'.length:=by omega
  have h2:n+2<H'.length:=by omega
  have h3:n+5<H'.length:=by omega
  have hq:=hlb1 lb rfl
  have fin:∀H2:List Obj,H2.length=H'.length→(∀o,o≠n+1→o≠n+2→o≠n+5→getH H2 o=getH H' o)→getH H2 (n+1) = .cells [.int .i64 (bdStep val s t).1.1.lo,.int .i64 (bdStep val s t).1.1.hi]→getH H2 (n+2) = .cells [.bool false]→getH H2 (n+5) = .loop lp→yQ (bdOwn n own) H (bdR n F inv lp) RS (bdStep val s t) (.c (.bool true)) H2:=by
    intro H2 hl2 hg2 w1 w2 w5
    refine yQ_true rfl ⟨by omega,fun o ho hl=>?_⟩ ⟨?_,w1,w2,w5,hinv _ _ hi ⟨by omega,fun o ho hl=>hg2 o (by omega) (by omega) (by omega)⟩⟩
    · simp only [bdOwn,not_or] at ho
      rw [hg2 o ho.2.1 ho.2.2.1 ho.2.2.2,hk.2 o ho.1 (by simp;omega),getH_left (by omega),g o ho.2.2.2]
    · rw [hg2 n (by omega) (by omega) (by omega),d0]
  obtain ⟨⟨lo,hi⟩,fi⟩:=s
  cases fi with
  | true=>
    simp only [go_sem,d1,d2,getH_setH,length_setH,h0,h1,h2,h3,cwider,bodyX,d5]
    refine ⟨lb,rfl,?_⟩
    rw [hq]
    refine fin _ (by simp only [length_setH]) (fun o h1 h2 h5=>by simp only [getH_setH,h1,h2,h5,false_and,if_false]) ?_ ?_ ?_<;>simp only [go_sem,getH_setH,length_setH,h0,h1,h2,h3,bdStep]
  | false=>
    simp only [go_sem,d1,d2,getH_setH,length_setH,h0,h1,h2,h3,cwider,bodyX,d5]
    refine ⟨lb,rfl,?_⟩
    rw [hq]
    refine fin _ (by simp only [length_setH]) (fun o h1 h2 h5=>by simp only [getH_setH,h1,h2,h5,false_and,if_false]) ?_ ?_ ?_<;>simp only [go_sem,getH_setH,length_setH,h0,h1,h2,h3,bdStep,d2]
theorem F78 (hv:f.Valid) (hcr:f.crops.length<Big) {H:List Obj} {wo mo:Nat} (hw:getH H wo = .cells (workC g1 g2 g3 g4 g5 f mo)) (ho:¬own wo) (hown:∀o,H.length≤o→¬own o) (hinv:∀H1 H2,inv H1→Keep (fun o=>H.length≤o) H1 H2→inv H2) (hkn:known [F]=true) (hF:OfOk f own F inv val) (hi:inv H) :
    Fn tab (.f 57 [.c (.ptr wo 0),.c F] H) fun v H'=>v = .agg [.int .i64 (bdL val (truthsL f [])).lo,.int .i64 (bdL val (truthsL f [])).hi]∧Keep own H H'∧inv H':=by
  refine Fn_X (fn:=f57) rfl rfl ?_
  have lwo:=lt_of_getH (h:=H) (o:=wo) (by rw [hw];simp)
  simp only [go_sem,f57,hkn,F81 (oc:=.nils) rfl]
  refine RX_range ?_
  generalize hlp:ALoop.mk .ready _ _ _ _ _=lp
  simp only [Opd.ev,getS,CallV_fn,firstV,List.length_append,List.length_cons,List.length_nil,List.append_assoc,List.cons_append,List.nil_append,List.map_cons,List.map_nil,Nat.zero_add,Nat.reduceAdd,Nat.add_assoc,Bool.false_eq_true,if_false]
  have hy:=bd_yield (f:=f) (n:=H.length) hown hinv hkn hF (lp:=lp) (RS:=fun _ _=>False) hlp.symm
  refine (truths1_ok (n:=H.length+6) (wb:=H.length+3) (ob:=H.length+4) (oc:=.nils) (out:=[]) (wo:=wo) (mo:=mo) (g1:=g1) (g2:=g2) (g3:=g3) (g4:=g4) (g5:=g5) hv (by simp) hcr (by decide) rfl (fun h=>?_) (fun h=>?_) (fun h=>?_) (fun o h _ h'=>?_) (fun s H H' hr hk=>⟨hk.get (by omega) hr.fb (by simp),hk.get (by omega) hr.r (by simp),hk.get (by omega) hr.fi (by simp),hk.get (by omega) hr.lp (by simp),hinv _ _ hr.inv (hk.mono fun o h=>by omega)⟩) (fun s H H' hr hk=>hr.elim) hy (by simp only [go_sem]) (by simp only [go_sem]) (getH_keep hw (by simp)) (fun H' _=>.lst (true,false) []) (s:=(⟨0,0⟩,true)) ⟨by simp only [go_sem],by simp only [go_sem],by simp only [go_sem],by simp only [go_sem],hinv _ _ hi Keep.append⟩ FoldC_true).mono ?_
  · rcases h with h | h | h | h
    · exact hown _ (by omega) h
    all_goals omega
  · rcases h with h | h | h | h
    · exact hown _ (by omega) h
    all_goals omega
  · rcases h with h | h | h | h
    · exact ho h
    all_goals omega
  · rcases h' with h' | h' | h' | h'
    · exact hown _ (by omega) h'
    all_goals omega
  · rintro v H' ⟨hk',hr⟩
    rcases hr with ⟨_,b⟩ | ⟨_,b⟩
    · have l5:=lt_of_getH (h:=H') (o:=H.length+5) (by rw [b.lp];simp)
      have l1:H.length+1<H'.length:=by omega
      refine ⟨lp,b.lp,by rw [←hlp];simp,?_⟩
      rw [show lp.pending = .normal by rw [←hlp]]
      have e0:=b.r
      simp only [go_sem,getH_setH,length_setH,l1,l5,e0]
      refine ⟨⟨rfl,rfl⟩,⟨by simp only [length_setH];omega,fun o ho' hl=>?_⟩,hinv _ _ b.inv ⟨by simp only [length_setH];omega,fun o ho' hl=>by rw [getH_setH,if_neg (by omega),getH_setH,if_neg (by omega)]⟩⟩
      rw [getH_setH,if_neg (by omega),getH_setH,if_neg (by omega),hk'.2 o (fun h=>by rcases h with h | h | h | h;exact ho' h;all_goals omega) (by simp;omega),getH_left hl]
    · exact b.elim
end
end Am.Cr
namespace Am.Cr
open Go Am Am.Tm
set_option maxRecDepth 100000
set_option maxHeartbeats 4000000
set_option linter.unusedSimpArgs false
set_option linter.unusedVariables false
variable {g1 g2 g3 g4 g5:Bool × Bool} {f:Field}
theorem weeks_of (hv:f.Valid) {t:Truth} (hIs:IsT f t) {plan:List Int} (hp:planOk f.last f.base plan=true):Weeks f t plan:=by
  have v1:=hv.growth
  have v2:=hv.wet
  have v4:=hv.last9
  have v5:=hv.base3
  have h1:=hIs.gl
  have h2:=hIs.wl
  have h3:=plan_le hp
  refine ⟨by omega,fun i hi=>?_,by omega,h3,by omega⟩
  have:=plan_in hv.last9 hp i hi
  omega
def MapOk (trod:Int) (mo:Nat) (H:List Obj):Prop:=∃es,EsOk trod es∧getH H mo=mapO es
theorem MapOk.keep {trod:Int} {mo:Nat} {own:Nat→Prop} {H H':List Obj} (h:MapOk trod mo H) (hk:Keep own H H') (ho:¬own mo):MapOk trod mo H':=by
  obtain ⟨es,a,b⟩:=h
  exact ⟨es,a,hk.get ho b (by simp)⟩
structure WInv (g1 g2 g3 g4 g5:Bool × Bool) (f:Field) (wo mo wb pb:Nat) (x:C) (H:List Obj):Prop where
  wb:getH H wb = .cells [.ptr wo 0]
  pb:getH H pb = .cells [x]
  w:getH H wo = .cells (workC g1 g2 g3 g4 g5 f mo)
  m:MapOk f.trod mo H
theorem WInv.keep {wo mo wb pb:Nat} {x:C} {own:Nat→Prop} {H H':List Obj} (h:WInv g1 g2 g3 g4 g5 f wo mo wb pb x H) (hk:Keep own H H') (h1:¬own wo) (h2:¬own mo) (h3:¬own wb) (h4:¬own pb):WInv g1 g2 g3 g4 g5 f wo mo wb pb x H':=
  ⟨hk.get h3 h.wb (by simp),hk.get h4 h.pb (by simp),hk.get h1 h.w (by simp),h.m.keep hk h2⟩
def worthRg (f:Field) (plan:List Int):Rg:=bdL (fun t=>worthI f t plan) (truthsL f [])
def WorthR (f:Field) (plan:List Int):V:=if askE f (planOk f.last f.base plan)=0 then .tup [.agg [.int .i64 (worthRg f plan).lo,.int .i64 (worthRg f plan).hi],.c (.int .i64 0)] else .tup [.agg [.int .i64 0,.int .i64 0],.c (.int .i64 (askE f (planOk f.last f.base plan)))]
theorem ask_ok {b:Bool} (h:askE f b=0):checkField f=0∧b=true∧posB f []=true:=by
  unfold askE at h
  split at h
  · rename_i h';exact absurd h h'
  · rename_i h'
    split at h
    · cases h
    · split at h
      · cases h
      · rename_i a b;exact ⟨by simpa using h',by simpa using a,by simpa using b⟩
def standRg (f:Field) (week:Int):Rg:=bdL (fun t=>atI (standing t.growth f.crops) week) (truthsL f [])
def StandR (f:Field) (week:Int):V:=if askE f (inR week 0 f.last)=0 then .tup [.agg [.int .i64 (standRg f week).lo,.int .i64 (standRg f week).hi],.c (.int .i64 0)] else .tup [.agg [.int .i64 0,.int .i64 0],.c (.int .i64 (askE f (inR week 0 f.last)))]
end Am.Cr
namespace Am.Cr
open Go Am Am.Tm
set_option maxRecDepth 100000
set_option maxHeartbeats 4000000
set_option linter.unusedSimpArgs false
set_option linter.unusedVariables false
variable {g1 g2 g3 g4 g5:Bool × Bool} {f:Field}
abbrev cropV (c:Crop):V:=.agg [.int .i64 c.weight,.int .i64 c.strength,.int .i64 c.worth]
def Sel (k:Nat) (sel:Crop→Int):Prop:=∀(H:List Obj) (c:Crop),CallV tab (.c (.fn k false [] [])) [cropV c] H fun v H'=>v = .c (.int .i64 (sel c))∧Keep (fun _=>False) H H'
theorem sel_weight : Sel 30 Crop.weight:=by
  intro H c
  rw [CallV_fn]
  refine Fn_X (fn:=f30) rfl rfl ?_
  simp only [go_sem,f30]
  exact Keep.append
theorem sel_worth : Sel 33 Crop.worth:=by
  intro H c
  rw [CallV_fn]
  refine Fn_X (fn:=f33) rfl rfl ?_
  simp only [go_sem,f33]
  exact Keep.append
structure AInv (g1 g2 g3 g4 g5:Bool × Bool) (f:Field) (wo mo n kq:Nat) (c:C) (i:Int) (H:List Obj):Prop where
  q:getH H n = .cells [.fn kq false [] []]
  wb:getH H (n+1) = .cells [.ptr wo 0]
  pb:getH H (n+2) = .cells [c]
  ib:getH H (n+3) = .cells [.int .i64 i]
  w:getH H wo = .cells (workC g1 g2 g3 g4 g5 f mo)
  m:MapOk f.trod mo H
theorem AInv.keep {wo mo n kq:Nat} {c:C} {i:Int} {own:Nat→Prop} {H H':List Obj} (h:AInv g1 g2 g3 g4 g5 f wo mo n kq c i H) (hk:Keep own H H') (h1:¬own wo) (h2:¬own mo) (h3:∀j,j<4→¬own (n+j)):AInv g1 g2 g3 g4 g5 f wo mo n kq c i H':=
  ⟨hk.get (h3 0 (by omega)) h.q (by simp),hk.get (h3 1 (by omega)) h.wb (by simp),hk.get (h3 2 (by omega)) h.pb (by simp),hk.get (h3 3 (by omega)) h.ib (by simp),hk.get h1 h.w (by simp),h.m.keep hk h2⟩
theorem about1_of (hv:f.Valid) {g:Bool × Bool} {plan:List Int} (hp:planOk f.last f.base plan=true) {i:Nat} (hi:i<plan.length) {wo mo n kq:Nat} {sel:Crop→Int} (hs:Sel kq sel) (n1:wo≠mo) (n2:∀j,j<4→n+j≠mo) :
    OfOk f (fun o=>o=mo) (.fn 58 false [] [.ptr n 0,.ptr (n+1) 0,.ptr (n+2) 0,.ptr (n+3) 0]) (AInv g1 g2 g3 g4 g5 f wo mo n kq (L g plan) i) (fun t=>sel (cropAt f t plan i)):=by
  intro H t c1 c2 hIs r1 r2 hI
  rw [CallV_fn]
  refine Fn_X (fn:=f58) rfl rfl ?_
  have kn1:=r1.kn [c2]
  have kn2:=r2.kn []
  have l3:=lt_of_getH (h:=H) (o:=n+3) (by rw [hI.ib];simp)
  have k0:n<H.length:=by omega
  have k1:n+1<H.length:=by omega
  have k2:n+2<H.length:=by omega
  have k3:n+3<H.length:=by omega
  have z0:¬n=H.length:=by omega
  have z1:¬H.length=n:=by omega
  have z2:¬n+1=H.length:=by omega
  have z3:¬H.length=n+1:=by omega
  have z4:¬n+2=H.length:=by omega
  have z5:¬H.length=n+2:=by omega
  have z6:¬n+3=H.length:=by omega
  have z7:¬H.length=n+3:=by omega
  have e0:=hI.q
  have e1:=hI.wb
  have e2:=hI.pb
  have e3:=hI.ib
  obtain ⟨es,hok,hm⟩:=hI.m
  have lm:=lt_of_getH (h:=H) (o:=mo) (by rw [hm];simp)
  have m0:=n2 0 (by omega)
  have m1:=n2 1 (by omega)
  have m2:=n2 2 (by omega)
  have m3:=n2 3 (by omega)
  rw [Nat.add_zero] at m0
  simp only [go_sem,f58,kn1,kn2,getH_left,k0,k1,k2,k3,z0,z1,z2,z3,z4,z5,z6,z7,e0,e1,e2,e3]
  refine (F52 (es:=es) (t:=t) (plan:=plan) (f:=f) (g1:=g1) (g2:=g2) (g3:=g3) (g4:=g4) (g5:=g5) (getH_keep hI.w (by simp)) (getH_keep hm (by simp)) hok (r1.append _) (r2.append _) (.lst g plan) (weeks_of hv hIs hp)).mono ?_
  rintro v H' ⟨es1,X,hok1,rfl,rfl⟩
  have hcl:=cropsL_len (f:=f) (t:=t) (plan:=plan)
  have hnth:=nth_lt' (l:=cropsL f t plan) (k:=i) (by omega)
  have hcr:(cropsL f t plan).getD i default=cropAt f t plan i:=by
    rw [getD_lt _ _ _ (by omega)];simp [cropsL]
  rw [hcr] at hnth
  have i0:(0:Int)≤i:=by omega
  have i1:(i:Int)<plan.length:=by omega
  rw [setH_left lm]
  simp only [go_sem,getH_left,setH_left,getH_setH,length_setH,getH_atL,getH_atL0,k0,k1,k2,k3,z0,z1,z2,z3,z4,z5,z6,z7,e0,e1,e2,e3,false_and,m0,m1,m2,m3,i0,i1,hnth]
  obtain ⟨HB,hHB⟩:∃HB,HB=setH H mo (mapO es1)++Obj.cells [c1,c2]::Obj.cells [c1,c2]::Obj.cells (List.map intC (standing t.growth plan))::Obj.arr false plan.length 3 (List.map Row.row (cropsL f t plan))::X:=⟨_,rfl⟩
  rw [←hHB]
  have hk0:Keep (fun o=>o=mo) H HB:=⟨by rw [hHB];simp [length_setH],fun o ho hl=>by rw [hHB,getH_left (by rw [length_setH];exact hl),getH_setH,if_neg (fun h=>ho h.1)]⟩
  have hmB:MapOk f.trod mo HB:=⟨es1,hok1,by rw [hHB,getH_left (by rw [length_setH];exact lm),getH_setH,if_pos ⟨rfl,lm⟩]⟩
  have b0:=hk0.get (o:=n) m0 e0 (by simp)
  have b1:=hk0.get (o:=n+1) m1 e1 (by simp)
  have b2:=hk0.get (o:=n+2) m2 e2 (by simp)
  have b3:=hk0.get (o:=n+3) m3 e3 (by simp)
  have bw:=hk0.get n1 hI.w (by simp)
  have b4:getH HB H.length = .cells [c1,c2]:=by rw [hHB];simp only [go_sem]
  have b5:getH HB (H.length+3)=Obj.arr false plan.length 3 (List.map Row.row (cropsL f t plan)):=by rw [hHB];simp only [go_sem]
  have lB:H.length+4≤HB.length:=by rw [hHB];simp [length_setH]
  clear hHB
  refine Fn.mono (hs HB (cropAt f t plan i)) ?_
  rintro v H' ⟨rfl,hk⟩
  obtain ⟨Y,rfl⟩:=hk.none_eq
  have j0:H.length<HB.length:=by omega
  have j1:H.length+3<HB.length:=by omega
  have j2:n<HB.length:=by omega
  have j3:n+1<HB.length:=by omega
  have j4:n+2<HB.length:=by omega
  have j5:n+3<HB.length:=by omega
  simp only [go_sem,getH_left,k0,k1,k2,k3,z0,z1,z2,z3,z4,z5,z6,z7,j0,j1,j2,j3,j4,j5,e0,e1,e2,e3,b0,b1,b2,b3,b4,b5]
  exact ⟨hk0.trans Keep.append,⟨getH_keep b0 (by simp),getH_keep b1 (by simp),getH_keep b2 (by simp),getH_keep b3 (by simp),getH_keep bw (by simp),hmB.keep (own:=fun _=>False) Keep.append id⟩⟩
theorem F90 (hv:f.Valid) (hcr:f.crops.length<Big) {g:Bool × Bool} {plan:List Int} (hp:planOk f.last f.base plan=true) {i:Nat} (hi:i<plan.length) {wo mo kq:Nat} {sel:Crop→Int} (hs:Sel kq sel) {H:List Obj} (hw:getH H wo = .cells (workC g1 g2 g3 g4 g5 f mo)) (hm:MapOk f.trod mo H) :
    Fn tab (.f 31 [.agg [.fn kq false [] []],.c (.ptr wo 0),.c (L g plan),.c (.int .i64 i)] H) fun v H'=>v = .agg [.int .i64 (bdL (fun t=>sel (cropAt f t plan i)) (truthsL f [])).lo,.int .i64 (bdL (fun t=>sel (cropAt f t plan i)) (truthsL f [])).hi]∧Keep (fun o=>o=mo) H H'∧MapOk f.trod mo H':=by
  refine Fn_X (fn:=f31) rfl rfl ?_
  obtain ⟨es,hok,hm'⟩:=hm
  have lm:=lt_of_getH (h:=H) (o:=mo) (by rw [hm'];simp)
  have lw:=lt_of_getH (h:=H) (o:=wo) (by rw [hw];simp)
  have nwm:wo≠mo:=by rintro rfl;rw [hw] at hm';cases hm'
  simp only [go_sem,f31]
  refine (F78 (f:=f) (own:=fun o=>o=mo) (mo:=mo) (inv:=AInv g1 g2 g3 g4 g5 f wo mo H.length kq (L g plan) i) (val:=fun t=>sel (cropAt f t plan i)) hv hcr (getH_keep hw (by simp)) (fun h=>nwm h) (fun o ho h=>by simp at ho;omega) (fun H1 H2 h hk=>h.keep hk (by simp;omega) (by simp;omega) (fun j hj=>by simp;omega)) rfl (about1_of hv hp hi hs nwm (fun j hj=>by omega)) ⟨by simp only [go_sem],by simp only [go_sem],by simp only [go_sem],by simp only [go_sem],getH_keep hw (by simp),es,hok,getH_keep hm' (by simp)⟩).mono ?_
  rintro v H' ⟨rfl,hk,hI⟩
  have e4:=hk.get (o:=H.length+4) (by omega) (show getH _ (H.length+4) = .cells [.int .i64 0,.int .i64 0] by simp only [go_sem]) (by simp)
  have l4:=lt_of_getH (h:=H') (o:=H.length+4) (by rw [e4];simp)
  simp only [go_sem,getH_setH,length_setH,e4,l4]
  have hK:∀x,Keep (fun o=>o=mo) H (setH H' (H.length+4) x):=fun x=>⟨by have:=hk.1;simp at this;rw [length_setH];omega,fun o ho hl=>by rw [getH_setH,if_neg (by omega),hk.2 o ho (by simp;omega),getH_left hl]⟩
  have hM:∀x,MapOk f.trod mo (setH H' (H.length+4) x):=fun x=>hI.m.keep (own:=fun o=>o=H.length+4) ⟨by rw [length_setH];omega,fun o ho hl=>by rw [getH_setH,if_neg (fun h=>ho h.1)]⟩ (by omega)
  exact ⟨hK _,hM _⟩
end Am.Cr
namespace Am.Cr
open Go Am Am.Tm
set_option maxRecDepth 100000
set_option maxHeartbeats 4000000
set_option linter.unusedSimpArgs false
set_option linter.unusedVariables false
variable {g1 g2 g3 g4 g5:Bool × Bool} {f:Field}
def boundAt (f:Field) (plan:List Int) (i:Nat):Bound:=⟨bdL (fun t=>(cropAt f t plan i).weight) (truthsL f []),strengthI f.base f.late f.ripe plan i,bdL (fun t=>(cropAt f t plan i).worth) (truthsL f [])⟩
def boundsL (f:Field) (plan:List Int):List Bound:=(List.range plan.length).map (boundAt f plan)
def BoundsR (b:Bool) (f:Field) (plan:List Int):V:=if askE f (planOk f.last f.base plan)=0 then .tup [.c (L (b,false) (boundsL f plan)),.c (.int .i64 0)] else .tup [.c .nils,.c (.int .i64 (askE f (planOk f.last f.base plan)))]
theorem cBounds (hf:f.Fits) {g:Bool × Bool} {plan:List Int} (hp:plan.length<Big) {Q:V→Prop}:CallP tab 11 [fieldV g1 g2 g3 g4 g5 f,.c (L g plan)] Q↔Q (BoundsR false f plan):=CallP_of (by
  refine Val_X (fn:=f11) rfl ?_
  simp only [go_sem,f11]
  refine (F77 (g1:=g1) (g2:=g2) (g3:=g3) (g4:=g4) (g5:=g5) hf hp (.lst g plan) ⟨g,rfl⟩).mono ?_
  rintro v H' ⟨hk,hr⟩
  obtain ⟨X,rfl⟩:=hk.none_eq
  rcases hr with ⟨a,rfl⟩ | ⟨a,wo,mo,b1,b2,rfl,b3,b4⟩
  · rw [BoundsR,if_neg a]
    simp only [go_sem,a]
  · have hb:=(ask_ok a).2.1
    have hv:=valid_of (ask_ok a).1
    rw [BoundsR,if_pos a]
    simp only [List.length_cons,List.length_nil] at b1 b2
    have nwm:wo≠mo:=by rintro rfl;rw [b3] at b4;cases b4
    have h3:=plan_le hb
    have v5:=hv.base3
    simp only [go_sem] at b3 b4
    simp only [go_sem]
    obtain ⟨HA,hHA⟩:∃HA,HA=Obj.cells [.int .i64 f.last,L g1 f.growth,L g2 f.wet,L g3 f.base,L g4 f.crops,.int .i64 f.ripe,.int .i64 f.late,.int .i64 f.trod,L g5 f.looks]::X:=⟨_,rfl⟩
    rw [←hHA] at b3 b4 ⊢
    clear hHA
    refine RX_whileU (α:=Nat × List Obj) (fun x=>[(8,.c (.sl HA.length x.1 0 x.1)),(21,.c (.int .i64 x.1))]) (fun x=>x.2) (fun x=>x.1≤plan.length∧Keep (fun o=>o=mo∨o=HA.length) HA x.2∧getH x.2 HA.length = .arr false x.1 5 (((List.range x.1).map (boundAt f plan)).map Row.row)∧MapOk f.trod mo x.2) (fun x=>plan.length-x.1) (0,HA++[.arr false 0 5 []]) ⟨Nat.zero_le _,Keep.append,by simp only [go_sem];rfl,[],by intro e he;simp at he,getH_keep b4 (by simp)⟩ (by simp only [go_sem]<;>rfl) ?_
    rintro ⟨k,H'⟩ ⟨hk,hK,hro,hM⟩
    simp only at hk hK hro hM
    have lm:=lt_of_getH (h:=HA) (o:=mo) (by rw [b4];simp)
    have lw:=lt_of_getH (h:=HA) (o:=wo) (by rw [b3];simp)
    have lr:=lt_of_getH (h:=H') (o:=HA.length) (by rw [hro];simp)
    have hw:=hK.get (o:=wo) (fun h=>by rcases h with h | h;exact nwm h;omega) b3 (by simp)
    by_cases h1:k<plan.length
    · have e4:IntKind.i64.wrap ((k:Int)+1)=((k+1:Nat):Int):=wrap_succ (n:=3000) (by omega) (by decide)
      simp only [go_sem,h1]
      refine (F90 (f:=f) (g1:=g1) (g2:=g2) (g3:=g3) (g4:=g4) (g5:=g5) (mo:=mo) hv (big_of hf.crops) (g:=g) hb h1 sel_weight (getH_keep hw (by simp)) (hM.keep (own:=fun _=>False) Keep.append id)).mono ?_
      rintro v H2 ⟨rfl,hk2,hM2⟩
      have w2:=hk2.get (o:=wo) (fun h=>nwm h) (getH_keep hw (by simp)) (by simp)
      have lw2:=lt_of_getH (h:=H2) (o:=wo) (by rw [w2];simp)
      have k0:(0:Int)≤k:=by omega
      have k1:(k:Int)<plan.length:=by omega
      have k2:(k:Int)<f.base.length:=by omega
      have hPs:=fun {Q:V→Prop}=>P91 (last:=f.last) (ripe:=f.ripe) (late:=f.late) (trod:=f.trod) (growth:=f.growth) (wet:=f.wet) (base:=f.base) (crops:=f.crops) (looks:=f.looks) (g1:=g1) (g2:=g2) (g3:=g3) (g4:=g4) (g5:=g5) (g:=g) (plan:=plan) (i:=(k:Int)) k0 k1 k2 (by omega) (Q:=Q)
      simp only [go_sem,w2,hPs]
      refine (F90 (f:=f) (g1:=g1) (g2:=g2) (g3:=g3) (g4:=g4) (g5:=g5) (mo:=mo) hv (big_of hf.crops) (g:=g) hb h1 sel_worth w2 hM2).mono ?_
      rintro v H3 ⟨rfl,hk3,hM3⟩
      have w3:=hk3.get (o:=wo) (fun h=>nwm h) w2 (by simp)
      have r2:=hk2.get (o:=HA.length) (by omega) (getH_keep hro (by simp)) (by simp)
      have r3:=hk3.get (o:=HA.length) (by omega) r2 (by simp)
      have n2:=hk2.2 H'.length (by omega) (by simp)
      have n3:=hk3.2 H'.length (by omega) (by have:=hk2.1;simp at this;omega)
      have n2':=hk2.2 (H'.length+1) (by omega) (by simp)
      have n3':=hk3.2 (H'.length+1) (by omega) (by have:=hk2.1;simp at this;omega)
      have c1:(k+1)*40≤2^40:=by omega
      have hl2:H'.length+2≤H3.length:=by have:=hk2.1;have:=hk3.1;simp at *;omega
      have i1:isHole H3 H'.length=true:=isHole_of (by omega) (by rw [n3,n2];simp only [go_sem])
      have i2:isHole H3 (H'.length+1)=true:=isHole_of (by omega) (by rw [n3',n2'];simp only [go_sem])
      have lw3:=lt_of_getH (h:=H3) (o:=wo) (by rw [w3];simp)
      have l1:H'.length<H3.length:=by omega
      have l2:H'.length+1<H3.length:=by omega
      have j0:HA.length<H3.length:=by omega
      have y0:¬HA.length=H'.length:=by omega
      have y1:¬H'.length=HA.length:=by omega
      have y2:¬HA.length=H'.length+1:=by omega
      have y3:¬H'.length+1=HA.length:=by omega
      have y4:¬wo=H'.length:=by omega
      have y5:¬H'.length=wo:=by omega
      have y6:¬wo=H'.length+1:=by omega
      have y7:¬H'.length+1=wo:=by omega
      have x0:¬HA.length=wo:=by omega
      have x1:¬wo=HA.length:=by omega
      have lnn:H'.length<H2.length:=by have:=hk2.1;simp at this;omega
      simp only [go_sem,w2,w3,r2,r3,i1,i2,getH_setH,length_setH,e4,c1,l1,l2,j0,y0,y1,y2,y3,y4,y5,y6,y7,x0,x1]
      refine ⟨(getH_keep hw (by simp)).symm,(k+1,_),⟨by simp only;omega,h1,?_,?_,?_⟩,⟨rfl,rfl⟩,rfl⟩
      · refine ⟨by simp only [length_setH];have:=hK.1;omega,fun o ho hl=>?_⟩
        simp only [not_or] at ho
        simp only
        rw [getH_setH,if_neg (fun h=>ho.2 h.1),getH_setH,if_neg (by have:=hK.1;omega),hk3.2 o ho.1 (by have:=hk2.1;have:=hK.1;simp at *;omega),hk2.2 o ho.1 (by have:=hK.1;simp;omega),getH_left (by have:=hK.1;omega),hK.2 o (fun h=>h.elim ho.1 ho.2) hl]
      · simp only
        rw [getH_setH,if_pos ⟨rfl,by rw [length_setH];omega⟩,List.range_succ,List.map_append,List.map_append]
        rfl
      · simp only
        have ks:∀(A:List Obj) o x,Keep (fun o'=>o'=o) A (setH A o x):=fun A o x=>⟨by rw [length_setH];omega,fun o' h h'=>by rw [getH_setH,if_neg (fun h2=>h h2.1)]⟩
        exact (hM3.keep (ks _ _ _) (by omega)).keep (ks _ _ _) (by omega)
    · have:k=plan.length:=by omega
      subst this
      have e10:(boundsL f plan).length=plan.length:=by simp [boundsL]
      have e11:(List.range plan.length).map (boundAt f plan)=boundsL f plan:=rfl
      rw [e11] at hro
      simp only [go_sem,h1,hro,e10])
end Am.Cr
namespace Am.Cr
open Go Am Am.Tm
set_option maxRecDepth 100000
set_option maxHeartbeats 4000000
set_option linter.unusedSimpArgs false
set_option linter.unusedVariables false
variable {g1 g2 g3 g4 g5:Bool × Bool} {f:Field}
structure WS where
  least:Int
  found:Bool
  out:Truth
def wsStep (f:Field) (plan:List Int) (s:WS) (t:Truth):WS × Bool:=if s.found=false∨worthI f t plan<s.least then (⟨worthI f t plan,true,t⟩,true) else (s,true)
def worstL (f:Field) (plan:List Int):Truth:=(foldY (wsStep f plan) ⟨0,false,⟨[],[]⟩⟩ (truthsL f [])).1.out
abbrev wsIn (m mo:Nat) (o:Nat):Prop:=o=mo∨o=2∨(m≤o∧o<m+16)
structure wsR (g1 g2 g3 g4 g5:Bool × Bool) (f:Field) (wo mo m:Nat) (x:C) (lp:ALoop) (s:WS) (H:List Obj):Prop where
  inv:WInv g1 g2 g3 g4 g5 f wo mo 3 1 x H
  out:∃a b,getH H m = .cells [a,b]∧LstIn 1 (wsIn m mo) H a s.out.growth∧LstIn 1 (wsIn m mo) H b s.out.wet
  le:getH H (m+1) = .cells [.int .i64 s.least]
  fo:getH H (m+2) = .cells [.bool s.found]
  lp:getH H (m+5) = .loop lp
end Am.Cr
