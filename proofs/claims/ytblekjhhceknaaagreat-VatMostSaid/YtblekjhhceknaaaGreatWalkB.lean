/-
  A part of the proof: the texts V8, V9, V10, V11, V12, V13, V14 of this seat, joined.
-/
import Derived.Test.YtblekjhhceknaaaGreatWalkA
namespace Am.Vt
open Go Am
set_option maxRecDepth 100000
set_option maxHeartbeats 4000000
set_option linter.unusedSimpArgs false
set_option linter.unusedVariables false
variable {g1 g2 g3 g4:Bool × Bool} {v:Vat}
instance : Scal St:=⟨fun _=>rfl⟩
theorem cright {g:Bool × Bool} {k:Lk} {l:List St} (h0:0≤k.day) (h1:k.day<l.length) {Q:V→Prop}:CallP tab 76 [.agg [.int .i64 k.day,.bool k.bal,.int .i64 k.n.lo,.int .i64 k.n.hi],.c (L g l)] Q↔Q (.c (.bool (rightK k l))):=CallP_of (by
  refine Val_X (fn:=f76) rfl ?_
  cases hb:k.bal with
  | true=>simp only [go_sem,f76,h0,h1,chas,rightK,hb]
  | false=>simp only [go_sem,f76,h0,h1,chas,rightK,hb])
def truthsAssign : ACode:=(.region 0 [] [
        ⟨(some 4),.mov (.tmp 16),none,0⟩])
def truthsBody : ACode:=(.block 1 (.seq (.region 1 [(0,3),(1,3),(2,3),(0,4),(1,4),(2,4),(0,5),(1,5),(2,5),(0,6),(1,6),(2,6),(3,6),(4,6),(5,6),(0,7),(1,7),(2,7),(3,7),(4,7),(5,7),(0,9),(1,9),(2,9),(3,9),(4,9),(5,9),(6,9),(7,9),(8,9)] [
          ⟨(some 17),.mov (.tmp 4),none,0⟩,
          ⟨(some 18),.iaddr 1 (.tmp 17) (.cst (.c (.int .i64 0))),none,0⟩,
          ⟨(some 19),.load none (.tmp 18),none,0⟩,
          ⟨(some 20),.mov (.tmp 4),none,0⟩,
          ⟨(some 21),.iaddr 1 (.tmp 20) (.cst (.c (.int .i64 1))),none,0⟩,
          ⟨(some 22),.load none (.tmp 21),none,0⟩,
          ⟨(some 23),.mov (.tmp 4),none,0⟩,
          ⟨(some 24),.slice 1 (.tmp 23) (some (.cst (.c (.int .i64 2)))) none,none,0⟩,
          ⟨(some 25),.build [(.int .i64 0),(.int .i64 0),.nils] [(0,1,(.tmp 19)),(1,1,(.tmp 22)),(2,1,(.tmp 24))],none,0⟩,
          ⟨(some 5),.alloc [(.int .i64 0),(.int .i64 0),.nils],none,0⟩,
          ⟨none,.store (some 3) (.tmp 5) (.tmp 25),none,1⟩])
        (.seq (.region 0 [] [
          ⟨(some 26),.load none (.tmp 1),none,0⟩,
          ⟨(some 27),.load (some 3) (.tmp 5),none,0⟩,
          ⟨(some 28),.call 73 false [(.tmp 26),(.tmp 27)],none,0⟩,
          ⟨(some 6),.mov (.tmp 28),none,0⟩])
        (.seq (.region 0 [] [
          ⟨(some 7),.mov (.cst (.c (.bool true))),none,0⟩])
        (.seq (.seq (.region 0 [] [
          ⟨(some 29),.load none (.tmp 1),none,0⟩,
          ⟨(some 30),.nilchk (.tmp 29),none,0⟩,
          ⟨(some 31),.faddr 0 (.tmp 30),none,0⟩,
          ⟨(some 32),.faddr 11 (.tmp 31),none,0⟩,
          ⟨(some 33),.load none (.tmp 32),none,0⟩,
          ⟨(some 34),.len (.tmp 33),none,0⟩,
          ⟨(some 35),.mov (.cst (.c (.int .i64 0))),none,0⟩])
        (.block 2 (.loop ⟨[8,9,36,37,38,39,40,41,42,43,44,45,46,47,48,49,50,51],false,[]⟩
            (.seq (.region 0 [] [
              ⟨(some 36),.bin .lss (.tmp 35) (.tmp 34),none,0⟩])
            (.seq (.cond (.tmp 36)
              .skip
              (.exit 2))
            (.seq (.block 3 (.seq (.region 1 [] [
                ⟨(some 37),.mov (.tmp 35),none,0⟩,
                ⟨(some 38),.iaddr 4 (.tmp 33) (.tmp 35),none,0⟩,
                ⟨(some 39),.load (some 4) (.tmp 38),none,0⟩,
                ⟨(some 9),.alloc [(.int .i64 0),(.bool false),(.int .i64 0),(.int .i64 0)],none,0⟩,
                ⟨(some 8),.mov (.tmp 37),none,1⟩,
                ⟨none,.store (some 4) (.tmp 9) (.tmp 39),none,1⟩])
              (.region 0 [] [
                ⟨(some 40),.mov (.tmp 7),none,0⟩,
                ⟨(some 41),.mov (.tmp 40),none,0⟩,
                ⟨(some 42),.load none (.tmp 2),some (41,true),0⟩,
                ⟨(some 43),.mov (.tmp 8),some (41,true),0⟩,
                ⟨(some 44),.call 140 true [(.tmp 42),(.tmp 43)],some (41,true),0⟩,
                ⟨(some 45),.mov (.tmp 44),some (41,true),0⟩,
                ⟨(some 46),.load (some 4) (.tmp 9),some (45,false),0⟩,
                ⟨(some 47),.mov (.tmp 6),some (45,false),0⟩,
                ⟨(some 48),.call 76 true [(.tmp 46),(.tmp 47)],some (45,false),0⟩,
                ⟨(some 49),.pick (.tmp 45) (.cst (.c (.bool true))) (.tmp 48),some (41,true),0⟩,
                ⟨(some 50),.pick (.tmp 41) (.tmp 49) (.cst (.c (.bool false))),none,0⟩,
                ⟨(some 7),.mov (.tmp 50),none,0⟩])))
            (.region 0 [] [
              ⟨(some 51),.bin .add (.tmp 35) (.cst (.c (.int .i64 1))),none,0⟩,
              ⟨(some 35),.mov (.tmp 51),none,0⟩])))))))
        (.seq (.region 0 [] [
          ⟨(some 52),.mov (.tmp 7),none,0⟩,
          ⟨(some 53),.mov (.tmp 52),none,0⟩,
          ⟨(some 54),.load none (.tmp 3),some (53,true),0⟩,
          ⟨(some 55),.load (some 3) (.tmp 5),some (53,true),0⟩,
          ⟨(some 56),.mov (.tmp 6),some (53,true),0⟩,
          ⟨(some 57),.callv (.tmp 54) [(.tmp 55),(.tmp 56)],some (53,true),0⟩,
          ⟨(some 58),.not (.tmp 57),some (53,true),0⟩,
          ⟨(some 59),.pick (.tmp 53) (.tmp 58) (.cst (.c (.bool false))),none,0⟩])
        (.cond (.tmp 59)
          .ret
          .skip)))))))
section
variable {σ:Type} {own:Nat→Prop} {F:C} {R RS:σ→List Obj→Prop} {step:σ→Truth→σ × Bool} {C0:σ→Truth→Prop} {n wb ob wo mo:Nat} {out:List Int} {oc:C}
def TYield (v:Vat) (N:Nat) (C0:σ→Truth→Prop) (own:Nat→Prop) (F:C) (R RS:σ→List Obj→Prop) (step:σ→Truth→σ × Bool):Prop:=
  ∀s H t c1 so ver,N≤H.length→C0 s t→IsT v t→RdI H c1 t.drift→getH H so = .arr false ver 2 ((playL v t).map Row.row)→N≤so→R s H→CallV tab (.c F) [.agg [.int .i64 t.start,.int .i64 t.blue,c1],.c (.sl so ver 0 v.drift.length)] H (yQ own H R RS (step s t))
abbrev tOwn (n mo:Nat) (own:Nat→Prop) (o:Nat):Prop:=own o∨o=mo∨o=n+2
def tstep (v:Vat) (out:List Int) (step:σ→Truth→σ × Bool) (s:σ) (w:List Int):σ × Bool:=if rightL v out (playL v (tOf w))=true then step s (tOf w) else (s,true)
theorem foldY_t {s:σ} {ws:List (List Int)}:foldY (tstep v out step) s ws=foldY step s ((ws.map tOf).filter fun t=>rightL v out (playL v t)):=by
  induction ws generalizing s with
  | nil=>rfl
  | cons w ws ih=>
    by_cases hr:rightL v out (playL v (tOf w))=true
    · have e:tstep v out step s w=step s (tOf w):=if_pos hr
      simp only [List.map_cons,List.filter_cons,hr,if_true,foldY,e]
      split
      · exact ih
      · rfl
    · have e:tstep v out step s w=(s,true):=if_neg hr
      simp only [List.map_cons,List.filter_cons,hr,if_false,foldY,e,if_true,Bool.false_eq_true]
      exact ih
theorem FoldC_t {s:σ} {ws:List (List Int)} (h:FoldC C0 step s ((ws.map tOf).filter fun t=>rightL v out (playL v t))):FoldC (fun s w=>rightL v out (playL v (tOf w))=true→C0 s (tOf w)) (tstep v out step) s ws:=by
  induction ws generalizing s with
  | nil=>trivial
  | cons w ws ih=>
    by_cases hr:rightL v out (playL v (tOf w))=true
    · have e:tstep v out step s w=step s (tOf w):=if_pos hr
      simp only [List.map_cons,List.filter_cons,hr,if_true] at h
      exact ⟨fun _=>h.1,fun hs=>by rw [e] at hs ⊢;exact ih (h.2 hs)⟩
    · have e:tstep v out step s w=(s,true):=if_neg hr
      simp only [List.map_cons,List.filter_cons,hr,if_false,Bool.false_eq_true] at h
      exact ⟨fun h'=>absurd h' hr,fun _=>by rw [e];exact ih h⟩
structure tR (n mo:Nat) (F:C) (own:Nat→Prop) (H0:List Obj) (lp:ALoop) (R:σ→List Obj→Prop) (s:σ) (H:List Obj):Prop where
  k:Keep (fun o=>own o∨o=mo) H0 H
  yb:getH H n = .cells [F]
  lp:getH H (n+2) = .loop lp
  r:R s H
theorem setK {H:List Obj} {o:Nat} {x:Obj} {own:Nat→Prop} (h:own o):Keep own H (setH H o x):=⟨by rw [length_setH];exact Nat.le_refl _,fun p hp hl=>by rw [getH_setH,if_neg (fun e=>hp (by rw [e.1];exact h))]⟩
theorem truths_yield (hv:v.Valid) {H0:List Obj} (hn:H0.length=n) (hoB:out.length<Big) (hkn:known [F]=true) (h1:¬own wb) (h2:¬own ob) (h3:¬own wo) (hown:∀o,n≤o→o<n+7→¬own o)
    (hR:∀s H H',R s H→Keep (fun o=>(n≤o∧o<n+7)∨o=mo) H H'→MapOk mo H'→R s H') (hRS:∀s H H',RS s H→Keep (fun o=>n≤o∧o<n+7) H H'→RS s H') (hRm:∀s H,R s H→MapOk mo H) (hF:TYield v (n+7) C0 own F R RS step)
    (hwb:getH H0 wb = .cells [.ptr wo 0]) (hob:getH H0 ob = .cells [oc]) (hw:getH H0 wo = .cells (workC g1 g2 g3 g4 v mo)) (hmo:mo<n) (nwm:wo≠mo) (nbm:wb≠mo) (nom:ob≠mo) (ho:∀H,Keep (fun o=>own o∨o=mo) H0 H→RdI H oc out) {v0 v4 v5 v6 v7 v8 v9 v10 v11 v12 v13 v14 v15:V} {vs:List V} (hvs:vs=List.replicate 44 (.c .any)) {lp lpd:ALoop}
    (hlp:lp=⟨.ready,.normal,[v0,.c (.ptr wb 0),.c (.ptr ob 0),.c (.ptr n 0),v4,v5,v6,v7,v8,v9,v10,v11,v12,v13,v14,v15]++vs,[16],truthsAssign,truthsBody⟩) (hlpd:lpd={ lp with state:=.done,pending:=.ret }) :
    LYield tab (rangesL v) (n+7) (fun s w=>rightL v out (playL v (tOf w))=true→C0 s (tOf w)) (tOwn n mo own) (n+4) (.yld (n+2)) (tR n mo F own H0 lp R) (tR n mo F own H0 lpd RS) (tstep v out step):=by
  subst hvs
  intro s H w hlen hCw hwl hin hRr hg
  rw [CallV_y]
  change Fn tab _ (yQ (tOwn n mo own) H (tR n mo F own H0 lp R) (tR n mo F own H0 lpd RS) (tstep v out step s w))
  refine Fn_y hRr.lp (by rw [hlp];rfl) ?_
  rw [show lp.assign=truthsAssign by rw [hlp],show lp.params=[16] by rw [hlp],show lp.slots=_ by rw [hlp]]
  have l2:=lt_of_getH (h:=H) (o:=n+2) (by rw [hRr.lp];simp)
  have l4:=lt_of_getH (h:=H) (o:=n+4) (by rw [hg];simp)
  simp only [go_sem,truthsAssign,setParams,assignX,hRr.lp]
  refine ⟨lp,rfl,by rw [hlp],rfl,?_⟩
  generalize hlb:ALoop.mk .busy _ _ _ _ _=lb
  rw [show lp.body=truthsBody by rw [hlp]]
  have hlb1:∀l:ALoop,Obj.loop lb = .loop l→({ l with state:=.ready,pending:=.normal }:ALoop)=lp:=fun l h=>by cases h;rw [←hlb,hlp]
  have hlb2:∀l:ALoop,Obj.loop lb = .loop l→({ l with state:=.done,pending:=.ret }:ALoop)=lpd:=fun l h=>by cases h;rw [←hlb,hlpd]
  clear hlb
  have q1:=hlb1 lb rfl
  have q2:=hlb2 lb rfl
  obtain ⟨H1,hH1⟩:∃H1,H1=setH H (n+2) (.loop lb):=⟨_,rfl⟩
  rw [←hH1]
  have len:H1.length=H.length:=by rw [hH1,length_setH]
  have g:∀o,o≠n+2→getH H1 o=getH H o:=fun o ho=>by rw [hH1,getH_setH,if_neg (fun h=>ho h.1)]
  have lt0:∀{o x},getH H0 o=x→x ≠ .none→o<n:=fun {o x} h hne=>by rw [←hn];exact lt_of_getH (by rw [h];exact hne)
  have lwb:=lt0 hwb (by simp)
  have lob:=lt0 hob (by simp)
  have lwo:=lt0 hw (by simp)
  have e1:=(g wb (by omega)).trans (hRr.k.get (fun h=>h.elim h1 nbm) hwb (by simp))
  have e2:=(g ob (by omega)).trans (hRr.k.get (fun h=>h.elim h2 nom) hob (by simp))
  have e3:=(g wo (by omega)).trans (hRr.k.get (fun h=>h.elim h3 nwm) hw (by simp))
  have e0:=(g n (by omega)).trans hRr.yb
  have e4:=(g (n+4) (by omega)).trans hg
  have e5:getH H1 (n+2) = .loop lb:=by rw [hH1,getH_setH,if_pos ⟨rfl,l2⟩]
  have hKH:Keep (fun o=>(n≤o∧o<n+7)∨o=mo) H H1:=by rw [hH1];exact setK (.inl ⟨by omega,by omega⟩)
  have M1:MapOk mo H1:=(hRm _ _ hRr.r).keep (own:=fun o=>o=n+2) (by rw [hH1];exact setK rfl) (by omega)
  have R1:=hR _ _ _ hRr.r hKH M1
  have hrl:=rangesL_len (v:=v)
  have v1:=hv.drift
  have v4:=hv.last7
  have v5:=hv.last0
  have vl:=hv.looks5
  have hIs:=isT_of (v:=v) hwl hin
  obtain ⟨t,ht⟩:∃t,t=tOf w:=⟨_,rfl⟩
  rw [←ht] at hIs
  have p0:(0:Int)<w.length:=by omega
  have p1:(1:Int)<w.length:=by omega
  have p2:(2:Nat)≤w.length:=by omega
  have n0:nth (w.map (Row.row (α:=Int))) 0=some [.int .i64 t.start]:=by rw [nth_row (by omega),ht];rfl
  have n1:nth (w.map (Row.row (α:=Int))) 1=some [.int .i64 t.blue]:=by rw [nth_row (by omega),ht];rfl
  have k0:wb<H1.length:=by omega
  have k1:ob<H1.length:=by omega
  have k2:wo<H1.length:=by omega
  have k3:n<H1.length:=by omega
  have k4:n+2<H1.length:=by omega
  have k5:n+4<H1.length:=by omega
  have u0:¬wb=n:=by omega
  have u1:¬n=wb:=by omega
  have u2:¬wb=n+2:=by omega
  have u3:¬n+2=wb:=by omega
  have u4:¬wb=n+4:=by omega
  have u5:¬n+4=wb:=by omega
  have u6:¬ob=n:=by omega
  have u7:¬n=ob:=by omega
  have u8:¬ob=n+2:=by omega
  have u9:¬n+2=ob:=by omega
  have u10:¬ob=n+4:=by omega
  have u11:¬n+4=ob:=by omega
  have u12:¬wo=n:=by omega
  have u13:¬n=wo:=by omega
  have u14:¬wo=n+2:=by omega
  have u15:¬n+2=wo:=by omega
  have u16:¬wo=n+4:=by omega
  have u17:¬n+4=wo:=by omega
  have z0:¬wb=H1.length:=by omega
  have z1:¬H1.length=wb:=by omega
  have z2:¬ob=H1.length:=by omega
  have z3:¬H1.length=ob:=by omega
  have z4:¬wo=H1.length:=by omega
  have z5:¬H1.length=wo:=by omega
  have z6:¬n=H1.length:=by omega
  have z7:¬H1.length=n:=by omega
  have z8:¬n+2=H1.length:=by omega
  have z9:¬H1.length=n+2:=by omega
  have z10:¬n+4=H1.length:=by omega
  have z11:¬H1.length=n+4:=by omega
  simp only [go_sem,truthsBody,getH_left,setH_left,getH_setH,length_setH,getH_atL,getH_atL0,disj_nil,k0,k1,k2,k3,k4,k5,u0,u1,u2,u3,u4,u5,u6,u7,u8,u9,u10,u11,u12,u13,u14,u15,u16,u17,z0,z1,z2,z3,z4,z5,z6,z7,z8,z9,z10,z11,e0,e1,e2,e3,e4,e5,p0,p1,p2,n0,n1]
  obtain ⟨Ht,hHt⟩:∃Ht,Ht=H1++[.cells [.int .i64 t.start,.int .i64 t.blue,.sl (n+4) 0 2 (w.length-2)]]:=⟨_,rfl⟩
  rw [←hHt]
  have lt1:Ht.length=H1.length+1:=by rw [hHt];simp
  have hc1:∀Hx,getH Hx (n+4) = .arr false 0 1 (w.map Row.row)→RdI Hx (.sl (n+4) 0 2 (w.length-2)) t.drift:=fun Hx h=>by
    have:=RdI.sl (H:=Hx) (n+4) 0 false 2 (w.length-2) w h (by omega)
    rw [List.take_of_length_le (by simp)] at this
    rw [ht];exact this
  have t3:getH Ht wo = .cells (workC g1 g2 g3 g4 v mo):=by rw [hHt];exact getH_keep e3 (by simp)
  have tM:MapOk mo Ht:=by rw [hHt];exact M1.keep (own:=fun _=>False) Keep.append id
  refine (Fplay (g1:=g1) (g2:=g2) (g3:=g3) (g4:=g4) hv hIs t3 tM (hc1 _ (by rw [hHt];exact getH_keep e4 (by simp)))).mono ?_
  rintro r H2 ⟨so,ver,rfl,hso,hge,K2,M2⟩
  have k2:=K2.1
  have hx:∀o x,o<H1.length→o≠mo→getH H1 o=x→x ≠ .none→getH H2 o=x:=fun o x h h' hx hne=>K2.get h' (by rw [hHt];exact getH_keep hx hne) hne
  have f0:=hx n _ (by omega) (by omega) e0 (by simp)
  have f1:=hx wb _ (by omega) nbm e1 (by simp)
  have f2:=hx ob _ (by omega) nom e2 (by simp)
  have f3:=hx wo _ (by omega) nwm e3 (by simp)
  have f4:=hx (n+4) _ (by omega) (by omega) e4 (by simp)
  have f5:=hx (n+2) _ (by omega) (by omega) e5 (by simp)
  have f6:getH H2 H1.length = .cells [.int .i64 t.start,.int .i64 t.blue,.sl (n+4) 0 2 (w.length-2)]:=K2.get (by omega) (by rw [hHt];exact getH_atL0 rfl) (by simp)
  have lso:=lt_of_getH (h:=H2) (o:=so) (by rw [hso];simp)
  have K12:Keep (fun o=>o=mo) H1 H2:=⟨by omega,fun o h h'=>by rw [K2.2 o h (by omega),hHt,getH_left h']⟩
  have KX:∀X,Keep (fun o=>o=mo∨o=n+2) H (H2++X):=fun X=>⟨by simp;omega,fun o h h'=>by rw [getH_left (by omega),K12.2 o (fun e=>h (.inl e)) (by omega),g o (fun e=>h (.inr e))]⟩
  have MX:∀X,MapOk mo (H2++X):=fun X=>M2.keep (own:=fun _=>False) Keep.append id
  have RXk:∀X,R s (H2++X):=fun X=>hR _ _ _ hRr.r ((KX X).mono fun o h=>by rcases h with h | h;exact .inr h;exact .inl ⟨by omega,by omega⟩) (MX X)
  obtain ⟨go,hgo⟩:=(ho _ hRr.k).arg2
  have hKo:∀X,Keep (fun o=>own o∨o=mo) H0 (H2++X):=fun X=>⟨by have:=hRr.k.1;have:=(KX X).1;omega,fun o h h'=>by rw [(KX X).2 o (fun e=>by rcases e with e | e;exact h (.inr e);omega) (by have:=hRr.k.1;omega),hRr.k.2 o h h']⟩
  have hOc:∀X,toArgC (H2++X) oc=some (L go out):=fun X=>hgo _ (ho _ (hKo X))
  have pl:=playL_len (v:=v) (t:=t)
  have xp:takeN v.drift.length ((playL v t).map (Row.row (α:=St)))=some ((playL v t).map Row.row):=takeN_map pl
  have hts:tstep v out step s w=if rightL v out (playL v t)=true then step s t else (s,true):=by rw [ht];rfl
  -- behind a round
  have fin:∀(Hx:List Obj) (lp':ALoop) (s':σ) (R':σ→List Obj→Prop),Keep own (H2++[]) Hx∨(∃X,Keep own (H2++X) Hx)→R' s' (setH Hx (n+2) (.loop lp'))→Keep (tOwn n mo own) H (setH Hx (n+2) (.loop lp'))∧tR n mo F own H0 lp' R' s' (setH Hx (n+2) (.loop lp')):=by
    intro Hx lp' s' R' hKx hr
    obtain ⟨X,hKx⟩:∃X,Keep own (H2++X) Hx:=by rcases hKx with h | h;exact ⟨[],h⟩;exact h
    have l1:=hKx.1
    simp only [List.length_append] at l1
    have hK:Keep (tOwn n mo own) H (setH Hx (n+2) (.loop lp')):=by
      refine ⟨by rw [length_setH];omega,fun o h h'=>?_⟩
      simp only [tOwn,not_or] at h
      rw [getH_setH,if_neg (fun e=>h.2.2 e.1),hKx.2 o h.1 (by simp;omega),(KX X).2 o (by omega) h']
    refine ⟨hK,⟨?_,?_,?_,hr⟩⟩
    · refine ⟨by have:=hK.1;have:=hRr.k.1;omega,fun o h h'=>?_⟩
      rw [hK.2 o (fun e=>by rcases e with e | e | e;exact h (.inl e);exact h (.inr e);omega) (by have:=hRr.k.1;omega),hRr.k.2 o h h']
    · rw [getH_setH,if_neg (by omega)]
      exact hKx.get (hown n (Nat.le_refl _) (by omega)) (getH_keep f0 (by simp)) (by simp)
    · rw [getH_setH,if_pos ⟨rfl,by omega⟩]
  simp only [go_sem,getH_left,setH_left,getH_setH,length_setH,f1,f3,show wb<H2.length by omega,show wo<H2.length by omega]
  refine RX_whileU (α:=Nat × List Obj) (fun x=>[(7,.c (.bool ((List.range x.1).all (rightAt v out (playL v t))))),(35,.c (.int .i64 x.1))]) (fun x=>H2++x.2) (fun x=>x.1≤v.looks.length) (fun x=>v.looks.length-x.1) (0,[]) (Nat.zero_le _) (by simp only [go_sem]<;>rfl) ?_
  rintro ⟨i,X⟩ hi
  simp only at hi
  have i0:(0:Int)≤i:=by omega
  have e6:IntKind.i64.wrap ((i:Int)+1)=((i+1:Nat):Int):=wrap_succ (n:=3000) (by omega) (by decide)
  have j0:wb<H2.length:=by omega
  have j1:ob<H2.length:=by omega
  have j2:wo<H2.length:=by omega
  have j3:n<H2.length:=by omega
  have j4:n+2<H2.length:=by omega
  have j5:n+4<H2.length:=by omega
  have j6:H1.length<H2.length:=by omega
  have j7:so<H2.length:=by omega
  by_cases hlt:i<v.looks.length
  · have i1:(i:Int)<v.looks.length:=by omega
    obtain ⟨lk,hlk⟩:∃lk,lk=v.looks.getD i default:=⟨_,rfl⟩
    have hlv:=hv.looks lk (by rw [hlk];exact getD_mem hlt)
    have hro:rightAt v out (playL v t) i=(decide ((i:Int)∈out)||rightK lk (playL v t)):=by rw [rightAt,←hlk]
    have hrk:(List.range (i+1)).all (rightAt v out (playL v t))=((List.range i).all (rightAt v out (playL v t))&&rightAt v out (playL v t) i):=by rw [List.range_succ,List.all_append];simp
    have hC:=fun {g:Bool × Bool} {Q:V→Prop}=>CallP_of (Contains_ok (G:=tab) (k:=140) rfl rfl (g:=g) (l:=out) (v:=(i:Int)) hoB) (Q:=Q)
    have hRt:=fun {g:Bool × Bool} {Q:V→Prop}=>cright (g:=g) (k:=lk) (l:=playL v t) hlv.1.1 (by omega) (Q:=Q)
    have hat:atI v.looks (i:Int)=lk:=by rw [atI_nat,hlk]
    cases hb:(List.range i).all (rightAt v out (playL v t)) with
    | false=>
      simp only [go_sem,getH_left,setH_left,getH_setH,length_setH,getH_atL,getH_atL0,setH_atL,setH_atL0,isHole_atL,isHole_atL0,j0,j1,j2,j3,j4,j5,j6,j7,i0,i1,hlt,hat,hb,e6]
      exact ⟨(i+1,X++[.cells [.int .i64 lk.day,.bool lk.bal,.int .i64 lk.n.lo,.int .i64 lk.n.hi]]),⟨by simp only;omega,hlt⟩,⟨by simp only [hrk,hb,Bool.false_and],rfl⟩,rfl⟩
    | true=>
      by_cases hm:(i:Int)∈out
      · simp only [go_sem,getH_left,setH_left,getH_setH,length_setH,getH_atL,getH_atL0,setH_atL,setH_atL0,isHole_atL,isHole_atL0,j0,j1,j2,j3,j4,j5,j6,j7,i0,i1,hlt,hat,hb,e6,f2,hOc,hC,hm]
        exact ⟨(i+1,X++[.cells [.int .i64 lk.day,.bool lk.bal,.int .i64 lk.n.lo,.int .i64 lk.n.hi]]),⟨by simp only;omega,hlt⟩,⟨by simp only [hrk,hb,hro,hm,Bool.true_and,decide_true,Bool.true_or],rfl⟩,rfl⟩
      · simp only [go_sem,getH_left,setH_left,getH_setH,length_setH,getH_atL,getH_atL0,setH_atL,setH_atL0,isHole_atL,isHole_atL0,j0,j1,j2,j3,j4,j5,j6,j7,i0,i1,hlt,hat,hb,e6,f2,hOc,hC,hm,hso,xp,pl,hRt]
        exact ⟨(i+1,X++[.cells [.int .i64 lk.day,.bool lk.bal,.int .i64 lk.n.lo,.int .i64 lk.n.hi]]),⟨by simp only;omega,hlt⟩,⟨by simp only [hrk,hb,hro,hm,Bool.true_and,decide_false,Bool.false_or],rfl⟩,rfl⟩
  · have:i=v.looks.length:=by omega
    subst this
    have hrr:(List.range v.looks.length).all (rightAt v out (playL v t))=rightL v out (playL v t):=rfl
    rw [hrr]
    have l5:n+2<H2.length:=by omega
    have lX:∀Y:List Obj,n+2<(H2++Y).length:=fun Y=>by simp;omega
    cases hr:rightL v out (playL v t) with
    | false=>
      simp only [go_sem,getH_left,setH_left,getH_setH,length_setH,getH_atL,getH_atL0,setH_atL,setH_atL0,isHole_atL,isHole_atL0,j0,j1,j2,j3,j4,j5,j6,j7,hlt,hr,bodyX,f5]
      refine ⟨lb,rfl,?_⟩
      rw [q1,←setH_left l5,hts,if_neg (by rw [hr];decide)]
      have hf:=fin (H2++X) lp s R (.inr ⟨X,Keep.refl⟩) (hR _ _ _ (RXk X) (setK (.inl ⟨by omega,by omega⟩)) ((MX X).keep (own:=fun o=>o=n+2) (setK rfl) (by omega)))
      exact yQ_true rfl hf.1 hf.2
    | true=>
      simp only [go_sem,getH_left,setH_left,getH_setH,length_setH,getH_atL,getH_atL0,setH_atL,setH_atL0,isHole_atL,isHole_atL0,j0,j1,j2,j3,j4,j5,j6,j7,hlt,hr,bodyX,f0,f5,f6]
      refine (hF s (H2++X) t _ so ver (by simp;omega) (by rw [ht];exact hCw (by rw [←ht];exact hr)) hIs (hc1 _ (by rw [getH_left (by omega)];exact f4)) (by rw [getH_left lso];exact hso) (by omega) (RXk X)).mono ?_
      rintro r H3 ⟨rfl,K3,hr3⟩
      have f7:=K3.get (hown (n+2) (by omega) (by omega)) (getH_keep f5 (by simp)) (by simp)
      rcases hr3 with ⟨a,b⟩ | ⟨a,b⟩
      · simp only [go_sem,a,f7,bodyX]
        refine ⟨lb,rfl,?_⟩
        rw [q1,hts,if_pos hr]
        have hf:=fin H3 lp (step s t).1 R (.inr ⟨X,K3⟩) (hR _ _ _ b (setK (.inl ⟨by omega,by omega⟩)) ((hRm _ _ b).keep (own:=fun o=>o=n+2) (setK rfl) (by omega)))
        exact yQ_true a hf.1 hf.2
      · simp only [go_sem,a,f7,bodyX]
        refine ⟨lb,rfl,?_⟩
        rw [q2,hts,if_pos hr]
        have hf:=fin H3 lpd (step s t).1 RS (.inr ⟨X,K3⟩) (hRS _ _ _ b (setK ⟨by omega,by omega⟩))
        exact yQ_false a hf.1 hf.2
end
end Am.Vt
namespace Am.Vt
open Go Am
set_option maxRecDepth 100000
set_option maxHeartbeats 4000000
set_option linter.unusedSimpArgs false
set_option linter.unusedVariables false
variable {g1 g2 g3 g4:Bool × Bool} {v:Vat}
section
variable {σ:Type} {own:Nat→Prop} {F:C} {R RS:σ→List Obj→Prop} {step:σ→Truth→σ × Bool} {C0:σ→Truth→Prop} {n wb ob wo mo:Nat} {out:List Int} {oc:C}
theorem truths1_ok (hv:v.Valid) {H:List Obj} (hn:H.length=n) (hoB:out.length<Big) (hkn:known [F]=true) (h1:¬own wb) (h2:¬own ob) (h3:¬own wo) (hown:∀o,n≤o→o<n+7→¬own o)
    (hR:∀s H H',R s H→Keep (fun o=>(n≤o∧o<n+7)∨o=mo) H H'→MapOk mo H'→R s H') (hRS:∀s H H',RS s H→Keep (fun o=>n≤o∧o<n+7) H H'→RS s H') (hRm:∀s H,R s H→MapOk mo H) (hF:TYield v (n+7) C0 own F R RS step)
    (hwb:getH H wb = .cells [.ptr wo 0]) (hob:getH H ob = .cells [oc]) (hw:getH H wo = .cells (workC g1 g2 g3 g4 v mo)) (ho:∀H',Keep (fun o=>own o∨o=mo) H H'→RdI H' oc out) {s:σ} (hRs:R s H) (hC:FoldC C0 step s (truthsL v out)) :
    Fn tab (.f 138 [.c F,.c (.ptr wb 0),.c (.ptr ob 0)] H) fun _ H'=>Keep (fun o=>own o∨o=mo) H H'∧(((foldY step s (truthsL v out)).2=true∧R (foldY step s (truthsL v out)).1 H')∨((foldY step s (truthsL v out)).2=false∧RS (foldY step s (truthsL v out)).1 H')):=by
  refine Fn_X (fn:=f138) rfl rfl ?_
  have lwb:=lt_of_getH (h:=H) (o:=wb) (by rw [hwb];simp)
  have lob:=lt_of_getH (h:=H) (o:=ob) (by rw [hob];simp)
  have lwo:=lt_of_getH (h:=H) (o:=wo) (by rw [hw];simp)
  have hM:=hRm _ _ hRs
  obtain ⟨es,hes,hmo⟩:=hM
  have lmo:=lt_of_getH (h:=H) (o:=mo) (by rw [hmo];simp)
  have nwm:wo≠mo:=by rintro rfl;rw [hw] at hmo;cases hmo
  have nbm:wb≠mo:=by rintro rfl;rw [hwb] at hmo;cases hmo
  have nom:ob≠mo:=by rintro rfl;rw [hob] at hmo;cases hmo
  have v1:=hv.drift
  have v4:=hv.last7
  have hP:=fun {Q:V→Prop}=>cranges (g1:=g1) (g2:=g2) (g3:=g3) (g4:=g4) (v:=v) (show v.drift.length≤1000 by omega) (Q:=Q)
  subst hn
  have z0:¬wb=H.length:=by omega
  have z1:¬H.length=wb:=by omega
  have z2:¬wb=H.length+1:=by omega
  have z3:¬H.length+1=wb:=by omega
  have z4:¬wb=H.length+2:=by omega
  have z5:¬H.length+2=wb:=by omega
  have z6:¬ob=H.length:=by omega
  have z7:¬H.length=ob:=by omega
  have z8:¬ob=H.length+1:=by omega
  have z9:¬H.length+1=ob:=by omega
  have z10:¬ob=H.length+2:=by omega
  have z11:¬H.length+2=ob:=by omega
  have z12:¬wo=H.length:=by omega
  have z13:¬H.length=wo:=by omega
  have z14:¬wo=H.length+1:=by omega
  have z15:¬H.length+1=wo:=by omega
  have z16:¬wo=H.length+2:=by omega
  have z17:¬H.length+2=wo:=by omega
  have hLs:=fun {g:Bool × Bool} {H:List Obj} {Q:V→List Obj→Prop}=>lists_ok (G:=tab) (k:=139) (kL:=148) rfl (rs:=rangesL v) (g:=g) (H:=H) (Q:=Q)
  simp only [go_sem,f138,hkn,getH_left,lwb,lob,lwo,z0,z1,z2,z3,z4,z5,z6,z7,z8,z9,z10,z11,z12,z13,z14,z15,z16,z17,hwb,hob,hw,hP,hLs]
  refine RX_range ?_
  generalize hlp:ALoop.mk .ready _ _ _ _ _=lp
  simp only [Opd.ev,getS,CallV_fn,firstV,List.length_append,List.length_cons,List.length_nil,List.append_assoc,List.cons_append,List.nil_append,List.map_cons,List.map_nil,Nat.zero_add,Nat.reduceAdd,Nat.add_assoc,Bool.false_eq_true,if_false]
  have hy:=truths_yield (F:=F) (out:=out) (oc:=oc) (R:=R) (RS:=RS) (step:=step) (g1:=g1) (g2:=g2) (g3:=g3) (g4:=g4) (n:=H.length) (mo:=mo) hv (H0:=H) rfl hoB hkn h1 h2 h3 hown hR hRS hRm hF hwb hob hw lmo nwm nbm nom ho (vs:=List.replicate 44 (.c .any)) rfl (lp:=lp) (lpd:={ lp with state:=.done,pending:=.ret }) hlp.symm rfl
  refine (lists1_ok (G:=tab) (F:=.yld (H.length+2)) (kL:=148) (kC:=149) (kS:=88) rfl rfl csize hv.rgs (g:=(false,false)) (lb:=H.length+1) (own:=tOwn H.length mo own) (R:=tR H.length mo F own H lp R) (RS:=tR H.length mo F own H { lp with state:=.done,pending:=.ret } RS) (step:=tstep v out step) rfl (fun h=>by rcases h with h | h | h;exact hown _ (by omega) (by omega) h;all_goals omega) (s:=s) (fun o ho ho2 h=>?_) (fun s' H1 H2 hr hk=>?_) ?_ (FoldC_t hC) ?_ ?_).mono ?_
  · simp only [List.length_append,List.length_cons,List.length_nil] at ho ho2
    rcases h with h | h | h
    · exact hown _ (by omega) (by omega) h
    all_goals omega
  · simp only [List.length_append,List.length_cons,List.length_nil] at hk
    have hk1:=hk.1
    have l0:=lt_of_getH (h:=H1) (o:=H.length+2) (by rw [hr.lp];simp)
    refine ⟨⟨by have:=hr.k.1;omega,fun o ho hl=>by rw [hk.2 o (by omega) (by omega),hr.k.2 o ho hl]⟩,hk.get (by omega) hr.yb (by simp),hk.get (by omega) hr.lp (by simp),hR _ _ _ hr.r (hk.mono fun o h=>.inl (by omega)) ((hRm _ _ hr.r).keep hk (by omega))⟩
  · simp only [List.length_append,List.length_cons,List.length_nil,Nat.zero_add,Nat.reduceAdd,Nat.add_assoc]
    exact hy
  · refine ⟨Keep.append,?_,?_,hR _ _ _ hRs Keep.append ((hRm _ _ hRs).keep (own:=fun _=>False) Keep.append id)⟩
    · simp only [go_sem]
    · simp only [go_sem]
  · simp only [go_sem]
  · rintro r H' ⟨hk,hr⟩
    rw [show listsF (rangesL v) []=listsA v from rfl,foldY_t] at hr
    have fin:∀lp',Keep (fun o=>own o∨o=mo) H H'→Keep (fun o=>own o∨o=mo) H (setH H' (H.length+2) (.loop lp')):=fun lp' k=>⟨by rw [length_setH];exact k.1,fun o ho hl=>by rw [getH_setH,if_neg (fun h=>by omega),k.2 o ho hl]⟩
    rcases hr with ⟨a,b⟩ | ⟨a,b⟩
    · refine ⟨lp,b.lp,by rw [←hlp];simp,?_⟩
      rw [show lp.pending = .normal by rw [←hlp]]
      simp only [go_sem]
      exact ⟨fin _ b.k,.inl ⟨a,hR _ _ _ b.r (setK (.inl ⟨by omega,by omega⟩)) ((hRm _ _ b.r).keep (own:=fun o=>o=H.length+2) (setK rfl) (by omega))⟩⟩
    · refine ⟨_,b.lp,by simp,?_⟩
      simp only [go_sem]
      exact ⟨fin _ b.k,.inr ⟨a,hRS _ _ _ b.r (setK ⟨by omega,by omega⟩)⟩⟩
end
theorem Ftruths {wo:Nat} {oc:C} {H:List Obj} (hk:known [oc]=true) {Q:V→List Obj→Prop}:Fn tab (.f 101 [.c (.ptr wo 0),.c oc] H) Q↔Q (.c (.fn 138 false [] [.ptr H.length 0,.ptr (H.length+1) 0])) (H++[.cells [.ptr wo 0],.cells [oc]]):=by
  refine Fn_iff (Fn_X (fn:=f101) rfl rfl ?_)
  simp only [go_sem,f101,hk]
def posBody : ACode:=(.block 1 (.seq (.region 0 [] [
          ⟨none,.store none (.tmp 4) (.cst (.c (.bool true))),none,0⟩])
        .ret))
structure posR (n mo:Nat) (b:Bool) (lp:ALoop) (u:Unit) (H:List Obj):Prop where
  c:getH H n = .cells [.bool b]
  lp:getH H (n+3) = .loop lp
  m:MapOk mo H
theorem pos_yield {n mo:Nat} {own:Nat→Prop} (ho:own=fun o=>o=n∨o=n+3) (hmo:mo≠n∧mo≠n+3) {lp lpd:ALoop} {v0 v1 v2 v3 v5 v6 v7 v8 v9:V} (hlp:lp=⟨.ready,.normal,[v0,v1,v2,v3,.c (.ptr n 0),v5,v6,v7,v8,v9],[8,9],.skip,posBody⟩) (hlpd:lpd={ lp with state:=.done,pending:=.ret }) :
    TYield v (n+11) (fun _ _=>True) own (.yld (n+3)) (posR n mo false lp) (posR n mo true lpd) (fun _ _=>((),false)):=by
  intro s H t c1 so ver hlen _ hIs r1 hso hge hR
  rw [CallV_y]
  have l3:=lt_of_getH (h:=H) (o:=n+3) (by rw [hR.lp];simp)
  refine Fn_y hR.lp (by rw [hlp];rfl) ?_
  rw [show lp.assign = .skip by rw [hlp],show lp.params=[8,9] by rw [hlp],show lp.slots=_ by rw [hlp]]
  simp only [go_sem,setParams,assignX,hR.lp]
  refine ⟨lp,rfl,by rw [hlp],rfl,?_⟩
  generalize hlb:ALoop.mk .busy _ _ _ _ _=lb
  rw [show lp.body=posBody by rw [hlp]]
  have hlb2:∀l:ALoop,Obj.loop lb = .loop l→({ l with state:=.done,pending:=.ret }:ALoop)=lpd:=fun l h=>by cases h;rw [←hlb,hlpd]
  clear hlb
  have k0:n<H.length:=by omega
  have e0:=hR.c
  simp only [go_sem,posBody,bodyX,getH_setH,length_setH,l3,k0,e0]
  refine ⟨lb,rfl,?_⟩
  have hq:=hlb2 lb rfl
  rw [hq]
  have hK:Keep own H (setH (setH (setH H (n+3) (.loop lb)) n (.cells [.bool true])) (n+3) (.loop lpd)):=by
    subst ho
    refine ⟨by simp [length_setH],fun o h hl=>?_⟩
    simp only [not_or] at h
    simp only [getH_setH,h,false_and,if_false]
  refine yQ_false rfl hK ⟨?_,?_,hR.m.keep hK (by subst ho;omega)⟩
  · simp only [go_sem,getH_setH,length_setH,k0,l3]
  · simp only [go_sem,getH_setH,length_setH,k0,l3]
theorem Fpossible (hv:v.Valid) {H:List Obj} {wo mo:Nat} {oc:C} {out:List Int} (hoB:out.length<Big) (hw:getH H wo = .cells (workC g1 g2 g3 g4 v mo)) (hM:MapOk mo H) (ho:RdI H oc out) :
    Fn tab (.f 113 [.c (.ptr wo 0),.c oc] H) fun r H'=>r = .c (.bool (posB v out))∧Keep (fun o=>o=mo) H H'∧MapOk mo H':=by
  refine Fn_X (fn:=f113) rfl rfl ?_
  have lwo:=lt_of_getH (h:=H) (o:=wo) (by rw [hw];simp)
  have lmo:=lt_of_getH (h:=H) (o:=mo) (by obtain ⟨es,_,h⟩:=hM;rw [h];simp)
  have hk:=ho.kn []
  simp only [go_sem,f113,Ftruths hk]
  refine RX_range ?_
  generalize hlp:ALoop.mk .ready _ _ _ _ _=lp
  simp only [Opd.ev,getS,CallV_fn,firstV,List.length_append,List.length_cons,List.length_nil,List.append_assoc,List.cons_append,List.nil_append,List.map_cons,List.map_nil,Nat.zero_add,Nat.reduceAdd,Nat.add_assoc,Bool.false_eq_true,if_false]
  have hy:=pos_yield (v:=v) (n:=H.length) (mo:=mo) rfl ⟨by omega,by omega⟩ (lp:=lp) hlp.symm rfl
  refine (truths1_ok (n:=H.length+4) (wb:=H.length+1) (ob:=H.length+2) (oc:=oc) (out:=out) (wo:=wo) (mo:=mo) (g1:=g1) (g2:=g2) (g3:=g3) (g4:=g4) hv (by simp) hoB rfl (by omega) (by omega) (by omega) (fun o h _=>by omega) (fun s H H' hr hk hm=>⟨hk.get (by omega) hr.c (by simp),hk.get (by omega) hr.lp (by simp),hm⟩) (fun s H H' hr hk=>⟨hk.get (by omega) hr.c (by simp),hk.get (by omega) hr.lp (by simp),hr.m.keep hk (by omega)⟩) (fun s H hr=>hr.m) hy (by simp only [go_sem]) (by simp only [go_sem]) (getH_keep hw (by simp)) ?_ (s:=()) ⟨by simp only [go_sem],by simp only [go_sem],hM.keep (own:=fun _=>False) Keep.append id⟩ FoldC_true).mono ?_
  · intro H' hk'
    refine ho.agree fun o fr ver rows hg=>?_
    have:=lt_of_getH (h:=H) (o:=o) (by rw [hg];simp)
    have nm:o≠mo:=by rintro rfl;obtain ⟨es,_,h⟩:=hM;rw [h] at hg;cases hg
    rw [hk'.2 o (by omega) (by simp;omega),getH_left this]
  · rintro r H' ⟨hk',hr⟩
    have hf:(foldY (fun (_:Unit) (_:Truth)=>((),false)) () (truthsL v out)).2 = !(posB v out):=by
      unfold posB
      cases truthsL v out<;>rfl
    rw [hf] at hr
    have l3:H.length+3<H'.length:=by rcases hr with ⟨_,h⟩ | ⟨_,h⟩<;>exact lt_of_getH (by rw [h.lp];simp)
    have l0:H.length<H'.length:=by omega
    have hK:∀W X,Keep (fun o=>o=mo) H (setH (setH H' (H.length+3) W) H.length X):=fun W X=>⟨by simp only [length_setH];omega,fun o _ hl=>by rw [getH_setH,if_neg (by omega),getH_setH,if_neg (by omega),hk'.2 o (by omega) (by simp;omega),getH_left hl]⟩
    have hK2:∀W,Keep (fun o=>o=mo) H (setH H' (H.length+3) W):=fun W=>⟨by simp only [length_setH];omega,fun o _ hl=>by rw [getH_setH,if_neg (by omega),hk'.2 o (by omega) (by simp;omega),getH_left hl]⟩
    have hMM:MapOk mo H':=by rcases hr with ⟨_,h⟩ | ⟨_,h⟩<;>exact h.m
    have hM1:∀W,MapOk mo (setH H' (H.length+3) W):=fun W=>hMM.keep (own:=fun o=>o=H.length+3) (setK rfl) (by omega)
    have hM2:∀W X,MapOk mo (setH (setH H' (H.length+3) W) H.length X):=fun W X=>(hM1 W).keep (own:=fun o=>o=H.length) (setK rfl) (by omega)
    rcases hr with ⟨a,b⟩ | ⟨a,b⟩
    · have hb:posB v out=false:=by simpa using a
      refine ⟨lp,b.lp,by rw [←hlp];simp,?_⟩
      rw [show lp.pending = .normal by rw [←hlp]]
      have e0:=b.c
      simp only [go_sem,getH_setH,length_setH,l0,l3,e0,hb]
      exact ⟨hK _ _,hM2 _ _⟩
    · have hb:posB v out=true:=by simpa using a
      refine ⟨_,b.lp,by simp,?_⟩
      have e0:=b.c
      simp only [go_sem,getH_setH,length_setH,l0,l3,e0,hb]
      exact ⟨hK2 _,hM1 _⟩
theorem Fwork {H:List Obj} {Q:V→List Obj→Prop}:Fn tab (.f 72 [vatV g1 g2 g3 g4 v] H) Q↔Q (.c (.ptr (H.length+2) 0)) (H++[.cells (vatC g1 g2 g3 g4 v),mapO [],.cells (workC g1 g2 g3 g4 v (H.length+1))]):=by
  refine Fn_iff (Fn_X (fn:=f72) rfl rfl ?_)
  simp only [go_sem,f72]
def askE (v:Vat) (b:Bool):Int:=if checkVat v≠0 then checkVat v else if b=false then 2 else if posB v []=false then 11 else 0
def AskRes (g1 g2 g3 g4:Bool × Bool) (v:Vat) (b:Bool) (H:List Obj) (r:V) (H':List Obj):Prop:=
  Keep (fun _=>False) H H'∧((askE v b≠0∧r = .tup [.c .nilp,.c (.int .i64 (askE v b))])∨(askE v b=0∧∃wo mo,H.length≤wo∧H.length≤mo∧r = .tup [.c (.ptr wo 0),.c (.int .i64 0)]∧getH H' wo = .cells (workC g1 g2 g3 g4 v mo)∧MapOk mo H'))
theorem Fasked (hf:v.Fits) {b:Bool} {H:List Obj}:Fn tab (.f 93 [vatV g1 g2 g3 g4 v,.c (.bool b)] H) (AskRes g1 g2 g3 g4 v b H):=by
  refine Fn_X (fn:=f93) rfl rfl ?_
  by_cases h0:checkVat v=0
  · have hv:=valid_of h0
    cases b with
    | false=>
      simp only [go_sem,f93,cCheckVat hf,h0]
      have:askE v false=2:=by simp [askE,h0]
      exact ⟨Keep.append,.inl (by rw [this];exact ⟨by decide,rfl⟩)⟩
    | true=>
      simp only [go_sem,f93,cCheckVat hf,h0,Fwork]
      refine (Fpossible (v:=v) (g1:=g1) (g2:=g2) (g3:=g3) (g4:=g4) (wo:=H.length+3) (mo:=H.length+2) (out:=[]) hv (by decide) (by simp only [go_sem]) ⟨[],EsOk.nil,by simp only [go_sem]⟩ (.lst (true,false) [])).mono ?_
      rintro r H' ⟨rfl,hk',hM⟩
      have l1:=hk'.1
      simp only [List.length_append,List.length_cons,List.length_nil] at l1
      have hK:Keep (fun _=>False) H H':=⟨by omega,fun o _ hl=>by rw [hk'.2 o (by omega) (by simp;omega),getH_left hl]⟩
      cases hb:posB v [] with
      | false=>
        simp only [go_sem]
        have:askE v true=11:=by simp [askE,h0,hb]
        exact ⟨hK,.inl (by rw [this];exact ⟨by decide,rfl⟩)⟩
      | true=>
        simp only [go_sem]
        have:askE v true=0:=by simp [askE,h0,hb]
        exact ⟨hK,.inr (by rw [this];exact ⟨rfl,H.length+3,H.length+2,by omega,by omega,rfl,hk'.get (by omega) (by simp only [go_sem]) (by simp),hM⟩)⟩
  · simp only [go_sem,f93,cCheckVat hf,h0]
    have:askE v b=checkVat v:=by simp [askE,h0]
    exact ⟨Keep.append,.inl (by rw [this];exact ⟨h0,rfl⟩)⟩
theorem ask_ok {b:Bool} (h:askE v b=0):checkVat v=0∧b=true∧posB v []=true:=by
  unfold askE at h
  split at h
  · rename_i h';exact absurd h h'
  · rename_i h'
    split at h
    · cases h
    · split at h
      · cases h
      · rename_i a b;exact ⟨by simpa using h',by simpa using a,by simpa using b⟩
end Am.Vt
namespace Am.Vt
open Go Am
set_option maxRecDepth 100000
set_option maxHeartbeats 4000000
set_option linter.unusedSimpArgs false
set_option linter.unusedVariables false
variable {g1 g2 g3 g4:Bool × Bool} {v:Vat}
section
variable {own:Nat→Prop} {F:C} {inv:List Obj→Prop} {val:Truth→Int}
def OfOk (v:Vat) (own:Nat→Prop) (F:C) (inv:List Obj→Prop) (val:Truth→Int):Prop:=
  ∀H t so ver,IsT v t→getH H so = .arr false ver 2 ((playL v t).map Row.row)→inv H→CallV tab (.c F) [.c (.sl so ver 0 v.drift.length)] H fun r H'=>r = .c (.int .i64 (val t))∧Keep own H H'∧inv H'
def bdAssign : ACode:=(.region 0 [] [
        ⟨(some 7),.mov (.tmp 12),none,0⟩])
def bdBody : ACode:=(.block 1 (.seq (.region 0 [] [
          ⟨(some 13),.load none (.tmp 3),none,0⟩,
          ⟨(some 14),.mov (.tmp 7),none,0⟩,
          ⟨(some 15),.callv (.tmp 13) [(.tmp 14)],none,0⟩,
          ⟨(some 8),.mov (.tmp 15),none,0⟩])
        (.seq (.seq (.region 0 [] [
          ⟨(some 16),.load none (.tmp 5),none,0⟩])
        (.cond (.tmp 16)
          (.region 0 [] [
            ⟨(some 17),.mov (.tmp 8),none,0⟩,
            ⟨(some 18),.mov (.tmp 8),none,0⟩,
            ⟨(some 19),.build [(.int .i64 0),(.int .i64 0)] [(0,1,(.tmp 17)),(1,1,(.tmp 18))],none,0⟩,
            ⟨none,.store (some 2) (.tmp 4) (.tmp 19),none,0⟩,
            ⟨none,.store none (.tmp 5) (.cst (.c (.bool false))),none,0⟩])
          .skip))
        (.region 0 [] [
          ⟨(some 20),.load (some 2) (.tmp 4),none,0⟩,
          ⟨(some 21),.mov (.tmp 8),none,0⟩,
          ⟨(some 22),.call 136 true [(.tmp 20),(.tmp 21)],none,0⟩,
          ⟨none,.store (some 2) (.tmp 4) (.tmp 22),none,0⟩]))))
structure bdR (n mo:Nat) (F:C) (inv:List Obj→Prop) (lp:ALoop) (s:Rg × Bool) (H:List Obj):Prop where
  fb:getH H n = .cells [F]
  r:getH H (n+1) = .cells [.int .i64 s.1.lo,.int .i64 s.1.hi]
  fi:getH H (n+2) = .cells [.bool s.2]
  lp:getH H (n+5) = .loop lp
  inv:inv H
abbrev bdOwn (n:Nat) (own:Nat→Prop) (o:Nat):Prop:=own o∨o=n+1∨o=n+2∨o=n+5
theorem bd_yield {n mo:Nat} (hown:∀o,n≤o→¬own o) (hmo:mo<n) (hinv:∀H H',inv H→Keep (fun o=>n≤o∨o=mo) H H'→MapOk mo H'→inv H') (him:∀H,inv H→MapOk mo H) (hF:OfOk v own F inv val) {RS:Rg × Bool→List Obj→Prop} {v0 v1 v2 v6 v7 v8 v9 v10 v11 v12:V} {lp:ALoop}
    (hlp:lp=⟨.ready,.normal,[v0,v1,v2,.c (.ptr n 0),.c (.ptr (n+1) 0),.c (.ptr (n+2) 0),v6,v7,v8,v9,v10,v11,v12]++List.replicate 11 (.c .any),[11,12],bdAssign,bdBody⟩) :
    TYield v (n+13) (fun _ _=>True) (bdOwn n own) (.yld (n+5)) (bdR n mo F inv lp) RS (bdStep val):=by
  intro s H t c1 so ver hlen _ hIs r1 hso hge hR
  rw [CallV_y]
  have l5:=lt_of_getH (h:=H) (o:=n+5) (by rw [hR.lp];simp)
  refine Fn_y hR.lp (by rw [hlp];rfl) ?_
  rw [show lp.assign=bdAssign by rw [hlp],show lp.params=[11,12] by rw [hlp],show lp.slots=_ by rw [hlp]]
  simp only [go_sem,bdAssign,setParams,assignX,hR.lp]
  refine ⟨lp,rfl,by rw [hlp],rfl,?_⟩
  generalize hlb:ALoop.mk .busy _ _ _ _ _=lb
  rw [show lp.body=bdBody by rw [hlp]]
  have hlb1:∀l:ALoop,Obj.loop lb = .loop l→({ l with state:=.ready,pending:=.normal }:ALoop)=lp:=fun l h=>by cases h;rw [←hlb,hlp]
  clear hlb
  have hq:=hlb1 lb rfl
  obtain ⟨H1,hH1⟩:∃H1,H1=setH H (n+5) (.loop lb):=⟨_,rfl⟩
  rw [←hH1]
  have len:H1.length=H.length:=by rw [hH1,length_setH]
  have g:∀o,o≠n+5→getH H1 o=getH H o:=fun o ho=>by rw [hH1,getH_setH,if_neg (fun h=>ho h.1)]
  have e0:=(g n (by omega)).trans hR.fb
  have e1:=(g (n+1) (by omega)).trans hR.r
  have e2:=(g (n+2) (by omega)).trans hR.fi
  have e5:getH H1 (n+5) = .loop lb:=by rw [hH1,getH_setH,if_pos ⟨rfl,l5⟩]
  have hK1:Keep (fun o=>n≤o∨o=mo) H H1:=by rw [hH1];exact setK (.inl (by omega))
  have hM1:MapOk mo H1:=(him _ hR.inv).keep (own:=fun o=>o=n+5) (by rw [hH1];exact setK rfl) (by omega)
  simp only [go_sem,bdBody,e0,e1,e2]
  refine (hF H1 t so ver hIs ((g so (by omega)).trans hso) (hinv _ _ hR.inv hK1 hM1)).mono ?_
  rintro r H' ⟨rfl,hk,hi⟩
  have hlen:=hk.1
  have d0:=hk.get (hown n (by omega)) e0 (by simp)
  have d1:=hk.get (hown (n+1) (by omega)) e1 (by simp)
  have d2:=hk.get (hown (n+2) (by omega)) e2 (by simp)
  have d5:=hk.get (hown (n+5) (by omega)) e5 (by simp)
  have h0:n<H'.length:=by omega
  have h1:n+1<H'.length:=by omega
  have h2:n+2<H'.length:=by omega
  have h3:n+5<H'.length:=by omega
  have fin:∀H2:List Obj,H2.length=H'.length→(∀o,o≠n+1→o≠n+2→o≠n+5→getH H2 o=getH H' o)→getH H2 (n+1) = .cells [.int .i64 (bdStep val s t).1.1.lo,.int .i64 (bdStep val s t).1.1.hi]→getH H2 (n+2) = .cells [.bool false]→getH H2 (n+5) = .loop lp→yQ (bdOwn n own) H (bdR n mo F inv lp) RS (bdStep val s t) (.c (.bool true)) H2:=by
    intro H2 hl2 hg2 w1 w2 w5
    have hK2:Keep (fun o=>o=n+1∨o=n+2∨o=n+5) H' H2:=⟨by omega,fun o ho hl=>by simp only [not_or] at ho;exact hg2 o ho.1 ho.2.1 ho.2.2⟩
    refine yQ_true rfl ⟨by omega,fun o ho hl=>?_⟩ ⟨?_,w1,w2,w5,hinv _ _ hi (hK2.mono fun o h=>.inl (by omega)) ((him _ hi).keep hK2 (by omega))⟩
    · simp only [bdOwn,not_or] at ho
      rw [hg2 o ho.2.1 ho.2.2.1 ho.2.2.2,hk.2 o ho.1 (by omega),g o ho.2.2.2]
    · rw [hg2 n (by omega) (by omega) (by omega),d0]
  obtain ⟨⟨lo,hi⟩,fi⟩:=s
  cases fi with
  | true=>
    simp only [go_sem,d1,d2,getH_setH,length_setH,h0,h1,h2,h3,cwider,bodyX,d5]
    refine ⟨lb,rfl,?_⟩
    rw [hq]
    refine fin _ (by simp only [length_setH]) (fun o h1 h2 h5=>by simp only [getH_setH,h1,h2,h5,false_and,if_false]) ?_ ?_ ?_<;>simp only [go_sem,getH_setH,length_setH,h0,h1,h2,h3,bdStep]
  | false=>
    simp only [go_sem,d1,d2,getH_setH,length_setH,h0,h1,h2,h3,cwider,bodyX,d5]
    refine ⟨lb,rfl,?_⟩
    rw [hq]
    refine fin _ (by simp only [length_setH]) (fun o h1 h2 h5=>by simp only [getH_setH,h1,h2,h5,false_and,if_false]) ?_ ?_ ?_<;>simp only [go_sem,getH_setH,length_setH,h0,h1,h2,h3,bdStep,d2]
theorem Fbounds (hv:v.Valid) {H:List Obj} {wo mo:Nat} (hw:getH H wo = .cells (workC g1 g2 g3 g4 v mo)) (ho:¬own wo) (hown:∀o,H.length≤o→¬own o) (hinv:∀H1 H2,inv H1→Keep (fun o=>H.length≤o∨o=mo) H1 H2→MapOk mo H2→inv H2) (him:∀H,inv H→MapOk mo H) (hkn:known [F]=true) (hF:OfOk v own F inv val) (hi:inv H) :
    Fn tab (.f 94 [.c (.ptr wo 0),.c F] H) fun r H'=>r = .agg [.int .i64 (bdL val (truthsL v [])).lo,.int .i64 (bdL val (truthsL v [])).hi]∧Keep (fun o=>own o∨o=mo) H H'∧inv H':=by
  refine Fn_X (fn:=f94) rfl rfl ?_
  have lwo:=lt_of_getH (h:=H) (o:=wo) (by rw [hw];simp)
  have hM:=him _ hi
  have lmo:=lt_of_getH (h:=H) (o:=mo) (by obtain ⟨es,_,h⟩:=hM;rw [h];simp)
  simp only [go_sem,f94,hkn,Ftruths (oc:=.nils) rfl]
  refine RX_range ?_
  generalize hlp:ALoop.mk .ready _ _ _ _ _=lp
  simp only [Opd.ev,getS,CallV_fn,firstV,List.length_append,List.length_cons,List.length_nil,List.append_assoc,List.cons_append,List.nil_append,List.map_cons,List.map_nil,Nat.zero_add,Nat.reduceAdd,Nat.add_assoc,Bool.false_eq_true,if_false]
  have hy:=bd_yield (v:=v) (n:=H.length) hown lmo hinv him hF (lp:=lp) (RS:=fun _ _=>False) hlp.symm
  have hMG:∀X,MapOk mo (H++X):=fun X=>hM.keep (own:=fun _=>False) Keep.append id
  refine (truths1_ok (n:=H.length+6) (wb:=H.length+3) (ob:=H.length+4) (oc:=.nils) (out:=[]) (wo:=wo) (mo:=mo) (g1:=g1) (g2:=g2) (g3:=g3) (g4:=g4) hv (by simp) (by decide) rfl (fun h=>?_) (fun h=>?_) (fun h=>?_) (fun o h _ h'=>?_) (fun s H H' hr hk hm=>⟨hk.get (by omega) hr.fb (by simp),hk.get (by omega) hr.r (by simp),hk.get (by omega) hr.fi (by simp),hk.get (by omega) hr.lp (by simp),hinv _ _ hr.inv (hk.mono fun o h=>by omega) hm⟩) (fun s H H' hr hk=>hr.elim) (fun s H hr=>him _ hr.inv) hy (by simp only [go_sem]) (by simp only [go_sem]) (getH_keep hw (by simp)) (fun H' _=>.lst (true,false) []) (s:=(⟨0,0⟩,true)) ⟨by simp only [go_sem],by simp only [go_sem],by simp only [go_sem],by simp only [go_sem],hinv _ _ hi Keep.append (hMG _)⟩ FoldC_true).mono ?_
  · rcases h with h | h | h | h
    · exact hown _ (by omega) h
    all_goals omega
  · rcases h with h | h | h | h
    · exact hown _ (by omega) h
    all_goals omega
  · rcases h with h | h | h | h
    · exact ho h
    all_goals omega
  · rcases h' with h' | h' | h' | h'
    · exact hown _ (by omega) h'
    all_goals omega
  · rintro r H' ⟨hk',hr⟩
    rcases hr with ⟨_,b⟩ | ⟨_,b⟩
    · have l5:=lt_of_getH (h:=H') (o:=H.length+5) (by rw [b.lp];simp)
      have l1:H.length+1<H'.length:=by omega
      refine ⟨lp,b.lp,by rw [←hlp];simp,?_⟩
      rw [show lp.pending = .normal by rw [←hlp]]
      have e0:=b.r
      have hKf:∀W X,Keep (fun o=>H.length≤o∨o=mo) H' (setH (setH H' (H.length+5) W) (H.length+1) X):=fun W X=>(setK (.inl (by omega))).trans (setK (.inl (by omega)))
      have hMf:∀W X,MapOk mo (setH (setH H' (H.length+5) W) (H.length+1) X):=fun W X=>((him _ b.inv).keep (own:=fun o=>o=H.length+5) (setK rfl) (by omega)).keep (own:=fun o=>o=H.length+1) (setK rfl) (by omega)
      simp only [go_sem,getH_setH,length_setH,l1,l5,e0]
      refine ⟨⟨rfl,rfl⟩,⟨by simp only [length_setH];omega,fun o ho' hl=>?_⟩,hinv _ _ b.inv (hKf _ _) (hMf _ _)⟩
      rw [getH_setH,if_neg (by omega),getH_setH,if_neg (by omega),hk'.2 o (fun h=>by rcases h with (h | h | h | h) | h;exact ho' (.inl h);omega;omega;omega;exact ho' (.inr h)) (by simp;omega),getH_left hl]
    · exact b.elim
end
end Am.Vt
namespace Am.Vt
open Go Am
set_option maxRecDepth 100000
set_option maxHeartbeats 4000000
set_option linter.unusedSimpArgs false
set_option linter.unusedVariables false
variable {g1 g2 g3 g4:Bool × Bool} {v:Vat}
structure WInv (g1 g2 g3 g4:Bool × Bool) (v:Vat) (wo mo:Nat) (H:List Obj):Prop where
  w:getH H wo = .cells (workC g1 g2 g3 g4 v mo)
  m:MapOk mo H
theorem WInv.ne {wo mo:Nat} {H:List Obj} (h:WInv g1 g2 g3 g4 v wo mo H):wo≠mo:=by rintro rfl;obtain ⟨es,_,e⟩:=h.m;rw [h.w] at e;cases e
theorem WInv.lw {wo mo:Nat} {H:List Obj} (h:WInv g1 g2 g3 g4 v wo mo H):wo<H.length:=lt_of_getH (by rw [h.w];simp)
theorem WInv.lm {wo mo:Nat} {H:List Obj} (h:WInv g1 g2 g3 g4 v wo mo H):mo<H.length:=by obtain ⟨es,_,e⟩:=h.m;exact lt_of_getH (by rw [e];simp)
theorem WInv.keep {wo mo:Nat} {own:Nat→Prop} {H H':List Obj} (h:WInv g1 g2 g3 g4 v wo mo H) (hk:Keep own H H') (h1:¬own wo) (hm:MapOk mo H'):WInv g1 g2 g3 g4 v wo mo H':=⟨hk.get h1 h.w (by simp),hm⟩
theorem WInv.app {wo mo:Nat} {H X:List Obj} (h:WInv g1 g2 g3 g4 v wo mo H):WInv g1 g2 g3 g4 v wo mo (H++X):=⟨getH_keep h.w (by simp),h.m.keep (own:=fun _=>False) Keep.append id⟩
theorem MapOk.app {mo:Nat} {H X:List Obj} (h:MapOk mo H):MapOk mo (H++X):=h.keep (own:=fun _=>False) Keep.append id
theorem cday' {n:Int} {Q:V→Prop}:CallP tab 91 [vatV g1 g2 g3 g4 v,.c (.int .i64 n)] Q↔Q (.c (.bool (inR n 0 v.last))):=cday
theorem cdays' (hv:v.Valid) {Q:V→Prop}:CallP tab 79 [vatV g1 g2 g3 g4 v] Q↔Q (.c (.int .i64 (v.drift.length:Nat))):=by
  rw [cdays]
  have h1:=hv.drift
  have h2:=hv.last7
  have h3:=hv.last0
  rw [wrapB (by omega) (by omega),h1]
def Sel (k:Nat) (sel:St→Int):Prop:=∀(H:List Obj) (s:St),CallV tab (.c (.fn k false [] [])) [.agg [.int .i64 s.bal,.int .i64 s.blue]] H fun r H'=>r = .c (.int .i64 (sel s))∧Keep (fun _=>False) H H'
theorem sel_bal : Sel 98 St.bal:=by
  intro H c
  rw [CallV_fn]
  refine Fn_X (fn:=f98) rfl rfl ?_
  simp only [go_sem,f98]
  exact Keep.append
theorem sel_blue : Sel 100 St.blue:=by
  intro H c
  rw [CallV_fn]
  refine Fn_X (fn:=f100) rfl rfl ?_
  simp only [go_sem,f100]
  exact Keep.append
structure OnInv (g1 g2 g3 g4:Bool × Bool) (v:Vat) (wo mo n kq:Nat) (d:Int) (H:List Obj):Prop where
  wi:WInv g1 g2 g3 g4 v wo mo H
  q:getH H n = .cells [.fn kq false [] []]
  d:getH H (n+1) = .cells [.int .i64 d]
theorem on1_ok (hv:v.Valid) {kq:Nat} {sel:St→Int} (hs:Sel kq sel) {wo mo n d:Nat} (hd:d<v.drift.length) (hn:n≠mo) (hn1:n+1≠mo) :
    OfOk v (fun _=>False) (.fn 137 false [] [.ptr n 0,.ptr (n+1) 0]) (OnInv g1 g2 g3 g4 v wo mo n kq d) (fun t=>sel (stAt v t (d+1))):=by
  intro H t so ver hIs hso hi
  rw [CallV_fn]
  refine Fn_X (fn:=f137) rfl rfl ?_
  have e1:=hi.q
  have e2:=hi.d
  have d0:(0:Int)≤d:=by omega
  have d1:(d:Int)<v.drift.length:=by omega
  have pl:=playL_len (v:=v) (t:=t)
  have hn':nth ((playL v t).map (Row.row (α:=St))) d=some [.int .i64 (stAt v t (d+1)).bal,.int .i64 (stAt v t (d+1)).blue]:=by
    rw [nth_get];simp [playL,hd];rfl
  simp only [go_sem,f137,e1,e2,d0,d1,hso,hn',disj_nil]
  refine (hs H (stAt v t (d+1))).mono ?_
  rintro r H' ⟨rfl,hk⟩
  simp only [go_sem]
  exact ⟨hk,hi.wi.keep hk id (hi.wi.m.keep hk id),hk.get id hi.q (by simp),hk.get id hi.d (by simp)⟩
theorem Fon (hv:v.Valid) {kq:Nat} {sel:St→Int} (hs:Sel kq sel) {H:List Obj} {wo mo d:Nat} (hd:d<v.drift.length) (hW:WInv g1 g2 g3 g4 v wo mo H) :
    Fn tab (.f 99 [.agg [.fn kq false [] []],.c (.ptr wo 0),.c (.int .i64 d)] H) fun r H'=>r = .agg [.int .i64 (bdL (fun t=>sel (stAt v t (d+1))) (truthsL v [])).lo,.int .i64 (bdL (fun t=>sel (stAt v t (d+1))) (truthsL v [])).hi]∧Keep (fun o=>o=mo) H H'∧WInv g1 g2 g3 g4 v wo mo H':=by
  refine Fn_X (fn:=f99) rfl rfl ?_
  have lw:=hW.lw
  have lm:=hW.lm
  have nwm:=hW.ne
  have hk:known [.fn kq false [] []]=true:=rfl
  simp only [go_sem,f99,hk]
  refine (Fbounds (v:=v) (g1:=g1) (g2:=g2) (g3:=g3) (g4:=g4) (own:=fun _=>False) (wo:=wo) (mo:=mo) (inv:=OnInv g1 g2 g3 g4 v wo mo H.length kq d) (val:=fun t=>sel (stAt v t (d+1))) hv (getH_keep hW.w (by simp)) id (fun _ _=>id) (fun H1 H2 h hk hm=>?_) (fun H h=>h.wi.m) rfl (on1_ok hv hs hd (by omega) (by omega)) ⟨hW.app,by simp only [go_sem],by simp only [go_sem]⟩).mono ?_
  · simp only [List.length_append,List.length_cons,List.length_nil] at hk
    exact ⟨h.wi.keep hk (by omega) hm,hk.get (by omega) h.q (by simp),hk.get (by omega) h.d (by simp)⟩
  · rintro r H' ⟨rfl,hk,hi⟩
    have l1:=hk.1
    simp only [List.length_append,List.length_cons,List.length_nil] at l1
    have e2:=hk.get (o:=H.length+2) (by simp;omega) (by simp only [go_sem]) (show Obj.cells [C.int .i64 0,C.int .i64 0] ≠ .none by simp)
    have l2:H.length+2<H'.length:=by omega
    simp only [go_sem,e2,getH_setH,l2]
    refine ⟨⟨by rw [length_setH];omega,fun o ho hl=>?_⟩,hi.wi.keep (own:=fun o=>o=H.length+2) (setK rfl) (by omega) (hi.wi.m.keep (own:=fun o=>o=H.length+2) (setK rfl) (by omega))⟩
    rw [getH_setH,if_neg (by omega),hk.2 o (by simp;omega) (by simp;omega),getH_left hl]
def bdAt (v:Vat) (d:Nat):Bound:=⟨bdL (fun t=>(stAt v t (d+1)).bal) (truthsL v []),bdL (fun t=>(stAt v t (d+1)).blue) (truthsL v [])⟩
def boundsL (v:Vat):List Bound:=(List.range v.drift.length).map (bdAt v)
theorem boundsL_len : (boundsL v).length=v.drift.length:=by simp [boundsL]
def BoundsR (v:Vat):V:=if askE v true=0 then .tup [.c (L (false,false) (boundsL v)),.c (.int .i64 0)] else .tup [.c .nils,.c (.int .i64 (askE v true))]
theorem cBounds (hf:v.Fits) {Q:V→Prop}:CallP tab 34 [vatV g1 g2 g3 g4 v] Q↔Q (BoundsR v):=CallP_of (by
  refine Val_X (fn:=f34) rfl ?_
  simp only [go_sem,f34]
  refine (Fasked (g1:=g1) (g2:=g2) (g3:=g3) (g4:=g4) (b:=true) hf).mono ?_
  rintro r H' ⟨hk,hr⟩
  obtain ⟨X,rfl⟩:=hk.none_eq
  rcases hr with ⟨a,rfl⟩ | ⟨a,wo,mo,b1,b2,rfl,b3,b4⟩
  · rw [BoundsR,if_neg a]
    simp only [go_sem,a]
  · have hv:=valid_of (ask_ok a).1
    rw [BoundsR,if_pos a]
    simp only [List.length_cons,List.length_nil] at b1 b2
    have hW0:WInv g1 g2 g3 g4 v wo mo _:=⟨b3,b4⟩
    have lw:=hW0.lw
    have lm:=hW0.lm
    have nwm:=hW0.ne
    simp only [List.length_append,List.length_cons,List.length_nil] at lw lm
    have v1:=hv.drift
    have v4:=hv.last7
    have v5:=hv.last0
    simp only [go_sem,cdays' hv]
    obtain ⟨H0,hH0⟩:∃H0,H0 = .cells (vatC g1 g2 g3 g4 v)::(X++[Obj.arr false 0 4 []]):=⟨_,rfl⟩
    have l0:H0.length=X.length+2:=by rw [hH0];simp
    have hWs:WInv g1 g2 g3 g4 v wo mo H0:=by rw [hH0];exact hW0.app (X:=[_])
    refine RX_whileU (α:=Nat × List Obj) (fun x=>[(6,.c (.sl (X.length+1) x.1 0 x.1)),(18,.c (.int .i64 x.1))]) (fun x=>x.2) (fun x=>x.1≤v.drift.length∧Keep (fun o=>o=mo∨o=X.length+1) H0 x.2∧getH x.2 (X.length+1) = .arr false x.1 4 (((boundsL v).take x.1).map Row.row)∧WInv g1 g2 g3 g4 v wo mo x.2) (fun x=>v.drift.length-x.1) (0,H0) ⟨Nat.zero_le _,Keep.refl,by rw [hH0];simp only [go_sem,List.take_zero,getH_atL0],hWs⟩ (by simp only [go_sem,hH0]<;>rfl) ?_
    rintro ⟨k,H1⟩ ⟨hk1,hK,hl,hW1⟩
    simp only at hk1 hK hl hW1
    have l1:=hK.1
    have bl:=boundsL_len (v:=v)
    by_cases hlt:k<v.drift.length
    · have hlt':(k:Int)<v.drift.length:=by omega
      have e4:IntKind.i64.wrap ((k:Int)+1)=((k+1:Nat):Int):=wrap_succ (n:=3000) (by omega) (by decide)
      have b5:(k+1)*32≤2^40:=by omega
      simp only [go_sem,hlt',show (k:Int)<((v.drift.length:Nat):Int) from hlt']
      refine (Fon (g1:=g1) (g2:=g2) (g3:=g3) (g4:=g4) hv sel_bal (d:=k) hlt (hW1.app (X:=[.none,.none]))).mono ?_
      rintro r H2 ⟨rfl,K2,W2⟩
      have l2:=K2.1
      simp only [go_sem]
      refine (Fon (g1:=g1) (g2:=g2) (g3:=g3) (g4:=g4) hv sel_blue (d:=k) hlt W2).mono ?_
      rintro r H3 ⟨rfl,K3,W3⟩
      have l3:=K3.1
      have K13:=K2.trans K3
      simp only [List.length_append,List.length_cons,List.length_nil] at l2
      have hh0:isHole H3 H1.length=true:=K13.hole (by omega) (by simp) (by simp only [go_sem])
      have hh1:isHole H3 (H1.length+1)=true:=K13.hole (by omega) (by simp) (by simp only [go_sem])
      have hl3:=K13.get (o:=X.length+1) (by omega) (getH_keep hl (by simp)) (by simp)
      have q1:¬X.length+1=H1.length:=by omega
      have q2:H1.length<H3.length:=by omega
      have q3:X.length+1<H3.length:=by omega
      have htk:(boundsL v).take (k+1)=(boundsL v).take k++[bdAt v k]:=by
        rw [take_getD (by omega) (default:Bound),getD_lt _ _ _ (by omega)];simp [boundsL]
      have htl:((boundsL v).take k).length=k:=by rw [List.length_take];omega
      simp only [go_sem,hh0,hh1,getH_setH,length_setH,q1,q2,q3,hl3,false_and,htl,b5,e4]
      refine ⟨(k+1,_),⟨by simp only;omega,hlt,?_,?_,?_⟩,⟨rfl,rfl⟩,rfl⟩
      · refine ⟨by simp [length_setH];omega,fun o ho hl'=>?_⟩
        rw [getH_setH,if_neg (by omega),getH_setH,if_neg (by omega),K13.2 o (by omega) (by simp;omega),getH_left (by omega),hK.2 o ho hl']
      · simp only [htk,List.map_append]
        rw [getH_setH,if_pos ⟨rfl,by rw [length_setH];omega⟩];rfl
      · exact (W3.keep (own:=fun o=>o=H1.length) (setK rfl) (by omega) (W3.m.keep (own:=fun o=>o=H1.length) (setK rfl) (by omega))).keep (own:=fun o=>o=X.length+1) (setK rfl) (by omega) ((W3.m.keep (own:=fun o=>o=H1.length) (setK rfl) (by omega)).keep (own:=fun o=>o=X.length+1) (setK rfl) (by omega))
    · have:k=v.drift.length:=by omega
      subst this
      rw [List.take_of_length_le (by omega)] at hl
      simp only [go_sem,hlt,hl,bl])
end Am.Vt
namespace Am.Vt
open Go Am
set_option maxRecDepth 100000
set_option maxHeartbeats 4000000
set_option linter.unusedSimpArgs false
set_option linter.unusedVariables false
variable {g1 g2 g3 g4:Bool × Bool} {v:Vat}
def shadesL (v:Vat) (s:St) (n:Nat):List Int:=(List.range n).map fun i=>shadeI (dipN v.take i s.blue) (ordB v s.bal)
theorem shadesL_len {s:St} {n:Nat}:(shadesL v s n).length=n:=by simp [shadesL]
theorem shadesL_succ {s:St} {n:Nat}:shadesL v s (n+1)=shadesL v s n++[shadeI (dipN v.take n s.blue) (ordB v s.bal)]:=by
  simp [shadesL,List.range_succ]
theorem shade_bd {n:Int} (h0:0≤n) (h1:n≤1000000) (b:Bool):0≤shadeI n b∧shadeI n b≤n∧shadeI n b=n.tdiv (if b=true then 10 else 20):=by
  have e:n.tdiv (if b=true then 10 else 20)=n / (if b=true then 10 else 20):=Int.tdiv_eq_ediv_of_nonneg h0
  have h2:0≤n / (if b=true then 10 else 20)∧n / (if b=true then 10 else 20)≤n:=by cases b<;>simp<;>omega
  have w:shadeI n b=n / (if b=true then 10 else 20):=by unfold shadeI;rw [e];exact wrapB (by omega) (by omega)
  rw [w,e]
  exact ⟨h2.1,h2.2,rfl⟩
theorem Fshades (hv:v.Valid) {H:List Obj} {wo mo:Nat} {s:St} (hb:0≤s.blue∧s.blue≤1000000) {d:Nat} (hd:d≤1000) (hW:WInv g1 g2 g3 g4 v wo mo H) :
    Fn tab (.f 92 [.c (.ptr wo 0),.agg [.int .i64 s.bal,.int .i64 s.blue],.c (.int .i64 d)] H) fun r H'=>∃o,r = .c (.sl o d 0 d)∧getH H' o = .arr false d 1 ((shadesL v s d).map Row.row)∧H.length≤o∧Keep (fun o=>o=mo) H H'∧WInv g1 g2 g3 g4 v wo mo H':=by
  refine Fn_X (fn:=f92) rfl rfl ?_
  have lw:=hW.lw
  have lm:=hW.lm
  have nwm:=hW.ne
  have e1:=hW.w
  have bt:=hv.take
  have z0:¬wo=H.length:=by omega
  have z1:¬H.length=wo:=by omega
  have z2:¬wo=H.length+1:=by omega
  have z3:¬H.length+1=wo:=by omega
  have z4:¬wo=H.length+2:=by omega
  have z5:¬H.length+2=wo:=by omega
  simp only [go_sem,f92,getH_left,lw,e1,corder' hv,z0,z1,z2,z3,z4,z5,disj_nil]
  obtain ⟨H0,hH0⟩:∃H0,H0=H++[.cells [.int .i64 s.bal,.int .i64 s.blue],.cells [.int .i64 s.blue,.bool (ordB v s.bal)],.arr false 0 1 []]:=⟨_,rfl⟩
  have l0:H0.length=H.length+3:=by rw [hH0];simp
  have hW0:WInv g1 g2 g3 g4 v wo mo H0:=by rw [hH0];exact hW.app
  refine RX_whileU (α:=Nat × List Obj) (fun x=>[(6,.c (.sl (H.length+2) x.1 0 x.1)),(21,.c (.int .i64 x.1))]) (fun x=>x.2) (fun x=>x.1≤d∧Keep (fun o=>o=mo∨o=H.length+1∨o=H.length+2) H0 x.2∧getH x.2 (H.length+1) = .cells [.int .i64 (dipN v.take x.1 s.blue),.bool (ordB v s.bal)]∧getH x.2 (H.length+2) = .arr false x.1 1 ((shadesL v s x.1).map Row.row)∧WInv g1 g2 g3 g4 v wo mo x.2) (fun x=>d-x.1) (0,H0) ⟨Nat.zero_le _,Keep.refl,by rw [hH0];simp only [go_sem,dipN],by rw [hH0];simp only [go_sem,shadesL,List.range_zero],hW0⟩ (by simp only [go_sem,hH0]<;>rfl) ?_
  rintro ⟨k,H1⟩ ⟨hk,hK,hx,hl,hW1⟩
  simp only at hk hK hx hl hW1
  have l1:=hK.1
  by_cases hlt:k<d
  · have hlt':(k:Int)<(d:Nat):=by omega
    have e4:IntKind.i64.wrap ((k:Int)+1)=((k+1:Nat):Int):=wrap_succ (n:=3000) (by omega) (by decide)
    have bd:=dipN_bd bt.1 (n:=k) hb.1
    have w6:IntKind.i64.wrap (dipN v.take k s.blue-v.take)=dipN v.take k s.blue-v.take:=wrapB (by omega) (by omega)
    have sl:=shadesL_len (v:=v) (s:=s) (n:=k)
    have j0:H.length+1<H1.length:=by omega
    have j1:H.length+2<H1.length:=by omega
    have y0:¬H.length+1=H1.length:=by omega
    have y1:¬H1.length=H.length+1:=by omega
    have y2:¬H.length+2=H1.length:=by omega
    have y3:¬H1.length=H.length+2:=by omega
    have b5:(k+1)*8≤2^40:=by omega
    simp only [go_sem,hlt',getH_left,j0,j1,hx]
    refine (Fdip (g1:=g1) (g2:=g2) (g3:=g3) (g4:=g4) (v:=v) (n:=dipN v.take k s.blue) (b:=ordB v s.bal) (getH_keep hW1.w (by simp)) hW1.m.app).mono ?_
    rintro r H2 ⟨rfl,K2,M2⟩
    have l2:=K2.1
    simp only [List.length_append,List.length_cons,List.length_nil] at l2
    have hh0:isHole H2 H1.length=true:=K2.hole (by omega) (by simp) (by simp only [go_sem])
    have hx2:=K2.get (o:=H.length+1) (by omega) (getH_keep hx (by simp)) (by simp)
    have hl2:=K2.get (o:=H.length+2) (by omega) (getH_keep hl (by simp)) (by simp)
    have i0:H.length+1<H2.length:=by omega
    have i1:H.length+2<H2.length:=by omega
    have i2:H1.length<H2.length:=by omega
    have w0:¬H.length+1=H2.length:=by omega
    have w1:¬H2.length=H.length+1:=by omega
    have w2:¬H.length+2=H2.length:=by omega
    have w3:¬H2.length=H.length+2:=by omega
    have w4:¬H1.length=H2.length:=by omega
    have w5:¬H2.length=H1.length:=by omega
    simp only [go_sem,hh0,getH_left,setH_left,getH_setH,length_setH,getH_atL,getH_atL0,setH_atL,setH_atL0,isHole_atL,isHole_atL0,i0,i1,i2,w0,w1,w2,w3,w4,w5,y0,y1,y2,y3,hx2,hl2,false_and,sl,b5,e4,w6,disj_nil]
    have KX:∀(a a' b c:Obj) (Y:List Obj),Keep (fun o=>o=H1.length∨o=H.length+1∨o=H.length+2) H2 (setH (setH (setH (setH H2 H1.length a) H1.length a') (H.length+2) b) (H.length+1) c++Y):=fun a a' b c Y=>by
      refine ⟨by simp [length_setH],fun o ho hl'=>?_⟩
      simp only [not_or] at ho
      rw [getH_left (by simp [length_setH];omega),getH_setH,if_neg (by omega),getH_setH,if_neg (by omega),getH_setH,if_neg (by omega),getH_setH,if_neg (by omega)]
    have W2:WInv g1 g2 g3 g4 v wo mo H2:=hW1.app.keep K2 nwm M2
    refine ⟨(k+1,_),⟨by simp only;omega,hlt,?_,?_,?_,?_⟩,⟨rfl,rfl⟩,rfl⟩
    · refine hK.trans ⟨Nat.le_trans (by omega) (KX _ _ _ _ _).1,fun o ho hl'=>?_⟩
      rw [(KX _ _ _ _ _).2 o (by omega) (by omega),K2.2 o (by omega) (by simp;omega),getH_left hl']
    · simp only [go_sem,getH_left,getH_setH,length_setH,i0,i1,i2,dipN]
    · simp only [go_sem,getH_left,getH_setH,length_setH,i0,i1,i2,shadesL_succ,List.map_append,false_and]
    · exact W2.keep (KX _ _ _ _ _) (by omega) (M2.keep (KX _ _ _ _ _) (by omega))
  · have:k=d:=by omega
    subst this
    have hlt':¬(k:Int)<k:=by omega
    simp only [go_sem,hlt']
    refine ⟨_,rfl,hl,by omega,⟨by omega,fun o ho hl'=>?_⟩,hW1⟩
    rw [hK.2 o (by omega) (by omega),hH0,getH_left hl']
def sumI (l:List Int):Int:=l.foldl (·+·) 0
theorem sumI_snoc {l:List Int} {x:Int}:sumI (l++[x])=sumI l+x:=by simp [sumI,List.foldl_append]
theorem foldl_add : ∀{l:List Int} {a:Int},l.foldl (·+·) a=a+sumI l
  | [],a=>by simp [sumI]
  | x::l,a=>by
    rw [List.foldl_cons,foldl_add (l:=l),show sumI (x::l)=l.foldl (·+·) (0+x) from rfl,foldl_add (l:=l)];omega
theorem sumI_cons {l:List Int} {x:Int}:sumI (x::l)=x+sumI l:=by
  rw [sumI,List.foldl_cons,foldl_add];omega
theorem sumI_bd {M:Nat}:∀{l:List Int},(∀x∈l,-(M:Int)≤x∧x≤M) → -((l.length*M:Nat):Int)≤sumI l∧sumI l≤((l.length*M:Nat):Int)
  | [],_=>by simp [sumI]
  | x::l,h=>by
    have ih:=sumI_bd (M:=M) (l:=l) fun y hy=>h y (by simp [hy])
    have hx:=h x (by simp)
    rw [sumI_cons,List.length_cons,Nat.succ_mul]
    omega
theorem shadesL_bd (hv:v.Valid) {s:St} (hb:0≤s.blue∧s.blue≤1000000) {n:Nat}:∀x∈shadesL v s n,0≤x∧x≤s.blue:=by
  intro x hx
  simp only [shadesL,List.mem_map,List.mem_range] at hx
  obtain ⟨i,_,rfl⟩:=hx
  have h1:=dipN_bd hv.take.1 (n:=i) hb.1
  have h2:=shade_bd h1.1 (by omega) (ordB v s.bal)
  omega
structure ShInv (g1 g2 g3 g4:Bool × Bool) (v:Vat) (wo mo n1 n2 n3:Nat) (d m:Int) (H:List Obj):Prop where
  wi:WInv g1 g2 g3 g4 v wo mo H
  w:getH H n1 = .cells [.ptr wo 0]
  d:getH H n2 = .cells [.int .i64 d]
  m:getH H n3 = .cells [.int .i64 m]
theorem ShInv.keep {wo mo n1 n2 n3:Nat} {d m:Int} {own:Nat→Prop} {H H':List Obj} (h:ShInv g1 g2 g3 g4 v wo mo n1 n2 n3 d m H) (hk:Keep own H H') (h0:¬own wo) (h1:¬own n1) (h2:¬own n2) (h3:¬own n3) (hm:MapOk mo H'):ShInv g1 g2 g3 g4 v wo mo n1 n2 n3 d m H':=
  ⟨h.wi.keep hk h0 hm,hk.get h1 h.w (by simp),hk.get h2 h.d (by simp),hk.get h3 h.m (by simp)⟩
theorem stBlue_bd (hv:v.Valid) {t:Truth} (h:IsT v t) {d:Nat} (hd:d<v.drift.length):0≤(stAt v t (d+1)).blue∧(stAt v t (d+1)).blue≤5000:=by
  have:=stAt_bd hv h (d:=d+1) (by omega)
  have:=hv.drift
  have:=hv.last7
  omega
theorem shade1_ok (hv:v.Valid) {wo mo n1 n2 n3 d m:Nat} (hd:d<v.drift.length) (hm:m≤1000) (q1:n1≠mo) (q2:n2≠mo) (q3:n3≠mo) :
    OfOk v (fun o=>o=mo) (.fn 95 false [] [.ptr n1 0,.ptr n2 0,.ptr n3 0]) (ShInv g1 g2 g3 g4 v wo mo n1 n2 n3 d m) (fun t=>sumI (shadesL v (stAt v t (d+1)) m)):=by
  intro H t so ver hIs hso hi
  rw [CallV_fn]
  refine Fn_X (fn:=f95) rfl rfl ?_
  have e1:=hi.w
  have e2:=hi.d
  have e3:=hi.m
  have d0:(0:Int)≤d:=by omega
  have d1:(d:Int)<v.drift.length:=by omega
  have hn':nth ((playL v t).map (Row.row (α:=St))) d=some [.int .i64 (stAt v t (d+1)).bal,.int .i64 (stAt v t (d+1)).blue]:=by
    rw [nth_get];simp [playL,hd];rfl
  have bb:=stBlue_bd hv hIs hd
  have bs:=shadesL_bd hv (s:=stAt v t (d+1)) (n:=m) (by omega)
  have sl:=shadesL_len (v:=v) (s:=stAt v t (d+1)) (n:=m)
  simp only [go_sem,f95,e1,e2,e3,d0,d1,hso,hn',disj_nil]
  refine (Fshades (g1:=g1) (g2:=g2) (g3:=g3) (g4:=g4) hv (s:=stAt v t (d+1)) (by omega) (d:=m) hm hi.wi).mono ?_
  rintro r H' ⟨o,rfl,ho,hge,hk,hW⟩
  have hiS:ShInv g1 g2 g3 g4 v wo mo n1 n2 n3 d m H':=⟨hW,hk.get q1 e1 (by simp),hk.get q2 e2 (by simp),hk.get q3 e3 (by simp)⟩
  generalize shadesL v (stAt v t (d+1)) m=sh at *
  simp only [go_sem,disj_nil]
  refine RX_forC m (fun k=>[(5,.c (.int .i64 (sumI (sh.take k)))),(16,.c (.int .i64 k))]) (fun _=>True) rfl trivial (by simp only [go_sem]<;>first | rfl | exact ⟨rfl,rfl⟩) ?_
  intro k hk2 _
  by_cases hlt:k<m
  · have hlt':(k:Int)<(m:Nat):=by omega
    have k0:(0:Int)≤k:=by omega
    have e4:IntKind.i64.wrap ((k:Int)+1)=((k+1:Nat):Int):=wrap_succ (n:=3000) (by omega) (by decide)
    have hn2:=nth_row (w:=sh) (y:=k) (by omega)
    have hst:sumI (sh.take (k+1))=sumI (sh.take k)+sh.getD k default:=by rw [take_getD (by omega) default,sumI_snoc]
    have hb1:=sumI_bd (M:=5000) (l:=sh.take (k+1)) fun x hx=>by have:=bs x (List.mem_of_mem_take hx);omega
    have hlen:(sh.take (k+1)).length≤1000:=by rw [List.length_take];omega
    have hmul:(sh.take (k+1)).length*5000≤1000*5000:=Nat.mul_le_mul_right _ hlen
    have e5:IntKind.i64.wrap (sumI (sh.take k)+sh.getD k default)=sumI (sh.take (k+1)):=by rw [←hst];exact wrapB (by omega) (by omega)
    simp only [go_sem,hlt',hlt,k0,ho,hn2,e4,e5]
  · have:k=m:=by omega
    subst this
    have hlt':¬(k:Int)<k:=by omega
    rw [List.take_of_length_le (by omega)]
    simp only [go_sem,hlt']
    exact ⟨hk,hiS⟩
def shadeRg (v:Vat) (d m:Nat):Rg:=bdL (fun t=>sumI (shadesL v (stAt v t (d+1)) m)) (truthsL v [])
def ShadeR (v:Vat) (day many:Int):V:=if askE v (inR day 0 v.last&&inR many 0 20)=0 then .tup [.agg [.int .i64 (shadeRg v day.toNat many.toNat).lo,.int .i64 (shadeRg v day.toNat many.toNat).hi],.c (.int .i64 0)] else .tup [.agg [.int .i64 0,.int .i64 0],.c (.int .i64 (askE v (inR day 0 v.last&&inR many 0 20)))]
theorem getH5 {a b c d e:Obj} {X:List Obj} (e':Obj) {o:Nat} (ho:5≤o):getH (a::b::c::d::e::X) o=getH (a::b::c::d::e'::X) o:=by
  obtain ⟨k,rfl⟩:=Nat.exists_eq_add_of_le ho
  rw [Nat.add_comm];rfl
theorem cdips' {n:Int} {Q:V→Prop}:CallP tab 85 [.c (.int .i64 n)] Q↔Q (.c (.bool (inR n 0 20))):=cdips
theorem cShade (hf:v.Fits) {day many:Int} {Q:V→Prop}:CallP tab 27 [vatV g1 g2 g3 g4 v,.c (.int .i64 day),.c (.int .i64 many)] Q↔Q (ShadeR v day many):=CallP_of (by
  refine Val_X (fn:=f27) rfl ?_
  have key:∀(b:Bool),(inR day 0 v.last&&inR many 0 20)=b→∀(H:List Obj) (hH:H=[.cells (vatC g1 g2 g3 g4 v),.cells [.int .i64 day],.cells [.int .i64 many],.cells [.int .i64 0,.int .i64 0],.none]),Fn tab (.f 93 [vatV g1 g2 g3 g4 v,.c (.bool b)] H) (AskRes g1 g2 g3 g4 v b H):=fun b _ H _=>Fasked hf
  cases hb1:inR day 0 v.last with
  | false=>
    have hb:(inR day 0 v.last&&inR many 0 20)=false:=by rw [hb1];rfl
    rw [ShadeR,hb]
    simp only [go_sem,f27,cday',hb1]
    refine (Fasked (g1:=g1) (g2:=g2) (g3:=g3) (g4:=g4) (b:=false) hf).mono ?_
    rintro r H' ⟨hk,hr⟩
    obtain ⟨X,rfl⟩:=hk.none_eq
    rcases hr with ⟨a,rfl⟩ | ⟨a,wo,mo,b1,b2,rfl,b3,b4⟩
    · rw [if_neg a]
      simp only [go_sem,a,disj_nil]
    · exact absurd (ask_ok a).2.1 (by simp)
  | true=>
    have hb:(inR day 0 v.last&&inR many 0 20)=inR many 0 20:=by rw [hb1];rfl
    rw [ShadeR,hb]
    simp only [go_sem,f27,cday',hb1,cdips']
    refine (Fasked (g1:=g1) (g2:=g2) (g3:=g3) (g4:=g4) (b:=inR many 0 20) hf).mono ?_
    rintro r H' ⟨hk,hr⟩
    obtain ⟨X,rfl⟩:=hk.none_eq
    rcases hr with ⟨a,rfl⟩ | ⟨a,wo,mo,b1,b2,rfl,b3,b4⟩
    · rw [if_neg a]
      simp only [go_sem,a,disj_nil]
    · rw [if_pos a]
      have hv:=valid_of (ask_ok a).1
      have hm:=(ask_ok a).2.1
      rw [inR_iff] at hb1 hm
      simp only [List.length_cons,List.length_nil] at b1 b2
      simp only [List.cons_append,List.nil_append] at b3 b4
      obtain ⟨es,b4,b5⟩:=b4
      rw [getH5 (.cells [.ptr wo 0]) b1] at b3
      rw [getH5 (.cells [.ptr wo 0]) b2] at b5
      have hW:WInv g1 g2 g3 g4 v wo mo _:=⟨b3,es,b4,b5⟩
      have lw:=hW.lw
      have lm:=hW.lm
      have nwm:=hW.ne
      have v1:=hv.drift
      obtain ⟨d,rfl⟩:∃d:Nat,day=d:=⟨day.toNat,by omega⟩
      obtain ⟨m,rfl⟩:∃m:Nat,many=m:=⟨many.toNat,by omega⟩
      simp only [go_sem,disj_nil]
      refine (Fbounds (v:=v) (g1:=g1) (g2:=g2) (g3:=g3) (g4:=g4) (own:=fun o=>o=mo) (wo:=wo) (mo:=mo) (inv:=ShInv g1 g2 g3 g4 v wo mo 4 1 2 d m) (val:=fun t=>sumI (shadesL v (stAt v t (d+1)) m)) hv b3 nwm (fun o ho h=>by omega) (fun H1 H2 h hk hm=>h.keep hk (by omega) (by simp;omega) (by simp;omega) (by simp;omega) hm) (fun H h=>h.wi.m) rfl (shade1_ok hv (by omega) (by omega) (by omega) (by omega) (by omega)) ⟨hW,rfl,rfl,rfl⟩).mono ?_
      rintro r H' ⟨rfl,hk',hi⟩
      have e3:=hk'.get (o:=3) (by omega) (show getH _ 3 = .cells [.int .i64 0,.int .i64 0] from rfl) (by simp)
      have l3:=lt_of_getH (h:=H') (o:=3) (by rw [e3];simp)
      simp only [go_sem,e3,getH_setH,l3,shadeRg])
end Am.Vt
namespace Am.Vt
open Go Am
set_option maxRecDepth 100000
set_option maxHeartbeats 4000000
set_option linter.unusedSimpArgs false
set_option linter.unusedVariables false
variable {g1 g2 g3 g4:Bool × Bool} {v:Vat}
def orStep (v:Vat) (d:Nat) (s:Bool × Bool) (t:Truth):(Bool × Bool) × Bool:=((s.1||ordB v (stAt v t (d+1)).bal,s.2 || !ordB v (stAt v t (d+1)).bal),true)
def orAssign : ACode:=(.region 0 [] [
        ⟨(some 11),.mov (.tmp 27),none,0⟩])
def orBody : ACode:=(.block 1 (.seq (.region 0 [(0,1),(0,2),(1,2),(0,3),(0,4),(0,5)] [
          ⟨(some 28),.load (some 12) (.tmp 2),none,0⟩,
          ⟨(some 29),.mov (.tmp 11),none,0⟩,
          ⟨(some 30),.load none (.tmp 3),none,0⟩,
          ⟨(some 31),.iaddr 2 (.tmp 29) (.tmp 30),none,0⟩,
          ⟨(some 32),.faddr 0 (.tmp 31),none,0⟩,
          ⟨(some 33),.load none (.tmp 32),none,0⟩,
          ⟨(some 34),.call 102 true [(.tmp 28),(.tmp 33)],none,0⟩,
          ⟨(some 12),.mov (.tmp 34),none,0⟩])
        (.region 0 [] [
          ⟨(some 35),.load none (.tmp 8),none,0⟩,
          ⟨(some 36),.mov (.tmp 35),none,0⟩,
          ⟨(some 37),.mov (.tmp 12),some (36,false),0⟩,
          ⟨(some 38),.pick (.tmp 36) (.cst (.c (.bool true))) (.tmp 37),none,0⟩,
          ⟨(some 39),.load none (.tmp 9),none,0⟩,
          ⟨(some 40),.mov (.tmp 39),none,0⟩,
          ⟨(some 41),.mov (.tmp 12),some (40,false),0⟩,
          ⟨(some 42),.not (.tmp 41),some (40,false),0⟩,
          ⟨(some 43),.pick (.tmp 40) (.cst (.c (.bool true))) (.tmp 42),none,0⟩,
          ⟨none,.store none (.tmp 8) (.tmp 38),none,0⟩,
          ⟨none,.store none (.tmp 9) (.tmp 43),none,0⟩])))
structure orR (g1 g2 g3 g4:Bool × Bool) (v:Vat) (mo m:Nat) (d:Int) (lp:ALoop) (s:Bool × Bool) (H:List Obj):Prop where
  v0:getH H 0 = .cells (vatC g1 g2 g3 g4 v)
  d:getH H 1 = .cells [.int .i64 d]
  y:getH H m = .cells [.bool s.1]
  n:getH H (m+1) = .cells [.bool s.2]
  lp:getH H (m+4) = .loop lp
  m:MapOk mo H
abbrev orOwn (m:Nat) (o:Nat):Prop:=o=m∨o=m+1∨o=m+4
theorem or_yield (hv:v.Valid) {m mo d:Nat} (hd:d<v.drift.length) (h2:2≤m) (hmo:mo<m) {RS:Bool × Bool→List Obj→Prop} {v0 v1 v4 v5 v6 v7 v10 v11 v12:V} {vs:List V} {lp:ALoop}
    (hlp:lp=⟨.ready,.normal,[v0,v1,.c (.ptr 0 0),.c (.ptr 1 0),v4,v5,v6,v7,.c (.ptr m 0),.c (.ptr (m+1) 0),v10,v11,v12]++vs,[26,27],orAssign,orBody⟩) {v13 v14 v15 v16 v17 v18 v19 v20 v21 v22 v23 v24 v25:V} (hvs:vs=[v13,v14,v15,v16,v17,v18,v19,v20,v21,v22,v23,v24,v25]++List.replicate 24 (.c .any)) :
    TYield v (m+12) (fun _ _=>True) (orOwn m) (.yld (m+4)) (orR g1 g2 g3 g4 v mo m d lp) RS (orStep v d):=by
  intro s H t c1 so ver hlen _ hIs r1 hso hge hR
  rw [CallV_y]
  have l5:=lt_of_getH (h:=H) (o:=m+4) (by rw [hR.lp];simp)
  refine Fn_y hR.lp (by rw [hlp];rfl) ?_
  rw [show lp.assign=orAssign by rw [hlp],show lp.params=[26,27] by rw [hlp],show lp.slots=_ by rw [hlp]]
  subst hvs
  simp only [go_sem,orAssign,setParams,assignX,hR.lp]
  refine ⟨lp,rfl,by rw [hlp],rfl,?_⟩
  generalize hlb:ALoop.mk .busy _ _ _ _ _=lb
  rw [show lp.body=orBody by rw [hlp]]
  have hlb1:∀l:ALoop,Obj.loop lb = .loop l→({ l with state:=.ready,pending:=.normal }:ALoop)=lp:=fun l h=>by cases h;rw [←hlb,hlp]
  clear hlb
  have hq:=hlb1 lb rfl
  obtain ⟨H1,hH1⟩:∃H1,H1=setH H (m+4) (.loop lb):=⟨_,rfl⟩
  rw [←hH1]
  have len:H1.length=H.length:=by rw [hH1,length_setH]
  have g:∀o,o≠m+4→getH H1 o=getH H o:=fun o ho=>by rw [hH1,getH_setH,if_neg (fun h=>ho h.1)]
  have e0:=(g 0 (by omega)).trans hR.v0
  have e1:=(g 1 (by omega)).trans hR.d
  have e2:=(g m (by omega)).trans hR.y
  have e3:=(g (m+1) (by omega)).trans hR.n
  have e4:=(g so (by omega)).trans hso
  have e5:getH H1 (m+4) = .loop lb:=by rw [hH1,getH_setH,if_pos ⟨rfl,l5⟩]
  have d0:(0:Int)≤d:=by omega
  have d1:(d:Int)<v.drift.length:=by omega
  have hn':nth ((playL v t).map (Row.row (α:=St))) d=some [.int .i64 (stAt v t (d+1)).bal,.int .i64 (stAt v t (d+1)).blue]:=by
    rw [nth_get];simp [playL,hd];rfl
  have k0:m<H1.length:=by omega
  have k1:m+1<H1.length:=by omega
  have k2:m+4<H1.length:=by omega
  have fin:∀(a b:Bool) ,(orStep v d s t).1=(a,b)→yQ (orOwn m) H (orR g1 g2 g3 g4 v mo m d lp) RS (orStep v d s t) (.c (.bool true)) (setH (setH (setH H1 m (.cells [.bool a])) (m+1) (.cells [.bool b])) (m+4) (.loop lp)):=by
    intro a b hab
    have hK:Keep (orOwn m) H (setH (setH (setH H1 m (.cells [.bool a])) (m+1) (.cells [.bool b])) (m+4) (.loop lp)):=by
      refine ⟨by simp [length_setH];omega,fun o ho hl=>?_⟩
      simp only [orOwn,not_or] at ho
      rw [getH_setH,if_neg (by omega),getH_setH,if_neg (by omega),getH_setH,if_neg (by omega),g o ho.2.2]
    refine yQ_true rfl hK ⟨hK.get (by simp only [orOwn];omega) hR.v0 (by simp),hK.get (by simp only [orOwn];omega) hR.d (by simp),?_,?_,?_,hR.m.keep hK (by simp only [orOwn];omega)⟩
    · rw [hab];simp only [go_sem,getH_setH,length_setH,k0,k1,k2,false_and]
    · rw [hab];simp only [go_sem,getH_setH,length_setH,k0,k1,k2,false_and]
    · simp only [go_sem,getH_setH,length_setH,k0,k1,k2,false_and]
  obtain ⟨ye,no⟩:=s
  simp only at e2 e3
  obtain ⟨b,hb⟩:∃b,b=ordB v (stAt v t (d+1)).bal:=⟨_,rfl⟩
  have hS:(orStep v d (ye,no) t).1=(ye||b,no || !b):=by rw [hb];rfl
  have key:∀{X:Prop},X→X:=id
  cases ye<;>cases no<;>(
    simp only [go_sem,orBody,e0,e1,e2,e3,e4,d0,d1,hn',corder' hv,←hb,disj_nil,getH_setH,length_setH,k0,k1,k2,false_and,bodyX,e5]
    refine ⟨lb,rfl,?_⟩
    rw [hq]
    exact fin _ _ (by rw [hS];simp))
def ordAll (v:Vat) (d:Nat):Bool × Bool:=(foldY (orStep v d) (false,false) (truthsL v [])).1
def ordI (v:Vat) (d:Nat):Int:=if (ordAll v d).2=false then 1 else if (ordAll v d).1=false then 2 else 3
def OrderR (v:Vat) (day:Int):V:=if askE v (inR day 0 v.last)=0 then .tup [.c (.int .i64 (ordI v day.toNat)),.c (.int .i64 0)] else .tup [.c (.int .i64 0),.c (.int .i64 (askE v (inR day 0 v.last)))]
theorem cOrder (hf:v.Fits) {day:Int} {Q:V→Prop}:CallP tab 35 [vatV g1 g2 g3 g4 v,.c (.int .i64 day)] Q↔Q (OrderR v day):=CallP_of (by
  refine Val_X (fn:=f35) rfl ?_
  simp only [go_sem,f35,cday']
  refine (Fasked (g1:=g1) (g2:=g2) (g3:=g3) (g4:=g4) (b:=inR day 0 v.last) hf).mono ?_
  rintro r H' ⟨hk,hr⟩
  obtain ⟨X,rfl⟩:=hk.none_eq
  rcases hr with ⟨a,rfl⟩ | ⟨a,wo,mo,b1,b2,rfl,b3,b4⟩
  · rw [OrderR,if_neg a]
    simp only [go_sem,a,disj_nil]
  · have hv:=valid_of (ask_ok a).1
    have hb:=(ask_ok a).2.1
    rw [OrderR,if_pos a]
    rw [inR_iff] at hb
    simp only [List.length_cons,List.length_nil] at b1 b2
    have hW0:WInv g1 g2 g3 g4 v wo mo _:=⟨b3,b4⟩
    have lw:=hW0.lw
    have lm:=hW0.lm
    have nwm:=hW0.ne
    simp only [List.length_append,List.length_cons,List.length_nil] at lw lm
    have v1:=hv.drift
    obtain ⟨d,rfl⟩:∃d:Nat,day=d:=⟨day.toNat,by omega⟩
    simp only [go_sem,disj_nil,Ftruths (oc:=.nils) rfl]
    refine RX_range ?_
    generalize hlp:ALoop.mk .ready _ _ _ _ _=lp
    simp only [Opd.ev,getS,CallV_fn,firstV,List.length_append,List.length_cons,List.length_nil,List.append_assoc,List.cons_append,List.nil_append,List.map_cons,List.map_nil,Nat.zero_add,Nat.reduceAdd,Nat.add_assoc,Bool.false_eq_true,if_false]
    have hy:=or_yield (g1:=g1) (g2:=g2) (g3:=g3) (g4:=g4) (v:=v) (m:=X.length+2) (mo:=mo) (d:=d) hv (by omega) (by omega) (by omega) (RS:=fun _ _=>False) (lp:=lp) hlp.symm rfl
    have gA:∀(o:Nat) (Y:List Obj) (a b:Obj),o<X.length+2→getH (a::b::(X++Y)) o=getH (a::b::X) o:=fun o Y a b h=>getH_left (h:=a::b::X) (l:=Y) (by simpa using h)
    obtain ⟨es,b4,b5⟩:=b4
    refine (truths1_ok (n:=X.length+7) (wb:=X.length+4) (ob:=X.length+5) (oc:=.nils) (out:=[]) (wo:=wo) (mo:=mo) (g1:=g1) (g2:=g2) (g3:=g3) (g4:=g4) (own:=orOwn (X.length+2)) hv (by simp) (by decide) rfl (by simp only [orOwn];omega) (by simp only [orOwn];omega) (by simp only [orOwn];omega) (fun o h _ h'=>by simp only [orOwn] at h';omega) (fun s H H' hr hk hm=>⟨hk.get (by omega) hr.v0 (by simp),hk.get (by omega) hr.d (by simp),hk.get (by omega) hr.y (by simp),hk.get (by omega) hr.n (by simp),hk.get (by omega) hr.lp (by simp),hm⟩) (fun s H H' hr hk=>hr.elim) (fun s H hr=>hr.m) hy (by simp only [go_sem]) (by simp only [go_sem]) ((gA _ _ _ _ (by omega)).trans b3) (fun H' _=>.lst (true,false) []) (s:=(false,false)) ⟨by simp only [go_sem],by simp only [go_sem],by simp only [go_sem],by simp only [go_sem],by simp only [go_sem],es,b4,(gA _ _ _ _ (by omega)).trans b5⟩ FoldC_true).mono ?_
    rintro r H' ⟨hk',hr⟩
    rcases hr with ⟨_,b⟩ | ⟨_,b⟩
    · have l5:=lt_of_getH (h:=H') (o:=X.length+2+4) (by rw [b.lp];simp)
      refine ⟨lp,b.lp,by rw [←hlp];simp,?_⟩
      rw [show lp.pending = .normal by rw [←hlp]]
      have e2:=b.y
      have e3:=b.n
      have hI:ordI v d=if (ordAll v d).2=false then 1 else if (ordAll v d).1=false then 2 else 3:=rfl
      change getH H' (X.length+2) = .cells [.bool (ordAll v d).1] at e2
      change getH H' (X.length+2+1) = .cells [.bool (ordAll v d).2] at e3
      rw [hI]
      generalize ordAll v d=r2 at *
      obtain ⟨ye,no⟩:=r2
      cases no<;>cases ye<;>simp only [go_sem,getH_setH,e2,e3,false_and]
    · exact b.elim)
end Am.Vt
namespace Am.Vt
open Go Am
set_option maxRecDepth 100000
set_option maxHeartbeats 4000000
set_option linter.unusedSimpArgs false
set_option linter.unusedVariables false
variable {g1 g2 g3 g4 gt:Bool × Bool} {v:Vat} {t:Truth}
abbrev truthG (gt:Bool × Bool) (t:Truth):V:=.agg [.int .i64 t.start,.int .i64 t.blue,L gt t.drift]
attribute [go_sem] truthG
def listedB (v:Vat) (t:Truth):Bool:=decide (t.drift.length=v.drift.length)&&(inR t.start v.start.lo v.start.hi&&(inR t.blue v.blue.lo v.blue.hi&&(List.range v.drift.length).all fun i=>inR (t.drift.getD i default) (v.drift.getD i default).lo (v.drift.getD i default).hi))
theorem clisted (hv:v.Valid) {Q:V→Prop}:CallP tab 71 [vatV g1 g2 g3 g4 v,truthG gt t] Q↔Q (.c (.bool (listedB v t))):=CallP_of (by
  refine Val_X (fn:=f71) rfl ?_
  have v1:=hv.drift
  have v4:=hv.last7
  by_cases a1:t.drift.length=v.drift.length
  · cases a2:inR t.start v.start.lo v.start.hi with
    | false=>simp only [go_sem,f71,cdays' hv,a1,chas,a2,disj_nil,listedB]
    | true=>
      cases a3:inR t.blue v.blue.lo v.blue.hi with
      | false=>simp only [go_sem,f71,cdays' hv,a1,chas,a2,a3,disj_nil,listedB]
      | true=>
        have hB:listedB v t=(List.range v.drift.length).all fun i=>inR (t.drift.getD i default) (v.drift.getD i default).lo (v.drift.getD i default).hi:=by simp only [listedB,a1,a2,a3,decide_true,Bool.true_and]
        simp only [go_sem,f71,cdays' hv,a1,chas,a2,a3,disj_nil]
        rw [hB]
        refine RX_forC v.drift.length (fun k=>[(32,.c (.int .i64 k))]) (fun k=>∀i,i<k→inR (t.drift.getD i default) (v.drift.getD i default).lo (v.drift.getD i default).hi=true) rfl (fun i h=>by omega) (by simp only [go_sem]<;>rfl) ?_
        intro k hk hP
        by_cases hlt:k<v.drift.length
        · have e4:IntKind.i64.wrap ((k:Int)+1)=((k+1:Nat):Int):=wrap_succ (n:=5000) (by omega) (by decide)
          have k0:k<t.drift.length:=by omega
          simp only [go_sem,hlt,k0,atI_nat,e4,chas,disj_nil]
          refine ⟨fun h=>?_,fun h i hi=>?_⟩
          · rw [List.all_eq_false]
            exact ⟨k,by simpa using hlt,by rw [h];simp⟩
          · by_cases hik:i=k
            · subst hik;exact h
            · exact hP i (by omega)
        · have:k=v.drift.length:=by omega
          subst this
          simp only [go_sem,hlt]
          rw [List.all_eq_true]
          intro i hi
          exact hP i (by simpa using hi)
  · have a1':¬(t.drift.length:Int)=(v.drift.length:Nat):=by omega
    have:listedB v t=false:=by simp only [listedB,a1,decide_false,Bool.false_and]
    simp only [go_sem,f71,cdays' hv,a1,a1',disj_nil,this])
theorem listed_iff : listedB v t=true↔IsT v t:=by
  simp only [listedB,Bool.and_eq_true,decide_eq_true_eq,inR_iff,List.all_eq_true,List.mem_range]
  constructor
  · rintro ⟨h1,h2,h3,h4⟩
    exact ⟨h2,h3,h1,fun i hi=>h4 i (by omega)⟩
  · intro h
    exact ⟨h.dl,h.st,h.bl,fun i hi=>h.dr i (by rw [h.dl];exact hi)⟩
def PlayR (v:Vat) (t:Truth):V:=if checkVat v≠0 then .tup [.c .nils,.c (.int .i64 (checkVat v))] else if listedB v t=false then .tup [.c .nils,.c (.int .i64 2)] else .tup [.c (L (false,false) (playL v t)),.c (.int .i64 0)]
theorem cPlay (hf:v.Fits) {Q:V→Prop}:CallP tab 17 [vatV g1 g2 g3 g4 v,truthG gt t] Q↔Q (PlayR v t):=CallP_of (by
  refine Val_X (fn:=f17) rfl ?_
  by_cases h0:checkVat v=0
  · have hv:=valid_of h0
    rw [PlayR,if_neg (by rw [h0];simp)]
    have hL:=fun {g1 g2 g3 g4 gt:Bool × Bool} {Q:V→Prop}=>clisted (g1:=g1) (g2:=g2) (g3:=g3) (g4:=g4) (gt:=gt) (t:=t) hv (Q:=Q)
    simp only [vatV,truthG] at hL
    cases hl:listedB v t with
    | false=>
      rw [if_pos rfl]
      simp only [go_sem,f17,cCheckVat hf,h0,hL,hl]
    | true=>
      rw [if_neg (by simp)]
      have hIs:=listed_iff.1 hl
      have pl:=playL_len (v:=v) (t:=t)
      simp only [go_sem,f17,cCheckVat hf,h0,hL,hl,Fwork,disj_nil]
      refine (Fplay (g1:=g1) (g2:=g2) (g3:=g3) (g4:=g4) (wo:=4) (mo:=3) hv hIs (by simp only [go_sem]) ⟨[],EsOk.nil,by simp only [go_sem]⟩ (.lst gt t.drift)).mono ?_
      rintro r H' ⟨o,ver,rfl,ho,_,_,_⟩
      simp only [go_sem,disj_nil,ho,pl]
  · rw [PlayR,if_pos h0]
    simp only [go_sem,f17,cCheckVat hf,h0])
def ShadesR (v:Vat) (t:Truth) (day many:Int):V:=if checkVat v≠0 then .tup [.c .nils,.c (.int .i64 (checkVat v))] else if (listedB v t&&(inR day 0 v.last&&inR many 0 20))=false then .tup [.c .nils,.c (.int .i64 2)] else .tup [.c (L (false,false) (shadesL v (stAt v t (day.toNat+1)) many.toNat)),.c (.int .i64 0)]
theorem cShades (hf:v.Fits) {day many:Int} {Q:V→Prop}:CallP tab 26 [vatV g1 g2 g3 g4 v,truthG gt t,.c (.int .i64 day),.c (.int .i64 many)] Q↔Q (ShadesR v t day many):=CallP_of (by
  refine Val_X (fn:=f26) rfl ?_
  by_cases h0:checkVat v=0
  · have hv:=valid_of h0
    rw [ShadesR,if_neg (by rw [h0];simp)]
    have hL:=fun {g1 g2 g3 g4 gt:Bool × Bool} {Q:V→Prop}=>clisted (g1:=g1) (g2:=g2) (g3:=g3) (g4:=g4) (gt:=gt) (t:=t) hv (Q:=Q)
    simp only [vatV,truthG] at hL
    cases hl:listedB v t with
    | false=>
      simp only [go_sem,f26,cCheckVat hf,h0,hL,hl]
    | true=>
      cases hd:inR day 0 v.last with
      | false=>
        simp only [go_sem,f26,cCheckVat hf,h0,hL,hl,cday',hd]
      | true=>
        cases hm:inR many 0 20 with
        | false=>
            simp only [go_sem,f26,cCheckVat hf,h0,hL,hl,cday',hd,cdips',hm]
        | true=>
          have hIs:=listed_iff.1 hl
          have pl:=playL_len (v:=v) (t:=t)
          have v1:=hv.drift
          simp only [go_sem,f26,cCheckVat hf,h0,hL,hl,cday',hd,cdips',hm,Fwork,disj_nil]
          rw [inR_iff] at hd hm
          obtain ⟨d,rfl⟩:∃d:Nat,day=d:=⟨day.toNat,by omega⟩
          obtain ⟨m,rfl⟩:∃m:Nat,many=m:=⟨many.toNat,by omega⟩
          refine (Fplay (g1:=g1) (g2:=g2) (g3:=g3) (g4:=g4) (wo:=4) (mo:=3) hv hIs (by simp only [go_sem]) ⟨[],EsOk.nil,by simp only [go_sem]⟩ (.lst gt t.drift)).mono ?_
          rintro r H' ⟨o,ver,rfl,ho,_,hk,hM⟩
          have d0:(0:Int)≤d:=by omega
          have d1:(d:Int)<v.drift.length:=by omega
          have hd2:d<v.drift.length:=by omega
          have hn':nth ((playL v t).map (Row.row (α:=St))) d=some [.int .i64 (stAt v t (d+1)).bal,.int .i64 (stAt v t (d+1)).blue]:=by
            rw [nth_get];simp [playL,hd2];rfl
          have hw4:=hk.get (o:=4) (by omega) (show getH _ 4 = .cells (workC g1 g2 g3 g4 v 3) from rfl) (by simp)
          have bb:=stBlue_bd hv hIs hd2
          have sl:=shadesL_len (v:=v) (s:=stAt v t (d+1)) (n:=m)
          simp only [go_sem,disj_nil,ho,d0,d1,hn']
          refine (Fshades (g1:=g1) (g2:=g2) (g3:=g3) (g4:=g4) (wo:=4) (mo:=3) hv (s:=stAt v t (d+1)) (by omega) (d:=m) (by omega) ⟨hw4,hM⟩).mono ?_
          rintro r H2 ⟨o2,rfl,ho2,_,_,_⟩
          simp only [go_sem,disj_nil,ho2,sl]
  · rw [ShadesR,if_pos h0]
    simp only [go_sem,f26,cCheckVat hf,h0])
def provesTruth (v:Vat) (t:Truth):Bool:=decide (checkVat v=0)&&(listedB v t&&v.looks.all fun k=>rightK k (playL v t))
theorem cProveTruth (hf:v.Fits) {Q:V→Prop}:CallP tab 20 [vatV g1 g2 g3 g4 v,truthG gt t] Q↔Q (.c (.bool (provesTruth v t))):=CallP_of (by
  refine Val_X (fn:=f20) rfl ?_
  by_cases h0:checkVat v=0
  · have hv:=valid_of h0
    have hL:=fun {g1 g2 g3 g4 gt:Bool × Bool} {Q:V→Prop}=>clisted (g1:=g1) (g2:=g2) (g3:=g3) (g4:=g4) (gt:=gt) (t:=t) hv (Q:=Q)
    simp only [vatV,truthG] at hL
    cases hl:listedB v t with
    | false=>simp only [go_sem,f20,cCheckVat hf,h0,hL,hl,provesTruth]
    | true=>
      have hIs:=listed_iff.1 hl
      have pl:=playL_len (v:=v) (t:=t)
      have v1:=hv.drift
      have hpt:provesTruth v t=v.looks.all fun k=>rightK k (playL v t):=by simp only [provesTruth,h0,hl,decide_true,Bool.true_and]
      rw [hpt]
      simp only [go_sem,f20,cCheckVat hf,h0,hL,hl,Fwork,disj_nil]
      refine (Fplay (g1:=g1) (g2:=g2) (g3:=g3) (g4:=g4) (wo:=5) (mo:=4) hv hIs (by simp only [go_sem]) ⟨[],EsOk.nil,by simp only [go_sem]⟩ (.lst gt t.drift)).mono ?_
      rintro r H' ⟨o,ver,rfl,ho,hge,hk,hM⟩
      simp only [List.length_cons,List.length_nil] at hge
      have l0:=lt_of_getH (h:=H') (o:=o) (by rw [ho];simp)
      have hh:isHole H' 2=true:=hk.hole (by omega) (by simp) rfl
      have e0:=hk.get (o:=0) (by omega) (show getH _ 0 = .cells (vatC g1 g2 g3 g4 v) from rfl) (by simp)
      have l2:2<H'.length:=by omega
      simp only [go_sem,disj_nil,hh,getH_setH,length_setH,l2,e0,false_and]
      obtain ⟨h,hh2⟩:∃h,h=setH (setH H' 2 (.cells [.nils])) 2 (.cells [.sl o ver 0 v.drift.length]):=⟨_,rfl⟩
      have lh:h.length=H'.length:=by rw [hh2];simp [length_setH]
      have h2:getH h 2 = .cells [.sl o ver 0 v.drift.length]:=by rw [hh2,getH_setH,if_pos ⟨rfl,by rw [length_setH];exact l2⟩]
      have ho2:getH h o = .arr false ver 2 ((playL v t).map Row.row):=by rw [hh2,getH_setH,if_neg (by omega),getH_setH,if_neg (by omega),ho]
      have xp:takeN v.drift.length ((playL v t).map (Row.row (α:=St)))=some ((playL v t).map Row.row):=takeN_map pl
      rw [←hh2]
      refine (All_grow elemLk (k:=74) (kN:=125) (kC:=124) (kI:=144) rfl rfl rfl (g:=g4) (l:=v.looks) (big_of hf.looks) (f:=75) (a:=false) (x:=[]) (y:=[.ptr 2 0]) (h:=h) (fun k=>rightK k (playL v t)) (fun z=>[.cells [.int .i64 z.day,.bool z.bal,.int .i64 z.n.lo,.int .i64 z.n.hi],.cells [.int .i64 z.day,.bool z.bal,.int .i64 z.n.lo,.int .i64 z.n.hi]]) ?_).mono ?_
      · intro z hz X
        have hz':=hv.looks z hz
        have hR:=fun {g:Bool × Bool} {Q:V→Prop}=>cright (g:=g) (k:=z) (l:=playL v t) hz'.1.1 (by omega) (Q:=Q)
        rw [CallV_fn]
        refine Fn_X (fn:=f125) rfl rfl ?_
        simp only [go_sem,f125,elemLk]
        refine Fn_X (fn:=f75) rfl rfl ?_
        have q2:2<h.length:=by omega
        have q3:o<h.length:=by omega
        simp only [go_sem,f75,getH_left,q2,q3,h2,ho2,xp,pl,hR]
      · rintro r H2 ⟨X,rfl,rfl⟩
        simp only [go_sem]
  · simp only [go_sem,f20,cCheckVat hf,h0,provesTruth])
end Am.Vt
