/-
  A part of the proof: the texts V10, V11, V12, V13, V14 of this seat, joined.
-/
import Derived.Test.YtnknceencnjnkaaGreatWalkB
namespace Am.Vt
open Go Am
set_option maxRecDepth 100000
set_option maxHeartbeats 4000000
set_option linter.unusedSimpArgs false
set_option linter.unusedVariables false
variable {g1 g2 g3 g4:Bool × Bool} {v:Vat}
section
variable {own:Nat→Prop} {F:C} {inv:List Obj→Prop} {val:Truth→Int}
def OfOk (v:Vat) (own:Nat→Prop) (F:C) (inv:List Obj→Prop) (val:Truth→Int):Prop:=
  ∀H t so ver,IsT v t→getH H so = .arr false ver 2 ((playL v t).map Row.row)→inv H→CallV tab (.c F) [.c (.sl so ver 0 v.drift.length)] H fun r H'=>r = .c (.int .i64 (val t))∧Keep own H H'∧inv H'
def bdAssign : ACode:=(.region 0 [] [
        ⟨(some 7),.mov (.tmp 12),none,0⟩])
def bdBody : ACode:=(.block 1 (.seq (.region 0 [] [
          ⟨(some 13),.load none (.tmp 3),none,0⟩,
          ⟨(some 14),.mov (.tmp 7),none,0⟩,
          ⟨(some 15),.callv (.tmp 13) [(.tmp 14)],none,0⟩,
          ⟨(some 8),.mov (.tmp 15),none,0⟩])
        (.seq (.seq (.region 0 [] [
          ⟨(some 16),.load none (.tmp 5),none,0⟩])
        (.cond (.tmp 16)
          (.region 0 [] [
            ⟨(some 17),.mov (.tmp 8),none,0⟩,
            ⟨(some 18),.mov (.tmp 8),none,0⟩,
            ⟨(some 19),.build [(.int .i64 0),(.int .i64 0)] [(0,1,(.tmp 17)),(1,1,(.tmp 18))],none,0⟩,
            ⟨none,.store (some 2) (.tmp 4) (.tmp 19),none,0⟩,
            ⟨none,.store none (.tmp 5) (.cst (.c (.bool false))),none,0⟩])
          .skip))
        (.region 0 [] [
          ⟨(some 20),.load (some 2) (.tmp 4),none,0⟩,
          ⟨(some 21),.mov (.tmp 8),none,0⟩,
          ⟨(some 22),.call 92 true [(.tmp 20),(.tmp 21)],none,0⟩,
          ⟨none,.store (some 2) (.tmp 4) (.tmp 22),none,0⟩]))))
structure bdR (n mo:Nat) (F:C) (inv:List Obj→Prop) (lp:ALoop) (s:Rg × Bool) (H:List Obj):Prop where
  fb:getH H n = .cells [F]
  r:getH H (n+1) = .cells [.int .i64 s.1.lo,.int .i64 s.1.hi]
  fi:getH H (n+2) = .cells [.bool s.2]
  lp:getH H (n+5) = .loop lp
  inv:inv H
abbrev bdOwn (n:Nat) (own:Nat→Prop) (o:Nat):Prop:=own o∨o=n+1∨o=n+2∨o=n+5
theorem bd_yield {n mo:Nat} (hown:∀o,n≤o→¬own o) (hmo:mo<n) (hinv:∀H H',inv H→Keep (fun o=>n≤o∨o=mo) H H'→MapOk mo H'→inv H') (him:∀H,inv H→MapOk mo H) (hF:OfOk v own F inv val) {RS:Rg × Bool→List Obj→Prop} {v0 v1 v2 v6 v7 v8 v9 v10 v11 v12:V} {lp:ALoop}
    (hlp:lp=⟨.ready,.normal,[v0,v1,v2,.c (.ptr n 0),.c (.ptr (n+1) 0),.c (.ptr (n+2) 0),v6,v7,v8,v9,v10,v11,v12]++List.replicate 11 (.c .any),[11,12],bdAssign,bdBody⟩) :
    TYield v (n+13) (fun _ _=>True) (bdOwn n own) (.yld (n+5)) (bdR n mo F inv lp) RS (bdStep val):=by
  intro s H t c1 so ver hlen _ hIs r1 hso hge hR
  rw [CallV_y]
  have l5:=lt_of_getH (h:=H) (o:=n+5) (by rw [hR.lp];simp)
  refine Fn_y hR.lp (by rw [hlp];rfl) ?_
  rw [show lp.assign=bdAssign by rw [hlp],show lp.params=[11,12] by rw [hlp],show lp.slots=_ by rw [hlp]]
  simp only [go_sem,bdAssign,setParams,assignX,hR.lp]
  refine ⟨lp,rfl,by rw [hlp],rfl,?_⟩
  generalize hlb:ALoop.mk .busy _ _ _ _ _=lb
  rw [show lp.body=bdBody by rw [hlp]]
  have hlb1:∀l:ALoop,Obj.loop lb = .loop l→({ l with state:=.ready,pending:=.normal }:ALoop)=lp:=fun l h=>by cases h;rw [←hlb,hlp]
  clear hlb
  have hq:=hlb1 lb rfl
  obtain ⟨H1,hH1⟩:∃H1,H1=setH H (n+5) (.loop lb):=⟨_,rfl⟩
  rw [←hH1]
  have len:H1.length=H.length:=by rw [hH1,length_setH]
  have g:∀o,o≠n+5→getH H1 o=getH H o:=fun o ho=>by rw [hH1,getH_setH,if_neg (fun h=>ho h.1)]
  have e0:=(g n (by omega)).trans hR.fb
  have e1:=(g (n+1) (by omega)).trans hR.r
  have e2:=(g (n+2) (by omega)).trans hR.fi
  have e5:getH H1 (n+5) = .loop lb:=by rw [hH1,getH_setH,if_pos ⟨rfl,l5⟩]
  have hK1:Keep (fun o=>n≤o∨o=mo) H H1:=by rw [hH1];exact setK (.inl (by omega))
  have hM1:MapOk mo H1:=(him _ hR.inv).keep (own:=fun o=>o=n+5) (by rw [hH1];exact setK rfl) (by omega)
  simp only [go_sem,bdBody,e0,e1,e2]
  refine (hF H1 t so ver hIs ((g so (by omega)).trans hso) (hinv _ _ hR.inv hK1 hM1)).mono ?_
  rintro r H' ⟨rfl,hk,hi⟩
  have hlen:=hk.1
  have d0:=hk.get (hown n (by omega)) e0 (by simp)
  have d1:=hk.get (hown (n+1) (by omega)) e1 (by simp)
  have d2:=hk.get (hown (n+2) (by omega)) e2 (by simp)
  have d5:=hk.get (hown (n+5) (by omega)) e5 (by simp)
  have h0:n<H'.length:=by omega
  have h1:n+1<H'.length:=by omega
  have h2:n+2<H'.length:=by omega
  have h3:n+5<H'.length:=by omega
  have fin:∀H2:List Obj,H2.length=H'.length→(∀o,o≠n+1→o≠n+2→o≠n+5→getH H2 o=getH H' o)→getH H2 (n+1) = .cells [.int .i64 (bdStep val s t).1.1.lo,.int .i64 (bdStep val s t).1.1.hi]→getH H2 (n+2) = .cells [.bool false]→getH H2 (n+5) = .loop lp→yQ (bdOwn n own) H (bdR n mo F inv lp) RS (bdStep val s t) (.c (.bool true)) H2:=by
    intro H2 hl2 hg2 w1 w2 w5
    have hK2:Keep (fun o=>o=n+1∨o=n+2∨o=n+5) H' H2:=⟨by omega,fun o ho hl=>by simp only [not_or] at ho;exact hg2 o ho.1 ho.2.1 ho.2.2⟩
    refine yQ_true rfl ⟨by omega,fun o ho hl=>?_⟩ ⟨?_,w1,w2,w5,hinv _ _ hi (hK2.mono fun o h=>.inl (by omega)) ((him _ hi).keep hK2 (by omega))⟩
    · simp only [bdOwn,not_or] at ho
      rw [hg2 o ho.2.1 ho.2.2.1 ho.2.2.2,hk.2 o ho.1 (by omega),g o ho.2.2.2]
    · rw [hg2 n (by omega) (by omega) (by omega),d0]
  obtain ⟨⟨lo,hi⟩,fi⟩:=s
  cases fi with
  | true=>
    simp only [go_sem,d1,d2,getH_setH,length_setH,h0,h1,h2,h3,cwider,bodyX,d5]
    refine ⟨lb,rfl,?_⟩
    rw [hq]
    refine fin _ (by simp only [length_setH]) (fun o h1 h2 h5=>by simp only [getH_setH,h1,h2,h5,false_and,if_false]) ?_ ?_ ?_<;>simp only [go_sem,getH_setH,length_setH,h0,h1,h2,h3,bdStep]
  | false=>
    simp only [go_sem,d1,d2,getH_setH,length_setH,h0,h1,h2,h3,cwider,bodyX,d5]
    refine ⟨lb,rfl,?_⟩
    rw [hq]
    refine fin _ (by simp only [length_setH]) (fun o h1 h2 h5=>by simp only [getH_setH,h1,h2,h5,false_and,if_false]) ?_ ?_ ?_<;>simp only [go_sem,getH_setH,length_setH,h0,h1,h2,h3,bdStep,d2]
theorem Fbounds (hv:v.Valid) {H:List Obj} {wo mo:Nat} (hw:getH H wo = .cells (workC g1 g2 g3 g4 v mo)) (ho:¬own wo) (hown:∀o,H.length≤o→¬own o) (hinv:∀H1 H2,inv H1→Keep (fun o=>H.length≤o∨o=mo) H1 H2→MapOk mo H2→inv H2) (him:∀H,inv H→MapOk mo H) (hkn:known [F]=true) (hF:OfOk v own F inv val) (hi:inv H) :
    Fn tab (.f 54 [.c (.ptr wo 0),.c F] H) fun r H'=>r = .agg [.int .i64 (bdL val (truthsL v [])).lo,.int .i64 (bdL val (truthsL v [])).hi]∧Keep (fun o=>own o∨o=mo) H H'∧inv H':=by
  refine Fn_X (fn:=f54) rfl rfl ?_
  have lwo:=lt_of_getH (h:=H) (o:=wo) (by rw [hw];simp)
  have hM:=him _ hi
  have lmo:=lt_of_getH (h:=H) (o:=mo) (by obtain ⟨es,_,h⟩:=hM;rw [h];simp)
  simp only [go_sem,f54,hkn,Ftruths (oc:=.nils) rfl]
  refine RX_range ?_
  generalize hlp:ALoop.mk .ready _ _ _ _ _=lp
  simp only [Opd.ev,getS,CallV_fn,firstV,List.length_append,List.length_cons,List.length_nil,List.append_assoc,List.cons_append,List.nil_append,List.map_cons,List.map_nil,Nat.zero_add,Nat.reduceAdd,Nat.add_assoc,Bool.false_eq_true,if_false]
  have hy:=bd_yield (v:=v) (n:=H.length) hown lmo hinv him hF (lp:=lp) (RS:=fun _ _=>False) hlp.symm
  have hMG:∀X,MapOk mo (H++X):=fun X=>hM.keep (own:=fun _=>False) Keep.append id
  refine (truths1_ok (n:=H.length+6) (wb:=H.length+3) (ob:=H.length+4) (oc:=.nils) (out:=[]) (wo:=wo) (mo:=mo) (g1:=g1) (g2:=g2) (g3:=g3) (g4:=g4) hv (by simp) (by decide) rfl (fun h=>?_) (fun h=>?_) (fun h=>?_) (fun o h _ h'=>?_) (fun s H H' hr hk hm=>⟨hk.get (by omega) hr.fb (by simp),hk.get (by omega) hr.r (by simp),hk.get (by omega) hr.fi (by simp),hk.get (by omega) hr.lp (by simp),hinv _ _ hr.inv (hk.mono fun o h=>by omega) hm⟩) (fun s H H' hr hk=>hr.elim) (fun s H hr=>him _ hr.inv) hy (by simp only [go_sem]) (by simp only [go_sem]) (getH_keep hw (by simp)) (fun H' _=>.lst (true,false) []) (s:=(⟨0,0⟩,true)) ⟨by simp only [go_sem],by simp only [go_sem],by simp only [go_sem],by simp only [go_sem],hinv _ _ hi Keep.append (hMG _)⟩ FoldC_true).mono ?_
  · rcases h with h | h | h | h
    · exact hown _ (by omega) h
    all_goals omega
  · rcases h with h | h | h | h
    · exact hown _ (by omega) h
    all_goals omega
  · rcases h with h | h | h | h
    · exact ho h
    all_goals omega
  · rcases h' with h' | h' | h' | h'
    · exact hown _ (by omega) h'
    all_goals omega
  · rintro r H' ⟨hk',hr⟩
    rcases hr with ⟨_,b⟩ | ⟨_,b⟩
    · have l5:=lt_of_getH (h:=H') (o:=H.length+5) (by rw [b.lp];simp)
      have l1:H.length+1<H'.length:=by omega
      refine ⟨lp,b.lp,by rw [←hlp];simp,?_⟩
      rw [show lp.pending = .normal by rw [←hlp]]
      have e0:=b.r
      have hKf:∀W X,Keep (fun o=>H.length≤o∨o=mo) H' (setH (setH H' (H.length+5) W) (H.length+1) X):=fun W X=>(setK (.inl (by omega))).trans (setK (.inl (by omega)))
      have hMf:∀W X,MapOk mo (setH (setH H' (H.length+5) W) (H.length+1) X):=fun W X=>((him _ b.inv).keep (own:=fun o=>o=H.length+5) (setK rfl) (by omega)).keep (own:=fun o=>o=H.length+1) (setK rfl) (by omega)
      simp only [go_sem,getH_setH,length_setH,l1,l5,e0]
      refine ⟨⟨rfl,rfl⟩,⟨by simp only [length_setH];omega,fun o ho' hl=>?_⟩,hinv _ _ b.inv (hKf _ _) (hMf _ _)⟩
      rw [getH_setH,if_neg (by omega),getH_setH,if_neg (by omega),hk'.2 o (fun h=>by rcases h with (h | h | h | h) | h;exact ho' (.inl h);omega;omega;omega;exact ho' (.inr h)) (by simp;omega),getH_left hl]
    · exact b.elim
end
end Am.Vt
namespace Am.Vt
open Go Am
set_option maxRecDepth 100000
set_option maxHeartbeats 4000000
set_option linter.unusedSimpArgs false
set_option linter.unusedVariables false
variable {g1 g2 g3 g4:Bool × Bool} {v:Vat}
structure WInv (g1 g2 g3 g4:Bool × Bool) (v:Vat) (wo mo:Nat) (H:List Obj):Prop where
  w:getH H wo = .cells (workC g1 g2 g3 g4 v mo)
  m:MapOk mo H
theorem WInv.ne {wo mo:Nat} {H:List Obj} (h:WInv g1 g2 g3 g4 v wo mo H):wo≠mo:=by rintro rfl;obtain ⟨es,_,e⟩:=h.m;rw [h.w] at e;cases e
theorem WInv.lw {wo mo:Nat} {H:List Obj} (h:WInv g1 g2 g3 g4 v wo mo H):wo<H.length:=lt_of_getH (by rw [h.w];simp)
theorem WInv.lm {wo mo:Nat} {H:List Obj} (h:WInv g1 g2 g3 g4 v wo mo H):mo<H.length:=by obtain ⟨es,_,e⟩:=h.m;exact lt_of_getH (by rw [e];simp)
theorem WInv.keep {wo mo:Nat} {own:Nat→Prop} {H H':List Obj} (h:WInv g1 g2 g3 g4 v wo mo H) (hk:Keep own H H') (h1:¬own wo) (hm:MapOk mo H'):WInv g1 g2 g3 g4 v wo mo H':=⟨hk.get h1 h.w (by simp),hm⟩
theorem WInv.app {wo mo:Nat} {H X:List Obj} (h:WInv g1 g2 g3 g4 v wo mo H):WInv g1 g2 g3 g4 v wo mo (H++X):=⟨getH_keep h.w (by simp),h.m.keep (own:=fun _=>False) Keep.append id⟩
theorem MapOk.app {mo:Nat} {H X:List Obj} (h:MapOk mo H):MapOk mo (H++X):=h.keep (own:=fun _=>False) Keep.append id
theorem cday' {n:Int} {Q:V→Prop}:CallP tab 46 [vatV g1 g2 g3 g4 v,.c (.int .i64 n)] Q↔Q (.c (.bool (inR n 0 v.last))):=cday
theorem cdays' (hv:v.Valid) {Q:V→Prop}:CallP tab 50 [vatV g1 g2 g3 g4 v] Q↔Q (.c (.int .i64 (v.drift.length:Nat))):=by
  rw [cdays]
  have h1:=hv.drift
  have h2:=hv.last7
  have h3:=hv.last0
  rw [wrapB (by omega) (by omega),h1]
def Sel (k:Nat) (sel:St→Int):Prop:=∀(H:List Obj) (s:St),CallV tab (.c (.fn k false [] [])) [.agg [.int .i64 s.bal,.int .i64 s.blue]] H fun r H'=>r = .c (.int .i64 (sel s))∧Keep (fun _=>False) H H'
theorem sel_bal : Sel 51 St.bal:=by
  intro H c
  rw [CallV_fn]
  refine Fn_X (fn:=f51) rfl rfl ?_
  simp only [go_sem,f51]
  exact Keep.append
theorem sel_blue : Sel 53 St.blue:=by
  intro H c
  rw [CallV_fn]
  refine Fn_X (fn:=f53) rfl rfl ?_
  simp only [go_sem,f53]
  exact Keep.append
structure OnInv (g1 g2 g3 g4:Bool × Bool) (v:Vat) (wo mo n kq:Nat) (d:Int) (H:List Obj):Prop where
  wi:WInv g1 g2 g3 g4 v wo mo H
  q:getH H n = .cells [.fn kq false [] []]
  d:getH H (n+1) = .cells [.int .i64 d]
theorem on1_ok (hv:v.Valid) {kq:Nat} {sel:St→Int} (hs:Sel kq sel) {wo mo n d:Nat} (hd:d<v.drift.length) (hn:n≠mo) (hn1:n+1≠mo) :
    OfOk v (fun _=>False) (.fn 90 false [] [.ptr n 0,.ptr (n+1) 0]) (OnInv g1 g2 g3 g4 v wo mo n kq d) (fun t=>sel (stAt v t (d+1))):=by
  intro H t so ver hIs hso hi
  rw [CallV_fn]
  refine Fn_X (fn:=f90) rfl rfl ?_
  have e1:=hi.q
  have e2:=hi.d
  have d0:(0:Int)≤d:=by omega
  have d1:(d:Int)<v.drift.length:=by omega
  have pl:=playL_len (v:=v) (t:=t)
  have hn':nth ((playL v t).map (Row.row (α:=St))) d=some [.int .i64 (stAt v t (d+1)).bal,.int .i64 (stAt v t (d+1)).blue]:=by
    rw [nth_get];simp [playL,hd];rfl
  simp only [go_sem,f90,e1,e2,d0,d1,hso,hn',disj_nil]
  refine (hs H (stAt v t (d+1))).mono ?_
  rintro r H' ⟨rfl,hk⟩
  simp only [go_sem]
  exact ⟨hk,hi.wi.keep hk id (hi.wi.m.keep hk id),hk.get id hi.q (by simp),hk.get id hi.d (by simp)⟩
theorem Fon (hv:v.Valid) {kq:Nat} {sel:St→Int} (hs:Sel kq sel) {H:List Obj} {wo mo d:Nat} (hd:d<v.drift.length) (hW:WInv g1 g2 g3 g4 v wo mo H) :
    Fn tab (.f 52 [.agg [.fn kq false [] []],.c (.ptr wo 0),.c (.int .i64 d)] H) fun r H'=>r = .agg [.int .i64 (bdL (fun t=>sel (stAt v t (d+1))) (truthsL v [])).lo,.int .i64 (bdL (fun t=>sel (stAt v t (d+1))) (truthsL v [])).hi]∧Keep (fun o=>o=mo) H H'∧WInv g1 g2 g3 g4 v wo mo H':=by
  refine Fn_X (fn:=f52) rfl rfl ?_
  have lw:=hW.lw
  have lm:=hW.lm
  have nwm:=hW.ne
  have hk:known [.fn kq false [] []]=true:=rfl
  simp only [go_sem,f52,hk]
  refine (Fbounds (v:=v) (g1:=g1) (g2:=g2) (g3:=g3) (g4:=g4) (own:=fun _=>False) (wo:=wo) (mo:=mo) (inv:=OnInv g1 g2 g3 g4 v wo mo H.length kq d) (val:=fun t=>sel (stAt v t (d+1))) hv (getH_keep hW.w (by simp)) id (fun _ _=>id) (fun H1 H2 h hk hm=>?_) (fun H h=>h.wi.m) rfl (on1_ok hv hs hd (by omega) (by omega)) ⟨hW.app,by simp only [go_sem],by simp only [go_sem]⟩).mono ?_
  · simp only [List.length_append,List.length_cons,List.length_nil] at hk
    exact ⟨h.wi.keep hk (by omega) hm,hk.get (by omega) h.q (by simp),hk.get (by omega) h.d (by simp)⟩
  · rintro r H' ⟨rfl,hk,hi⟩
    have l1:=hk.1
    simp only [List.length_append,List.length_cons,List.length_nil] at l1
    have e2:=hk.get (o:=H.length+2) (by simp;omega) (by simp only [go_sem]) (show Obj.cells [C.int .i64 0,C.int .i64 0] ≠ .none by simp)
    have l2:H.length+2<H'.length:=by omega
    simp only [go_sem,e2,getH_setH,l2]
    refine ⟨⟨by rw [length_setH];omega,fun o ho hl=>?_⟩,hi.wi.keep (own:=fun o=>o=H.length+2) (setK rfl) (by omega) (hi.wi.m.keep (own:=fun o=>o=H.length+2) (setK rfl) (by omega))⟩
    rw [getH_setH,if_neg (by omega),hk.2 o (by simp;omega) (by simp;omega),getH_left hl]
def bdAt (v:Vat) (d:Nat):Bound:=⟨bdL (fun t=>(stAt v t (d+1)).bal) (truthsL v []),bdL (fun t=>(stAt v t (d+1)).blue) (truthsL v [])⟩
def boundsL (v:Vat):List Bound:=(List.range v.drift.length).map (bdAt v)
theorem boundsL_len : (boundsL v).length=v.drift.length:=by simp [boundsL]
def BoundsR (v:Vat):V:=if askE v true=0 then .tup [.c (L (false,false) (boundsL v)),.c (.int .i64 0)] else .tup [.c .nils,.c (.int .i64 (askE v true))]
theorem cBounds (hf:v.Fits) {Q:V→Prop}:CallP tab 19 [vatV g1 g2 g3 g4 v] Q↔Q (BoundsR v):=CallP_of (by
  refine Val_X (fn:=f19) rfl ?_
  simp only [go_sem,f19]
  refine (Fasked (g1:=g1) (g2:=g2) (g3:=g3) (g4:=g4) (b:=true) hf).mono ?_
  rintro r H' ⟨hk,hr⟩
  obtain ⟨X,rfl⟩:=hk.none_eq
  rcases hr with ⟨a,rfl⟩ | ⟨a,wo,mo,b1,b2,rfl,b3,b4⟩
  · rw [BoundsR,if_neg a]
    simp only [go_sem,a]
  · have hv:=valid_of (ask_ok a).1
    rw [BoundsR,if_pos a]
    simp only [List.length_cons,List.length_nil] at b1 b2
    have hW0:WInv g1 g2 g3 g4 v wo mo _:=⟨b3,b4⟩
    have lw:=hW0.lw
    have lm:=hW0.lm
    have nwm:=hW0.ne
    simp only [List.length_append,List.length_cons,List.length_nil] at lw lm
    have v1:=hv.drift
    have v4:=hv.last7
    have v5:=hv.last0
    simp only [go_sem,cdays' hv]
    obtain ⟨H0,hH0⟩:∃H0,H0 = .cells (vatC g1 g2 g3 g4 v)::(X++[Obj.arr false 0 4 []]):=⟨_,rfl⟩
    have l0:H0.length=X.length+2:=by rw [hH0];simp
    have hWs:WInv g1 g2 g3 g4 v wo mo H0:=by rw [hH0];exact hW0.app (X:=[_])
    refine RX_whileU (α:=Nat × List Obj) (fun x=>[(6,.c (.sl (X.length+1) x.1 0 x.1)),(18,.c (.int .i64 x.1))]) (fun x=>x.2) (fun x=>x.1≤v.drift.length∧Keep (fun o=>o=mo∨o=X.length+1) H0 x.2∧getH x.2 (X.length+1) = .arr false x.1 4 (((boundsL v).take x.1).map Row.row)∧WInv g1 g2 g3 g4 v wo mo x.2) (fun x=>v.drift.length-x.1) (0,H0) ⟨Nat.zero_le _,Keep.refl,by rw [hH0];simp only [go_sem,List.take_zero,getH_atL0],hWs⟩ (by simp only [go_sem,hH0]<;>rfl) ?_
    rintro ⟨k,H1⟩ ⟨hk1,hK,hl,hW1⟩
    simp only at hk1 hK hl hW1
    have l1:=hK.1
    have bl:=boundsL_len (v:=v)
    by_cases hlt:k<v.drift.length
    · have hlt':(k:Int)<v.drift.length:=by omega
      have e4:IntKind.i64.wrap ((k:Int)+1)=((k+1:Nat):Int):=wrap_succ (n:=3000) (by omega) (by decide)
      have b5:(k+1)*32≤2^40:=by omega
      simp only [go_sem,hlt',show (k:Int)<((v.drift.length:Nat):Int) from hlt']
      refine (Fon (g1:=g1) (g2:=g2) (g3:=g3) (g4:=g4) hv sel_bal (d:=k) hlt (hW1.app (X:=[.none,.none]))).mono ?_
      rintro r H2 ⟨rfl,K2,W2⟩
      have l2:=K2.1
      simp only [go_sem]
      refine (Fon (g1:=g1) (g2:=g2) (g3:=g3) (g4:=g4) hv sel_blue (d:=k) hlt W2).mono ?_
      rintro r H3 ⟨rfl,K3,W3⟩
      have l3:=K3.1
      have K13:=K2.trans K3
      simp only [List.length_append,List.length_cons,List.length_nil] at l2
      have hh0:isHole H3 H1.length=true:=K13.hole (by omega) (by simp) (by simp only [go_sem])
      have hh1:isHole H3 (H1.length+1)=true:=K13.hole (by omega) (by simp) (by simp only [go_sem])
      have hl3:=K13.get (o:=X.length+1) (by omega) (getH_keep hl (by simp)) (by simp)
      have q1:¬X.length+1=H1.length:=by omega
      have q2:H1.length<H3.length:=by omega
      have q3:X.length+1<H3.length:=by omega
      have htk:(boundsL v).take (k+1)=(boundsL v).take k++[bdAt v k]:=by
        rw [take_getD (by omega) (default:Bound),getD_lt _ _ _ (by omega)];simp [boundsL]
      have htl:((boundsL v).take k).length=k:=by rw [List.length_take];omega
      simp only [go_sem,hh0,hh1,getH_setH,length_setH,q1,q2,q3,hl3,false_and,htl,b5,e4]
      refine ⟨(k+1,_),⟨by simp only;omega,hlt,?_,?_,?_⟩,⟨rfl,rfl⟩,rfl⟩
      · refine ⟨by simp [length_setH];omega,fun o ho hl'=>?_⟩
        rw [getH_setH,if_neg (by omega),getH_setH,if_neg (by omega),K13.2 o (by omega) (by simp;omega),getH_left (by omega),hK.2 o ho hl']
      · simp only [htk,List.map_append]
        rw [getH_setH,if_pos ⟨rfl,by rw [length_setH];omega⟩];rfl
      · exact (W3.keep (own:=fun o=>o=H1.length) (setK rfl) (by omega) (W3.m.keep (own:=fun o=>o=H1.length) (setK rfl) (by omega))).keep (own:=fun o=>o=X.length+1) (setK rfl) (by omega) ((W3.m.keep (own:=fun o=>o=H1.length) (setK rfl) (by omega)).keep (own:=fun o=>o=X.length+1) (setK rfl) (by omega))
    · have:k=v.drift.length:=by omega
      subst this
      rw [List.take_of_length_le (by omega)] at hl
      simp only [go_sem,hlt,hl,bl])
end Am.Vt
namespace Am.Vt
open Go Am
set_option maxRecDepth 100000
set_option maxHeartbeats 4000000
set_option linter.unusedSimpArgs false
set_option linter.unusedVariables false
variable {g1 g2 g3 g4:Bool × Bool} {v:Vat}
def shadesL (v:Vat) (s:St) (n:Nat):List Int:=(List.range n).map fun i=>shadeI (dipN v.take i s.blue) (ordB v s.bal)
theorem shadesL_len {s:St} {n:Nat}:(shadesL v s n).length=n:=by simp [shadesL]
theorem shadesL_succ {s:St} {n:Nat}:shadesL v s (n+1)=shadesL v s n++[shadeI (dipN v.take n s.blue) (ordB v s.bal)]:=by
  simp [shadesL,List.range_succ]
theorem shade_bd {n:Int} (h0:0≤n) (h1:n≤1000000) (b:Bool):0≤shadeI n b∧shadeI n b≤n∧shadeI n b=n.tdiv (if b=true then 10 else 20):=by
  have e:n.tdiv (if b=true then 10 else 20)=n / (if b=true then 10 else 20):=Int.tdiv_eq_ediv_of_nonneg h0
  have h2:0≤n / (if b=true then 10 else 20)∧n / (if b=true then 10 else 20)≤n:=by cases b<;>simp<;>omega
  have w:shadeI n b=n / (if b=true then 10 else 20):=by unfold shadeI;rw [e];exact wrapB (by omega) (by omega)
  rw [w,e]
  exact ⟨h2.1,h2.2,rfl⟩
theorem Fshades (hv:v.Valid) {H:List Obj} {wo mo:Nat} {s:St} (hb:0≤s.blue∧s.blue≤1000000) {d:Nat} (hd:d≤1000) (hW:WInv g1 g2 g3 g4 v wo mo H) :
    Fn tab (.f 48 [.c (.ptr wo 0),.agg [.int .i64 s.bal,.int .i64 s.blue],.c (.int .i64 d)] H) fun r H'=>∃o,r = .c (.sl o d 0 d)∧getH H' o = .arr false d 1 ((shadesL v s d).map Row.row)∧H.length≤o∧Keep (fun o=>o=mo) H H'∧WInv g1 g2 g3 g4 v wo mo H':=by
  refine Fn_X (fn:=f48) rfl rfl ?_
  have lw:=hW.lw
  have lm:=hW.lm
  have nwm:=hW.ne
  have e1:=hW.w
  have bt:=hv.take
  have z0:¬wo=H.length:=by omega
  have z1:¬H.length=wo:=by omega
  have z2:¬wo=H.length+1:=by omega
  have z3:¬H.length+1=wo:=by omega
  have z4:¬wo=H.length+2:=by omega
  have z5:¬H.length+2=wo:=by omega
  simp only [go_sem,f48,getH_left,lw,e1,corder' hv,z0,z1,z2,z3,z4,z5,disj_nil]
  obtain ⟨H0,hH0⟩:∃H0,H0=H++[.cells [.int .i64 s.bal,.int .i64 s.blue],.cells [.int .i64 s.blue,.bool (ordB v s.bal)],.arr false 0 1 []]:=⟨_,rfl⟩
  have l0:H0.length=H.length+3:=by rw [hH0];simp
  have hW0:WInv g1 g2 g3 g4 v wo mo H0:=by rw [hH0];exact hW.app
  refine RX_whileU (α:=Nat × List Obj) (fun x=>[(6,.c (.sl (H.length+2) x.1 0 x.1)),(21,.c (.int .i64 x.1))]) (fun x=>x.2) (fun x=>x.1≤d∧Keep (fun o=>o=mo∨o=H.length+1∨o=H.length+2) H0 x.2∧getH x.2 (H.length+1) = .cells [.int .i64 (dipN v.take x.1 s.blue),.bool (ordB v s.bal)]∧getH x.2 (H.length+2) = .arr false x.1 1 ((shadesL v s x.1).map Row.row)∧WInv g1 g2 g3 g4 v wo mo x.2) (fun x=>d-x.1) (0,H0) ⟨Nat.zero_le _,Keep.refl,by rw [hH0];simp only [go_sem,dipN],by rw [hH0];simp only [go_sem,shadesL,List.range_zero],hW0⟩ (by simp only [go_sem,hH0]<;>rfl) ?_
  rintro ⟨k,H1⟩ ⟨hk,hK,hx,hl,hW1⟩
  simp only at hk hK hx hl hW1
  have l1:=hK.1
  by_cases hlt:k<d
  · have hlt':(k:Int)<(d:Nat):=by omega
    have e4:IntKind.i64.wrap ((k:Int)+1)=((k+1:Nat):Int):=wrap_succ (n:=3000) (by omega) (by decide)
    have bd:=dipN_bd bt.1 (n:=k) hb.1
    have w6:IntKind.i64.wrap (dipN v.take k s.blue-v.take)=dipN v.take k s.blue-v.take:=wrapB (by omega) (by omega)
    have sl:=shadesL_len (v:=v) (s:=s) (n:=k)
    have j0:H.length+1<H1.length:=by omega
    have j1:H.length+2<H1.length:=by omega
    have y0:¬H.length+1=H1.length:=by omega
    have y1:¬H1.length=H.length+1:=by omega
    have y2:¬H.length+2=H1.length:=by omega
    have y3:¬H1.length=H.length+2:=by omega
    have b5:(k+1)*8≤2^40:=by omega
    simp only [go_sem,hlt',getH_left,j0,j1,hx]
    refine (Fdip (g1:=g1) (g2:=g2) (g3:=g3) (g4:=g4) (v:=v) (n:=dipN v.take k s.blue) (b:=ordB v s.bal) (getH_keep hW1.w (by simp)) hW1.m.app).mono ?_
    rintro r H2 ⟨rfl,K2,M2⟩
    have l2:=K2.1
    simp only [List.length_append,List.length_cons,List.length_nil] at l2
    have hh0:isHole H2 H1.length=true:=K2.hole (by omega) (by simp) (by simp only [go_sem])
    have hx2:=K2.get (o:=H.length+1) (by omega) (getH_keep hx (by simp)) (by simp)
    have hl2:=K2.get (o:=H.length+2) (by omega) (getH_keep hl (by simp)) (by simp)
    have i0:H.length+1<H2.length:=by omega
    have i1:H.length+2<H2.length:=by omega
    have i2:H1.length<H2.length:=by omega
    have w0:¬H.length+1=H2.length:=by omega
    have w1:¬H2.length=H.length+1:=by omega
    have w2:¬H.length+2=H2.length:=by omega
    have w3:¬H2.length=H.length+2:=by omega
    have w4:¬H1.length=H2.length:=by omega
    have w5:¬H2.length=H1.length:=by omega
    simp only [go_sem,hh0,getH_left,setH_left,getH_setH,length_setH,getH_atL,getH_atL0,setH_atL,setH_atL0,isHole_atL,isHole_atL0,i0,i1,i2,w0,w1,w2,w3,w4,w5,y0,y1,y2,y3,hx2,hl2,false_and,sl,b5,e4,w6,disj_nil]
    have KX:∀(a a' b c:Obj) (Y:List Obj),Keep (fun o=>o=H1.length∨o=H.length+1∨o=H.length+2) H2 (setH (setH (setH (setH H2 H1.length a) H1.length a') (H.length+2) b) (H.length+1) c++Y):=fun a a' b c Y=>by
      refine ⟨by simp [length_setH],fun o ho hl'=>?_⟩
      simp only [not_or] at ho
      rw [getH_left (by simp [length_setH];omega),getH_setH,if_neg (by omega),getH_setH,if_neg (by omega),getH_setH,if_neg (by omega),getH_setH,if_neg (by omega)]
    have W2:WInv g1 g2 g3 g4 v wo mo H2:=hW1.app.keep K2 nwm M2
    refine ⟨(k+1,_),⟨by simp only;omega,hlt,?_,?_,?_,?_⟩,⟨rfl,rfl⟩,rfl⟩
    · refine hK.trans ⟨Nat.le_trans (by omega) (KX _ _ _ _ _).1,fun o ho hl'=>?_⟩
      rw [(KX _ _ _ _ _).2 o (by omega) (by omega),K2.2 o (by omega) (by simp;omega),getH_left hl']
    · simp only [go_sem,getH_left,getH_setH,length_setH,i0,i1,i2,dipN]
    · simp only [go_sem,getH_left,getH_setH,length_setH,i0,i1,i2,shadesL_succ,List.map_append,false_and]
    · exact W2.keep (KX _ _ _ _ _) (by omega) (M2.keep (KX _ _ _ _ _) (by omega))
  · have:k=d:=by omega
    subst this
    have hlt':¬(k:Int)<k:=by omega
    simp only [go_sem,hlt']
    refine ⟨_,rfl,hl,by omega,⟨by omega,fun o ho hl'=>?_⟩,hW1⟩
    rw [hK.2 o (by omega) (by omega),hH0,getH_left hl']
def sumI (l:List Int):Int:=l.foldl (·+·) 0
theorem sumI_snoc {l:List Int} {x:Int}:sumI (l++[x])=sumI l+x:=by simp [sumI,List.foldl_append]
theorem foldl_add : ∀{l:List Int} {a:Int},l.foldl (·+·) a=a+sumI l
  | [],a=>by simp [sumI]
  | x::l,a=>by
    rw [List.foldl_cons,foldl_add (l:=l),show sumI (x::l)=l.foldl (·+·) (0+x) from rfl,foldl_add (l:=l)];omega
theorem sumI_cons {l:List Int} {x:Int}:sumI (x::l)=x+sumI l:=by
  rw [sumI,List.foldl_cons,foldl_add];omega
theorem sumI_bd {M:Nat}:∀{l:List Int},(∀x∈l,-(M:Int)≤x∧x≤M) → -((l.length*M:Nat):Int)≤sumI l∧sumI l≤((l.length*M:Nat):Int)
  | [],_=>by simp [sumI]
  | x::l,h=>by
    have ih:=sumI_bd (M:=M) (l:=l) fun y hy=>h y (by simp [hy])
    have hx:=h x (by simp)
    rw [sumI_cons,List.length_cons,Nat.succ_mul]
    omega
theorem shadesL_bd (hv:v.Valid) {s:St} (hb:0≤s.blue∧s.blue≤1000000) {n:Nat}:∀x∈shadesL v s n,0≤x∧x≤s.blue:=by
  intro x hx
  simp only [shadesL,List.mem_map,List.mem_range] at hx
  obtain ⟨i,_,rfl⟩:=hx
  have h1:=dipN_bd hv.take.1 (n:=i) hb.1
  have h2:=shade_bd h1.1 (by omega) (ordB v s.bal)
  omega
structure ShInv (g1 g2 g3 g4:Bool × Bool) (v:Vat) (wo mo n1 n2 n3:Nat) (d m:Int) (H:List Obj):Prop where
  wi:WInv g1 g2 g3 g4 v wo mo H
  w:getH H n1 = .cells [.ptr wo 0]
  d:getH H n2 = .cells [.int .i64 d]
  m:getH H n3 = .cells [.int .i64 m]
theorem ShInv.keep {wo mo n1 n2 n3:Nat} {d m:Int} {own:Nat→Prop} {H H':List Obj} (h:ShInv g1 g2 g3 g4 v wo mo n1 n2 n3 d m H) (hk:Keep own H H') (h0:¬own wo) (h1:¬own n1) (h2:¬own n2) (h3:¬own n3) (hm:MapOk mo H'):ShInv g1 g2 g3 g4 v wo mo n1 n2 n3 d m H':=
  ⟨h.wi.keep hk h0 hm,hk.get h1 h.w (by simp),hk.get h2 h.d (by simp),hk.get h3 h.m (by simp)⟩
theorem stBlue_bd (hv:v.Valid) {t:Truth} (h:IsT v t) {d:Nat} (hd:d<v.drift.length):0≤(stAt v t (d+1)).blue∧(stAt v t (d+1)).blue≤5000:=by
  have:=stAt_bd hv h (d:=d+1) (by omega)
  have:=hv.drift
  have:=hv.last7
  omega
theorem shade1_ok (hv:v.Valid) {wo mo n1 n2 n3 d m:Nat} (hd:d<v.drift.length) (hm:m≤1000) (q1:n1≠mo) (q2:n2≠mo) (q3:n3≠mo) :
    OfOk v (fun o=>o=mo) (.fn 55 false [] [.ptr n1 0,.ptr n2 0,.ptr n3 0]) (ShInv g1 g2 g3 g4 v wo mo n1 n2 n3 d m) (fun t=>sumI (shadesL v (stAt v t (d+1)) m)):=by
  intro H t so ver hIs hso hi
  rw [CallV_fn]
  refine Fn_X (fn:=f55) rfl rfl ?_
  have e1:=hi.w
  have e2:=hi.d
  have e3:=hi.m
  have d0:(0:Int)≤d:=by omega
  have d1:(d:Int)<v.drift.length:=by omega
  have hn':nth ((playL v t).map (Row.row (α:=St))) d=some [.int .i64 (stAt v t (d+1)).bal,.int .i64 (stAt v t (d+1)).blue]:=by
    rw [nth_get];simp [playL,hd];rfl
  have bb:=stBlue_bd hv hIs hd
  have bs:=shadesL_bd hv (s:=stAt v t (d+1)) (n:=m) (by omega)
  have sl:=shadesL_len (v:=v) (s:=stAt v t (d+1)) (n:=m)
  simp only [go_sem,f55,e1,e2,e3,d0,d1,hso,hn',disj_nil]
  refine (Fshades (g1:=g1) (g2:=g2) (g3:=g3) (g4:=g4) hv (s:=stAt v t (d+1)) (by omega) (d:=m) hm hi.wi).mono ?_
  rintro r H' ⟨o,rfl,ho,hge,hk,hW⟩
  have hiS:ShInv g1 g2 g3 g4 v wo mo n1 n2 n3 d m H':=⟨hW,hk.get q1 e1 (by simp),hk.get q2 e2 (by simp),hk.get q3 e3 (by simp)⟩
  generalize shadesL v (stAt v t (d+1)) m=sh at *
  simp only [go_sem,disj_nil]
  refine RX_forC m (fun k=>[(5,.c (.int .i64 (sumI (sh.take k)))),(16,.c (.int .i64 k))]) (fun _=>True) rfl trivial (by simp only [go_sem]<;>first | rfl | exact ⟨rfl,rfl⟩) ?_
  intro k hk2 _
  by_cases hlt:k<m
  · have hlt':(k:Int)<(m:Nat):=by omega
    have k0:(0:Int)≤k:=by omega
    have e4:IntKind.i64.wrap ((k:Int)+1)=((k+1:Nat):Int):=wrap_succ (n:=3000) (by omega) (by decide)
    have hn2:=nth_row (w:=sh) (y:=k) (by omega)
    have hst:sumI (sh.take (k+1))=sumI (sh.take k)+sh.getD k default:=by rw [take_getD (by omega) default,sumI_snoc]
    have hb1:=sumI_bd (M:=5000) (l:=sh.take (k+1)) fun x hx=>by have:=bs x (List.mem_of_mem_take hx);omega
    have hlen:(sh.take (k+1)).length≤1000:=by rw [List.length_take];omega
    have hmul:(sh.take (k+1)).length*5000≤1000*5000:=Nat.mul_le_mul_right _ hlen
    have e5:IntKind.i64.wrap (sumI (sh.take k)+sh.getD k default)=sumI (sh.take (k+1)):=by rw [←hst];exact wrapB (by omega) (by omega)
    simp only [go_sem,hlt',hlt,k0,ho,hn2,e4,e5]
  · have:k=m:=by omega
    subst this
    have hlt':¬(k:Int)<k:=by omega
    rw [List.take_of_length_le (by omega)]
    simp only [go_sem,hlt']
    exact ⟨hk,hiS⟩
def shadeRg (v:Vat) (d m:Nat):Rg:=bdL (fun t=>sumI (shadesL v (stAt v t (d+1)) m)) (truthsL v [])
def ShadeR (v:Vat) (day many:Int):V:=if askE v (inR day 0 v.last&&inR many 0 20)=0 then .tup [.agg [.int .i64 (shadeRg v day.toNat many.toNat).lo,.int .i64 (shadeRg v day.toNat many.toNat).hi],.c (.int .i64 0)] else .tup [.agg [.int .i64 0,.int .i64 0],.c (.int .i64 (askE v (inR day 0 v.last&&inR many 0 20)))]
theorem getH5 {a b c d e:Obj} {X:List Obj} (e':Obj) {o:Nat} (ho:5≤o):getH (a::b::c::d::e::X) o=getH (a::b::c::d::e'::X) o:=by
  obtain ⟨k,rfl⟩:=Nat.exists_eq_add_of_le ho
  rw [Nat.add_comm];rfl
theorem cdips' {n:Int} {Q:V→Prop}:CallP tab 47 [.c (.int .i64 n)] Q↔Q (.c (.bool (inR n 0 20))):=cdips
theorem cShade (hf:v.Fits) {day many:Int} {Q:V→Prop}:CallP tab 20 [vatV g1 g2 g3 g4 v,.c (.int .i64 day),.c (.int .i64 many)] Q↔Q (ShadeR v day many):=CallP_of (by
  refine Val_X (fn:=f20) rfl ?_
  have key:∀(b:Bool),(inR day 0 v.last&&inR many 0 20)=b→∀(H:List Obj) (hH:H=[.cells (vatC g1 g2 g3 g4 v),.cells [.int .i64 day],.cells [.int .i64 many],.cells [.int .i64 0,.int .i64 0],.none]),Fn tab (.f 49 [vatV g1 g2 g3 g4 v,.c (.bool b)] H) (AskRes g1 g2 g3 g4 v b H):=fun b _ H _=>Fasked hf
  cases hb1:inR day 0 v.last with
  | false=>
    have hb:(inR day 0 v.last&&inR many 0 20)=false:=by rw [hb1];rfl
    rw [ShadeR,hb]
    simp only [go_sem,f20,cday',hb1]
    refine (Fasked (g1:=g1) (g2:=g2) (g3:=g3) (g4:=g4) (b:=false) hf).mono ?_
    rintro r H' ⟨hk,hr⟩
    obtain ⟨X,rfl⟩:=hk.none_eq
    rcases hr with ⟨a,rfl⟩ | ⟨a,wo,mo,b1,b2,rfl,b3,b4⟩
    · rw [if_neg a]
      simp only [go_sem,a,disj_nil]
    · exact absurd (ask_ok a).2.1 (by simp)
  | true=>
    have hb:(inR day 0 v.last&&inR many 0 20)=inR many 0 20:=by rw [hb1];rfl
    rw [ShadeR,hb]
    simp only [go_sem,f20,cday',hb1,cdips']
    refine (Fasked (g1:=g1) (g2:=g2) (g3:=g3) (g4:=g4) (b:=inR many 0 20) hf).mono ?_
    rintro r H' ⟨hk,hr⟩
    obtain ⟨X,rfl⟩:=hk.none_eq
    rcases hr with ⟨a,rfl⟩ | ⟨a,wo,mo,b1,b2,rfl,b3,b4⟩
    · rw [if_neg a]
      simp only [go_sem,a,disj_nil]
    · rw [if_pos a]
      have hv:=valid_of (ask_ok a).1
      have hm:=(ask_ok a).2.1
      rw [inR_iff] at hb1 hm
      simp only [List.length_cons,List.length_nil] at b1 b2
      simp only [List.cons_append,List.nil_append] at b3 b4
      obtain ⟨es,b4,b5⟩:=b4
      rw [getH5 (.cells [.ptr wo 0]) b1] at b3
      rw [getH5 (.cells [.ptr wo 0]) b2] at b5
      have hW:WInv g1 g2 g3 g4 v wo mo _:=⟨b3,es,b4,b5⟩
      have lw:=hW.lw
      have lm:=hW.lm
      have nwm:=hW.ne
      have v1:=hv.drift
      obtain ⟨d,rfl⟩:∃d:Nat,day=d:=⟨day.toNat,by omega⟩
      obtain ⟨m,rfl⟩:∃m:Nat,many=m:=⟨many.toNat,by omega⟩
      simp only [go_sem,disj_nil]
      refine (Fbounds (v:=v) (g1:=g1) (g2:=g2) (g3:=g3) (g4:=g4) (own:=fun o=>o=mo) (wo:=wo) (mo:=mo) (inv:=ShInv g1 g2 g3 g4 v wo mo 4 1 2 d m) (val:=fun t=>sumI (shadesL v (stAt v t (d+1)) m)) hv b3 nwm (fun o ho h=>by omega) (fun H1 H2 h hk hm=>h.keep hk (by omega) (by simp;omega) (by simp;omega) (by simp;omega) hm) (fun H h=>h.wi.m) rfl (shade1_ok hv (by omega) (by omega) (by omega) (by omega) (by omega)) ⟨hW,rfl,rfl,rfl⟩).mono ?_
      rintro r H' ⟨rfl,hk',hi⟩
      have e3:=hk'.get (o:=3) (by omega) (show getH _ 3 = .cells [.int .i64 0,.int .i64 0] from rfl) (by simp)
      have l3:=lt_of_getH (h:=H') (o:=3) (by rw [e3];simp)
      simp only [go_sem,e3,getH_setH,l3,shadeRg])
end Am.Vt
namespace Am.Vt
open Go Am
set_option maxRecDepth 100000
set_option maxHeartbeats 4000000
set_option linter.unusedSimpArgs false
set_option linter.unusedVariables false
variable {g1 g2 g3 g4:Bool × Bool} {v:Vat}
def orStep (v:Vat) (d:Nat) (s:Bool × Bool) (t:Truth):(Bool × Bool) × Bool:=((s.1||ordB v (stAt v t (d+1)).bal,s.2 || !ordB v (stAt v t (d+1)).bal),true)
structure orR (g1 g2 g3 g4:Bool × Bool) (v:Vat) (mo m:Nat) (d:Int) (lp:ALoop) (s:Bool × Bool) (H:List Obj):Prop where
  v0:getH H 0 = .cells (vatC g1 g2 g3 g4 v)
  d:getH H 1 = .cells [.int .i64 d]
  y:getH H m = .cells [.bool s.1]
  n:getH H (m+1) = .cells [.bool s.2]
  lp:getH H (m+4) = .loop lp
  m:MapOk mo H
def ordAll (v:Vat) (d:Nat):Bool × Bool:=(foldY (orStep v d) (false,false) (truthsL v [])).1
def ordI (v:Vat) (d:Nat):Int:=if (ordAll v d).2=false then 1 else if (ordAll v d).1=false then 2 else 3
def OrderR (v:Vat) (day:Int):V:=if askE v (inR day 0 v.last)=0 then .tup [.c (.int .i64 (ordI v day.toNat)),.c (.int .i64 0)] else .tup [.c (.int .i64 0),.c (.int .i64 (askE v (inR day 0 v.last)))]
end Am.Vt
namespace Am.Vt
open Go Am
set_option maxRecDepth 100000
set_option maxHeartbeats 4000000
set_option linter.unusedSimpArgs false
set_option linter.unusedVariables false
variable {g1 g2 g3 g4 gt:Bool × Bool} {v:Vat} {t:Truth}
abbrev truthG (gt:Bool × Bool) (t:Truth):V:=.agg [.int .i64 t.start,.int .i64 t.blue,L gt t.drift]
attribute [go_sem] truthG
def listedB (v:Vat) (t:Truth):Bool:=decide (t.drift.length=v.drift.length)&&(inR t.start v.start.lo v.start.hi&&(inR t.blue v.blue.lo v.blue.hi&&(List.range v.drift.length).all fun i=>inR (t.drift.getD i default) (v.drift.getD i default).lo (v.drift.getD i default).hi))
theorem clisted (hv:v.Valid) {Q:V→Prop}:CallP tab 41 [vatV g1 g2 g3 g4 v,truthG gt t] Q↔Q (.c (.bool (listedB v t))):=CallP_of (by
  refine Val_X (fn:=f41) rfl ?_
  have v1:=hv.drift
  have v4:=hv.last7
  by_cases a1:t.drift.length=v.drift.length
  · cases a2:inR t.start v.start.lo v.start.hi with
    | false=>simp only [go_sem,f41,cdays' hv,a1,chas,a2,disj_nil,listedB]
    | true=>
      cases a3:inR t.blue v.blue.lo v.blue.hi with
      | false=>simp only [go_sem,f41,cdays' hv,a1,chas,a2,a3,disj_nil,listedB]
      | true=>
        have hB:listedB v t=(List.range v.drift.length).all fun i=>inR (t.drift.getD i default) (v.drift.getD i default).lo (v.drift.getD i default).hi:=by simp only [listedB,a1,a2,a3,decide_true,Bool.true_and]
        simp only [go_sem,f41,cdays' hv,a1,chas,a2,a3,disj_nil]
        rw [hB]
        refine RX_forC v.drift.length (fun k=>[(32,.c (.int .i64 k))]) (fun k=>∀i,i<k→inR (t.drift.getD i default) (v.drift.getD i default).lo (v.drift.getD i default).hi=true) rfl (fun i h=>by omega) (by simp only [go_sem]<;>rfl) ?_
        intro k hk hP
        by_cases hlt:k<v.drift.length
        · have e4:IntKind.i64.wrap ((k:Int)+1)=((k+1:Nat):Int):=wrap_succ (n:=5000) (by omega) (by decide)
          have k0:k<t.drift.length:=by omega
          simp only [go_sem,hlt,k0,atI_nat,e4,chas,disj_nil]
          refine ⟨fun h=>?_,fun h i hi=>?_⟩
          · rw [List.all_eq_false]
            exact ⟨k,by simpa using hlt,by rw [h];simp⟩
          · by_cases hik:i=k
            · subst hik;exact h
            · exact hP i (by omega)
        · have:k=v.drift.length:=by omega
          subst this
          simp only [go_sem,hlt]
          rw [List.all_eq_true]
          intro i hi
          exact hP i (by simpa using hi)
  · have a1':¬(t.drift.length:Int)=(v.drift.length:Nat):=by omega
    have:listedB v t=false:=by simp only [listedB,a1,decide_false,Bool.false_and]
    simp only [go_sem,f41,cdays' hv,a1,a1',disj_nil,this])
theorem listed_iff : listedB v t=true↔IsT v t:=by
  simp only [listedB,Bool.and_eq_true,decide_eq_true_eq,inR_iff,List.all_eq_true,List.mem_range]
  constructor
  · rintro ⟨h1,h2,h3,h4⟩
    exact ⟨h2,h3,h1,fun i hi=>h4 i (by omega)⟩
  · intro h
    exact ⟨h.dl,h.st,h.bl,fun i hi=>h.dr i (by rw [h.dl];exact hi)⟩
def PlayR (v:Vat) (t:Truth):V:=if checkVat v≠0 then .tup [.c .nils,.c (.int .i64 (checkVat v))] else if listedB v t=false then .tup [.c .nils,.c (.int .i64 2)] else .tup [.c (L (false,false) (playL v t)),.c (.int .i64 0)]
theorem cPlay (hf:v.Fits) {Q:V→Prop}:CallP tab 15 [vatV g1 g2 g3 g4 v,truthG gt t] Q↔Q (PlayR v t):=CallP_of (by
  refine Val_X (fn:=f15) rfl ?_
  by_cases h0:checkVat v=0
  · have hv:=valid_of h0
    rw [PlayR,if_neg (by rw [h0];simp)]
    have hL:=fun {g1 g2 g3 g4 gt:Bool × Bool} {Q:V→Prop}=>clisted (g1:=g1) (g2:=g2) (g3:=g3) (g4:=g4) (gt:=gt) (t:=t) hv (Q:=Q)
    simp only [vatV,truthG] at hL
    cases hl:listedB v t with
    | false=>
      rw [if_pos rfl]
      simp only [go_sem,f15,cCheckVat hf,h0,hL,hl]
    | true=>
      rw [if_neg (by simp)]
      have hIs:=listed_iff.1 hl
      have pl:=playL_len (v:=v) (t:=t)
      simp only [go_sem,f15,cCheckVat hf,h0,hL,hl,Fwork,disj_nil]
      refine (Fplay (g1:=g1) (g2:=g2) (g3:=g3) (g4:=g4) (wo:=4) (mo:=3) hv hIs (by simp only [go_sem]) ⟨[],EsOk.nil,by simp only [go_sem]⟩ (.lst gt t.drift)).mono ?_
      rintro r H' ⟨o,ver,rfl,ho,_,_,_⟩
      simp only [go_sem,disj_nil,ho,pl]
  · rw [PlayR,if_pos h0]
    simp only [go_sem,f15,cCheckVat hf,h0])
def ShadesR (v:Vat) (t:Truth) (day many:Int):V:=if checkVat v≠0 then .tup [.c .nils,.c (.int .i64 (checkVat v))] else if (listedB v t&&(inR day 0 v.last&&inR many 0 20))=false then .tup [.c .nils,.c (.int .i64 2)] else .tup [.c (L (false,false) (shadesL v (stAt v t (day.toNat+1)) many.toNat)),.c (.int .i64 0)]
theorem cShades (hf:v.Fits) {day many:Int} {Q:V→Prop}:CallP tab 18 [vatV g1 g2 g3 g4 v,truthG gt t,.c (.int .i64 day),.c (.int .i64 many)] Q↔Q (ShadesR v t day many):=CallP_of (by
  refine Val_X (fn:=f18) rfl ?_
  by_cases h0:checkVat v=0
  · have hv:=valid_of h0
    rw [ShadesR,if_neg (by rw [h0];simp)]
    have hL:=fun {g1 g2 g3 g4 gt:Bool × Bool} {Q:V→Prop}=>clisted (g1:=g1) (g2:=g2) (g3:=g3) (g4:=g4) (gt:=gt) (t:=t) hv (Q:=Q)
    simp only [vatV,truthG] at hL
    cases hl:listedB v t with
    | false=>
      simp only [go_sem,f18,cCheckVat hf,h0,hL,hl]
    | true=>
      cases hd:inR day 0 v.last with
      | false=>
        simp only [go_sem,f18,cCheckVat hf,h0,hL,hl,cday',hd]
      | true=>
        cases hm:inR many 0 20 with
        | false=>
            simp only [go_sem,f18,cCheckVat hf,h0,hL,hl,cday',hd,cdips',hm]
        | true=>
          have hIs:=listed_iff.1 hl
          have pl:=playL_len (v:=v) (t:=t)
          have v1:=hv.drift
          simp only [go_sem,f18,cCheckVat hf,h0,hL,hl,cday',hd,cdips',hm,Fwork,disj_nil]
          rw [inR_iff] at hd hm
          obtain ⟨d,rfl⟩:∃d:Nat,day=d:=⟨day.toNat,by omega⟩
          obtain ⟨m,rfl⟩:∃m:Nat,many=m:=⟨many.toNat,by omega⟩
          refine (Fplay (g1:=g1) (g2:=g2) (g3:=g3) (g4:=g4) (wo:=4) (mo:=3) hv hIs (by simp only [go_sem]) ⟨[],EsOk.nil,by simp only [go_sem]⟩ (.lst gt t.drift)).mono ?_
          rintro r H' ⟨o,ver,rfl,ho,_,hk,hM⟩
          have d0:(0:Int)≤d:=by omega
          have d1:(d:Int)<v.drift.length:=by omega
          have hd2:d<v.drift.length:=by omega
          have hn':nth ((playL v t).map (Row.row (α:=St))) d=some [.int .i64 (stAt v t (d+1)).bal,.int .i64 (stAt v t (d+1)).blue]:=by
            rw [nth_get];simp [playL,hd2];rfl
          have hw4:=hk.get (o:=4) (by omega) (show getH _ 4 = .cells (workC g1 g2 g3 g4 v 3) from rfl) (by simp)
          have bb:=stBlue_bd hv hIs hd2
          have sl:=shadesL_len (v:=v) (s:=stAt v t (d+1)) (n:=m)
          simp only [go_sem,disj_nil,ho,d0,d1,hn']
          refine (Fshades (g1:=g1) (g2:=g2) (g3:=g3) (g4:=g4) (wo:=4) (mo:=3) hv (s:=stAt v t (d+1)) (by omega) (d:=m) (by omega) ⟨hw4,hM⟩).mono ?_
          rintro r H2 ⟨o2,rfl,ho2,_,_,_⟩
          simp only [go_sem,disj_nil,ho2,sl]
  · rw [ShadesR,if_pos h0]
    simp only [go_sem,f18,cCheckVat hf,h0])
end Am.Vt
