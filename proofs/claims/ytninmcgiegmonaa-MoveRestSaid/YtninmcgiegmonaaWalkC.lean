/-
  A part of the proof: the texts M12, M13, M14, M15, M16, M17 of this seat, joined.
-/
import Derived.Test.YtninmcgiegmonaaWalkB
import Derived.KernelRfl
namespace Am.Mv
open Go Am Am.Tm
set_option maxRecDepth 100000
set_option maxHeartbeats 4000000
set_option linter.unusedSimpArgs false
set_option linter.unusedVariables false
variable {l:Land} {g1 g2:Bool × Bool}
def SureR (b:Bool) (l:Land) (plan:List Int):V:=
  if checkLand l=0 then
    if isPlan l plan=true then
      if (sureL l plan).2.2=true then .tup [.c (.int .i64 (sureL l plan).1),.c (L (b,false) (sureL l plan).2.1),.c (.int .i64 0)]
      else .tup [.c (.int .i64 0),.c .nils,.c (.int .i64 9)]
    else .tup [.c (.int .i64 0),.c .nils,.c (.int .i64 2)]
  else .tup [.c (.int .i64 0),.c .nils,.c (.int .i64 (checkLand l))]
theorem plan_len (h0:checkLand l=0) {plan:List Int} (h1:isPlan l plan=true):AreSites l plan∧plan.length≤100∧plan.length=(l.last+1).toNat:=by
  have hv:=valid_of h0
  have l0:=hv.last0
  have l4:=hv.last4
  simp only [isPlan,Bool.and_eq_true,decide_eq_true_eq] at h1
  rw [wrapB (by omega) (by omega)] at h1
  exact ⟨areSites_of h1.2,by omega,by omega⟩
theorem V39 {g3:Bool × Bool} {plan:List Int} (hf:l.Fits) (hp:plan.length<Big) :
    ∃b:Bool,∀{Q:V→Prop},CallP tab 15 [landV g1 g2 l,.c (L g3 plan)] Q↔Q (SureR b l plan):=by
  by_cases h0:checkLand l=0
  · have hv:=valid_of h0
    by_cases h1:isPlan l plan=true
    · obtain ⟨h2,h3,_⟩:=plan_len h0 h1
      obtain ⟨b,P64⟩:=V64 (g1:=g1) (g2:=g2) (g:=g3) hv h2 h3
      refine ⟨b,CallP_of ?_⟩
      refine Val_X (fn:=f15) rfl ?_
      cases hs:(sureL l plan).2.2 with
      | true=>simp only [go_sem,f15,P22 hf,h0,P51 hf.sites hp,h1,P64,SureR,hs]
      | false=>simp only [go_sem,f15,P22 hf,h0,P51 hf.sites hp,h1,P64,SureR,hs]
    · refine ⟨true,CallP_of ?_⟩
      refine Val_X (fn:=f15) rfl ?_
      simp only [go_sem,f15,P22 hf,h0,P51 hf.sites hp,h1,SureR]
  · refine ⟨true,CallP_of ?_⟩
    refine Val_X (fn:=f15) rfl ?_
    simp only [go_sem,f15,P22 hf,h0,SureR]
def plansFrom (n:Nat) (but:Int):Nat→List Int→List (List Int)
  | 0,w=>[w]
  | r+1,w=>(List.range n).flatMap fun (k:Nat)=>if (k:Int)=but then [] else plansFrom n but r (w++[(k:Int)])
theorem setNth_map {w:List Int} {y:Nat} {k:Int}:setNth (w.map Row.row) y [.int .i64 k]=(w.set y k).map Row.row:=by
  induction w generalizing y with
  | nil=>rfl
  | cons a w ih=>
    cases y with
    | zero=>rfl
    | succ y=>simp only [List.map_cons,setNth,List.set_cons_succ,ih]
theorem nth_row {w:List Int} {y:Nat} (h:y<w.length):nth (w.map Row.row) y=some [.int .i64 (w.getD y default)]:=by
  rw [nth_get];simp [h];rfl
section
variable {σ:Type} {own:Nat→Prop} {F:C} {R:σ→List Obj→Prop} {step:σ→List Int→σ} {pa:Nat}
def DoOk (l:Land) (own:Nat→Prop) (pa:Nat) (F:C) (R:σ→List Obj→Prop) (step:σ→List Int→σ):Prop:=
  ∀s H w,w.length=(l.last+1).toNat→AreSites l w→R s H→getH H pa = .arr false 0 1 (w.map Row.row)→CallV tab (.c F) [.c (.sl pa 0 0 w.length)] H fun _ H'=>Keep (fun o=>own o∧o≠pa) H H'∧R (step s w) H'
theorem choose_ok (hv:l.Valid) (hpa:own pa) (hR:∀s H H',R s H→Keep (fun o=>o=pa) H H'→R s H') (hF:DoOk l own pa F R step) {lb db pb bb cb:Nat} {but:Int} (ol:¬own lb) (od:¬own db) (op:¬own pb) (ob:¬own bb) (oc:¬own cb) :
    ∀(rem y:Nat) (w:List Int) (s:σ) (H:List Obj),y+rem=(l.last+1).toNat→w.length=(l.last+1).toNat→AreSites l (w.take y)→R s H→getH H pa = .arr false 0 1 (w.map Row.row) →
      getH H lb = .cells [.int .i64 l.last,.int .i64 l.home,.int .i64 l.purse,.int .i64 l.bad,.int .i64 l.rest,L g1 l.sites,L g2 l.roads]→getH H db = .cells [F]→getH H pb = .cells [.sl pa 0 0 (l.last+1).toNat]→getH H bb = .cells [.int .i64 but]→getH H cb = .cells [.fn 53 false [] [.ptr lb 0,.ptr db 0,.ptr pb 0,.ptr bb 0,.ptr cb 0]] →
      Fn tab (.f 53 [.c (.int .i64 y),.c (.ptr lb 0),.c (.ptr db 0),.c (.ptr pb 0),.c (.ptr bb 0),.c (.ptr cb 0)] H) fun _ H'=>Keep own H H'∧R ((plansFrom l.sites.length but rem (w.take y)).foldl step s) H'∧∃w':List Int,getH H' pa = .arr false 0 1 (w'.map Row.row)∧w'.length=(l.last+1).toNat∧w'.take y=w.take y
  | 0,y,w,s,H,hy,hw,hsites,hRs,hg,h1,h2,h3,h4,h5=>by
    refine Fn_X (fn:=f53) rfl rfl ?_
    have hgt:l.last<(y:Int):=by have:=hv.last0;omega
    have ht:w.take y=w:=List.take_of_length_le (by omega)
    rw [ht] at hsites ⊢
    simp only [go_sem,f53,h1,h2,h3,hgt,gt_iff_lt]
    rw [←hw]
    refine (hF s H w hw hsites hRs hg).mono ?_
    rintro v H' ⟨hk,hr⟩
    simp only [go_sem]
    have hk':Keep own H H':=⟨hk.1,fun o ho hl=>hk.2 o (fun h=>ho h.1) hl⟩
    exact ⟨hk',hr,w,by rw [hk.2 pa (fun h=>h.2 rfl) (lt_of_getH (by rw [hg];simp)),hg],rfl,ht⟩
  | rem+1,y,w,s,H,hy,hw,hsites,hRs,hg,h1,h2,h3,h4,h5=>by
    refine Fn_X (fn:=f53) rfl rfl ?_
    have hgt:¬l.last<(y:Int):=by have:=hv.last0;omega
    have hn4:=hv.n4
    simp only [go_sem,f53,h1,hgt,gt_iff_lt]
    refine RX_whileU (α:=Nat × σ × List Obj × List Int) (fun x=>[(18,.c (.int .i64 x.1))]) (fun x=>x.2.2.1) (fun x=>x.1≤l.sites.length∧Keep own H x.2.2.1∧R x.2.1 x.2.2.1∧getH x.2.2.1 pa = .arr false 0 1 (x.2.2.2.map Row.row)∧x.2.2.2.length=(l.last+1).toNat∧x.2.2.2.take y=w.take y∧x.2.1=((List.range x.1).flatMap fun (k:Nat)=>if (k:Int)=but then [] else plansFrom l.sites.length but rem (w.take y++[(k:Int)])).foldl step s) (fun x=>l.sites.length-x.1) (0,s,H,w) ⟨Nat.zero_le _,Keep.refl,hRs,hg,hw,rfl,by simp⟩ (by simp only [go_sem]<;>rfl) ?_
    rintro ⟨k,s',H',w'⟩ ⟨hk1,hK,hR',hg',hw',ht',hs'⟩
    simp only at hk1 hK hR' hg' hw' ht' hs'
    have i1:=hK.get ol h1 (by simp)
    have i2:=hK.get od h2 (by simp)
    have i3:=hK.get op h3 (by simp)
    have i4:=hK.get ob h4 (by simp)
    have i5:=hK.get oc h5 (by simp)
    by_cases hk:k<l.sites.length
    · have hyw:y<w'.length:=by omega
      have hyL:(y:Int)<((l.last+1).toNat:Int):=by omega
      have npa:∀o,¬own o→¬o=pa:=fun o ho h=>ho (h ▸ hpa)
      have lpa:=lt_of_getH (h:=H') (o:=pa) (by rw [hg'];simp)
      have j:∀o x v,¬own o→getH H' o=v→getH (setH H' pa x) o=v:=fun o x v ho hv=>by rw [getH_setH,if_neg (fun h=>npa o ho h.1),hv]
      have j4:=fun x=>j bb x _ ob i4
      have j5:=fun x=>j cb x _ oc i5
      have hw2:(w'.set y (k:Int)).length=(l.last+1).toNat:=by rw [List.length_set];exact hw'
      have ht2:(w'.set y (k:Int)).take y=w.take y:=by rw [List.take_set_of_le (Nat.le_refl _)];exact ht'
      have ht3:(w'.set y (k:Int)).take (y+1)=w.take y++[(k:Int)]:=by
        rw [take_getD (by omega) default,ht2];congr 2;rw [getD_lt _ _ _ (by omega)];simp
      have hH2:Keep (fun o=>o=pa) H' (setH H' pa (.arr false 0 1 ((w'.set y (k:Int)).map Row.row))):=⟨by rw [length_setH];exact Nat.le_refl _,fun o ho hl=>by rw [getH_setH,if_neg (fun h=>ho h.1)]⟩
      have hK2:Keep own H (setH H' pa (.arr false 0 1 ((w'.set y (k:Int)).map Row.row))):=hK.trans ⟨hH2.1,fun o ho hl=>hH2.2 o (npa o ho) hl⟩
      have hR2:=hR s' _ _ hR' hH2
      have hgp:getH (setH H' pa (.arr false 0 1 ((w'.set y (k:Int)).map Row.row))) pa = .arr false 0 1 ((w'.set y (k:Int)).map Row.row):=by rw [getH_setH,if_pos ⟨rfl,lpa⟩]
      have hwk:IntKind.i64.wrap ((k:Int)+1)=((k+1:Nat):Int):=wrap_succ (n:=1000) (by omega) (by decide)
      have hyk:IntKind.i64.wrap ((y:Int)+1)=((y+1:Nat):Int):=by
        have:=hv.last4
        exact wrap_succ (n:=1000) (by omega) (by decide)
      by_cases hb:(k:Int)=but
      · have hbT:((k:Int)=but)=True:=by simp [hb]
        simp only [go_sem,hk,i1,i3,hg',nth_row hyw,setNth_map,hyL,j4,j5,hbT,hwk]
        refine ⟨(k+1,s',setH H' pa (.arr false 0 1 ((w'.set y (k:Int)).map Row.row)),w'.set y (k:Int)),⟨by simp only;omega,hk,hK2,hR2,hgp,hw2,ht2,?_⟩,?_⟩
        · simp only [List.range_succ,List.flatMap_append,List.foldl_append,←hs',List.flatMap_cons,List.flatMap_nil,hb,if_true,List.append_nil,List.foldl_nil]
        · exact ⟨rfl,rfl⟩
      · simp only [go_sem,hk,i1,i3,hg',nth_row hyw,setNth_map,hyL,j4,j5,hb,hyk]
        refine (choose_ok hv hpa hR hF ol od op ob oc rem (y+1) (w'.set y (k:Int)) s' _ (by omega) hw2 ?_ hR2 hgp (j lb _ _ ol i1) (j db _ _ od i2) (j pb _ _ op i3) (j4 _) (j5 _)).mono ?_
        · rw [ht3]
          intro x hx
          rcases List.mem_append.1 hx with h | h
          · exact hsites x h
          · rw [List.mem_singleton.1 h];omega
        · rintro v H3 ⟨hk3,hr3,w3,hg3,hw3,ht4⟩
          simp only [go_sem,hwk]
          refine ⟨(k+1,_,H3,w3),⟨by simp only;omega,hk,hK2.trans hk3,hr3,hg3,hw3,?_,?_⟩,rfl,rfl⟩
          · have:=congrArg (List.take y) ht4
            rw [List.take_take,List.take_take,Nat.min_eq_left (by omega),ht2] at this
            exact this
          · rw [ht3]
            simp only [List.range_succ,List.flatMap_append,List.foldl_append,←hs',List.flatMap_cons,List.flatMap_nil,hb,if_false,List.append_nil]
    · have hk':k=l.sites.length:=by omega
      subst hk'
      simp only [go_sem,hk]
      refine ⟨hK,?_,w',hg',hw',ht'⟩
      rw [hs'] at hR'
      exact hR'
end
end Am.Mv
namespace Am.Mv
open Go Am Am.Tm
set_option maxRecDepth 100000
set_option maxHeartbeats 4000000
set_option linter.unusedSimpArgs false
set_option linter.unusedVariables false
variable {l:Land} {g1 g2:Bool × Bool}
def plansL (l:Land) (but:Int):List (List Int):=plansFrom l.sites.length but (l.last+1).toNat []
section
variable {σ:Type} {own:Nat→Prop} {F:C} {R:σ→List Obj→Prop} {step:σ→List Int→σ}
theorem plans_ok (hv:l.Valid) {H:List Obj} (hpa:own (H.length+3)) (hown:∀o,H.length≤o→o≠H.length+3→¬own o) (hkF:known [F]=true) (hm:∀s H X,R s H→R s (H++X)) (hR:∀s H1 H',R s H1→Keep (fun o=>o=H.length+3) H1 H'→R s H') (hF:DoOk l own (H.length+3) F R step) {but:Int} {s:σ} (hs:R s H) :
    Fn tab (.f 33 [landV g1 g2 l,.c (.int .i64 but),.c F] H) fun _ H'=>Keep own H H'∧R ((plansL l but).foldl step s) H':=by
  refine Fn_X (fn:=f33) rfl rfl ?_
  have l0:=hv.last0
  have l4:=hv.last4
  have hw:IntKind.i64.wrap (l.last+1)=l.last+1:=wrapB (by omega) (by omega)
  have a1:0≤l.last+1:=by omega
  have a2:(l.last+1)*8≤2^40:=by omega
  simp only [go_sem,f33,hkF,hw,a1,a2]
  have hrep:List.replicate (l.last+1).toNat [D.int .i64 0]=(List.replicate (l.last+1).toNat (0:Int)).map Row.row:=by rw [List.map_replicate];rfl
  refine (choose_ok (g1:=g1) (g2:=g2) hv hpa hR hF (lb:=H.length) (db:=H.length+2) (pb:=H.length+4) (bb:=H.length+1) (cb:=H.length+5) (but:=but) (hown _ (by omega) (by omega)) (hown _ (by omega) (by omega)) (hown _ (by omega) (by omega)) (hown _ (by omega) (by omega)) (hown _ (by omega) (by omega)) (l.last+1).toNat 0 (List.replicate (l.last+1).toNat 0) s _ (by omega) (by simp) (by intro x hx;simp at hx) (hm _ _ _ hs) ?_ ?_ ?_ ?_ ?_ ?_).mono ?_
  · rw [getH_at,hrep];rfl
  · rw [getH_at0];rfl
  · rw [getH_at];rfl
  · rw [getH_at];rfl
  · rw [getH_at];rfl
  · rw [getH_at];rfl
  · rintro v H' ⟨hk,hr,_⟩
    simp only [go_sem]
    exact ⟨Keep.append.trans hk,by simpa [plansL] using hr⟩
end
def bestStep (l:Land) (s:List Int × Int × Bool) (p:List Int):List Int × Int × Bool:=
  if (sureL l p).2.2=true∧(s.2.2=false∨s.2.1<(sureL l p).1) then (p,(sureL l p).1,true) else s
def bestL (l:Land) (but:Int):List Int × Int × Bool:=(plansL l but).foldl (bestStep l) ([],0,false)
abbrev bestOwn (pa o:Nat):Prop:=o=1∨o=2∨o=3∨o=pa
structure bestR (g1 g2:Bool × Bool) (l:Land) (pa:Nat) (s:List Int × Int × Bool) (H:List Obj):Prop where
  h0:getH H 0 = .cells [.int .i64 l.last,.int .i64 l.home,.int .i64 l.purse,.int .i64 l.bad,.int .i64 l.rest,L g1 l.sites,L g2 l.roads]
  h1:∃c,getH H 1 = .cells [c]∧LstIn 1 (bestOwn pa) H c s.1∧known [c]=true
  h2:getH H 2 = .cells [.int .i64 s.2.1]
  h3:getH H 3 = .cells [.bool s.2.2]
theorem bestR.keep {pa:Nat} (hpa:3<pa) {s:List Int × Int × Bool} {H H':List Obj} (h:bestR g1 g2 l pa s H) (hk:Keep (fun o=>o=pa) H H'):bestR g1 g2 l pa s H':=by
  obtain ⟨c,a,b,d⟩:=h.h1
  exact ⟨hk.get (by omega) h.h0 (by simp),⟨c,hk.get (by omega) a (by simp),b.keep ⟨hk.1,fun o ho hl=>hk.2 o (fun e=>ho (by simp [bestOwn,e])) hl⟩,d⟩,hk.get (by omega) h.h2 (by simp),hk.get (by omega) h.h3 (by simp)⟩
theorem best_do (hv:l.Valid) {pa:Nat} (hpa:3<pa):DoOk l (bestOwn pa) pa (.fn 51 false [] [.ptr 0 0,.ptr 3 0,.ptr 2 0,.ptr 1 0]) (bestR g1 g2 l pa) (bestStep l):=by
  intro s H w hw hsites hR hg
  have l4:=hv.last4
  have hwl:w.length≤100:=by omega
  obtain ⟨b,P64⟩:=V64 (g1:=g1) (g2:=g2) (g:=(false,true)) hv hsites hwl
  rw [CallV_fn]
  refine Fn_X (fn:=f51) rfl rfl ?_
  obtain ⟨c,c1,c2,c3⟩:=hR.h1
  obtain ⟨bp,pr,is⟩:=s
  have e0:=hR.h0
  have e2:=hR.h2
  have e3:=hR.h3
  simp only at c1 c2 e2 e3
  have lp:=lt_of_getH (h:=H) (o:=pa) (by rw [hg];simp)
  have m0:0<H.length:=by omega
  have m1:1<H.length:=by omega
  have m2:2<H.length:=by omega
  have m3:3<H.length:=by omega
  have b1:w.length*8≤2^40:=by omega
  cases hs:(sureL l w).2.2 with
  | false=>
    have es:bestStep l (bp,pr,is) w=(bp,pr,is):=by simp [bestStep,hs]
    rw [es]
    simp only [go_sem,f51,e0,e2,e3,hg,P64,hs]
    exact ⟨Keep.refl,hR⟩
  | true=>
    by_cases hc:is=false∨pr<(sureL l w).1
    · have es:bestStep l (bp,pr,is) w=(w,(sureL l w).1,true):=by simp only [bestStep,hs];rw [if_pos ⟨trivial,hc⟩]
      rw [es]
      have hfin:∀H',H'=setH (setH (setH H 1 (.cells [.sl H.length 0 0 w.length])) 2 (.cells [.int .i64 (sureL l w).1])) 3 (.cells [.bool true])++[.arr false 0 1 (w.map Row.row)]→Keep (fun o=>bestOwn pa o∧o≠pa) H H'∧bestR g1 g2 l pa (w,(sureL l w).1,true) H':=by
        rintro H' rfl
        refine ⟨⟨by simp [length_setH],fun o ho hlo=>?_⟩,?_,⟨_,?_,.sl H.length 0 false w (fun h=>?_) ?_,rfl⟩,?_,?_⟩
        · have n1:o≠1:=fun h=>ho ⟨.inl h,by omega⟩
          have n2:o≠2:=fun h=>ho ⟨.inr (.inl h),by omega⟩
          have n3:o≠3:=fun h=>ho ⟨.inr (.inr (.inl h)),by omega⟩
          simp only [getH_left,length_setH,hlo,getH_setH,n1,n2,n3,false_and,if_false]
        all_goals first | (simp only [go_sem,false_and,getH_left,getH_setH,length_setH,m0,m1,m2,m3,e0]<;>rfl) | skip
        · simp only [bestOwn] at h;omega
        · have:=getH_at0 (setH (setH (setH H 1 (.cells [.sl H.length 0 0 w.length])) 2 (.cells [.int .i64 (sureL l w).1])) 3 (.cells [.bool true])) [.arr false 0 1 (w.map Row.row)]
          simp only [length_setH] at this
          rw [this];rfl
      have lset:∀(x:Obj) (o:Nat),o<H.length→(setH H o x).length=H.length:=fun x o _=>length_setH
      cases is with
      | false=>
        simp only [go_sem,f51,false_and,e0,e2,e3,hg,P64,hs,getH_left,setH_left,getH_setH,length_setH,lp,m0,m1,m2,m3,b1,c1]
        exact hfin _ rfl
      | true=>
        have hlt:pr<(sureL l w).1:=by
          rcases hc with h | h
          · cases h
          · exact h
        simp only [go_sem,f51,false_and,e0,e2,e3,hg,P64,hs,getH_left,setH_left,getH_setH,length_setH,lp,m0,m1,m2,m3,b1,c1,hlt,gt_iff_lt]
        exact hfin _ rfl
    · have es:bestStep l (bp,pr,is) w=(bp,pr,is):=by simp only [bestStep,hs];rw [if_neg (fun h=>hc h.2)]
      rw [es]
      have hi:is=true:=by
        cases is with
        | true=>rfl
        | false=>exact absurd (.inl rfl) hc
      have hlt:¬pr<(sureL l w).1:=fun h=>hc (.inr h)
      subst hi
      simp only [go_sem,f51,e0,e2,e3,hg,P64,hs,hlt,gt_iff_lt]
      exact ⟨Keep.refl,hR⟩
theorem V61 (hv:l.Valid) {but:Int}:∃b:Bool,∀{Q:V→Prop},CallP tab 32 [landV g1 g2 l,.c (.int .i64 but)] Q↔Q (.tup [.c (L (b,false) (bestL l but).1),.c (.int .i64 (bestL l but).2.1),.c (.bool (bestL l but).2.2)]):=by
  suffices h:CallP tab 32 [landV g1 g2 l,.c (.int .i64 but)] (fun v=>∃b:Bool,v=(.tup [.c (L (b,false) (bestL l but).1),.c (.int .i64 (bestL l but).2.1),.c (.bool (bestL l but).2.2)])) by
    obtain ⟨v,hval,b,rfl⟩:=h
    exact ⟨b,CallP_of hval⟩
  refine CallP_X (fn:=f32) rfl ?_
  simp only [go_sem,f32]
  refine (plans_ok (g1:=g1) (g2:=g2) hv (own:=bestOwn 7) (by simp [bestOwn]) (fun o ho h=>by simp only [List.length_cons,List.length_nil] at ho h;simp only [bestOwn];omega) rfl (R:=bestR g1 g2 l 7) (fun s H X h=>h.keep (by decide) .append) (by exact fun s H1 H' h hk=>h.keep (by decide) hk) (best_do hv (by decide)) (s:=([],0,false)) ⟨rfl,⟨.nils,rfl,.nils,rfl⟩,rfl,rfl⟩).mono ?_
  rintro v H' ⟨hk,hR⟩
  obtain ⟨c,e1,c2,c3⟩:=hR.h1
  obtain ⟨b,hb⟩:=c2.res
  have e2:=hR.h2
  have e3:=hR.h3
  have m3:=lt_of_getH (h:=H') (o:=3) (by rw [e3];simp)
  have m1:1<H'.length:=by omega
  have m2:2<H'.length:=by omega
  have er:∀X Y Z,toResC (setH (setH (setH H' 1 X) 2 Y) 3 Z) c=some (L (b,false) (bestL l but).1):=fun X Y Z=>hb _ fun o ho=>by
    simp only [bestOwn,not_or] at ho
    simp only [getH_setH,ho,false_and,if_false]
  simp only [go_sem,false_and,getH_setH,length_setH,e1,e2,e3,c3,er,m1,m2,m3]
  exact ⟨b,rfl,rfl,rfl⟩
def BestR (b:Bool) (l:Land):V:=
  if checkLand l=0 then
    if (bestL l (-1)).2.2=true then .tup [.c (L (b,false) (bestL l (-1)).1),.c (.int .i64 (bestL l (-1)).2.1),.c (.int .i64 0)]
    else .tup [.c .nils,.c (.int .i64 0),.c (.int .i64 10)]
  else .tup [.c .nils,.c (.int .i64 0),.c (.int .i64 (checkLand l))]
theorem V27 (hf:l.Fits):∃b:Bool,∀{Q:V→Prop},CallP tab 16 [landV g1 g2 l] Q↔Q (BestR b l):=by
  by_cases h0:checkLand l=0
  · obtain ⟨b,P61⟩:=V61 (g1:=g1) (g2:=g2) (valid_of h0) (but:=-1)
    refine ⟨b,CallP_of (Val_X (fn:=f16) rfl ?_)⟩
    cases hs:(bestL l (-1)).2.2 with
    | true=>simp only [go_sem,f16,P22 hf,h0,P61,BestR,hs]
    | false=>simp only [go_sem,f16,P22 hf,h0,P61,BestR,hs]
  · refine ⟨true,CallP_of (Val_X (fn:=f16) rfl ?_)⟩
    simp only [go_sem,f16,P22 hf,h0,BestR]
def WorthR (l:Land) (site:Int):V:=
  if checkLand l=0 then
    if isSite l.sites site=true then
      if (bestL l site).2.2=true then .tup [.c (.int .i64 (IntKind.i64.wrap ((bestL l (-1)).2.1-(bestL l site).2.1))),.c (.int .i64 0)]
      else .tup [.c (.int .i64 0),.c (.int .i64 10)]
    else .tup [.c (.int .i64 0),.c (.int .i64 2)]
  else .tup [.c (.int .i64 0),.c (.int .i64 (checkLand l))]
theorem P29 (hf:l.Fits) {site:Int} {Q:V→Prop}:CallP tab 19 [landV g1 g2 l,.c (.int .i64 site)] Q↔Q (WorthR l site):=CallP_of (by
  refine Val_X (fn:=f19) rfl ?_
  by_cases h0:checkLand l=0
  · by_cases h1:isSite l.sites site=true
    · obtain ⟨b,P61⟩:=V61 (g1:=g1) (g2:=g2) (valid_of h0) (but:=site)
      obtain ⟨b',P61'⟩:=V61 (g1:=g1) (g2:=g2) (valid_of h0) (but:=-1)
      cases hs:(bestL l site).2.2 with
      | true=>simp only [go_sem,f19,P22 hf,h0,P55 hf.sites,h1,P61,P61',WorthR,hs]
      | false=>simp only [go_sem,f19,P22 hf,h0,P55 hf.sites,h1,P61,P61',WorthR,hs]
    · simp only [go_sem,f19,P22 hf,h0,P55 hf.sites,h1,WorthR]
  · simp only [go_sem,f19,P22 hf,h0,WorthR])
def moveL (l:Land) (plan:List Int):Int:=match (List.range plan.length).find? fun k=>plan.getD k default != l.home with
  | some k=>k
  | none=>IntKind.i64.wrap (l.last+1)
theorem P65 {g:Bool × Bool} {plan:List Int} (hp:plan.length<Big) {Q:V→Prop}:CallP tab 35 [landV g1 g2 l,.c (L g plan)] Q↔Q (.c (.int .i64 (moveL l plan))):=CallP_of (by
  refine Val_X (fn:=f35) rfl ?_
  simp only [go_sem,f35]
  refine RX_for plan.length (fun k=>[(12,.c (.int .i64 k))]) (fun _=>[.cells [.int .i64 l.last,.int .i64 l.home,.int .i64 l.purse,.int .i64 l.bad,.int .i64 l.rest,L g1 l.sites,L g2 l.roads]]) (fun k=>∀i,i<k→plan.getD i default=l.home) (fun i h=>by omega) (by simp only [go_sem]<;>rfl) ?_
  intro k hk hP
  by_cases h1:k<plan.length
  · simp only [go_sem,h1,wrap_succ h1 hp,atI_nat]
    refine ⟨fun e=>?_,fun e i hi=>?_⟩
    · have:(List.range plan.length).find? (fun k=>plan.getD k default != l.home)=some k:=by
        rw [List.find?_range_eq_some]
        exact ⟨by simpa using e,by simpa using h1,fun i hi=>by simpa using hP i hi⟩
      simp only [moveL,this]
    · by_cases hik:i=k
      · subst hik;exact e
      · exact hP i (by omega)
  · simp only [go_sem,h1]
    have:(List.range plan.length).find? (fun k=>plan.getD k default != l.home)=none:=by
      rw [List.find?_range_eq_none]
      intro i hi
      simpa using hP i (by omega)
    simp only [moveL,this])
def lateStep (l:Land) (profit:Int) (s:Int) (p:List Int):Int:=if (sureL l p).2.2=true∧(sureL l p).1=profit then max s (moveL l p) else s
end Am.Mv
namespace Am.Mv
open Go Am Am.Tm
set_option maxRecDepth 100000
set_option maxHeartbeats 4000000
set_option linter.unusedSimpArgs false
set_option linter.unusedVariables false
variable {l:Land} {g1 g2:Bool × Bool}
abbrev lateOwn (pa o:Nat):Prop:=o=2∨o=pa
structure lateR (g1 g2:Bool × Bool) (l:Land) (pr:Int) (s:Int) (H:List Obj):Prop where
  h0:getH H 0 = .cells [.int .i64 l.last,.int .i64 l.home,.int .i64 l.purse,.int .i64 l.bad,.int .i64 l.rest,L g1 l.sites,L g2 l.roads]
  h1:getH H 1 = .cells [.int .i64 pr]
  h2:getH H 2 = .cells [.int .i64 s]
theorem lateR.keep {pa:Nat} (hpa:2<pa) {pr s:Int} {H H':List Obj} (h:lateR g1 g2 l pr s H) (hk:Keep (fun o=>o=pa) H H'):lateR g1 g2 l pr s H':=
  ⟨hk.get (by omega) h.h0 (by simp),hk.get (by omega) h.h1 (by simp),hk.get (by omega) h.h2 (by simp)⟩
theorem late_do (hv:l.Valid) {pa:Nat} (hpa:2<pa) {pr:Int}:DoOk l (lateOwn pa) pa (.fn 34 false [] [.ptr 0 0,.ptr 1 0,.ptr 2 0]) (lateR g1 g2 l pr) (lateStep l pr):=by
  intro s H w hw hsites hR hg
  have l4:=hv.last4
  have hwl:w.length≤100:=by omega
  have hwB:w.length<Big:=Nat.lt_of_le_of_lt hwl (by decide)
  obtain ⟨b,P64⟩:=V64 (g1:=g1) (g2:=g2) (g:=(false,true)) hv hsites hwl
  rw [CallV_fn]
  refine Fn_X (fn:=f34) rfl rfl ?_
  have e0:=hR.h0
  have e1:=hR.h1
  have e2:=hR.h2
  have lp:=lt_of_getH (h:=H) (o:=pa) (by rw [hg];simp)
  have m2:2<H.length:=by omega
  have n1:¬pa=2:=by omega
  have n2:¬2=pa:=by omega
  have n3:¬pa=0:=by omega
  have n4:¬pa=1:=by omega
  have n5:¬0=pa:=by omega
  have n6:¬1=pa:=by omega
  cases hs:(sureL l w).2.2 with
  | false=>
    have es:lateStep l pr s w=s:=by simp [lateStep,hs]
    rw [es]
    simp only [go_sem,f34,e0,e1,e2,hg,P64,hs]
    exact ⟨Keep.refl,hR⟩
  | true=>
    by_cases hc:(sureL l w).1=pr
    · have es:lateStep l pr s w=max s (moveL l w):=by simp only [lateStep,hs];rw [if_pos ⟨trivial,hc⟩]
      rw [es]
      simp only [go_sem,f34,e0,e1,e2,hg,P64,hs,hc,P65 hwB,n1,n2,n3,n4,n5,n6]
      refine ⟨⟨by simp [length_setH],fun o ho hlo=>?_⟩,?_,?_,?_⟩
      · have n2:o≠2:=fun h=>ho ⟨.inl h,by omega⟩
        rw [getH_setH,if_neg (fun h=>n2 h.1)]
      all_goals simp only [go_sem,false_and,getH_setH,m2,e0,e1]
    · have es:lateStep l pr s w=s:=by simp only [lateStep,hs];rw [if_neg (fun h=>hc h.2)]
      rw [es]
      simp only [go_sem,f34,e0,e1,e2,hg,P64,hs,hc]
      exact ⟨Keep.refl,hR⟩
def lateL (l:Land):Int:=(plansL l (-1)).foldl (lateStep l (bestL l (-1)).2.1) 0
def LateR (l:Land):V:=
  if checkLand l=0 then
    if (bestL l (-1)).2.2=true then .tup [.c (.int .i64 (lateL l)),.c (.int .i64 0)]
    else .tup [.c (.int .i64 0),.c (.int .i64 10)]
  else .tup [.c (.int .i64 0),.c (.int .i64 (checkLand l))]
theorem P28 (hf:l.Fits) {Q:V→Prop}:CallP tab 18 [landV g1 g2 l] Q↔Q (LateR l):=CallP_of (by
  obtain ⟨b,P27⟩:=V27 (g1:=g1) (g2:=g2) hf
  refine Val_X (fn:=f18) rfl ?_
  by_cases h0:checkLand l=0
  · have hv:=valid_of h0
    cases hs:(bestL l (-1)).2.2 with
    | true=>
      simp only [go_sem,f18,P27,BestR,h0,hs,LateR]
      refine (plans_ok (g1:=g1) (g2:=g2) hv (own:=lateOwn 6) (by simp [lateOwn]) (by intro o ho h;simp only [List.length_cons,List.length_nil] at ho h;simp only [lateOwn];omega) rfl (R:=lateR g1 g2 l (bestL l (-1)).2.1) (fun s H X h=>h.keep (pa:=6) (by decide) .append) (by exact fun s H1 H' h hk=>h.keep (pa:=6) (by decide) hk) (by exact late_do hv (show 2<6 by decide)) (s:=0) ⟨rfl,rfl,rfl⟩).mono ?_
      rintro v H' ⟨hk,hR⟩
      have e2:=hR.h2
      simp only [go_sem,e2]
      rfl
    | false=>simp only [go_sem,f18,P27,BestR,h0,hs,LateR]
  · have hc:¬checkLand l=0:=h0
    simp only [go_sem,f18,P27,BestR,h0,LateR])
end Am.Mv
namespace Am.Mv
open Go Am Am.Tm
set_option maxRecDepth 100000
set_option maxHeartbeats 4000000
set_option linter.unusedSimpArgs false
set_option linter.unusedVariables false
variable {l:Land} {g1 g2:Bool × Bool}
abbrev Ans := Int × Int × Bool
def fromStep (l:Land) (rec:S→Int→Ans) (s:S) (bad:Int) (best:Ans) (k:Int):Ans:=
  if costOf l.sites l.roads s.site k≤s.money then
    let a:=rec (nextS l s k false) bad
    let a':Ans:=if a.2.2=true∧0<bad then (k,min a.2.1 (rec (nextS l s k true) (bad-1)).2.1,(rec (nextS l s k true) (bad-1)).2.2) else a
    if a'.2.2=true∧(best.2.2=false∨best.2.1<a'.2.1) then (k,a'.2.1,true) else best
  else best
def fromF (l:Land):Nat→S→Int→Ans
  | 0,s,_=>(-1,s.money,true)
  | n+1,s,bad=>let r:=(List.range l.sites.length).foldl (fun best (k:Nat)=>fromStep l (fromF l n) s bad best (k:Int)) (0,0,false)
    if r.2.2=true then r else (0,0,false)
def fromL (l:Land) (s:S) (bad:Int):Ans:=fromF l (l.last+1-s.year).toNat s bad
abbrev keyD (s:S) (b:Int):List D:=[.int .i64 s.year,.int .i64 s.site,.int .i64 s.money,.int .i64 s.so.t0,.int .i64 s.so.d0,.int .i64 s.so.t1,.int .i64 s.so.d1,.int .i64 s.so.t2,.int .i64 s.so.d2,.int .i64 s.so.t3,.int .i64 s.so.d3,.int .i64 b]
abbrev keyC (s:S) (b:Int):List C:=[.int .i64 s.year,.int .i64 s.site,.int .i64 s.money,.int .i64 s.so.t0,.int .i64 s.so.d0,.int .i64 s.so.t1,.int .i64 s.so.d1,.int .i64 s.so.t2,.int .i64 s.so.d2,.int .i64 s.so.t3,.int .i64 s.so.d3,.int .i64 b]
abbrev ansC (a:Ans):List C:=[.int .i64 a.1,.int .i64 a.2.1,.bool a.2.2]
attribute [go_sem] keyC ansC
theorem keyD_inj {s s':S} {b b':Int} (h:keyEq (keyD s b) (keyD s' b')=true):s=s'∧b=b':=by
  simp only [keyD,keyEq,D.key,Bool.and_true,Bool.and_eq_true,beq_iff_eq] at h
  obtain ⟨h1,h2,h3,h4,h5,h6,h7,h8,h9,h10,h11,h12⟩:=h
  refine ⟨?_,h12⟩
  obtain ⟨_,_,_,⟨_,_,_,_,_,_,_,_⟩⟩:=s
  obtain ⟨_,_,_,⟨_,_,_,_,_,_,_,_⟩⟩:=s'
  simp only at h1 h2 h3 h4 h5 h6 h7 h8 h9 h10 h11
  subst h1;subst h2;subst h3;subst h4;subst h5;subst h6;subst h7;subst h8;subst h9;subst h10;subst h11
  rfl
def es_ok (l:Land) (es:List (List D × List C)):Prop:=∀e∈es,∃s b,e.1=keyD s b∧e.2=ansC (fromL l s b)
abbrev ks12 : List (Option IntKind):=[some .i64,some .i64,some .i64,some .i64,some .i64,some .i64,some .i64,some .i64,some .i64,some .i64,some .i64,some .i64]
def MapOk (l:Land) (H:List Obj) (mo:Nat):Prop:=∃es,getH H mo = .map true true ks12 es∧es_ok l es
theorem MapOk.append {H X:List Obj} {mo:Nat} (h:MapOk l H mo):MapOk l (H++X) mo:=by
  obtain ⟨es,a,b⟩:=h;exact ⟨es,getH_keep a (by simp),b⟩
abbrev milC (g1 g2:Bool × Bool) (l:Land) (mo:Nat):List C:=[.int .i64 l.last,.int .i64 l.home,.int .i64 l.purse,.int .i64 l.bad,.int .i64 l.rest,L g1 l.sites,L g2 l.roads,.map mo]
attribute [go_sem] milC
theorem from_ok (hv:l.Valid) {ma mo:Nat} (hmm:ma≠mo):∀(n:Nat) (s:S) (bad:Int) (H:List Obj),(l.last+1-s.year).toNat=n→0≤s.year→s.year≤l.last+1→0≤s.site→s.site<l.sites.length→s.so.Le s.year→0≤bad→bad≤100→getH H ma = .cells (milC g1 g2 l mo)→MapOk l H mo →
    Fn tab (.f 38 [.c (.ptr ma 0),.agg (keyC s bad)] H) fun v H'=>v = .agg (ansC (fromL l s bad))∧Keep (fun o=>o=mo) H H'∧MapOk l H' mo:=by
  intro n
  induction n with
  | zero=>
    intro s bad H hn y0 y1 s0 s1 hle b0 b1 hm hmap
    refine Fn_X (fn:=f38) rfl rfl ?_
    have hgt:l.last<s.year:=by omega
    have hm2:∀X,getH (H++X) ma = .cells (milC g1 g2 l mo):=fun X=>getH_keep hm (by simp)
    have lm:=lt_of_getH (h:=H) (o:=ma) (by rw [hm];simp)
    have q1:¬ma=H.length:=by omega
    have q2:¬H.length=ma:=by omega
    have e:fromL l s bad=(-1,s.money,true):=by rw [fromL,hn];rfl
    rw [e]
    simp only [go_sem,f38,hm2,hgt,gt_iff_lt,q1,q2]
    exact ⟨Keep.append,hmap.append⟩
  | succ n ih=>
    intro s bad H hn y0 y1 s0 s1 hle b0 b1 hm hmap
    refine Fn_X (fn:=f38) rfl rfl ?_
    have hgt:¬l.last<s.year:=by omega
    have hm2:∀X,getH (H++X) ma = .cells (milC g1 g2 l mo):=fun X=>getH_keep hm (by simp)
    obtain ⟨es,hes,hok⟩:=hmap
    have hes2:∀X,getH (H++X) mo = .map true true ks12 es:=fun X=>getH_keep hes (by simp)
    have lm:=lt_of_getH (h:=H) (o:=ma) (by rw [hm];simp)
    have lo:=lt_of_getH (h:=H) (o:=mo) (by rw [hes];simp)
    have q1:¬ma=H.length:=by omega
    have q2:¬H.length=ma:=by omega
    have q3:¬mo=H.length:=by omega
    have q4:¬H.length=mo:=by omega
    have q5:¬H.length+2=ma:=by omega
    have q6:¬H.length+2=mo:=by omega
    have q7:¬ma=H.length+2:=by omega
    have q8:¬mo=H.length+2:=by omega
    have q9:¬H.length=H.length+2:=by omega
    have q10:¬H.length+2=H.length:=by omega
    cases hfe:findE (keyD s bad) es with
    | some cs=>
      obtain ⟨e,he,hk,rfl⟩:=findE_mem hfe
      obtain ⟨s',b',h1,h2⟩:=hok e he
      rw [h1] at hk
      obtain ⟨rfl,rfl⟩:=keyD_inj hk
      rw [h2] at hfe
      simp only [keyD] at hfe
      simp only [go_sem,f38,hm2,hgt,gt_iff_lt,q1,q2,q3,q4,q5,q6,q7,q8,q9,q10,hes2,hfe]
      exact ⟨Keep.append,es,getH_keep hes (by simp),hok⟩
    | none=>
      simp only [keyD] at hfe
      simp only [go_sem,f38,hm2,hgt,gt_iff_lt,q1,q2,q3,q4,q5,q6,q7,q8,q9,q10,hes2,hfe]
      have hfu:fromL l s bad=fromF l (n+1) s bad:=by rw [fromL,hn]
      obtain ⟨n0,hn0⟩:∃n0,n0=H.length:=⟨_,rfl⟩
      have hrec:∀(k:Int) (b:Bool) (c:Int),fromL l (nextS l s k b) c=fromF l n (nextS l s k b) c:=by
        intro k b c
        have hyr:(nextS l s k b).year=s.year+1:=wrapB (by have:=hv.last4;omega) (by have:=hv.last4;omega)
        rw [fromL,hyr,show (l.last+1-(s.year+1)).toNat=n by omega]
      refine RX_whileU (α:=Nat × Ans × List Obj) (fun x=>[(44,.c (.int .i64 x.1))]) (fun x=>x.2.2) (fun x=>x.1≤l.sites.length∧Keep (fun o=>o=mo∨o=n0+1) (H++[.cells (keyC s bad),.cells (ansC (0,0,false)),.cells (ansC (0,0,false))]) x.2.2∧getH x.2.2 (n0+1) = .cells (ansC x.2.1)∧MapOk l x.2.2 mo∧x.2.1=(List.range x.1).foldl (fun best (k:Nat)=>fromStep l (fromF l n) s bad best (k:Int)) (0,0,false)) (fun x=>l.sites.length-x.1) (0,(0,0,false),H++[.cells (keyC s bad),.cells (ansC (0,0,false)),.cells (ansC (0,0,false))]) ⟨Nat.zero_le _,Keep.refl,by rw [hn0];simp only [go_sem],MapOk.append ⟨es,hes,hok⟩,rfl⟩ (by simp only [go_sem]<;>rfl) ?_
      rintro ⟨k,best,H1⟩ ⟨hk1,hK1,hb1,hmap1,hbest⟩
      simp only at hk1 hK1 hb1 hmap1 hbest
      have g0:getH H1 n0 = .cells (keyC s bad):=hK1.get (by omega) (by rw [hn0];simp only [go_sem]) (by simp)
      have gm:getH H1 ma = .cells (milC g1 g2 l mo):=hK1.get (by omega) (hm2 _) (by simp)
      have hl1:=hK1.1
      simp only [List.length_append,List.length_cons,List.length_nil] at hl1
      subst hn0
      by_cases hk:k<l.sites.length
      · have hn4:=hv.n4
        have hr:=hv.roads
        have a5:=road_len hv s0 s1
        have p2:s.site<l.roads.length:=by omega
        have p3:(k:Int)<(atI l.roads s.site).length:=by omega
        have p4:(k:Int)<4:=by omega
        have p5:=(hle.taken (k:Int)).1
        have hwk:IntKind.i64.wrap ((k:Int)+1)=((k+1:Nat):Int):=wrap_succ (n:=1000) (by omega) (by decide)
        have hyr:∀b,(nextS l s (k:Int) b).year=s.year+1:=fun b=>wrapB (by have:=hv.last4;omega) (by have:=hv.last4;omega)
        have g0x:∀X,getH (H1++X) H.length = .cells (keyC s bad):=fun X=>getH_keep g0 (by simp)
        have gmx:∀X,getH (H1++X) ma = .cells (milC g1 g2 l mo):=fun X=>getH_keep gm (by simp)
        have gbx:∀X,getH (H1++X) (H.length+1) = .cells (ansC best):=fun X=>getH_keep hb1 (by simp)
        by_cases hc:costOf l.sites l.roads s.site (k:Int)≤s.money
        · have lm1:=lt_of_getH (h:=H1) (o:=ma) (by rw [gm];simp)
          obtain ⟨es1,hes1,hok1⟩:=hmap1
          have u1:¬ma=H1.length:=by omega
          have u2:¬ma=H1.length+1:=by omega
          have u3:¬ma=H1.length+2:=by omega
          have u4:¬mo=H1.length:=by omega
          have u5:¬mo=H1.length+1:=by omega
          have u6:¬mo=H1.length+2:=by omega
          have u7:¬H.length=H1.length:=by omega
          have u8:¬H.length=H1.length+1:=by omega
          have u9:¬H.length=H1.length+2:=by omega
          have u10:¬H.length+1=H1.length:=by omega
          have u11:¬H.length+1=H1.length+1:=by omega
          have u12:¬H.length+1=H1.length+2:=by omega
          have u13:¬H1.length=ma:=by omega
          have u14:¬H1.length=mo:=by omega
          have u15:¬H1.length=H.length:=by omega
          have u16:¬H1.length=H.length+1:=by omega
          have u17:¬H1.length=H1.length+1:=by omega
          have u18:¬H1.length=H1.length+2:=by omega
          have u19:¬H1.length+1=ma:=by omega
          have u20:¬H1.length+1=mo:=by omega
          have u21:¬H1.length+1=H.length:=by omega
          have u22:¬H1.length+1=H.length+1:=by omega
          have u23:¬H1.length+1=H1.length:=by omega
          have u24:¬H1.length+1=H1.length+2:=by omega
          have u25:¬H1.length+2=ma:=by omega
          have u26:¬H1.length+2=mo:=by omega
          have u27:¬H1.length+2=H.length:=by omega
          have u28:¬H1.length+2=H.length+1:=by omega
          have u29:¬H1.length+2=H1.length:=by omega
          have u30:¬H1.length+2=H1.length+1:=by omega
          simp only [go_sem,hk,q1,q2,g0,gm,hb1,g0x,gmx,gbx,P74 s0 p2,P75 s0 p2,p3,p4,p5,hc,hwk,u1,u2,u3,u4,u5,u6,u7,u8,u9,u10,u11,u12,u13,u14,u15,u16,u17,u18,u19,u20,u21,u22,u23,u24,u25,u26,u27,u28,u29,u30]
          refine (ih (nextS l s (k:Int) false) bad _ (by rw [hyr];omega) (by rw [hyr];omega) (by rw [hyr];omega) (by show 0≤(k:Int);omega) (by show (k:Int)<_;omega) (by rw [hyr];exact hle.after (by have:=hv.last4;omega) _ _) b0 b1 (gmx _) (MapOk.append ⟨es1,hes1,hok1⟩)).mono ?_
          rintro v H2 ⟨rfl,hK2,hmap2⟩
          rw [hrec]
          generalize ha:fromF l n (nextS l s (k:Int) false) bad=a at *
          have hl2:=hK2.1
          simp only [List.length_append,List.length_cons,List.length_nil] at hl2
          have i0:getH H2 H.length = .cells (keyC s bad):=hK2.get (by omega) (g0x _) (by simp)
          have i1:getH H2 (H.length+1) = .cells (ansC best):=hK2.get (by omega) (gbx _) (by simp)
          have im:getH H2 ma = .cells (milC g1 g2 l mo):=hK2.get (by omega) (gmx _) (by simp)
          have ib:getH H2 H1.length = .cells (nextS l s (k:Int) false).cs:=hK2.get (by omega) (by rw [getH_at0];rfl) (by simp)
          have ih2:isHole H2 (H1.length+2)=true:=hK2.hole (by omega) (by simp) (by rw [getH_at];rfl)
          have t0:H.length<H2.length:=by omega
          have t1:H.length+1<H2.length:=by omega
          have t2:H1.length<H2.length:=by omega
          have t3:H1.length+2<H2.length:=by omega
          have t4:ma<H2.length:=by omega
          have v1:¬ma=H2.length:=by omega
          have v2:¬mo=H2.length:=by omega
          have v3:¬H.length=H2.length:=by omega
          have v4:¬H.length+1=H2.length:=by omega
          have v5:¬H1.length=H2.length:=by omega
          have v6:¬H1.length+1=H2.length:=by omega
          have v7:¬H1.length+2=H2.length:=by omega
          have v8:¬H2.length=ma:=by omega
          have v9:¬H2.length=mo:=by omega
          have v10:¬H2.length=H.length:=by omega
          have v11:¬H2.length=H.length+1:=by omega
          have v12:¬H2.length=H1.length:=by omega
          have v13:¬H2.length=H1.length+1:=by omega
          have v14:¬H2.length=H1.length+2:=by omega
          obtain ⟨as,am,ai⟩:=a
          have hstep:∀b':Ans,fromStep l (fromF l n) s bad best (k:Int)=b'→b'=(List.range (k+1)).foldl (fun best (k:Nat)=>fromStep l (fromF l n) s bad best (k:Int)) (0,0,false):=by
            intro b' hb'
            simp only [List.range_succ,List.foldl_append,←hbest,List.foldl_cons,List.foldl_nil,hb']
          have hK3:Keep (fun o=>o=mo∨o=H.length+1) (H++[.cells (keyC s bad),.cells (ansC (0,0,false)),.cells (ansC (0,0,false))]) H2:=hK1.trans ⟨by omega,fun o ho hl=>by rw [hK2.2 o (fun h=>ho (.inl h)) (by simp only [List.length_append];omega),getH_left (by omega)]⟩
          have hK4:∀x y,Keep (fun o=>o=mo∨o=H.length+1) (H++[.cells (keyC s bad),.cells (ansC (0,0,false)),.cells (ansC (0,0,false))]) (setH (setH H2 (H1.length+2) x) (H.length+1) y)∧Keep (fun o=>o=mo∨o=H.length+1) (H++[.cells (keyC s bad),.cells (ansC (0,0,false)),.cells (ansC (0,0,false))]) (setH H2 (H1.length+2) x):=by
            intro x y
            have a0:=hK3
            refine ⟨⟨by rw [length_setH,length_setH];exact a0.1,fun o ho hl=>?_⟩,⟨by rw [length_setH];exact a0.1,fun o ho hl=>?_⟩⟩
            · have ho':=not_or.1 ho
              simp only [List.length_append,List.length_cons,List.length_nil] at hl
              rw [getH_setH,if_neg (fun h=>ho'.2 h.1),getH_setH,if_neg (fun h=>by omega)]
              exact a0.2 o ho (by simpa using hl)
            · simp only [List.length_append,List.length_cons,List.length_nil] at hl
              rw [getH_setH,if_neg (fun h=>by omega)]
              exact a0.2 o ho (by simpa using hl)
          have hM4:∀x y,MapOk l (setH (setH H2 (H1.length+2) x) (H.length+1) y) mo∧MapOk l (setH H2 (H1.length+2) x) mo:=by
            intro x y
            obtain ⟨es2,hes2',hok2⟩:=hmap2
            exact ⟨⟨es2,by rw [getH_setH,if_neg (fun h=>by omega),getH_setH,if_neg (fun h=>by omega)];exact hes2',hok2⟩,⟨es2,by rw [getH_setH,if_neg (fun h=>by omega)];exact hes2',hok2⟩⟩
          cases ai with
          | false=>
            simp only [go_sem,ih2,i0,i1,im,ib,getH_setH,getH_left,setH_left,length_setH,setH_twice,false_and,t0,t1,t2,t3,t4,u1,u2,u3,u4,u5,u6,u7,u8,u9,u10,u11,u12,u13,u14,u15,u16,u17,u18,u19,u20,u21,u22,u23,u24,u25,u26,u27,u28,u29,u30,v1,v2,v3,v4,v5,v6,v7,v8,v9,v10,v11,v12,v13,v14,hwk]
            have hs1:fromStep l (fromF l n) s bad best (k:Int)=best:=by simp [fromStep,hc,ha]
            refine ⟨(k+1,best,_),⟨by simp only;omega,hk,(hK4 _ .none).2,?_,(hM4 _ .none).2,hstep _ hs1⟩,rfl,rfl⟩
            simp only [go_sem,getH_setH,false_and,i1,u1,u2,u3,u4,u5,u6,u7,u8,u9,u10,u11,u12,u13,u14,u15,u16,u17,u18,u19,u20,u21,u22,u23,u24,u25,u26,u27,u28,u29,u30]
          | true=>
            by_cases hbad:0<bad
            · have hbw:IntKind.i64.wrap (bad-1)=bad-1:=wrapB (by omega) (by omega)
              simp only [go_sem,ih2,i0,i1,im,ib,getH_setH,getH_left,setH_left,length_setH,setH_twice,false_and,t0,t1,t2,t3,t4,u1,u2,u3,u4,u5,u6,u7,u8,u9,u10,u11,u12,u13,u14,u15,u16,u17,u18,u19,u20,u21,u22,u23,u24,u25,u26,u27,u28,u29,u30,v1,v2,v3,v4,v5,v6,v7,v8,v9,v10,v11,v12,v13,v14,hbad,gt_iff_lt,hbw,P75 s0 p2,p3,p4,p5,hk]
              obtain ⟨es2,hes2',hok2⟩:=hmap2
              have lmo:mo<H2.length:=by omega
              refine (ih (nextS l s (k:Int) true) (bad-1) _ (by rw [hyr];omega) (by rw [hyr];omega) (by rw [hyr];omega) (by show 0≤(k:Int);omega) (by show (k:Int)<_;omega) (by rw [hyr];exact hle.after (by have:=hv.last4;omega) _ _) (by omega) (by omega) ?_ ?_).mono ?_
              · simp only [go_sem,getH_setH,getH_left,length_setH,false_and,im,t4,u1,u2,u3,u4,u5,u6,u7,u8,u9,u10,u11,u12,u13,u14,u15,u16,u17,u18,u19,u20,u21,u22,u23,u24,u25,u26,u27,u28,u29,u30]
              · exact ⟨es2,by simp only [go_sem,getH_setH,getH_left,length_setH,false_and,hes2',lmo,u1,u2,u3,u4,u5,u6,u7,u8,u9,u10,u11,u12,u13,u14,u15,u16,u17,u18,u19,u20,u21,u22,u23,u24,u25,u26,u27,u28,u29,u30],hok2⟩
              rintro v H3 ⟨rfl,hK5,hmap3⟩
              rw [hrec]
              generalize hb:fromF l n (nextS l s (k:Int) true) (bad-1)=b at *
              have hl3:=hK5.1
              simp only [List.length_append,List.length_cons,List.length_nil,length_setH] at hl3
              have j0:getH H3 H.length = .cells (keyC s bad):=hK5.get (by omega) (by simp only [go_sem,getH_setH,getH_left,length_setH,false_and,i0,t0,u1,u2,u3,u4,u5,u6,u7,u8,u9,u10,u11,u12,u13,u14,u15,u16,u17,u18,u19,u20,u21,u22,u23,u24,u25,u26,u27,u28,u29,u30]) (by simp)
              have j1:getH H3 (H.length+1) = .cells (ansC best):=hK5.get (by omega) (by simp only [go_sem,getH_setH,getH_left,length_setH,false_and,i1,t1,u1,u2,u3,u4,u5,u6,u7,u8,u9,u10,u11,u12,u13,u14,u15,u16,u17,u18,u19,u20,u21,u22,u23,u24,u25,u26,u27,u28,u29,u30]) (by simp)
              have jm:getH H3 ma = .cells (milC g1 g2 l mo):=hK5.get (by omega) (by simp only [go_sem,getH_setH,getH_left,length_setH,false_and,im,t4,u1,u2,u3,u4,u5,u6,u7,u8,u9,u10,u11,u12,u13,u14,u15,u16,u17,u18,u19,u20,u21,u22,u23,u24,u25,u26,u27,u28,u29,u30]) (by simp)
              have ja:getH H3 (H1.length+2) = .cells [.int .i64 as,.int .i64 am,.bool true]:=hK5.get (by omega) (by simp only [go_sem,getH_setH,getH_left,length_setH,false_and,t3,t2,u1,u2,u3,u4,u5,u6,u7,u8,u9,u10,u11,u12,u13,u14,u15,u16,u17,u18,u19,u20,u21,u22,u23,u24,u25,u26,u27,u28,u29,u30]) (by simp)
              have jh:isHole H3 H2.length=true:=hK5.hole (by omega) (by simp [length_setH]) (by rw [show H2.length=(setH (setH H2 (H1.length+2) (Obj.cells [C.int .i64 as,C.int .i64 am,C.bool true])) H1.length (Obj.cells (nextS l s (k:Int) true).cs)).length+0 by simp [length_setH]];rw [getH_at];rfl)
              obtain ⟨bs,bm,bi⟩:=b
              have r0:H.length<H3.length:=by omega
              have r1:H.length+1<H3.length:=by omega
              have r2:H1.length+2<H3.length:=by omega
              have r3:H2.length<H3.length:=by omega
              have x1:¬H.length=H3.length:=by omega
              have x2:¬H.length+1=H3.length:=by omega
              have x3:¬H1.length+2=H3.length:=by omega
              have x4:¬H2.length=H3.length:=by omega
              have x5:¬H3.length=H.length:=by omega
              have x6:¬H3.length=H.length+1:=by omega
              have x7:¬H3.length=H1.length+2:=by omega
              have x8:¬H3.length=H2.length:=by omega
              have hKA:Keep (fun o=>o=mo∨o=H.length+1) (H++[.cells (keyC s bad),.cells (ansC (0,0,false)),.cells (ansC (0,0,false))]) H3:=by
                refine ⟨by simp only [List.length_append,List.length_cons,List.length_nil];omega,fun o ho hl=>?_⟩
                have ho':=not_or.1 ho
                have hl':=hl
                simp only [List.length_append,List.length_cons,List.length_nil] at hl'
                rw [hK5.2 o ho'.1 (by simp only [List.length_append,length_setH];omega),getH_left (by simp only [length_setH];omega),getH_setH,if_neg (fun h=>by omega),getH_setH,if_neg (fun h=>by omega)]
                exact hK3.2 o ho hl
              obtain ⟨es3,hes3,hok3⟩:=hmap3
              have hend:∀(best':Ans) H4,H3.length≤H4.length→(∀o,o<H.length+3→o≠H.length+1→getH H4 o=getH H3 o)→getH H4 (H.length+1) = .cells (ansC best')→fromStep l (fromF l n) s bad best (k:Int)=best'→∃y:Nat × Ans × List Obj,(l.sites.length-y.1<l.sites.length-k∧y.1≤l.sites.length∧Keep (fun o=>o=mo∨o=H.length+1) (H++[.cells (keyC s bad),.cells (ansC (0,0,false)),.cells (ansC (0,0,false))]) y.2.2∧getH y.2.2 (H.length+1) = .cells (ansC y.2.1)∧MapOk l y.2.2 mo∧y.2.1=(List.range y.1).foldl (fun best (k:Nat)=>fromStep l (fromF l n) s bad best (k:Int)) (0,0,false))∧k+1=y.1∧H4=y.2.2:=by
                intro best' H4 hl4 hk4 hg4 hs4
                refine ⟨(k+1,best',H4),⟨by simp only;omega,hk,⟨by have:=hKA.1;exact Nat.le_trans this hl4,fun o ho hl=>?_⟩,hg4,⟨es3,by rw [hk4 mo (by omega) (by omega)];exact hes3,hok3⟩,hstep _ hs4⟩,rfl,rfl⟩
                have hl':=hl
                simp only [List.length_append,List.length_cons,List.length_nil] at hl'
                rw [hk4 o (by omega) (fun h=>ho (.inr h))]
                exact hKA.2 o ho hl
              have hs0:fromStep l (fromF l n) s bad best (k:Int)=if bi=true∧(best.2.2=false∨best.2.1<min am bm) then ((k:Int),min am bm,true) else best:=by
                simp only [fromStep,if_pos hc,ha,hb,hbad,and_self,if_true]
              have hset:∀x y X o,o<H.length+3→o≠H.length+1→getH (setH (setH H3 H2.length x) (H1.length+2) y++X) o=getH H3 o:=by
                intro x y X o h1 h2
                rw [getH_left (by simp only [length_setH];omega),getH_setH,if_neg (fun h=>by omega),getH_setH,if_neg (fun h=>by omega)]
              have hset2:∀x y z X o,o<H.length+3→o≠H.length+1→getH (setH (setH (setH H3 H2.length x) (H1.length+2) y) (H.length+1) z++X) o=getH H3 o:=by
                intro x y z X o h1 h2
                rw [getH_left (by simp only [length_setH];omega),getH_setH,if_neg (fun h=>by omega),getH_setH,if_neg (fun h=>by omega),getH_setH,if_neg (fun h=>by omega)]
              cases bi with
              | false=>
                simp only [go_sem,getH_ge,setH_ge,isHole_ge,Nat.le_refl,P87p,jh,j0,j1,jm,ja,getH_setH,getH_left,setH_left,length_setH,setH_twice,false_and,r0,r1,r2,r3,u1,u2,u3,u4,u5,u6,u7,u8,u9,u10,u11,u12,u13,u14,u15,u16,u17,u18,u19,u20,u21,u22,u23,u24,u25,u26,u27,u28,u29,u30,v1,v2,v3,v4,v5,v6,v7,v8,v9,v10,v11,v12,v13,v14,x1,x2,x3,x4,x5,x6,x7,x8,hwk]
                refine hend best _ (by simp [length_setH]) (hset _ _ _) ?_ (by rw [hs0];simp)
                simp only [go_sem,getH_left,length_setH,getH_setH,false_and,r1,j1,u1,u2,u3,u4,u5,u6,u7,u8,u9,u10,u11,u12,u13,u14,u15,u16,u17,u18,u19,u20,u21,u22,u23,u24,u25,u26,u27,u28,u29,u30,v1,v2,v3,v4,v5,v6,v7,v8,v9,v10,v11,v12,v13,v14,x1,x2,x3,x4,x5,x6,x7,x8]
              | true=>
                by_cases hbt:best.2.2=false∨best.2.1<min am bm
                · have hfin:∀H4,H4=setH (setH (setH H3 H2.length (.cells [.int .i64 bs,.int .i64 bm,.bool true])) (H1.length+2) (.cells [.int .i64 k,.int .i64 (min am bm),.bool true])) (H.length+1) (.cells [.int .i64 k,.int .i64 (min am bm),.bool true])++[.arr false 0 1 [[.int .i64 am],[.int .i64 bm]]]→∃y:Nat × Ans × List Obj,(l.sites.length-y.1<l.sites.length-k∧y.1≤l.sites.length∧Keep (fun o=>o=mo∨o=H.length+1) (H++[.cells (keyC s bad),.cells (ansC (0,0,false)),.cells (ansC (0,0,false))]) y.2.2∧getH y.2.2 (H.length+1) = .cells (ansC y.2.1)∧MapOk l y.2.2 mo∧y.2.1=(List.range y.1).foldl (fun best (k:Nat)=>fromStep l (fromF l n) s bad best (k:Int)) (0,0,false))∧k+1=y.1∧H4=y.2.2:=by
                    rintro H4 rfl
                    refine hend ((k:Int),min am bm,true) _ (by simp [length_setH]) (hset2 _ _ _ _) ?_ (by rw [hs0,if_pos ⟨rfl,hbt⟩])
                    simp only [go_sem,getH_left,length_setH,getH_setH,false_and,r1,j1,u1,u2,u3,u4,u5,u6,u7,u8,u9,u10,u11,u12,u13,u14,u15,u16,u17,u18,u19,u20,u21,u22,u23,u24,u25,u26,u27,u28,u29,u30,v1,v2,v3,v4,v5,v6,v7,v8,v9,v10,v11,v12,v13,v14,x1,x2,x3,x4,x5,x6,x7,x8]
                  obtain ⟨os,om,oi⟩:=best
                  cases oi with
                  | false=>
                    simp only [go_sem,getH_ge,setH_ge,isHole_ge,Nat.le_refl,P87p,jh,j0,j1,jm,ja,getH_setH,getH_left,setH_left,length_setH,setH_twice,false_and,r0,r1,r2,r3,u1,u2,u3,u4,u5,u6,u7,u8,u9,u10,u11,u12,u13,u14,u15,u16,u17,u18,u19,u20,u21,u22,u23,u24,u25,u26,u27,u28,u29,u30,v1,v2,v3,v4,v5,v6,v7,v8,v9,v10,v11,v12,v13,v14,x1,x2,x3,x4,x5,x6,x7,x8,hwk]
                    exact hfin _ rfl
                  | true=>
                    have hlt:om<min am bm:=by
                      rcases hbt with h | h
                      · cases h
                      · exact h
                    simp only [go_sem,getH_ge,setH_ge,isHole_ge,Nat.le_refl,P87p,jh,j0,j1,jm,ja,getH_setH,getH_left,setH_left,length_setH,setH_twice,false_and,r0,r1,r2,r3,u1,u2,u3,u4,u5,u6,u7,u8,u9,u10,u11,u12,u13,u14,u15,u16,u17,u18,u19,u20,u21,u22,u23,u24,u25,u26,u27,u28,u29,u30,v1,v2,v3,v4,v5,v6,v7,v8,v9,v10,v11,v12,v13,v14,x1,x2,x3,x4,x5,x6,x7,x8,hwk,hlt,gt_iff_lt]
                    exact hfin _ rfl
                · have hbi:best.2.2=true:=by
                    cases h:best.2.2 with
                    | true=>rfl
                    | false=>exact absurd (.inl h) hbt
                  have hlt:¬best.2.1<min am bm:=fun h=>hbt (.inr h)
                  simp only [go_sem,getH_ge,setH_ge,isHole_ge,Nat.le_refl,P87p,jh,j0,j1,jm,ja,getH_setH,getH_left,setH_left,length_setH,setH_twice,false_and,r0,r1,r2,r3,u1,u2,u3,u4,u5,u6,u7,u8,u9,u10,u11,u12,u13,u14,u15,u16,u17,u18,u19,u20,u21,u22,u23,u24,u25,u26,u27,u28,u29,u30,v1,v2,v3,v4,v5,v6,v7,v8,v9,v10,v11,v12,v13,v14,x1,x2,x3,x4,x5,x6,x7,x8,hwk,hlt,hbi,gt_iff_lt]
                  refine hend best _ (by simp [length_setH]) (hset _ _ _) ?_ (by rw [hs0,if_neg (fun h=>hbt h.2)])
                  simp only [go_sem,getH_left,length_setH,getH_setH,false_and,r1,j1,u1,u2,u3,u4,u5,u6,u7,u8,u9,u10,u11,u12,u13,u14,u15,u16,u17,u18,u19,u20,u21,u22,u23,u24,u25,u26,u27,u28,u29,u30,v1,v2,v3,v4,v5,v6,v7,v8,v9,v10,v11,v12,v13,v14,x1,x2,x3,x4,x5,x6,x7,x8]
                  all_goals rw [hbi]
            · by_cases hbt:best.2.2=false∨best.2.1<am
              · have hs1:fromStep l (fromF l n) s bad best (k:Int)=((k:Int),am,true):=by
                  simp only [fromStep,if_pos hc,ha,hbad,and_false,if_false]
                  rw [if_pos ⟨trivial,hbt⟩]
                have hfin:∀H3,H3=setH (setH H2 (H1.length+2) (.cells [.int .i64 as,.int .i64 am,.bool true])) (H.length+1) (.cells [.int .i64 k,.int .i64 am,.bool true])→∃y:Nat × Ans × List Obj,(l.sites.length-y.1<l.sites.length-k∧y.1≤l.sites.length∧Keep (fun o=>o=mo∨o=H.length+1) (H++[.cells (keyC s bad),.cells (ansC (0,0,false)),.cells (ansC (0,0,false))]) y.2.2∧getH y.2.2 (H.length+1) = .cells (ansC y.2.1)∧MapOk l y.2.2 mo∧y.2.1=(List.range y.1).foldl (fun best (k:Nat)=>fromStep l (fromF l n) s bad best (k:Int)) (0,0,false))∧k+1=y.1∧H3=y.2.2:=by
                  rintro H3 rfl
                  refine ⟨(k+1,((k:Int),am,true),_),⟨by simp only;omega,hk,(hK4 _ _).1,?_,(hM4 _ _).1,hstep _ hs1⟩,rfl,rfl⟩
                  simp only [go_sem,getH_setH,length_setH,t1]
                obtain ⟨bs,bm,bi⟩:=best
                cases bi with
                | false=>
                  simp only [go_sem,ih2,i0,i1,im,ib,getH_setH,getH_left,setH_left,length_setH,setH_twice,false_and,t0,t1,t2,t3,t4,u1,u2,u3,u4,u5,u6,u7,u8,u9,u10,u11,u12,u13,u14,u15,u16,u17,u18,u19,u20,u21,u22,u23,u24,u25,u26,u27,u28,u29,u30,v1,v2,v3,v4,v5,v6,v7,v8,v9,v10,v11,v12,v13,v14,hbad,gt_iff_lt,hwk]
                  exact hfin _ rfl
                | true=>
                  have hlt:bm<am:=by
                    rcases hbt with h | h
                    · cases h
                    · exact h
                  simp only [go_sem,ih2,i0,i1,im,ib,getH_setH,getH_left,setH_left,length_setH,setH_twice,false_and,t0,t1,t2,t3,t4,u1,u2,u3,u4,u5,u6,u7,u8,u9,u10,u11,u12,u13,u14,u15,u16,u17,u18,u19,u20,u21,u22,u23,u24,u25,u26,u27,u28,u29,u30,v1,v2,v3,v4,v5,v6,v7,v8,v9,v10,v11,v12,v13,v14,hbad,gt_iff_lt,hwk,hlt]
                  exact hfin _ rfl
              · have hs1:fromStep l (fromF l n) s bad best (k:Int)=best:=by
                  simp only [fromStep,if_pos hc,ha,hbad,and_false,if_false]
                  rw [if_neg (fun h=>hbt h.2)]
                have hbi:best.2.2=true:=by
                  cases h:best.2.2 with
                  | true=>rfl
                  | false=>exact absurd (.inl h) hbt
                have hlt:¬best.2.1<am:=fun h=>hbt (.inr h)
                simp only [go_sem,ih2,i0,i1,im,ib,getH_setH,getH_left,setH_left,length_setH,setH_twice,false_and,t0,t1,t2,t3,t4,u1,u2,u3,u4,u5,u6,u7,u8,u9,u10,u11,u12,u13,u14,u15,u16,u17,u18,u19,u20,u21,u22,u23,u24,u25,u26,u27,u28,u29,u30,v1,v2,v3,v4,v5,v6,v7,v8,v9,v10,v11,v12,v13,v14,hbad,gt_iff_lt,hwk,hlt,hbi]
                refine ⟨(k+1,best,_),⟨by simp only;omega,hk,(hK4 _ .none).2,?_,(hM4 _ .none).2,hstep _ hs1⟩,rfl,rfl⟩
                simp only [go_sem,getH_setH,false_and,i1,u1,u2,u3,u4,u5,u6,u7,u8,u9,u10,u11,u12,u13,u14,u15,u16,u17,u18,u19,u20,u21,u22,u23,u24,u25,u26,u27,u28,u29,u30]
                all_goals rw [hbi]
        · simp only [go_sem,hk,q1,q2,g0,gm,hb1,P74 s0 p2,p3,hc,hwk]
          refine ⟨(k+1,best,H1),⟨by simp only;omega,hk,hK1,hb1,hmap1,?_⟩,rfl,rfl⟩
          simp only [List.range_succ,List.foldl_append,←hbest,List.foldl_cons,List.foldl_nil]
          simp only [fromStep]
          rw [if_neg hc]
      · have hk':k=l.sites.length:=by omega
        subst hk'
        have lm1:=lt_of_getH (h:=H1) (o:=ma) (by rw [gm];simp)
        obtain ⟨es1,hes1,hok1⟩:=hmap1
        have w0:H.length<H1.length:=by omega
        have w1:H.length+1<H1.length:=by omega
        have z1:¬ma=H.length+1:=by omega
        have z2:¬mo=H.length+1:=by omega
        have z3:¬H.length+1=mo:=by omega
        have z4:¬H.length=mo:=by omega
        have z5:¬ma=mo:=hmm
        have z6:¬H.length+1=ma:=by omega
        have z7:¬H.length+1=H.length:=by omega
        have z8:¬mo=ma:=fun h=>hmm h.symm
        have z9:¬H.length=H.length+1:=by omega
        have hres:∀(r:Ans),fromL l s bad=r→∀e∈putE (keyD s bad) (ansC r) es1,∃s b,e.1=keyD s b∧e.2=ansC (fromL l s b):=by
          intro r hr e he
          rcases putE_mem he with h | h
          · exact hok1 e h
          · exact ⟨s,bad,by rw [h],by rw [h,hr]⟩
        have hfold:fromL l s bad=if best.2.2=true then best else (0,0,false):=by
          rw [hfu,fromF,←hbest]
        have hKe:∀H4:List Obj,H1.length≤H4.length→(∀o,o<H.length→o≠mo→getH H4 o=getH H1 o)→Keep (fun o=>o=mo) H H4:=by
          intro H4 hl4 hk4
          refine ⟨by omega,fun o ho hl=>?_⟩
          rw [hk4 o hl ho,hK1.2 o (fun h=>by omega) (by simp only [List.length_append];omega),getH_left hl]
        obtain ⟨os,om,oi⟩:=best
        cases oi with
        | true=>
          have hfold:fromL l s bad=(os,om,true):=by rw [hfold];rfl
          rw [hfold]
          simp only [go_sem,hk,hb1,gm,g0,hes1,getH_setH,length_setH,false_and,w0,w1,z1,z2,z3,z4,z5,z6,z7,z8,z9,setH_twice]
          refine ⟨hKe _ (by simp [length_setH]) (fun o h1 h2=>by rw [getH_setH,if_neg (fun h=>by omega),getH_setH,if_neg (fun h=>h2 h.1)]),_,(by rw [getH_setH,if_neg (fun h=>z2 h.1),getH_setH,if_pos ⟨rfl,lt_of_getH (by rw [hes1];simp)⟩]),hres _ hfold⟩
        | false=>
          have hfold:fromL l s bad=(0,0,false):=by rw [hfold];rfl
          rw [hfold]
          simp only [go_sem,hk,hb1,gm,g0,hes1,getH_setH,length_setH,false_and,w0,w1,z1,z2,z3,z4,z5,z6,z7,z8,z9,setH_twice]
          refine ⟨hKe _ (by simp [length_setH]) (fun o h1 h2=>by rw [getH_setH,if_neg (fun h=>by omega),getH_setH,if_neg (fun h=>h2 h.1),getH_setH,if_neg (fun h=>by omega)]),_,(by rw [getH_setH,if_neg (fun h=>z2 h.1),getH_setH,if_pos ⟨rfl,by rw [length_setH];exact lt_of_getH (by rw [hes1];simp)⟩]),hres _ hfold⟩
end Am.Mv
namespace Am.Mv
open Go Am Am.Tm
set_option maxRecDepth 100000
set_option maxHeartbeats 4000000
set_option linter.unusedSimpArgs false
set_option linter.unusedVariables false
variable {l:Land} {g1 g2:Bool × Bool}
theorem stAt_year (l:Land) (bad plan:List Int):∀k:Nat,k≤1000→(stAt l bad plan k).year=k
  | 0,_=>rfl
  | k+1,h=>by
    show IntKind.i64.wrap ((stAt l bad plan k).year+1)=_
    rw [stAt_year l bad plan k (by omega)]
    exact wrap_succ (n:=10000) (by omega) (by decide)
def goA (l:Land) (sites bad:List Int):Ans:=fromL l (stAt l bad sites sites.length) (l.bad-bad.length)
def GoR (l:Land) (sites bad:List Int):V:=
  if checkLand l=0 then
    if (sites.length:Int)≤l.last∧sites.all (isSite l.sites)=true∧isWeather l bad sites.length=true then
      match failAt l bad sites with
      | some _=>.tup [.c (.int .i64 0),.c (.int .i64 0),.c (.int .i64 9)]
      | none=>if (goA l sites bad).2.2=true then .tup [.c (.int .i64 (goA l sites bad).1),.c (.int .i64 (IntKind.i64.wrap ((goA l sites bad).2.1-l.purse))),.c (.int .i64 0)]
        else .tup [.c (.int .i64 0),.c (.int .i64 0),.c (.int .i64 10)]
    else .tup [.c (.int .i64 0),.c (.int .i64 0),.c (.int .i64 2)]
  else .tup [.c (.int .i64 0),.c (.int .i64 0),.c (.int .i64 (checkLand l))]
theorem P34 {g3 g4:Bool × Bool} {sites bad:List Int} (hf:l.Fits) (hs:sites.length<Big) (hb:bad.length<Big) {Q:V→Prop}:CallP tab 20 [landV g1 g2 l,.c (L g3 sites),.c (L g4 bad)] Q↔Q (GoR l sites bad):=CallP_of (by
  refine Val_X (fn:=f20) rfl ?_
  by_cases h0:checkLand l=0
  · have hv:=valid_of h0
    have l4:=hv.last4
    have b0:=hv.bad0
    have b1:=hv.bad1
    by_cases h1:(sites.length:Int)≤l.last
    · have h1':¬l.last<(sites.length:Int):=by omega
      have h1'':¬(sites.length:Int)>l.last:=by omega
      by_cases h2:sites.all (isSite l.sites)=true
      · by_cases h3:isWeather l bad sites.length=true
        · have hsites:=areSites_of h2
          have hbl:(bad.length:Int)≤l.bad:=by
            have:=h3
            simp only [isWeather,Bool.and_eq_true,decide_eq_true_eq] at this
            exact this.1
          have hw:IntKind.i64.wrap (l.bad-bad.length)=l.bad-bad.length:=wrapB (by omega) (by omega)
          have hpl:sites.length≤100:=by omega
          cases hfa:failAt l bad sites with
          | some k=>
            simp only [go_sem,f20,P22 hf,h0,F67s hs hf.sites,P52 hb,P53 hv hsites hpl hb,playC,hfa,h1,h1',h1'',h2,h3,GoR,and_false]
          | none=>
            have hy:=stAt_year l bad sites sites.length (by omega)
            have hst:=stAt_site hv (bad:=bad) hsites sites.length (Nat.le_refl _)
            have hle:=stAt_le l bad sites sites.length (by omega)
            rw [←hy] at hle
            simp only [go_sem,f20,P22 hf,h0,F67s hs hf.sites,P52 hb,P53 hv hsites hpl hb,playC,hfa,h1,h1',h1'',h2,h3,hw]
            refine (from_ok (g1:=g1) (g2:=g2) hv (ma:=4) (mo:=3) (by decide) _ (stAt l bad sites sites.length) (l.bad-bad.length) _ rfl (by rw [hy];omega) (by rw [hy];omega) hst.1 hst.2 hle (by omega) (by omega) rfl ⟨[],rfl,fun e he=>by simp at he⟩).mono ?_
            rintro v H' ⟨rfl,hK,_⟩
            have hl:=hK.1
            simp only [List.length_cons,List.length_nil] at hl
            have hh:isHole H' 5=true:=hK.hole (by decide) (by simp) rfl
            have e0:=hK.get (o:=0) (x:=.cells [.int .i64 l.last,.int .i64 l.home,.int .i64 l.purse,.int .i64 l.bad,.int .i64 l.rest,L g1 l.sites,L g2 l.roads]) (by decide) rfl (by simp)
            have m5:5<H'.length:=by omega
            show NX tab _ _ _ _ _ _
            cases ha:(fromL l (stAt l bad sites sites.length) (l.bad-bad.length)).2.2 with
            | true=>
              have hc:((sites.length:Int)≤l.last∧sites.all (isSite l.sites)=true∧isWeather l bad sites.length=true):=⟨h1,h2,h3⟩
              simp only [go_sem,false_and,hh,e0,getH_setH,length_setH,setH_twice,m5,ha]
              simp only [GoR,h0,if_pos hc,hfa,goA,ha,if_true]
            | false=>
              have hc:((sites.length:Int)≤l.last∧sites.all (isSite l.sites)=true∧isWeather l bad sites.length=true):=⟨h1,h2,h3⟩
              simp only [go_sem,false_and,hh,e0,getH_setH,length_setH,setH_twice,m5,ha]
              simp only [GoR,h0,if_pos hc,hfa,goA,ha,if_true]
              rfl
        · simp only [go_sem,f20,P22 hf,h0,F67s hs hf.sites,P52 hb,h1,h1',h1'',h2,h3,GoR,and_false]
      · simp only [go_sem,f20,P22 hf,h0,F67s hs hf.sites,h1,h1',h1'',h2,GoR,false_and]
    · have h1'':(sites.length:Int)>l.last:=by omega
      simp only [go_sem,f20,P22 hf,h0,h1,h1'',GoR,false_and]
  · simp only [go_sem,f20,P22 hf,h0,GoR])
def SeenR (l:Land):V:=if checkLand l=0 then
    if (goA l [] []).2.2=true then .tup [.c (.int .i64 (IntKind.i64.wrap ((goA l [] []).2.1-l.purse))),.c (.int .i64 0)] else .tup [.c (.int .i64 0),.c (.int .i64 10)]
  else .tup [.c (.int .i64 0),.c (.int .i64 (checkLand l))]
theorem P33 (hf:l.Fits) {Q:V→Prop}:CallP tab 17 [landV g1 g2 l] Q↔Q (SeenR l):=CallP_of (by
  refine Val_X (fn:=f17) rfl ?_
  have P34':∀{Q:V→Prop},CallP tab 20 [landV g1 g2 l,.c .nils,.c .nils] Q↔Q (GoR l [] []):=by
    intro Q
    exact P34 (g1:=g1) (g2:=g2) (g3:=(true,true)) (g4:=(true,true)) hf (sites:=[]) (bad:=[]) (by decide) (by decide)
  by_cases h0:checkLand l=0
  · have hv:=valid_of h0
    have hc:((([]:List Int).length:Int)≤l.last∧([]:List Int).all (isSite l.sites)=true∧isWeather l [] (([]:List Int).length)=true):=by
      refine ⟨hv.last0,rfl,?_⟩
      have:=hv.bad0
      simp [isWeather,weatherOk,this]
    have hfa:failAt l [] []=none:=rfl
    cases ha:(goA l [] []).2.2 with
    | true=>
      have hG:GoR l [] [] = .tup [.c (.int .i64 (goA l [] []).1),.c (.int .i64 (IntKind.i64.wrap ((goA l [] []).2.1-l.purse))),.c (.int .i64 0)]:=by
        unfold GoR;rw [if_pos h0,if_pos hc,hfa];simp only [ha,if_true]
      simp only [go_sem,f17,P34',hG,h0,ha,SeenR]
    | false=>
      have hG:GoR l [] [] = .tup [.c (.int .i64 0),.c (.int .i64 0),.c (.int .i64 10)]:=by
        unfold GoR;rw [if_pos h0,if_pos hc,hfa];simp only [ha,if_true];rfl
      simp only [go_sem,f17,P34',hG,h0,ha,SeenR]
  · have hG:GoR l [] [] = .tup [.c (.int .i64 0),.c (.int .i64 0),.c (.int .i64 (checkLand l))]:=by
      unfold GoR;rw [if_neg h0]
    simp only [go_sem,f17,P34',hG,h0,SeenR])
end Am.Mv
namespace Am.Mv
open Go Am Am.Tm
set_option maxRecDepth 100000
set_option maxHeartbeats 4000000
set_option linter.unusedSimpArgs false
set_option linter.unusedVariables false
def twoL (p:Int):Land:=⟨2,0,p,1,2,[⟨20,12,2⟩,⟨30,10,4⟩],[[0,5],[5,0]]⟩
def twoV (p:Int):V:=landV (false,false) (false,false) (twoL p)
theorem toArg_twoV {h:List Obj} {p:Int}:toArg h (twoV p)=some (twoV p):=rfl
theorem objs_twoV {p:Int}:objsV (twoV p)=[]:=rfl
theorem P47 {p:Int} {Q:V→Prop}:CallP tab 14 [.c (.int .i64 p)] Q↔Q (twoV p):=CallP_of (by
  refine Val_X (fn:=f14) rfl ?_
  simp only [go_sem,f14]
  rfl)
theorem P48 {a b c:Int} {Q:V→Prop}:CallP tab 21 [.c (.int .i64 a),.c (.int .i64 b),.c (.int .i64 c)] Q↔Q (.agg [.int .i64 a,.int .i64 b,.int .i64 c]):=CallP_of (by
  refine Val_X (fn:=f21) rfl ?_
  simp only [go_sem,f21])
theorem two_fits {p:Int}:(twoL p).Fits:=⟨by show 2<Big;decide,by show 2<Big;decide,by
  intro r hr
  simp only [twoL,List.mem_cons,List.not_mem_nil,or_false] at hr
  rcases hr with rfl | rfl
  · show 2<Big;decide
  · show 2<Big;decide⟩
theorem lst0 {t:Bool}:C.lst t []=L (false,t) ([]:List Int):=rfl
theorem lst1 {t:Bool} {a:Int}:C.lst t [[.int .i64 a]]=L (false,t) [a]:=rfl
theorem lst2 {t:Bool} {a b:Int}:C.lst t [[.int .i64 a],[.int .i64 b]]=L (false,t) [a,b]:=rfl
theorem lst3 {t:Bool} {a b c:Int}:C.lst t [[.int .i64 a],[.int .i64 b],[.int .i64 c]]=L (false,t) [a,b,c]:=rfl
theorem w1 : playR (twoL 10) [0,0,1] [2] = .tup [.c (L (false,false) [Year.mk 20 2 28,Year.mk 12 2 38,Year.mk 15 9 44]),.c (.int .i64 0)]:=by kernel_rfl
theorem w2 (b:Bool):SureR b (twoL 10) [0,1,0] = .tup [.c (.int .i64 29),.c (L (b,false) ([1]:List Int)),.c (.int .i64 0)]:=by kernel_rfl
theorem w3 (b:Bool):BestR b (twoL 10) = .tup [.c (L (b,false) ([0,0,1]:List Int)),.c (.int .i64 34),.c (.int .i64 0)]:=by kernel_rfl
theorem w4 : SeenR (twoL 10) = .tup [.c (.int .i64 34),.c (.int .i64 0)]:=by kernel_rfl
theorem w5 : LateR (twoL 10) = .tup [.c (.int .i64 2),.c (.int .i64 0)]:=by kernel_rfl
theorem w6 : WorthR (twoL 10) 0 = .tup [.c (.int .i64 26),.c (.int .i64 0)]:=by kernel_rfl
theorem w7 : GoR (twoL 10) [0] [0] = .tup [.c (.int .i64 0),.c (.int .i64 39),.c (.int .i64 0)]:=by kernel_rfl
theorem P31 {g g':Bool × Bool} {a b:List Int} (ha:a.length<Big) {Q:V→Prop}:CallP tab 22 [.c (L g a),.c (L g' b)] Q↔Q (.c (.bool (decide (a=b)))):=CallP_of (by
  refine Val_X (fn:=f22) rfl ?_
  simp only [go_sem,f22]
  refine ⟨fun h e=>h (by rw [e]),fun h=>?_⟩
  refine RX_for a.length (fun k=>[(5,.c (.int .i64 k))]) (fun _=>[]) (fun k=>∀i,i<k→a.getD i default=b.getD i default) (fun i h=>by omega) (by simp only [go_sem]<;>rfl) ?_
  intro k hk hP
  by_cases h1:k<a.length
  · have h2:k<b.length:=by omega
    simp only [go_sem,h1,h2,wrap_succ h1 ha,atI_nat]
    refine ⟨fun e hab=>?_,fun e i hi=>?_⟩
    · subst hab;exact e rfl
    · by_cases hik:i=k
      · subst hik;exact e
      · exact hP i (by omega)
  · simp only [go_sem,h1]
    apply List.ext_getElem h
    intro i hi hi'
    have:=hP i (by omega)
    rwa [getD_lt _ _ _ hi,getD_lt _ _ _ hi'] at this)
theorem awake_val : Val tab 5 [] (.c (.bool true)):=by
  obtain ⟨b1,h2⟩:=V39 (l:=twoL 10) (g1:=(false,false)) (g2:=(false,false)) (g3:=(false,true)) (plan:=[0,1,0]) two_fits (by decide)
  obtain ⟨b2,h3⟩:=V27 (l:=twoL 10) (g1:=(false,false)) (g2:=(false,false)) two_fits
  have h1:=fun Q=>P18 (l:=twoL 10) (g1:=(false,false)) (g2:=(false,false)) (g3:=(false,true)) (g4:=(false,true)) (plan:=[0,0,1]) (ws:=[2]) two_fits (by decide) (by decide) (Q:=Q)
  have h4:=fun Q=>P33 (l:=twoL 10) (g1:=(false,false)) (g2:=(false,false)) two_fits (Q:=Q)
  have h5:=fun Q=>P28 (l:=twoL 10) (g1:=(false,false)) (g2:=(false,false)) two_fits (Q:=Q)
  have h6:=fun Q=>P29 (l:=twoL 10) (g1:=(false,false)) (g2:=(false,false)) (site:=0) two_fits (Q:=Q)
  have h7:=fun Q=>P34 (l:=twoL 10) (g1:=(false,false)) (g2:=(false,false)) (g3:=(false,true)) (g4:=(false,true)) (sites:=[0]) (bad:=[0]) two_fits (by decide) (by decide) (Q:=Q)
  have h2':=fun Q=>h2 (Q:=Q)
  have h3':=fun Q=>h3 (Q:=Q)
  rw [w1] at h1
  rw [w2] at h2'
  rw [w3] at h3'
  rw [w4] at h4
  rw [w5] at h5
  rw [w6] at h6
  rw [w7] at h7
  change ∀Q,CallP tab 9 [twoV 10,_,_] Q↔_ at h1
  change ∀Q,CallP tab 15 [twoV 10,_] Q↔_ at h2'
  change ∀Q,CallP tab 16 [twoV 10] Q↔_ at h3'
  change ∀Q,CallP tab 17 [twoV 10] Q↔_ at h4
  change ∀Q,CallP tab 18 [twoV 10] Q↔_ at h5
  change ∀Q,CallP tab 19 [twoV 10,_] Q↔_ at h6
  change ∀Q,CallP tab 20 [twoV 10,_,_] Q↔_ at h7
  have q1:=fun g g' b Q=>P31 (g:=g) (g':=g') (a:=[1]) (b:=b) (show 1<Big by decide) (Q:=Q)
  have q2:=fun g g' b Q=>P31 (g:=g) (g':=g') (a:=[0,0,1]) (b:=b) (show 3<Big by decide) (Q:=Q)
  have q3:atI [Year.mk 20 2 28,Year.mk 12 2 38,Year.mk 15 9 44] 2=Year.mk 15 9 44:=rfl
  refine Val_X (fn:=f5) rfl ?_
  simp only [go_sem,f5,P47,P48,toArg_twoV,objs_twoV,lst0,lst1,lst2,lst3,h1,h2',h3',h4,h5,h6,h7,q1,q2,q3,decide_true]
end Am.Mv
