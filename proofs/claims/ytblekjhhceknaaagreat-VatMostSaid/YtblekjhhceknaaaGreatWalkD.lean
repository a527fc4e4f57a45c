/-
  A part of the proof: the texts V22, V23, V24, V25, V26, V27 of this seat, joined.
-/
import Derived.Test.YtblekjhhceknaaaGreatWalkC
namespace Am.Vt
open Go Am
set_option maxRecDepth 100000
set_option maxHeartbeats 4000000
set_option linter.unusedSimpArgs false
set_option linter.unusedVariables false
variable {g1 g2 g3 g4 gt:Bool × Bool} {v:Vat} {t:Truth}
theorem Fnine {n:Int} {h:List Obj} {Q:V→List Obj→Prop}:Fn tab (.f 105 [.c (.int .i64 n)] h) Q↔Q (.c (.bool (inR n (-9) 9))) h:=Fn_iff (by
  refine Fn_X (fn:=f105) rfl rfl ?_
  simp only [go_sem,f105,cwithin])
theorem Fnines {g:Bool × Bool} {l:List Int} (hs:l.length<Big) {h:List Obj} (hu:underH h.length h=true) {Q:V→List Obj→Prop}:Fn tab (.f 84 [.c (L g l),.c (.fn 105 false [] [])] h) Q↔Q (.c (.bool (l.all fun n=>inR n (-9) 9))) (h++[.cells [.fn 105 false [] []]]):=by
  refine All_pure elemInt (kN:=133) (kC:=132) (kI:=147) rfl rfl rfl rfl hs hu (by simp only [go_sem]) (fun n=>inR n (-9) 9) ?_
  intro z hz h' hu'
  simp only [go_sem,elemInt]
  rw [Fnine]
  exact ⟨rfl,rfl⟩
def keepAsk (v:Vat) (l:List Int):Bool:=decide (l.length≤v.drift.length)&&l.all fun n=>inR n (-9) 9
def keepsB (v:Vat) (l:List Int):Bool:=(List.range l.length).all fun d=>inR (sumI (l.take (d+1))) (roomI v d).lo (roomI v d).hi
def provesKeep (v:Vat) (l:List Int):Bool:=decide (askE v (keepAsk v l)=0)&&keepsB v l
theorem Fasked_bad (hf:v.Fits) {b:Bool} (hb:askE v b≠0) {H:List Obj}:Fn tab (.f 93 [vatV g1 g2 g3 g4 v,.c (.bool b)] H) fun r H'=>r = .tup [.c .nilp,.c (.int .i64 (askE v b))]∧Keep (fun _=>False) H H':=by
  refine (Fasked hf).mono ?_
  rintro r H' ⟨hk,hr⟩
  rcases hr with ⟨_,rfl⟩ | ⟨a,_⟩
  · exact ⟨rfl,hk⟩
  · exact absurd a hb
theorem askE_bad (h:checkVat v≠0) {b:Bool}:askE v b=checkVat v:=by simp [askE,h]
theorem askE_false : askE v false≠0:=by
  intro h;have:=(ask_ok h).2.1;cases this
theorem XMem.keepQ {mo q:Nat} {c:XC} {H H':List Obj} (h:XMem v mo c H) (hk:Keep (fun o=>o=q) H H') (hq:getH H q = .none):XMem v mo c H':=by
  refine ⟨h.ok,h.rel,fun p hp=>?_⟩
  have h0:=h.inn p hp
  revert h0
  generalize p.2=pc
  generalize p.1.drift=pl
  intro h0
  cases h0 with
  | nils=>exact .nils
  | sl o ver fr w ho hg=>exact .sl o ver fr _ ho (hk.get (by rintro rfl;rw [hq] at hg;cases hg) hg (by simp))
theorem splice_eq {xs l:List C} (h:xs.length=l.length):splice 0 xs l=some xs:=by
  induction xs generalizing l with
  | nil=>cases l with
    | nil=>rfl
    | cons _ _=>cases h
  | cons x xs ih=>cases l with
    | nil=>cases h
    | cons _ _=>simp only [splice,ih (Nat.succ.inj h),Option.map_some]
theorem cProveKeep (hf:v.Fits) {l:List Int} (hl:l.length<Big) {Q:V→Prop}:CallP tab 39 [vatV g1 g2 g3 g4 v,.c (L gt l)] Q↔Q (.c (.bool (provesKeep v l))):=CallP_of (by
  refine Val_X (fn:=f39) rfl ?_
  by_cases h0:checkVat v=0
  · have hv:=valid_of h0
    have v1:=hv.drift
    have v4:=hv.last7
    have v0:=hv.last0
    have w0:IntKind.i64.wrap (v.last+1)=v.drift.length:=by rw [wrapB (by omega) (by omega)];omega
    by_cases h1:(l.length:Int)≤v.drift.length
    · by_cases h2:(l.all fun n=>inR n (-9) 9)=true
      · have hk:keepAsk v l=true:=by rw [keepAsk,h2,Bool.and_true,decide_eq_true_eq];omega
        rw [provesKeep,hk]
        simp only [go_sem,f39,cdays,w0,h1,Fnines hl,h2]
        refine (Fasked (g1:=g1) (g2:=g2) (g3:=g3) (g4:=g4) (b:=true) hf).mono ?_
        rintro r H' ⟨hk,hr⟩
        rcases hr with ⟨a,rfl⟩ | ⟨a,wo,mo,b1,b2,rfl,b3,b4⟩
        · simp only [go_sem,a]
        · have hp:=(ask_ok a).2.2
          have hW0:WInv g1 g2 g3 g4 v wo mo H':=⟨b3,b4⟩
          simp only [go_sem,a]
          refine (Fextreme (g1:=g1) (g2:=g2) (g3:=g3) (g4:=g4) hv hW0.app).mono ?_
          rintro r H1 ⟨c,rfl,hX,hk1,hW1⟩
          have ha:=hX.ok.all
          have hlc:=hX.ok.len
          have kn:=hX.kn
          have l1:H'.length<H1.length:=by have:=hk1.1;simp at this;omega
          have hnn:getH H1 H'.length = .none:=by rw [hk1.2 _ (by simp only;have:=hW0.lm;omega) (by simp),getH_atL0 rfl];rfl
          have hh:isHole H1 H'.length=true:=isHole_of l1 hnn
          simp only [go_sem,getH_setH,length_setH,l1,hh,kn,ha,hlc,false_and,splice_eq]
          generalize hH2:setH (setH H1 H'.length _) H'.length _=H2
          have l2:H2.length=H1.length:=by rw [←hH2];simp [length_setH]
          have kk:Keep (fun o=>o=H'.length) H1 H2:=by rw [←hH2];exact (setK (own:=fun o=>o=H'.length) rfl).trans (setK rfl)
          have oc:getH H2 H'.length = .cells c.cells:=by rw [←hH2];simp only [getH_setH,length_setH,l1,go_sem]
          have X2:=hX.keepQ kk hnn
          have W2:=hW1.keep kk (by have:=hW0.lw;omega) (hW1.m.keep kk (by have:=hW0.lm;omega))
          have hLL:∀n∈l,-9≤n∧n≤9:=fun n hn=>by have:=List.all_eq_true.1 h2 n hn;rwa [inR_iff] at this
          refine RX_whileU (α:=Nat × List Obj) (fun x=>[(8,.c (.int .i64 (sumI (l.take x.1)))),(31,.c (.int .i64 x.1))]) (fun x=>H2++x.2) (fun x=>x.1≤l.length∧(List.range x.1).all (fun d=>inR (sumI (l.take (d+1))) (roomI v d).lo (roomI v d).hi)=true) (fun x=>l.length-x.1) (0,[]) ⟨Nat.zero_le _,rfl⟩ (by simp only [go_sem]<;>rfl) ?_
          rintro ⟨k,X⟩ ⟨hk,hall⟩
          simp only at hk hall
          have k0:(0:Int)≤k:=by omega
          have e6:IntKind.i64.wrap ((k:Int)+1)=((k+1:Nat):Int):=wrap_succ (n:=3000) (by omega) (by decide)
          by_cases hlt:k<l.length
          · have hlt':(k:Int)<l.length:=by omega
            have l3:H'.length<H2.length:=by omega
            have lr:l.length≤v.drift.length:=by omega
            have hR:=fun {Q:V→List Obj→Prop}=>Froom (g1:=g1) (g2:=g2) (g3:=g3) (g4:=g4) hv hp (d:=k) (by omega) (X2.keep (Keep.append (X:=X))) (W2.app (X:=X)) (Q:=Q)
            have hst:sumI (l.take (k+1))=sumI (l.take k)+l.getD k default:=by rw [take_getD hlt default,sumI_snoc]
            have hb1:=sumI_bd (M:=9) (l:=l.take (k+1)) fun x hx=>by have:=hLL x (List.mem_of_mem_take hx);omega
            have hlen:(l.take (k+1)).length≤8:=by rw [List.length_take];omega
            have e5:IntKind.i64.wrap (sumI (l.take k)+l.getD k default)=sumI (l.take (k+1)):=by rw [←hst];exact wrapB (by omega) (by omega)
            have hat:atI l (k:Int)=l.getD k default:=by rw [atI_nat]
            have hrg:(List.range (k+1)).all (fun d=>inR (sumI (l.take (d+1))) (roomI v d).lo (roomI v d).hi)=inR (sumI (l.take (k+1))) (roomI v k).lo (roomI v k).hi:=by rw [List.range_succ,List.all_append,hall];simp
            cases hin:inR (sumI (l.take (k+1))) (roomI v k).lo (roomI v k).hi with
            | true=>
              simp only [go_sem,hlt',hlt,k0,hat,e5,e6,getH_left,l3,oc,ha,hlc,hR,chas,hin]
              exact ⟨(k+1,_),⟨by simp only;omega,hlt,by simp only;rw [hrg];exact hin⟩,⟨rfl,rfl⟩,rfl⟩
            | false=>
              simp only [go_sem,hlt',hlt,k0,hat,e5,e6,getH_left,l3,oc,ha,hlc,hR,chas,hin]
              rw [keepsB,List.all_eq_false]
              exact ⟨k,List.mem_range.2 hlt,by simp only [hin];simp⟩
          · have:k=l.length:=by omega
            subst this
            have hlt':¬(l.length:Int)<l.length:=by omega
            have hkb:keepsB v l=true:=hall
            simp only [go_sem,hlt',hkb]
      · have h2':(l.all fun n=>inR n (-9) 9)=false:=by simpa using h2
        have hb:keepAsk v l=false:=by rw [keepAsk,h2',Bool.and_false]
        have hE:=fun {H:List Obj}=>Fasked_bad (H:=H) (g1:=g1) (g2:=g2) (g3:=g3) (g4:=g4) hf (b:=false) askE_false
        rw [provesKeep,hb]
        have hn:=askE_false (v:=v)
        simp only [go_sem,f39,cdays,w0,h1,Fnines hl,h2',hn]
        refine hE.mono ?_
        rintro r H' ⟨rfl,_⟩
        simp only [go_sem,hn]
    · have hb:keepAsk v l=false:=by rw [keepAsk,decide_eq_false (by omega),Bool.false_and]
      have hE:=fun {H:List Obj}=>Fasked_bad (H:=H) (g1:=g1) (g2:=g2) (g3:=g3) (g4:=g4) hf (b:=false) askE_false
      rw [provesKeep,hb]
      have hn:=askE_false (v:=v)
      simp only [go_sem,f39,cdays,w0,h1,hn]
      refine hE.mono ?_
      rintro r H' ⟨rfl,_⟩
      simp only [go_sem,hn]
  · have hp:provesKeep v l=false:=by simp [provesKeep,askE_bad h0,h0]
    rw [hp]
    have hb:∀b,askE v b≠0:=fun b=>by rw [askE_bad h0];exact h0
    by_cases h1:(l.length:Int)≤IntKind.i64.wrap (v.last+1)
    · simp only [go_sem,f39,cdays,h1,Fnines hl]
      refine (Fasked_bad hf (hb _)).mono ?_
      rintro r H' ⟨rfl,_⟩
      simp only [go_sem,hb]
    · simp only [go_sem,f39,cdays,h1]
      refine (Fasked_bad hf (hb _)).mono ?_
      rintro r H' ⟨rfl,_⟩
      simp only [go_sem,hb]
  )
end Am.Vt
namespace Am.Vt
open Go Am
set_option maxRecDepth 100000
set_option maxHeartbeats 4000000
set_option linter.unusedSimpArgs false
set_option linter.unusedVariables false
variable {g1 g2 g3 g4 ga gb:Bool × Bool} {v:Vat}
def endsL (d:Nat):List Int:=(List.range (d+2)).map fun i=>(d:Int)-(i:Nat)
def endsP (d k:Nat):List Int:=(List.range k).map fun i=>(d:Int)-(i:Nat)
theorem endsP_succ {d k:Nat}:endsP d (k+1)=endsP d k++[(d:Int)-(k:Nat)]:=by simp [endsP,List.range_succ]
theorem endsP_len {d k:Nat}:(endsP d k).length=k:=by simp [endsP]
theorem cends {d:Nat} (hd:d≤8) {Q:V→Prop}:CallP tab 110 [.c (.int .i64 d)] Q↔Q (.c (L (false,false) (endsL d))):=CallP_of (by
  refine Val_X (fn:=f110) rfl ?_
  simp only [go_sem,f110]
  refine RX_whileU (α:=Nat) (fun k=>[(2,.c (.sl 0 k 0 k)),(3,.c (.int .i64 ((d:Int)-(k:Nat))))]) (fun k=>[.arr false k 1 ((endsP d k).map Row.row)]) (fun k=>k≤d+2) (fun k=>d+2-k) 0 (Nat.zero_le _) (by simp only [go_sem]<;>exact ⟨rfl,rfl⟩) ?_
  intro k hk
  have el:=endsP_len (d:=d) (k:=k)
  have b1:(k+1)*8≤2^40:=by omega
  have w1:IntKind.i64.wrap ((d:Int)-(k:Nat)-1)=(d:Int)-((k+1:Nat):Int):=by rw [wrapB (by omega) (by omega)];omega
  by_cases hlt:k<d+2
  · have hlt':(d:Int)-(k:Nat) ≥ -1:=by omega
    simp only [go_sem,hlt',el,b1,w1]
    exact ⟨k+1,⟨by omega,by omega⟩,⟨rfl,rfl⟩,by rw [endsP_succ,List.map_append];rfl⟩
  · have:k=d+2:=by omega
    subst this
    have hlt':¬(d:Int)-(d+2:Nat) ≥ -1:=by omega
    simp only [go_sem,hlt',el]
    rfl)
structure Prf where
  over:Int
  under:Int
  most:Truth
  least:Truth
abbrev proofC (ga gb:Bool × Bool) (p:Prf):List C:=[.int .i64 p.over,.int .i64 p.under,.int .i64 p.most.start,.int .i64 p.most.blue,L ga p.most.drift,.int .i64 p.least.start,.int .i64 p.least.blue,L gb p.least.drift]
abbrev proofG (ga gb:Bool × Bool) (p:Prf):V:=.agg [.int .i64 p.over,.int .i64 p.under,.int .i64 p.most.start,.int .i64 p.most.blue,L ga p.most.drift,.int .i64 p.least.start,.int .i64 p.least.blue,L gb p.least.drift]
attribute [go_sem] proofC proofG
def bareI (t:Truth) (d:Int):Int:=if d<0 then 0 else bareS t (d.toNat+1)
def needB (v:Vat) (p:Prf):Int:=(if p.over≥0 then bareS p.most (p.over.toNat+1)-v.band else 0)-(if p.under≥0 then v.band+bareS p.least (p.under.toNat+1) else 0)
def showsB (v:Vat) (p:Prf):Bool:=decide (needB v p>9*max (p.over-p.under) (p.under-p.over))
structure Prf.Ok (v:Vat) (p:Prf):Prop where
  o : -1≤p.over∧p.over≤v.last
  u : -1≤p.under∧p.under≤v.last
  m:IsT v p.most
  l:IsT v p.least
theorem cshows (hv:v.Valid) {p:Prf} (hp:p.Ok v) {Q:V→Prop}:CallP tab 111 [vatV g1 g2 g3 g4 v,proofG ga gb p] Q↔Q (.c (.bool (showsB v p))):=CallP_of (by
  refine Val_X (fn:=f111) rfl ?_
  have v1:=hv.drift
  have v4:=hv.last7
  have bb:=hv.band
  obtain ⟨ho,hu,hm,hl⟩:=hp
  have wo:IntKind.i64.wrap (p.over-p.under)=p.over-p.under:=wrapB (by omega) (by omega)
  have wu:IntKind.i64.wrap (p.under-p.over)=p.under-p.over:=wrapB (by omega) (by omega)
  have w9:IntKind.i64.wrap (9*max (p.over-p.under) (p.under-p.over))=9*max (p.over-p.under) (p.under-p.over):=wrapB (by omega) (by omega)
  have hB1:=fun {Q:V→Prop}=>cbare (g1:=g1) (g2:=g2) (g3:=g3) (g4:=g4) (gt:=ga) hv hm (Q:=Q)
  have hB2:=fun {Q:V→Prop}=>cbare (g1:=g1) (g2:=g2) (g3:=g3) (g4:=g4) (gt:=gb) hv hl (Q:=Q)
  simp only [vatV,truthG] at hB1 hB2
  have part:∀{t:Truth} {d:Nat},d<v.drift.length→takeN 1 (dropN d ((bareL v t).map intC))=some [C.int .i64 (bareS t (d+1))]:=fun {t d} hd=>by
    have e:=part_int (l:=bareL v t) (i:=d) (by rw [show (bareL v t).length=8 from bareK_len];omega)
    rw [show (bareL v t).getD d default=(bareL v t).getD d 0 from rfl,bareL_get hv hd] at e
    exact e
  obtain ⟨over,under,most,least⟩:=p
  simp only at ho hu hm hl wo wu w9 hB1 hB2
  simp only [showsB,needB]
  by_cases h1:over≥0
  · obtain ⟨o,rfl⟩:∃o:Nat,over=o:=⟨over.toNat,by omega⟩
    have q1:(o:Int)<8:=by omega
    have q2:(0:Int)≤o:=by omega
    have b1:=bareS_bd hv hm (k:=o+1) (by omega)
    have pm:=part (t:=most) (d:=o) (by omega)
    have w1:IntKind.i64.wrap (bareS most (o+1)-v.band)=bareS most (o+1)-v.band:=wrapB (by omega) (by omega)
    have w2:IntKind.i64.wrap (0+(bareS most (o+1)-v.band))=bareS most (o+1)-v.band:=by rw [wrapB (by omega) (by omega)];omega
    have w2':=w1
    by_cases h2:under≥0
    · obtain ⟨u,rfl⟩:∃u:Nat,under=u:=⟨under.toNat,by omega⟩
      have q3:(u:Int)<8:=by omega
      have q4:(0:Int)≤u:=by omega
      have b2:=bareS_bd hv hl (k:=u+1) (by omega)
      have pl:=part (t:=least) (d:=u) (by omega)
      have w3:IntKind.i64.wrap (v.band+bareS least (u+1))=v.band+bareS least (u+1):=wrapB (by omega) (by omega)
      have w4:IntKind.i64.wrap (bareS most (o+1)-v.band-(v.band+bareS least (u+1)))=bareS most (o+1)-v.band-(v.band+bareS least (u+1)):=wrapB (by omega) (by omega)
      simp only [go_sem,f111,h1,h2,hB1,hB2,q1,q2,q3,q4,pm,pl,w1,w2,w3,w4,wo,wu,w9,ite_max,disj_nil,gt_iff_lt]
    · simp only [go_sem,f111,h1,h2,hB1,q1,q2,pm,w1,w2,wo,wu,w9,ite_max,disj_nil,gt_iff_lt,Int.sub_zero]
  · by_cases h2:under≥0
    · obtain ⟨u,rfl⟩:∃u:Nat,under=u:=⟨under.toNat,by omega⟩
      have q3:(u:Int)<8:=by omega
      have q4:(0:Int)≤u:=by omega
      have b2:=bareS_bd hv hl (k:=u+1) (by omega)
      have pl:=part (t:=least) (d:=u) (by omega)
      have w3:IntKind.i64.wrap (v.band+bareS least (u+1))=v.band+bareS least (u+1):=wrapB (by omega) (by omega)
      have w4:IntKind.i64.wrap (0-(v.band+bareS least (u+1)))=0-(v.band+bareS least (u+1)):=wrapB (by omega) (by omega)
      simp only [go_sem,f111,h1,h2,hB2,q3,q4,pl,w3,w4,wo,wu,w9,ite_max,disj_nil,gt_iff_lt]
    · simp only [go_sem,f111,h1,h2,wo,wu,w9,ite_max,disj_nil,gt_iff_lt,Int.sub_zero])
def provesShow (v:Vat) (p:Prf):Bool:=((inR p.over (-1) v.last&&inR p.under (-1) v.last)&&decide (max p.over p.under≥0))&&(provesTruth v p.most&&(provesTruth v p.least&&showsB v p))
theorem provesTruth_isT {t:Truth} (h:provesTruth v t=true):checkVat v=0∧IsT v t:=by
  simp only [provesTruth,Bool.and_eq_true,decide_eq_true_eq] at h
  exact ⟨h.1,listed_iff.1 h.2.1⟩
theorem cProveShow (hf:v.Fits) {p:Prf} {Q:V→Prop}:CallP tab 45 [vatV g1 g2 g3 g4 v,proofG ga gb p] Q↔Q (.c (.bool (provesShow v p))):=CallP_of (by
  refine Val_X (fn:=f45) rfl ?_
  have hT1:=fun {Q:V→Prop}=>cProveTruth (g1:=g1) (g2:=g2) (g3:=g3) (g4:=g4) (gt:=ga) (t:=p.most) hf (Q:=Q)
  have hT2:=fun {Q:V→Prop}=>cProveTruth (g1:=g1) (g2:=g2) (g3:=g3) (g4:=g4) (gt:=gb) (t:=p.least) hf (Q:=Q)
  simp only [vatV,truthG] at hT1 hT2
  cases ho:inR p.over (-1) v.last with
  | false=>simp only [go_sem,f45,cwithin,ho,provesShow,disj_nil,ite_max,gt_iff_lt]
  | true=>
    cases hu:inR p.under (-1) v.last with
    | false=>simp only [go_sem,f45,cwithin,ho,hu,provesShow,disj_nil,ite_max,gt_iff_lt]
    | true=>
      by_cases hm:max p.over p.under≥0
      · cases t1:provesTruth v p.most with
        | false=>simp only [go_sem,f45,cwithin,ho,hu,hm,hT1,t1,provesShow,disj_nil,ite_max,gt_iff_lt]
        | true=>
          cases t2:provesTruth v p.least with
          | false=>simp only [go_sem,f45,cwithin,ho,hu,hm,hT1,t1,hT2,t2,provesShow,disj_nil,ite_max,gt_iff_lt]
          | true=>
            obtain ⟨h0,i1⟩:=provesTruth_isT t1
            obtain ⟨_,i2⟩:=provesTruth_isT t2
            have hS:=fun {Q:V→Prop}=>cshows (g1:=g1) (g2:=g2) (g3:=g3) (g4:=g4) (ga:=ga) (gb:=gb) (valid_of h0) (p:=p) ⟨inR_iff.1 ho,inR_iff.1 hu,i1,i2⟩ (Q:=Q)
            simp only [vatV,proofG] at hS
            simp only [go_sem,f45,cwithin,ho,hu,hm,hT1,t1,hT2,t2,hS,provesShow,disj_nil,ite_max,gt_iff_lt]
      · simp only [go_sem,f45,cwithin,ho,hu,hm,provesShow,disj_nil,ite_max,gt_iff_lt])
end Am.Vt
namespace Am.Vt
open Go Am
set_option maxRecDepth 100000
set_option maxHeartbeats 4000000
set_option linter.unusedSimpArgs false
set_option linter.unusedVariables false
variable {g1 g2 g3 g4 ga gb:Bool × Bool} {v:Vat}
def aE (room:Nat→Rg):Nat→Int
  | 0=>0
  | k+1=>(room k).lo
def bE (room:Nat→Rg):Nat→Int
  | 0=>0
  | k+1=>(room k).hi
theorem reachF_stop {room:Nat→Rg}:∀{n d:Nat} {now:Rg},now.lo≤now.hi→(∃k,k≤d∧now.lo=aE room k-9*((d:Int)-(k:Nat)))→(∃k,k≤d∧now.hi=bE room k+9*((d:Int)-(k:Nat)))→(reachF room n d now).length<n →
    ∃k,k≤d+(reachF room n d now).length+1∧(aE room k-9*(((d+(reachF room n d now).length+1:Nat):Int)-(k:Nat))>(room (d+(reachF room n d now).length)).hi∨(room (d+(reachF room n d now).length)).lo>bE room k+9*(((d+(reachF room n d now).length+1:Nat):Int)-(k:Nat)))
  | 0,d,now,_,_,_,h=>by simp at h
  | n+1,d,now,h0,⟨k1,a1,a2⟩,⟨k2,b1,b2⟩,h=>by
    rw [reachF] at h ⊢
    split
    · rename_i hgt
      simp only [List.length_nil,Nat.add_zero]
      simp only [nextR] at hgt
      by_cases c1:(room d).lo>(room d).hi
      · exact ⟨d+1,Nat.le_refl _,.inl (by simp only [aE];omega)⟩
      · by_cases c2:now.lo-9>(room d).hi
        · exact ⟨k1,by omega,.inl (by omega)⟩
        · exact ⟨k2,by omega,.inr (by omega)⟩
    · rename_i hgt
      rw [if_neg hgt] at h
      simp only [List.length_cons] at h ⊢
      have hx:(nextR (room d) now).lo≤(nextR (room d) now).hi:=by omega
      have e1:∃k,k≤d+1∧(nextR (room d) now).lo=aE room k-9*(((d+1:Nat):Int)-(k:Nat)):=by
        by_cases c:now.lo-9≤(room d).lo
        · exact ⟨d+1,Nat.le_refl _,by simp only [nextR,aE];omega⟩
        · exact ⟨k1,by omega,by simp only [nextR];omega⟩
      have e2:∃k,k≤d+1∧(nextR (room d) now).hi=bE room k+9*(((d+1:Nat):Int)-(k:Nat)):=by
        by_cases c:(room d).hi≤now.hi+9
        · exact ⟨d+1,Nat.le_refl _,by simp only [nextR,bE];omega⟩
        · exact ⟨k2,by omega,by simp only [nextR];omega⟩
      have ih:=reachF_stop (n:=n) (d:=d+1) hx e1 e2 (by omega)
      rw [show d+1+(reachF room n (d+1) (nextR (room d) now)).length=d+((reachF room n (d+1) (nextR (room d) now)).length+1) by omega] at ih
      exact ih
def mkP (v:Vat) (o u:Int):Prf:=⟨o,u,(extS v).ab.getD (max 0 o).toNat T0,(extS v).be.getD (max 0 u).toNat T0⟩
theorem mkP_ok (hv:v.Valid) (hp:posB v []=true) {o u:Int} (ho : -1≤o∧o≤v.last) (hu : -1≤u∧u≤v.last):(mkP v o u).Ok v:=by
  have h:=ext_ok hv hp
  have v1:=hv.drift
  have v0:=hv.last0
  exact ⟨ho,hu,truths_isT hv _ (h.ma (max 0 o).toNat (by omega)).1,truths_isT hv _ (h.la (max 0 u).toNat (by omega)).1⟩
theorem mkP_need (hv:v.Valid) (hp:posB v []=true) {k m:Nat} (hk:k≤v.drift.length) (hm:m≤v.drift.length):needB v (mkP v ((m:Int)-1) ((k:Int)-1))=aE (roomI v) k-bE (roomI v) m:=by
  have h:=ext_ok hv hp
  cases m with
  | zero=>
    cases k with
    | zero=>simp [needB,mkP,aE,bE]
    | succ k=>
      have:=(h.la k (by omega)).2
      have e:(max 0 (((k+1:Nat):Int)-1)).toNat=k:=by omega
      have e2:(((k+1:Nat):Int)-1).toNat=k:=by omega
      have e3:((k+1:Nat):Int)-1≥0:=by omega
      have e4:¬((0:Nat):Int)-1≥0:=by omega
      simp only [needB,mkP,e,e2,e3,e4,if_true,if_false,aE,bE,roomI]
      omega
  | succ m=>
    have h1:=(h.ma m (by omega)).2
    have d:(max 0 (((m+1:Nat):Int)-1)).toNat=m:=by omega
    have d2:(((m+1:Nat):Int)-1).toNat=m:=by omega
    have d3:((m+1:Nat):Int)-1≥0:=by omega
    cases k with
    | zero=>
      have e4:¬((0:Nat):Int)-1≥0:=by omega
      simp only [needB,mkP,d,d2,d3,e4,if_true,if_false,aE,bE,roomI]
      omega
    | succ k=>
      have:=(h.la k (by omega)).2
      have e:(max 0 (((k+1:Nat):Int)-1)).toNat=k:=by omega
      have e2:(((k+1:Nat):Int)-1).toNat=k:=by omega
      have e3:((k+1:Nat):Int)-1≥0:=by omega
      simp only [needB,mkP,d,d2,d3,e,e2,e3,if_true,if_false,aE,bE,roomI]
      omega
theorem show_ex (hv:v.Valid) (hp:posB v []=true) (h:(reachL v).length<v.drift.length):∃e∈endsL (reachL v).length,showsB v (mkP v (reachL v).length e)=true∨showsB v (mkP v e (reachL v).length)=true:=by
  have:=reachF_stop (room:=roomI v) (n:=v.drift.length) (d:=0) (now:=⟨0,0⟩) (by simp) ⟨0,Nat.le_refl _,by simp [aE]⟩ ⟨0,Nat.le_refl _,by simp [bE]⟩ h
  obtain ⟨k,hk,hc⟩:=this
  rw [show reachF (roomI v) v.drift.length 0 ⟨0,0⟩=reachL v from rfl] at hk hc
  rw [Nat.zero_add] at hk hc
  generalize (reachL v).length=n at *
  refine ⟨(k:Int)-1,?_,?_⟩
  · rw [endsL,List.mem_map]
    exact ⟨n+1-k,List.mem_range.2 (by omega),by omega⟩
  · have e:(n:Int)=((n+1:Nat):Int)-1:=by omega
    rcases hc with hc | hc
    · left
      rw [e,showsB,decide_eq_true_eq,mkP_need hv hp (by omega) (by omega)]
      simp only [mkP,bE]
      omega
    · right
      rw [e,showsB,decide_eq_true_eq,mkP_need hv hp (by omega) (by omega)]
      simp only [mkP,aE]
      omega
end Am.Vt
namespace Am.Vt
open Go Am
set_option maxRecDepth 100000
set_option maxHeartbeats 4000000
set_option linter.unusedSimpArgs false
set_option linter.unusedVariables false
variable {g1 g2 g3 g4 ga gb:Bool × Bool} {v:Vat}
def showF (v:Vat) (n:Nat):List Int→Prf
  | []=>⟨0,0,T0,T0⟩
  | e::l=>if showsB v (mkP v n e)=true then mkP v n e else if showsB v (mkP v e n)=true then mkP v e n else showF v n l
def showP (v:Vat):Prf:=showF v (reachL v).length (endsL (reachL v).length)
theorem showF_ok {n:Nat}:∀{l:List Int},(∃e∈l,showsB v (mkP v n e)=true∨showsB v (mkP v e n)=true)→showsB v (showF v n l)=true∧∃e∈l,showF v n l=mkP v n e∨showF v n l=mkP v e n
  | [],h=>by obtain ⟨e,h,_⟩:=h;cases h
  | x::l,h=>by
    rw [showF]
    split
    · rename_i h1;exact ⟨h1,x,by simp,.inl rfl⟩
    · split
      · rename_i h2;exact ⟨h2,x,by simp,.inr rfl⟩
      · rename_i h1 h2
        obtain ⟨e,he,hs⟩:=h
        rcases List.mem_cons.1 he with rfl | he
        · rcases hs with hs | hs
          · exact absurd hs h1
          · exact absurd hs h2
        · obtain ⟨a,e',b,c⟩:=showF_ok (n:=n) (l:=l) ⟨e,he,hs⟩
          exact ⟨a,e',by simp [b],c⟩
theorem XMem.pA {mo:Nat} {c:XC} {H:List Obj} (h:XMem v mo c H) {d:Nat} (hd:d<8) (hne:((extS v).ab.getD d T0).drift≠[]):∃o ver fr,takeN 3 (dropN (16+d*3) c.cells)=some [.int .i64 ((extS v).ab.getD d T0).start,.int .i64 ((extS v).ab.getD d T0).blue,.sl o ver 0 ((extS v).ab.getD d T0).drift.length]∧o≠mo∧getH H o = .arr fr ver 1 (((extS v).ab.getD d T0).drift.map Row.row):=by
  have h1:=h.ok.pA hd (y:=(T0,.nils))
  have e:(extS v).ab.getD d T0=(c.A.getD d (T0,.nils)).1:=by
    rw [←h.rel.2.2.1]
    have hl:d<c.A.length:=by rw [h.ok.a];exact hd
    rw [getD_lt _ _ _ (by simpa using hl),getD_lt _ _ _ hl,List.getElem_map]
  have hi:=h.inn (c.A.getD d (T0,.nils)) (List.mem_append_left _ (getD_mem (by rw [h.ok.a];exact hd)))
  rw [e] at hne ⊢
  revert h1 hi hne
  generalize c.A.getD d (T0,.nils)=q
  obtain ⟨t,cc⟩:=q
  intro hne h1 hi
  obtain ⟨st,bl,dr⟩:=t
  simp only at hne hi ⊢
  cases hi with
  | nils=>exact absurd rfl hne
  | sl o ver fr w ho hg=>exact ⟨o,ver,fr,h1,ho,hg⟩
theorem XMem.pB {mo:Nat} {c:XC} {H:List Obj} (h:XMem v mo c H) {d:Nat} (hd:d<8) (hne:((extS v).be.getD d T0).drift≠[]):∃o ver fr,takeN 3 (dropN (40+d*3) c.cells)=some [.int .i64 ((extS v).be.getD d T0).start,.int .i64 ((extS v).be.getD d T0).blue,.sl o ver 0 ((extS v).be.getD d T0).drift.length]∧o≠mo∧getH H o = .arr fr ver 1 (((extS v).be.getD d T0).drift.map Row.row):=by
  have h1:=h.ok.pB hd (y:=(T0,.nils))
  have e:(extS v).be.getD d T0=(c.B.getD d (T0,.nils)).1:=by
    rw [←h.rel.2.2.2]
    have hl:d<c.B.length:=by rw [h.ok.b];exact hd
    rw [getD_lt _ _ _ (by simpa using hl),getD_lt _ _ _ hl,List.getElem_map]
  have hi:=h.inn (c.B.getD d (T0,.nils)) (List.mem_append_right _ (getD_mem (by rw [h.ok.b];exact hd)))
  rw [e] at hne ⊢
  revert h1 hi hne
  generalize c.B.getD d (T0,.nils)=q
  obtain ⟨t,cc⟩:=q
  intro hne h1 hi
  obtain ⟨st,bl,dr⟩:=t
  simp only at hne hi ⊢
  cases hi with
  | nils=>exact absurd rfl hne
  | sl o ver fr w ho hg=>exact ⟨o,ver,fr,h1,ho,hg⟩
theorem XMem.keepP {mo p:Nat} {c:XC} {H H':List Obj} (h:XMem v mo c H) (hk:Keep (fun o=>o=p) H H') (hq:∀fr ver sz w,getH H p ≠ .arr fr ver sz w):XMem v mo c H':=by
  refine ⟨h.ok,h.rel,fun q hq'=>?_⟩
  have h0:=h.inn q hq'
  revert h0
  generalize q.2=pc
  generalize q.1.drift=pl
  intro h0
  cases h0 with
  | nils=>exact .nils
  | sl o ver fr w ho hg=>exact .sl o ver fr _ ho (hk.get (by rintro rfl;exact hq _ _ _ _ hg) hg (by simp))
def ShowR (v:Vat):V:=if askE v true=0 then (if (reachL v).length=v.drift.length then .tup [proofG (true,false) (true,false) ⟨0,0,T0,T0⟩,.c (.int .i64 7)] else .tup [proofG (false,false) (false,false) (showP v),.c (.int .i64 0)]) else .tup [proofG (true,false) (true,false) ⟨0,0,T0,T0⟩,.c (.int .i64 (askE v true))]
theorem cShow (hf:v.Fits) {Q:V→Prop}:CallP tab 44 [vatV g1 g2 g3 g4 v] Q↔Q (ShowR v):=CallP_of (by
  refine Val_X (fn:=f44) rfl ?_
  simp only [go_sem,f44]
  refine (Fasked (g1:=g1) (g2:=g2) (g3:=g3) (g4:=g4) (b:=true) hf).mono ?_
  rintro r H' ⟨hk,hr⟩
  have l2:2≤H'.length:=hk.1
  have l0:0<H'.length:=by omega
  have l1:1<H'.length:=by omega
  have e0:=hk.get (o:=0) id (show getH _ 0 = .cells (vatC g1 g2 g3 g4 v) from rfl) (by simp)
  have e1:=hk.get (o:=1) id (show getH _ 1 = .cells [.int .i64 0,.int .i64 0,.int .i64 0,.int .i64 0,.nils,.int .i64 0,.int .i64 0,.nils] from rfl) (by simp)
  simp only [vatC] at e0
  rcases hr with ⟨a,rfl⟩ | ⟨a,wo,mo,b1,b2,rfl,b3,b4⟩
  · rw [ShowR,if_neg a]
    simp only [go_sem,a,l0,l1,e0,e1,getH_setH,length_setH,false_and]
  · have hv:=valid_of (ask_ok a).1
    have hp:=(ask_ok a).2.2
    rw [ShowR,if_pos a]
    have hW0:WInv g1 g2 g3 g4 v wo mo H':=⟨b3,b4⟩
    simp only [List.length_cons,List.length_nil] at b1 b2
    simp only [go_sem,e0,e1]
    refine (Fextreme (g1:=g1) (g2:=g2) (g3:=g3) (g4:=g4) hv hW0.app).mono ?_
    rintro r H1 ⟨c,rfl,hX,hk1,hW1⟩
    have ha:=hX.ok.all
    have hlc:=hX.ok.len
    have kn:=hX.kn
    have l3:H'.length<H1.length:=by have:=hk1.1;simp at this;omega
    have hnn:getH H1 H'.length = .none:=by rw [hk1.2 _ (by simp only;have:=hW0.lm;omega) (by simp),getH_atL0 rfl];rfl
    have hh:isHole H1 H'.length=true:=isHole_of l3 hnn
    simp only [go_sem,getH_setH,length_setH,l3,hh,kn,ha,hlc,false_and,splice_eq]
    generalize hH2:setH (setH H1 H'.length _) H'.length _=H2
    have m2:H2.length=H1.length:=by rw [←hH2];simp [length_setH]
    have kk:Keep (fun o=>o=H'.length) H1 H2:=by rw [←hH2];exact (setK (own:=fun o=>o=H'.length) rfl).trans (setK rfl)
    have oc:getH H2 H'.length = .cells c.cells:=by rw [←hH2];simp only [getH_setH,length_setH,l3,go_sem]
    have X2:=hX.keepQ kk hnn
    have W2:=hW1.keep kk (by have:=hW0.lw;omega) (hW1.m.keep kk (by have:=hW0.lm;omega))
    refine (Freach (g1:=g1) (g2:=g2) (g3:=g3) (g4:=g4) hv hp X2 W2).mono ?_
    rintro r H3 ⟨lo,rfl,_,_,hk3⟩
    have v1:=hv.drift
    have v4:=hv.last7
    have hrl:=reachL_len (v:=v)
    have hex:=show_ex hv hp
    have hsp:showP v=showF v (reachL v).length (endsL (reachL v).length):=rfl
    rw [hsp]
    generalize (reachL v).length=n at *
    have g0:getH H3 0 = .cells (vatC g1 g2 g3 g4 v):=by
      rw [hk3.2 0 id (by omega),kk.2 0 (by simp only;omega) (by omega:0<H1.length),hk1.2 0 (by simp only;have:=hW0.lm;omega) (by rw [List.length_append];omega),getH_left l0];exact e0
    have g1':getH H3 1 = .cells [.int .i64 0,.int .i64 0,.int .i64 0,.int .i64 0,.nils,.int .i64 0,.int .i64 0,.nils]:=by
      rw [hk3.2 1 id (by omega),kk.2 1 (by simp only;omega) (by omega),hk1.2 1 (by simp only;have:=hW0.lm;omega) (by rw [List.length_append];omega),getH_left l1];exact e1
    have gx:getH H3 H'.length = .cells c.cells:=hk3.get id oc (by simp)
    have X3:=X2.keep (hk3.mono fun o h=>h.elim)
    have l30:=hk3.1
    have p0:0<H3.length:=by omega
    have p1:1<H3.length:=by omega
    simp only [vatC] at g0
    by_cases hn:n=v.drift.length
    · rw [if_pos hn]
      simp only [go_sem,g0,g1',cdays' hv,hn,p0,p1,getH_setH,length_setH,false_and]
    · rw [if_neg hn]
      have hn':¬(n:Int)=v.drift.length:=by omega
      have hex:=hex (by omega)
      simp only [go_sem,g0,g1',cdays' hv,hn',p0,p1,getH_left,cends (d:=n) (by omega)]
      obtain ⟨H4,hH4⟩:∃H4,H4=H3++[.cells [.int .i64 0,.int .i64 0,.int .i64 0,.int .i64 0,.nils,.int .i64 0,.int .i64 0,.nils]]:=⟨_,rfl⟩
      have l4:H4.length=H3.length+1:=by rw [hH4];simp
      have q0:getH H4 0 = .cells (vatC g1 g2 g3 g4 v):=by rw [hH4];exact getH_keep g0 (by simp)
      have q1:getH H4 1 = .cells [.int .i64 0,.int .i64 0,.int .i64 0,.int .i64 0,.nils,.int .i64 0,.int .i64 0,.nils]:=by rw [hH4];exact getH_keep g1' (by simp)
      have qx:getH H4 H'.length = .cells c.cells:=by rw [hH4];exact getH_keep gx (by simp)
      have q3:getH H4 H3.length = .cells [.int .i64 0,.int .i64 0,.int .i64 0,.int .i64 0,.nils,.int .i64 0,.int .i64 0,.nils]:=by rw [hH4,getH_atL0 rfl];rfl
      have X4:XMem v mo c H4:=by rw [hH4];exact X3.keep Keep.append
      rw [←hH4]
      have el:(endsL n).length=n+2:=by simp [endsL]
      refine RX_whileU (α:=Nat × List Obj) (fun x=>[(34,.c (.int .i64 x.1))]) (fun x=>x.2) (fun x=>x.1≤n+2∧Keep (fun o=>o=H3.length) H4 x.2∧(∃cs,getH x.2 H3.length = .cells cs∧cs.length=8)∧showF v n (endsL n)=showF v n ((endsL n).drop x.1)∧∃e∈(endsL n).drop x.1,showsB v (mkP v n e)=true∨showsB v (mkP v e n)=true) (fun x=>n+2-x.1) (0,H4) ⟨Nat.zero_le _,Keep.refl,⟨_,q3,rfl⟩,rfl,hex⟩ (by simp only [go_sem]<;>rfl) ?_
      rintro ⟨i,H5⟩ ⟨hi,K5,⟨cs,c5,cl⟩,hF,hE⟩
      simp only at hi K5 c5 hF hE
      have il:i<n+2:=by
        by_cases h:i<n+2
        · exact h
        · rw [List.drop_of_length_le (by omega)] at hE
          obtain ⟨e,he,_⟩:=hE
          cases he
      have i0:(0:Int)≤i:=by omega
      have i1:(i:Int)<(endsL n).length:=by omega
      have i2:i<(endsL n).length:=by omega
      have eg:(endsL n).getD i default=(n:Int)-(i:Nat):=by rw [getD_lt _ _ _ i2];simp [endsL]
      have eat:atI (endsL n) (i:Int)=(n:Int)-(i:Nat):=by rw [atI_nat,eg]
      have e6:IntKind.i64.wrap ((i:Int)+1)=((i+1:Nat):Int):=wrap_succ (n:=3000) (by omega) (by decide)
      have hd:(endsL n).drop i=((n:Int)-(i:Nat))::(endsL n).drop (i+1):=by
        rw [List.drop_eq_getElem_cons i2];simp [endsL]
      obtain ⟨e,he⟩:∃e,e=(n:Int)-(i:Nat):=⟨_,rfl⟩
      rw [←he] at hd eg eat
      have l5:=K5.1
      simp only [go_sem,i0,i1,i2,eat,getH_left]
      generalize hrows:([[D.int .i64 (n:Int),D.int .i64 e,D.int .i64 0,D.int .i64 0,D.lst [],D.int .i64 0,D.int .i64 0,D.lst []],[D.int .i64 e,D.int .i64 (n:Int),D.int .i64 0,D.int .i64 0,D.lst [],D.int .i64 0,D.int .i64 0,D.lst []]]:List (List D))=rows
      obtain ⟨H7,hH7⟩:∃H7,H7=H5++[.arr false 0 8 rows]:=⟨_,rfl⟩
      have l7:H7.length=H5.length+1:=by rw [hH7];simp
      have c7:getH H7 H3.length = .cells cs:=by rw [hH7];exact getH_keep c5 (by simp)
      have r7:getH H7 H5.length = .arr false 0 8 rows:=by rw [hH7,getH_atL0 rfl];rfl
      have K7:Keep (fun o=>o=H3.length) H4 H7:=by rw [hH7];exact K5.trans Keep.append
      rw [←hH7]
      refine RX_whileU (α:=Nat × List Obj) (fun x=>[(46,.c (.int .i64 x.1))]) (fun x=>x.2) (fun x=>x.1≤2∧Keep (fun o=>o=H3.length) H7 x.2∧(∃cs,getH x.2 H3.length = .cells cs∧cs.length=8)∧(0<x.1→showsB v (mkP v n e)=false)∧(1<x.1→showsB v (mkP v e n)=false)) (fun x=>2-x.1) (0,H7) ⟨Nat.zero_le _,Keep.refl,⟨_,c7,cl⟩,by omega,by omega⟩ (by simp only [go_sem]<;>rfl) ?_
      rintro ⟨j,H8⟩ ⟨hj,K8,⟨cs8,c8,cl8⟩,s0,s1⟩
      simp only at hj K8 c8 s0 s1
      have l8:=K8.1
      have r8:=K8.get (o:=H5.length) (by omega) r7 (by simp)
      have K48:=K7.trans K8
      have z0:=K48.get (o:=0) (by omega) q0 (by simp)
      have zx:=K48.get (o:=H'.length) (by omega) qx (by simp)
      have X8:=X4.keepP K48 (p:=H3.length) (by rw [q3];simp)
      have j0:(0:Int)≤j:=by omega
      have j6:IntKind.i64.wrap ((j:Int)+1)=((j+1:Nat):Int):=wrap_succ (n:=3000) (by omega) (by decide)
      by_cases hj2:j<2
      · have hj3:(j:Int)<2:=by omega
        obtain ⟨o,u,ho,hu,hr⟩:∃o u:Int,(-1≤o∧o≤n)∧(-1≤u∧u≤n)∧nth rows j=some [D.int .i64 o,D.int .i64 u,D.int .i64 0,D.int .i64 0,D.lst [],D.int .i64 0,D.int .i64 0,D.lst []]∧((j=0∧mkP v o u=mkP v n e)∨(j=1∧mkP v o u=mkP v e n)):=by
          rcases (by omega:j=0∨j=1) with rfl | rfl
          · exact ⟨n,e,by omega,by omega,by rw [←hrows];rfl,.inl ⟨rfl,rfl⟩⟩
          · exact ⟨e,n,by omega,by omega,by rw [←hrows];rfl,.inr ⟨rfl,rfl⟩⟩
        have hok:=mkP_ok hv hp (o:=o) (u:=u) (by omega) (by omega)
        obtain ⟨mi,hm⟩:∃mi:Nat,max 0 o=mi:=⟨(max 0 o).toNat,by omega⟩
        obtain ⟨ui,hm'⟩:∃ui:Nat,max 0 u=ui:=⟨(max 0 u).toNat,by omega⟩
        have em:(extS v).ab.getD mi T0=(mkP v o u).most:=by simp only [mkP,hm,Int.toNat_natCast]
        have eu:(extS v).be.getD ui T0=(mkP v o u).least:=by simp only [mkP,hm',Int.toNat_natCast]
        have d1:=hok.m.dl
        have d2:=hok.l.dl
        obtain ⟨oA,vA,fA,pA,nA,gA⟩:=X8.pA (d:=mi) (by omega) (by rw [em];intro h;rw [h] at d1;simp at d1;omega)
        obtain ⟨oB,vB,fB,pB,nB,gB⟩:=X8.pB (d:=ui) (by omega) (by rw [eu];intro h;rw [h] at d2;simp at d2;omega)
        rw [em] at pA gA
        rw [eu] at pB gB
        have nA3:oA≠H3.length:=by rintro rfl;rw [c8] at gA;cases gA
        have nB3:oB≠H3.length:=by rintro rfl;rw [c8] at gB;cases gB
        have lA:=lt_of_getH (h:=H8) (o:=oA) (by rw [gA];simp)
        have lB:=lt_of_getH (h:=H8) (o:=oB) (by rw [gB];simp)
        have hS:=fun {ga gb:Bool × Bool} {Q:V→Prop}=>cshows (g1:=g1) (g2:=g2) (g3:=g3) (g4:=g4) (ga:=ga) (gb:=gb) hv hok (Q:=Q)
        have em1:(mkP v o u).over=o:=rfl
        have eu1:(mkP v o u).under=u:=rfl
        have sp8:=splice_eq (xs:=[C.int .i64 o,C.int .i64 u,C.int .i64 0,C.int .i64 0,C.lst false [],C.int .i64 0,C.int .i64 0,C.lst false []]) (l:=cs8) (by rw [cl8];rfl)
        have m8:(mi:Int)<8:=by omega
        have m0:(0:Int)≤mi:=by omega
        have u8:(ui:Int)<8:=by omega
        have u0:(0:Int)≤ui:=by omega
        have b30:H3.length<H8.length:=by omega
        have y0:¬0=H3.length:=by omega
        have y1:¬H3.length=0:=by omega
        have y2:¬H'.length=H3.length:=by omega
        have y3:¬H3.length=H'.length:=by omega
        have y4:¬oA=H3.length:=by omega
        have y5:¬H3.length=oA:=by omega
        have y6:¬oB=H3.length:=by omega
        have y7:¬H3.length=oB:=by omega
        simp only [vatV,proofG,em1,eu1] at hS
        have k1:=K48.get (o:=1) (by omega) q1 (by simp)
        have nA1:oA≠1:=by rintro rfl;rw [k1] at gA;cases gA
        have nB1:oB≠1:=by rintro rfl;rw [k1] at gB;cases gB
        cases hb:showsB v (mkP v o u) with
        | true=>
          have hfin:showF v n (endsL n)=mkP v o u:=by
            rw [hF,hd,showF]
            rcases hr.2 with ⟨_,h⟩ | ⟨hj1,h⟩
            · rw [h] at hb;rw [if_pos hb,h]
            · rw [h] at hb;rw [if_neg (by rw [s0 (by omega)];simp),if_pos hb,h]
          rw [hfin]
          have p18:1<H8.length:=by omega
          have yy0:¬1=H3.length:=by omega
          have yy1:¬H3.length=1:=by omega
          have yy2:¬1=oA:=by omega
          have yy3:¬oA=1:=by omega
          have yy4:¬1=oB:=by omega
          have yy5:¬oB=1:=by omega
          simp only [go_sem,j0,hj3,r8,hr.1,c8,z0,zx,sp8,getH_setH,length_setH,b30,false_and,y0,y1,y2,y3,y4,y5,y6,y7,yy0,yy1,yy2,yy3,yy4,yy5,ite_max,hm,hm',m8,m0,u8,u0,pA,pB,disj_nil,lA,lB,gA,gB,hS,hb,k1,p18]
          exact ⟨rfl,rfl⟩
        | false=>
          simp only [go_sem,j0,hj3,r8,hr.1,c8,z0,zx,sp8,getH_setH,length_setH,b30,false_and,y0,y1,y2,y3,y4,y5,y6,y7,ite_max,hm,hm',m8,m0,u8,u0,pA,pB,disj_nil,lA,lB,gA,gB,hS,hb,j6]
          refine ⟨(j+1,_),⟨by simp only;omega,by simp only;omega,?_,⟨_,by simp only [go_sem,getH_setH,length_setH,b30];rfl,rfl⟩,fun _=>?_,fun h1=>?_⟩,rfl,rfl⟩
          · exact K8.trans (((setK (own:=fun o=>o=H3.length) rfl).trans (setK rfl)).trans (setK rfl))
          · rcases hr.2 with ⟨_,h⟩ | ⟨hj1,h⟩
            · rw [←h];exact hb
            · exact s0 (by omega)
          · rcases hr.2 with ⟨hj0,h⟩ | ⟨hj1,h⟩
            · simp only at h1;omega
            · rw [←h];exact hb
      · have:j=2:=by omega
        subst this
        have hj3:¬((2:Nat):Int)<2:=by omega
        simp only [go_sem,hj3,e6]
        have sa:=s0 (by omega)
        have sb:=s1 (by omega)
        refine ⟨(i+1,H8),⟨by simp only;omega,by simp only;omega,K48,⟨cs8,c8,cl8⟩,?_,?_⟩,rfl,rfl⟩
        · simp only
          rw [hF,hd,showF,if_neg (by rw [sa];simp),if_neg (by rw [sb];simp)]
        · rw [hd] at hE
          obtain ⟨e',he',hs⟩:=hE
          rcases List.mem_cons.1 he' with rfl | he'
          · rw [sa,sb] at hs;simp at hs
          · exact ⟨e',he',hs⟩)
end Am.Vt
namespace Am.Vt
open Go Am
set_option maxRecDepth 100000
set_option maxHeartbeats 4000000
set_option linter.unusedSimpArgs false
set_option linter.unusedVariables false
variable {g1 g2 g3 g4:Bool × Bool} {v:Vat}
def FirstR (v:Vat):V:=if checkVat v≠0 then .tup [.c (.int .i64 0),.c (.int .i64 (checkVat v))] else match firstO v with
  | some i=>.tup [.c (.int .i64 i),.c (.int .i64 0)]
  | none=>.tup [.c (.int .i64 0),.c (.int .i64 7)]
theorem cFirst (hf:v.Fits) {Q:V→Prop}:CallP tab 50 [vatV g1 g2 g3 g4 v] Q↔Q (FirstR v):=CallP_of (by
  refine Val_X (fn:=f50) rfl ?_
  by_cases h0:checkVat v=0
  · have hv:=valid_of h0
    have h5:=hv.looks5
    have hR:FirstR v=match firstO v with
      | some i=>.tup [.c (.int .i64 i),.c (.int .i64 0)]
      | none=>.tup [.c (.int .i64 0),.c (.int .i64 7)]:=by rw [FirstR,if_neg (by rw [h0];simp)]
    rw [hR]
    simp only [go_sem,f50,cCheckVat hf,h0,Fwork]
    refine RX_whileU (α:=Nat × List Obj) (fun x=>[(17,.c (.int .i64 x.1))]) (fun x=>x.2) (fun x=>x.1≤v.looks.length∧getH x.2 0 = .cells (vatC g1 g2 g3 g4 v)∧(∃g l,getH x.2 3 = .cells (workC g1 g2 g3 g (withL v l) 2))∧MapOk 2 x.2∧∀i,i<x.1→posB (withL v (v.looks.take (i+1))) []=true) (fun x=>v.looks.length-x.1) (0,_) ⟨Nat.zero_le _,rfl,⟨g4,v.looks,rfl⟩,⟨[],EsOk.nil,rfl⟩,fun i hi=>by simp at hi⟩ (by simp only [go_sem]<;>rfl) ?_
    rintro ⟨k,H⟩ ⟨hk,e0,⟨g,l,e3⟩,hM,hp⟩
    simp only at hk e0 e3 hM hp
    by_cases hlt:k<v.looks.length
    · have e4:IntKind.i64.wrap ((k:Int)+1)=((k+1:Nat):Int):=wrap_succ (n:=3000) (by omega) (by decide)
      have hL:L g4 v.looks = .lst g4.2 (v.looks.map Row.row):=by
        rcases L_cases g4 v.looks with ⟨_,h,_⟩ | h
        · exact absurd hlt (by have:=congrArg List.length h;simp only [List.length_nil] at this;omega)
        · exact h
      have k0:(0:Int)≤((k+1:Nat):Int):=by omega
      have k1:k+1≤v.looks.length:=by omega
      obtain ⟨rows,hrows⟩:∃rows,rows=v.looks.map (Row.row (α:=Lk)):=⟨_,rfl⟩
      obtain ⟨rows',hrows'⟩:∃rows',rows'=(v.looks.take (k+1)).map (Row.row (α:=Lk)):=⟨_,rfl⟩
      have hpt:takeN (k+1) rows=some rows':=by
        rw [hrows,takeN_take (by rw [List.length_map];omega),hrows',List.map_take]
      have hh:headLen 4 rows=true:=by rw [hrows];exact headLen_map (sz:=4) (sz_lk) (l:=v.looks)
      have hrl:rows.length=v.looks.length:=by rw [hrows,List.length_map]
      have hL':C.lst g4.2 rows'=L (false,g4.2) (v.looks.take (k+1)):=by rw [hrows'];rfl
      have hv':(withL v (v.looks.take (k+1))).Valid:=hv.withL (by rw [List.length_take];omega) (fun x hx=>List.mem_of_mem_take hx)
      have l3:=lt_of_getH (h:=H) (o:=3) (by rw [e3];simp)
      have l0:0<H.length:=by omega
      simp only [workC,withL] at e3
      simp only [vatC] at e0
      rw [hL,←hrows] at e0
      simp only [go_sem,hlt,e0,e3,e4,k0,k1,hpt,hh,hrl,withL,getH_setH,length_setH,l3,l0,false_and]
      generalize hH2:setH H 3 _=H2
      have K2:Keep (fun o=>o=3) H H2:=by rw [←hH2];exact setK rfl
      have w2:getH H2 3 = .cells (workC g1 g2 g3 (false,g4.2) (withL v (v.looks.take (k+1))) 2):=by rw [←hH2,getH_setH,if_pos ⟨rfl,l3⟩,hL'];rfl
      have M2:MapOk 2 H2:=hM.keep K2 (by decide)
      refine (Fpossible (v:=withL v (v.looks.take (k+1))) (g1:=g1) (g2:=g2) (g3:=g3) (g4:=(false,g4.2)) (wo:=3) (mo:=2) (out:=[]) hv' (by decide) w2 M2 (.lst (true,false) [])).mono ?_
      rintro r H' ⟨rfl,hk',hM'⟩
      have x0:getH H' 0 = .cells (vatC g1 g2 g3 g4 v):=by
        rw [hk'.2 0 (by simp) (by have:=K2.1;omega),K2.2 0 (by simp) l0,e0]
        rw [vatC,hL,hrows]
      have x3:=hk'.get (o:=3) (by simp) w2 (by simp)
      cases hb:posB (withL v (v.looks.take (k+1))) [] with
      | true=>
        simp only [go_sem,e4]
        refine ⟨(k+1,H'),⟨by simp only;omega,hlt,x0,⟨_,_,x3⟩,hM',fun i hi=>?_⟩,rfl,rfl⟩
        by_cases hik:i=k
        · subst hik;exact hb
        · exact hp i (by simp only at hi;omega)
      | false=>
        have hn:firstO v=some k:=find_range hlt (fun i hi=>by rw [hp i hi];rfl) (by rw [hb];rfl)
        simp only [go_sem,hn]
    · have:k=v.looks.length:=by omega
      subst this
      have hn:firstO v=none:=by
        unfold firstO
        rw [List.find?_eq_none]
        intro i hi
        rw [hp i (by simpa using hi)];simp
      simp only [go_sem,hlt,hn]
  · simp only [go_sem,f50,cCheckVat hf,h0]
    rw [FirstR,if_pos h0])
end Am.Vt
namespace Am.Vt
open Go Am
set_option maxRecDepth 100000
set_option maxHeartbeats 4000000
set_option linter.unusedSimpArgs false
set_option linter.unusedVariables false
variable {g1 g2 g3 g4:Bool × Bool} {v:Vat}
theorem LstIn.rd {own:Nat→Prop} {H:List Obj} {c:C} {w:List Int} (h:LstIn 1 own H c w):RdI H c w:=by
  cases h with
  | nils=>exact .lst (true,false) []
  | sl o ver fr w ho hg=>
    have:=RdI.sl (H:=H) o ver fr 0 w.length w hg (by omega)
    rwa [List.drop_zero,List.take_length] at this
theorem lstIn_obj {own:Nat→Prop} {H:List Obj} {c:C} {l:List Int} (h:LstIn 1 own H c l) {x:Nat} (hx:H.length≤x):memN x c.obj=false∧disj c.obj [x]=true:=by
  cases h with
  | nils=>exact ⟨rfl,rfl⟩
  | sl o ver fr w ho hg=>
    have:=lt_of_getH (h:=H) (o:=o) (by rw [hg];simp)
    have n1:¬x=o:=by omega
    have n2:¬o=x:=by omega
    simp only [memN,disj,C.obj,beqn_dec,n1,n2,decide_false,Bool.false_or,Bool.not_false,Bool.and_self,and_self]
structure LInv (g1 g2 g3 g4:Bool × Bool) (v:Vat) (wo mo ob wb fb lb:Nat) (s:List Int) (H:List Obj):Prop where
  hob:∃c,getH H ob = .cells [c]∧LstIn 1 (fun o=>o=ob∨o=mo) H c s
  hwb:getH H wb = .cells [.ptr wo 0]
  hfb:getH H fb = .cells (vatC g1 g2 g3 g4 v)
  hlb:getH H lb = .cells [.fn 114 false [] [.ptr ob 0,.ptr wb 0,.ptr fb 0,.ptr lb 0]]
  wi:WInv g1 g2 g3 g4 v wo mo H
section
variable {wo mo ob wb fb lb:Nat}
theorem LInv.append {s:List Int} {H X:List Obj} (h:LInv g1 g2 g3 g4 v wo mo ob wb fb lb s H):LInv g1 g2 g3 g4 v wo mo ob wb fb lb s (H++X):=by
  obtain ⟨c,a,b⟩:=h.hob
  exact ⟨⟨c,getH_keep a (by simp),b.keep .append⟩,getH_keep h.hwb (by simp),getH_keep h.hfb (by simp),getH_keep h.hlb (by simp),h.wi.app⟩
theorem fLeave (hv:v.Valid) (n1:wb≠ob) (n2:fb≠ob) (n3:lb≠ob) (n4:wo≠ob) (n5:mo≠ob) (n6:wb≠mo) (n7:fb≠mo) (n8:lb≠mo):∀(m:Nat) (w:List Int) (fr:Int) (s:List Int) (H:List Obj) (c:C),w.length+m≤1000→0≤fr→fr≤1000→LstIn 1 (fun o=>o=ob∨o=mo) H c w→LInv g1 g2 g3 g4 v wo mo ob wb fb lb s H →
    Fn tab (.f 114 [.c c,.c (.int .i64 fr),.c (.int .i64 m),.c (.ptr ob 0),.c (.ptr wb 0),.c (.ptr fb 0),.c (.ptr lb 0)] H) fun r H'=>r = .c (.bool (!(foldY (lvStep v) s (combL v.looks.length m w fr)).2))∧Keep (fun o=>o=ob∨o=mo) H H'∧LInv g1 g2 g3 g4 v wo mo ob wb fb lb (foldY (lvStep v) s (combL v.looks.length m w fr)).1 H':=by
  have v5:=hv.looks5
  intro m
  induction m with
  | zero=>
    intro w fr s H c hwl f0 f1 hc hi
    refine Fn_X (fn:=f114) rfl rfl ?_
    obtain ⟨c0,e1,e2⟩:=hi.hob
    have l1:=lt_of_getH (h:=H) (o:=ob) (by rw [e1];simp)
    have e3:=hi.hwb
    have kn:=hc.known
    simp only [go_sem,f114,e1,e3,kn,getH_setH,length_setH,l1,n1,false_and]
    have hK:Keep (fun o=>o=ob) H (setH H ob (.cells [c])):=⟨by rw [length_setH];omega,fun o ho hl=>by rw [getH_setH,if_neg (fun h=>ho h.1)]⟩
    have hc':=hc.keep (hK.mono fun o h=>.inl h)
    have hwi:=hi.wi.keep hK n4 (hi.wi.m.keep hK n5)
    refine (Fpossible (v:=v) (g1:=g1) (g2:=g2) (g3:=g3) (g4:=g4) (wo:=wo) (mo:=mo) (out:=w) hv (big_of (by omega)) hwi.w hwi.m (LstIn.rd hc')).mono ?_
    rintro r H' ⟨rfl,hk',hM'⟩
    simp only [go_sem]
    have hfo:foldY (lvStep v) s (combL v.looks.length 0 w fr)=(w,!posB v w):=by
      simp only [combL,foldY,lvStep]
      by_cases h:posB v w=true<;>simp [h]
    rw [hfo]
    have hwm:=hi.wi.ne
    have hK2:Keep (fun o=>o=ob∨o=mo) H H':=(hK.mono fun o h=>.inl h).trans (hk'.mono fun o h=>.inr h)
    have q1:getH (setH H ob (.cells [c])) ob = .cells [c]:=by rw [getH_setH,if_pos ⟨rfl,l1⟩]
    refine ⟨by simp,hK2,⟨c,hk'.get (fun h=>n5 h.symm) q1 (by simp),hc'.keep (hk'.mono fun o h=>.inr h)⟩,hK2.get (by omega) hi.hwb (by simp),hK2.get (by omega) hi.hfb (by simp),hK2.get (by omega) hi.hlb (by simp),hwi.keep hk' hwm hM'⟩
  | succ m ih=>
    intro w fr s H c hwl f0 f1 hc hi
    refine Fn_X (fn:=f114) rfl rfl ?_
    have hm0:¬((m+1:Nat):Int)=0:=by omega
    simp only [go_sem,f114,hm0]
    let hi':Int:=v.looks.length-((m:Int)+1)
    let ys:=upTo fr hi'
    let gg:=fun y=>combL v.looks.length m (w++[y]) (y+1)
    have hcomb:combL v.looks.length (m+1) w fr=ys.flatMap gg:=rfl
    have hyl:ys.length=(hi'+1-fr).toNat:=by simp [ys,upTo]
    have hyk:∀k,k<ys.length→ys.getD k default=fr+k:=by
      intro k hk
      rw [getD_lt _ _ _ hk];simp [ys,upTo]
    have hw2:IntKind.i64.wrap ((v.looks.length:Int)-((m+1:Nat):Int))=hi':=by rw [wrapB (by omega) (by omega)];rfl
    have hw3:IntKind.i64.wrap (((m+1:Nat):Int)-1)=m:=by rw [wrapB (by omega) (by omega)];omega
    refine RX_whileU (α:=Nat × List Int × List Obj) (fun x=>[(11,.c (.int .i64 (fr+x.1)))]) (fun x=>x.2.2) (fun x=>x.1≤ys.length∧Keep (fun o=>o=ob∨o=mo) H x.2.2∧LInv g1 g2 g3 g4 v wo mo ob wb fb lb x.2.1 x.2.2∧foldY (lvStep v) s ((ys.take x.1).flatMap gg)=(x.2.1,true)) (fun x=>ys.length-x.1) (0,s,H) ⟨Nat.zero_le _,Keep.refl,hi,by simp [foldY]⟩ (by simp only [go_sem,Int.add_zero]<;>rfl) ?_
    rintro ⟨k,s',H'⟩ ⟨hk,hK,hI,hf⟩
    simp only at hk hK hI hf
    have e3:=hI.hfb
    have e4:=hI.hlb
    have l4:=lt_of_getH (h:=H') (o:=lb) (by rw [e4];simp)
    have z0:¬lb=H'.length:=by omega
    have z1:¬H'.length=lb:=by omega
    have z2:¬lb=H'.length+1:=by omega
    have z3:¬H'.length+1=lb:=by omega
    by_cases h1:fr+k≤hi'
    · have hk1:k<ys.length:=by omega
      have hw4:IntKind.i64.wrap (fr+k+1)=fr+k+1:=wrapB (by omega) (by omega)
      have hr:=(hc.keep hK).rows
      have b1:w.length*8≤2^40:=by omega
      have b2:(w.length+1)*8≤2^40:=by omega
      obtain ⟨m1,m2⟩:=lstIn_obj (hc.keep hK) (x:=H'.length+1) (by omega)
      simp only [go_sem,e3,e4,h1,hw2,hw3,hw4,hr,b1,b2,getH_left,l4,z0,z1,z2,z3]
      have hlist:LstIn 1 (fun o=>o=ob∨o=mo) (H'++[.arr false 1 1 (w.map Row.row++[[.int .i64 (fr+k)]]),.arr false 0 1 [[.int .i64 (fr+k)]],.none]) (.sl H'.length 1 0 (w.length+1)) (w++[fr+(k:Int)]):=by
        have e1:w.map Row.row++[[D.int .i64 (fr+k)]]=(w++[fr+(k:Int)]).map Row.row:=by rw [List.map_append];rfl
        rw [e1,show w.length+1=(w++[fr+(k:Int)]).length by simp]
        obtain ⟨cp,q2,_⟩:=hI.hob
        have q2:=lt_of_getH (h:=H') (o:=ob) (by rw [q2];simp)
        have q3:=hI.wi.lm
        exact .sl _ 1 false _ (by omega) (by rw [getH_at0];rfl)
      refine (ih (w++[fr+(k:Int)]) (fr+k+1) s' _ _ (by simp;omega) (by omega) (by omega) hlist hI.append).mono ?_
      rintro r H3 ⟨rfl,hk3,hD3⟩
      have hfk:∀b,foldY (lvStep v) s' (gg (fr+k))=b→foldY (lvStep v) s ((ys.take (k+1)).flatMap gg)=b:=by
        intro b hb
        rw [take_getD hk1 default,List.flatMap_append,foldY_append,hf,hyk k hk1]
        simp only [if_true,List.flatMap_cons,List.flatMap_nil,List.append_nil]
        exact hb
      have hstop:(foldY (lvStep v) s' (gg (fr+k))).2=false→foldY (lvStep v) s (combL v.looks.length (m+1) w fr)=((foldY (lvStep v) s' (gg (fr+k))).1,false):=by
        intro hb
        have e:ys=ys.take (k+1)++ys.drop (k+1):=(List.take_append_drop _ _).symm
        rw [hcomb,e,List.flatMap_append,foldY_append,hfk _ rfl,if_neg (by rw [hb];decide)]
      change LInv g1 g2 g3 g4 v wo mo ob wb fb lb (foldY (lvStep v) s' (gg (fr+k))).1 H3 at hD3
      change callFX tab H'.length _ _ _ _ _ _ (.c (.bool (!(foldY (lvStep v) s' (gg (fr+k))).2))) H3
      cases hb:(foldY (lvStep v) s' (gg (fr+k))).2 with
      | true=>
        simp only [go_sem,m1,m2,disj_nil,z0,z1,z2,z3,hw4]
        refine ⟨(k+1,_,H3),⟨by simp only;omega,by simp only;omega,hK.trans (Keep.append.trans hk3),hD3,?_⟩,by simp only;omega,rfl⟩
        simp only
        rw [hfk _ rfl];exact Prod.ext rfl hb
      | false=>
        simp only [go_sem,m1,m2,disj_nil,z0,z1,z2,z3,hstop hb]
        exact ⟨hK.trans (Keep.append.trans hk3),hD3⟩
    · have hk':k=ys.length:=by omega
      subst hk'
      rw [List.take_length,←hcomb] at hf
      simp only [go_sem,e3,hw2,h1,hf]
      exact ⟨hK,hI⟩
end
def LeaveR (b:Bool) (v:Vat):V:=if checkVat v≠0 then .tup [.c .nils,.c (.int .i64 (checkVat v))] else .tup [.c (L (b,false) (leaveS v)),.c (.int .i64 0)]
theorem vLeave (hf:v.Fits):∃b:Bool,Val tab 51 [vatV g1 g2 g3 g4 v] (LeaveR b v):=by
  suffices h:CallP tab 51 [vatV g1 g2 g3 g4 v] (fun r=>∃b:Bool,r=LeaveR b v) by
    obtain ⟨r,hval,b,rfl⟩:=h
    exact ⟨b,hval⟩
  refine CallP_X (fn:=f51) rfl ?_
  by_cases h0:checkVat v=0
  · have hv:=valid_of h0
    have v5:=hv.looks5
    have hR:∀b,LeaveR b v = .tup [.c (L (b,false) (leaveS v)),.c (.int .i64 0)]:=fun b=>by rw [LeaveR,if_neg (by rw [h0];simp)]
    simp only [go_sem,f51,cCheckVat hf,h0,Fwork,hR]
    have hw1:IntKind.i64.wrap ((v.looks.length:Int)+1)=((v.looks.length+1:Nat):Int):=by rw [wrapB (by omega) (by omega)];omega
    rw [hw1]
    let gg:=fun (m:Nat)=>combL v.looks.length m [] 0
    refine RX_whileU (α:=Nat × List Int × List Obj) (fun x=>[(21,.c (.int .i64 x.1))]) (fun x=>x.2.2) (fun x=>x.1≤v.looks.length+1∧LInv g1 g2 g3 g4 v 4 3 5 1 0 6 x.2.1 x.2.2∧foldY (lvStep v) [] ((List.range x.1).flatMap gg)=(x.2.1,true)) (fun x=>v.looks.length+1-x.1) (0,[],_) ⟨Nat.zero_le _,⟨⟨.nils,rfl,.nils⟩,rfl,rfl,rfl,rfl,[],EsOk.nil,rfl⟩,rfl⟩ (by simp only [go_sem]<;>rfl) ?_
    rintro ⟨k,s,H'⟩ ⟨hk,hI,hfo⟩
    simp only at hk hI hfo
    have e1:=hI.hlb
    by_cases hlt:k<v.looks.length+1
    · have hlt':(k:Int)<((v.looks.length+1:Nat):Int):=by omega
      have e4:IntKind.i64.wrap ((k:Int)+1)=((k+1:Nat):Int):=wrap_succ (n:=3000) (by omega) (by decide)
      simp only [go_sem,hlt',e1]
      refine (fLeave (v:=v) (g1:=g1) (g2:=g2) (g3:=g3) (g4:=g4) (wo:=4) (mo:=3) (ob:=5) (wb:=1) (fb:=0) (lb:=6) hv (by decide) (by decide) (by decide) (by decide) (by decide) (by decide) (by decide) (by decide) k [] 0 s H' .nils (by simp;omega) (by omega) (by omega) .nils hI).mono ?_
      rintro r H2 ⟨rfl,hk2,hI2⟩
      change LInv g1 g2 g3 g4 v 4 3 5 1 0 6 (foldY (lvStep v) s (gg k)).1 H2 at hI2
      change callFX tab H'.length _ _ _ _ _ _ (.c (.bool (!(foldY (lvStep v) s (gg k)).2))) H2
      have hfk:∀b,foldY (lvStep v) s (gg k)=b→foldY (lvStep v) [] ((List.range (k+1)).flatMap gg)=b:=by
        intro b hb
        rw [List.range_succ,List.flatMap_append,foldY_append,hfo]
        simp only [if_true,List.flatMap_cons,List.flatMap_nil,List.append_nil]
        exact hb
      cases hb:(foldY (lvStep v) s (gg k)).2 with
      | true=>
        simp only [go_sem,e4]
        refine ⟨(k+1,_,H2),⟨by simp only;omega,by simp only;omega,hI2,?_⟩,rfl,rfl⟩
        rw [hfk _ rfl];exact Prod.ext rfl hb
      | false=>
        have hst:leaveS v=(foldY (lvStep v) s (gg k)).1:=by
          have e:List.range (v.looks.length+1)=List.range (k+1)++(List.range (v.looks.length+1)).drop (k+1):=by
            have:=List.take_append_drop (k+1) (List.range (v.looks.length+1))
            rw [List.take_range,Nat.min_eq_left (by omega)] at this
            exact this.symm
          unfold leaveS setsL
          rw [e,List.flatMap_append,foldY_append]
          have:foldY (lvStep v) [] ((List.range (k+1)).flatMap fun m=>combL v.looks.length m [] 0)=((foldY (lvStep v) s (gg k)).1,false):=by
            rw [←hb];exact hfk _ rfl
          rw [this];rfl
        obtain ⟨c,d1,d2⟩:=hI2.hob
        obtain ⟨bb,hbb⟩:=d2.res
        have hz:=hbb H2 (fun o _=>rfl)
        simp only [go_sem,d1,hz,hst]
        exact ⟨bb,rfl⟩
    · have hke:k=v.looks.length+1:=by omega
      have hlt':¬(k:Int)<((v.looks.length+1:Nat):Int):=by omega
      have hst:leaveS v=s:=by
        unfold leaveS setsL
        rw [hke] at hfo
        change (foldY (lvStep v) [] ((List.range (v.looks.length+1)).flatMap gg)).1=s
        rw [hfo]
      obtain ⟨c,d1,d2⟩:=hI.hob
      obtain ⟨bb,hbb⟩:=d2.res
      have hz:=hbb H' (fun o _=>rfl)
      simp only [go_sem,hlt',d1,hz,hst]
      exact ⟨bb,rfl⟩
  · have hR:LeaveR true v = .tup [.c .nils,.c (.int .i64 (checkVat v))]:=by rw [LeaveR,if_pos h0]
    simp only [go_sem,f51,cCheckVat hf,h0]
    exact ⟨true,hR.symm⟩
end Am.Vt
