/-
  A part of the proof: the texts MR1, MR2, MR3, MR4, MR5 of this seat, joined.
-/
import Derived.Test.YtninmcgiegmonaaWalkB
import Derived.Test.YtninmcgiegmonaaWalkC
import Derived.Test.YtninmcgiegmonaaWalkE
namespace Am.Mv
open Go Am Am.Tm
set_option maxRecDepth 100000
set_option maxHeartbeats 4000000
set_option linter.unusedSimpArgs false
set_option linter.unusedVariables false
theorem Flist {g:Bool × Bool} {a:List Int} (ha:a.length≤1000) {H:List Obj} {Q:V→List Obj→Prop}:Fn tab (.f 8 [.c (L g a)] H) Q↔Q (.c (.sl H.length 1 0 a.length)) (H++[.arr false 1 1 (a.map Row.row),.none]):=by
  have hb:a.length*8≤2^40:=by omega
  refine Fn_iff (Fn_X (fn:=f8) rfl rfl ?_)
  simp only [go_sem,f8,hb]
end Am.Mv
namespace Am.Mv
open Go Am Am.Tm
set_option maxRecDepth 100000
set_option maxHeartbeats 4000000
set_option linter.unusedSimpArgs false
set_option linter.unusedVariables false
variable {l:Land} {g1 g2:Bool × Bool}
def profN (l:Land):Int:=if (bestL l (-1)).2.2=true then (bestL l (-1)).2.1 else -1000
def profS (l:Land):Int:=if (goA l [] []).2.2=true then IntKind.i64.wrap ((goA l [] []).2.1-l.purse) else -1000
theorem Pprofits (hs:l.Small) (hf:l.Fits) (h0:checkLand l=0) {Q:V→Prop}:CallP tab 11 [landV g1 g2 l] Q↔Q (.tup [.c (.int .i64 (profN l)),.c (.int .i64 (profS l)),.c (.bool true)]):=CallP_of (by
  refine Val_X (fn:=f11) rfl ?_
  have kL:=fun {Q:V→Prop}=>P19 (g1:=g1) (g2:=g2) hs (Q:=Q)
  obtain ⟨b,kB⟩:=V27 (g1:=(false,false)) (g2:=(false,false)) hf
  have kB:=fun Q=>kB (Q:=Q)
  have kS:=fun {Q:V→Prop}=>P33 (g1:=(false,false)) (g2:=(false,false)) hf (Q:=Q)
  cases h1:(bestL l (-1)).2.2 with
  | true=>
    have e1:BestR b l = .tup [.c (L (b,false) (bestL l (-1)).1),.c (.int .i64 (bestL l (-1)).2.1),.c (.int .i64 0)]:=by rw [BestR,if_pos h0,if_pos h1]
    rw [e1] at kB
    cases h2:(goA l [] []).2.2 with
    | true=>
      have e2:SeenR l = .tup [.c (.int .i64 (IntKind.i64.wrap ((goA l [] []).2.1-l.purse))),.c (.int .i64 0)]:=by rw [SeenR,if_pos h0,if_pos h2]
      rw [e2] at kS
      simp only [go_sem,f11,kL,kB,kS,profN,profS,h1,h2]
    | false=>
      have e2:SeenR l = .tup [.c (.int .i64 0),.c (.int .i64 10)]:=by rw [SeenR,if_pos h0,if_neg (by rw [h2];simp)]
      rw [e2] at kS
      simp only [go_sem,f11,kL,kB,kS,profN,profS,h1,h2]
  | false=>
    have e1:BestR b l = .tup [.c .nils,.c (.int .i64 0),.c (.int .i64 10)]:=by rw [BestR,if_pos h0,if_neg (by rw [h1];simp)]
    rw [e1] at kB
    cases h2:(goA l [] []).2.2 with
    | true=>
      have e2:SeenR l = .tup [.c (.int .i64 (IntKind.i64.wrap ((goA l [] []).2.1-l.purse))),.c (.int .i64 0)]:=by rw [SeenR,if_pos h0,if_pos h2]
      rw [e2] at kS
      simp only [go_sem,f11,kL,kB,kS,profN,profS,h1,h2]
    | false=>
      have e2:SeenR l = .tup [.c (.int .i64 0),.c (.int .i64 10)]:=by rw [SeenR,if_pos h0,if_neg (by rw [h2];simp)]
      rw [e2] at kS
      simp only [go_sem,f11,kL,kB,kS,profN,profS,h1,h2])
end Am.Mv
namespace Am.Mv
open Go Am Am.Tm
set_option maxRecDepth 100000
set_option maxHeartbeats 4000000
set_option linter.unusedSimpArgs false
set_option linter.unusedVariables false
structure Kind (I:Soils→Soils→Prop) (C:Int→Int→Prop) (l r:Land):Prop where
  last:r.last=l.last
  home:r.home=l.home
  purse:r.purse=l.purse
  bad:r.bad=l.bad
  len:r.sites.length=l.sites.length
  le:∀a b,C a b→a≤b
  zero:I .zero .zero
  after:∀(k:Int) (s t:Soils) (i:Int),k≤1000→s.Le k→t.Le k→I s t→I (s.after l.rest i) (t.after r.rest i)
  crop:∀(s t:Soils) (i:Int) (c:Bool),0≤i→i<l.sites.length→0≤t.taken i→I s t→C (cropB (atI l.sites i) (s.taken i) c) (cropB (atI r.sites i) (t.taken i) c)
  cost:∀a b:Int,0≤a→a<l.sites.length→0≤b→b<l.sites.length→costOf r.sites r.roads a b≤costOf l.sites l.roads a b
section
variable {I:Soils→Soils→Prop} {C:Int→Int→Prop} {l r:Land}
theorem kind_st (h:Kind I C l r) (hv:l.Valid) (hr:r.Valid) {w p:List Int} (hp:AreSites l p) (hl:p.length≤100):∀k:Nat,k≤p.length→(∀i,i<k→canAt l w p i=true) →
    (∀i,i<k→canAt r w p i=true)∧(stAt r w p k).site=(stAt l w p k).site∧(stAt l w p k).money≤(stAt r w p k).money∧I (stAt l w p k).so (stAt r w p k).so ∧
    ∀i,i<k→C (yrAt l w p i).crop (yrAt r w p i).crop∧(stAt l w p (i+1)).money≤(stAt r w p (i+1)).money
  | 0,_,_=>⟨fun i hi=>absurd hi (Nat.not_lt_zero i),h.home,by show l.purse≤r.purse;rw [h.purse];exact Int.le_refl _,h.zero,fun i hi=>absurd hi (Nat.not_lt_zero i)⟩
  | k+1,hk,hc=>by
    have hlen:=h.len
    have hpr:AreSites r p:=fun x hx=>by have:=hp x hx;omega
    obtain ⟨i1,i2,i3,i4,i5⟩:=kind_st h hv hr hp hl k (by omega) (fun i hi=>hc i (by omega))
    obtain ⟨s0,s1⟩:=stAt_site hv (bad:=w) hp k (by omega)
    obtain ⟨q0,q1⟩:=plan_at hp (k:=k) (by omega)
    have hco:=h.cost _ _ s0 s1 q0 q1
    have hcl:=of_decide_eq_true (hc k (by omega))
    have hcr:canAt r w p k=true:=decide_eq_true (by rw [i2];omega)
    have i1':∀i,i<k+1→canAt r w p i=true:=fun i hi=>by
      by_cases e:i=k
      · subst e;exact hcr
      · exact i1 i (by omega)
    obtain ⟨_,_,ml⟩:=money_next hv (ws:=w) hp (by omega) (k+1) hk hc
    obtain ⟨_,_,mr⟩:=money_next hr (ws:=w) hpr (by omega) (k+1) hk i1'
    have el:=(ml k (by omega)).1
    have er:=(mr k (by omega)).1
    have t1:=((stAt_le r w p k (by omega)).taken (p.getD k default)).1
    have hC:C (yrAt l w p k).crop (yrAt r w p k).crop:=h.crop _ _ _ _ q0 q1 t1 i4
    have hCl:=h.le _ _ hC
    have hcost:(yrAt r w p k).cost≤(yrAt l w p k).cost:=by
      show costOf r.sites r.roads (stAt r w p k).site _≤costOf l.sites l.roads (stAt l w p k).site _
      rw [i2];exact hco
    have hm:(stAt l w p (k+1)).money≤(stAt r w p (k+1)).money:=by omega
    refine ⟨i1',rfl,hm,h.after k _ _ _ (by omega) (stAt_le l w p k (by omega)) (stAt_le r w p k (by omega)) i4,fun i hi=>?_⟩
    by_cases e:i=k
    · subst e;exact ⟨hC,hm⟩
    · exact i5 i (by omega)
theorem kind_fail (h:Kind I C l r) (hv:l.Valid) (hr:r.Valid) {w p:List Int} (hp:AreSites l p) (hl:p.length≤100) (hf:failAt l w p=none) :
    failAt r w p=none∧prof l p w≤prof r p w∧∀i,i<p.length→C (yrAt l w p i).crop (yrAt r w p i).crop∧(yrAt l w p i).money≤(yrAt r w p i).money:=by
  obtain ⟨a,b,c,d,e⟩:=kind_st h hv hr hp hl p.length (Nat.le_refl _) (failAt_none.1 hf)
  refine ⟨failAt_none.2 a,?_,e⟩
  unfold prof
  rw [h.purse];omega
theorem kind_sure (h:Kind I C l r) (hv:l.Valid) (hr:r.Valid) {p:List Int} (hp:AreSites l p) (hl:p.length≤100) (hc:(sureL l p).2.2=true):(sureL r p).2.2=true∧(sureL l p).1≤(sureL r p).1:=by
  have hlen:=h.len
  obtain ⟨h1,h2,h3,h4⟩:=(sureL_is hv hp (by omega)).yes hc
  have hw:weathersL r=weathersL l:=by unfold weathersL;rw [h.bad,h.last]
  have hp':AreSites r p:=fun x hx=>by have:=hp x hx;omega
  have hI:=sureL_is hr hp' (by omega)
  cases hcr:(sureL r p).2.2 with
  | false=>
    obtain ⟨w,w1,w2⟩:=hI.no hcr
    rw [hw] at w1
    exact absurd (kind_fail h hv hr hp hl (h1 w w1)).1 w2
  | true=>
    obtain ⟨g1,g2,g3,g4⟩:=hI.yes hcr
    refine ⟨rfl,?_⟩
    rw [hw] at g2
    have a:=(kind_fail h hv hr hp hl (h1 _ g2)).2.1
    have b:=h4 _ g2
    rw [g3]
    rcases b with b | b<;>omega
theorem profN_bd (hv:l.Valid) (hc:(bestL l (-1)).2.2=true) : -999≤(bestL l (-1)).2.1:=by
  obtain ⟨z1,z2,_,_⟩:=(best_is l (-1)).yes hc
  obtain ⟨q1,q2,q3,_⟩:=plans_mem hv (best_mem hc)
  obtain ⟨g1,g2,g3,g4⟩:=(sureL_is hv q1 q3).yes z1
  have:=prof_val hv q1 q3 (g1 _ g2)
  rw [z2,g3]
  exact this.2.1
theorem kind_best (h:Kind I C l r) (hv:l.Valid) (hr:r.Valid):profN l≤profN r:=by
  unfold profN
  cases hl:(bestL l (-1)).2.2 with
  | false=>
    rw [if_neg (by simp)]
    cases hr2:(bestL r (-1)).2.2 with
    | false=>simp
    | true=>have:=profN_bd hr hr2;simp;omega
  | true=>
    have:=best_le hv (show plansL r (-1)=plansL l (-1) by unfold plansL;rw [h.len,h.last]) (fun p hp hpl hc=>?_) hl
    · rw [if_pos rfl,if_pos this.1];exact this.2
    · exact kind_sure h hv hr hp hpl hc
end
def restL (l:Land) (r:Int):Land:=⟨l.last,l.home,l.purse,l.bad,r,l.sites,l.roads⟩
theorem rest_valid {l:Land} (hv:l.Valid) {r:Int} (h1:1≤r) (h2:r≤l.rest):(restL l r).Valid:=
  ⟨hv.last0,hv.last4,hv.n0,hv.n4,hv.home0,hv.home1,hv.purse0,hv.purse1,hv.bad0,hv.bad1,h1,Int.le_trans h2 hv.rest5,hv.site,hv.roads,hv.road,hv.home⟩
structure Soils.More (s t:Soils):Prop where
  t0:t.t0≤s.t0
  t1:t.t1≤s.t1
  t2:t.t2≤s.t2
  t3:t.t3≤s.t3
  d0:t.d0=s.d0
  d1:t.d1=s.d1
  d2:t.d2=s.d2
  d3:t.d3=s.d3
theorem soilAft_more {k rest rest' site i t t' d:Int} (hk:k≤1000) (ht:0≤t∧t≤k) (ht':0≤t'∧t'≤k) (hd:0≤d∧d≤k) (h:t'≤t) (hr:rest'≤rest) :
    (soilAft rest' site i t' d).1≤(soilAft rest site i t d).1∧(soilAft rest' site i t' d).2=(soilAft rest site i t d).2:=by
  have e1:=wrapB (n:=t+1) (by omega) (by omega)
  have e2:=wrapB (n:=d+1) (by omega) (by omega)
  have e3:=wrapB (n:=t'+1) (by omega) (by omega)
  unfold soilAft
  rw [e1,e2,e3]
  by_cases h1:i=site
  · rw [if_pos h1,if_pos h1];exact ⟨by simp only;omega,rfl⟩
  · rw [if_neg h1,if_neg h1]
    refine ⟨?_,rfl⟩
    simp only
    split<;>split<;>omega
theorem Soils.More.after {k rest rest' i:Int} {s t:Soils} (h:s.More t) (hs:s.Le k) (ht:t.Le k) (hk:k≤1000) (hr:rest'≤rest):(s.after rest i).More (t.after rest' i):=by
  have a0:=soilAft_more (site:=i) (i:=0) hk hs.t0 ht.t0 hs.d0 h.t0 hr
  have a1:=soilAft_more (site:=i) (i:=1) hk hs.t1 ht.t1 hs.d1 h.t1 hr
  have a2:=soilAft_more (site:=i) (i:=2) hk hs.t2 ht.t2 hs.d2 h.t2 hr
  have a3:=soilAft_more (site:=i) (i:=3) hk hs.t3 ht.t3 hs.d3 h.t3 hr
  rw [←h.d0] at a0
  rw [←h.d1] at a1
  rw [←h.d2] at a2
  rw [←h.d3] at a3
  have b0:=a0
  constructor
  · show (soilAft rest' i 0 t.t0 t.d0).1≤(soilAft rest i 0 s.t0 s.d0).1;rw [←h.d0];exact a0.1
  · show (soilAft rest' i 1 t.t1 t.d1).1≤(soilAft rest i 1 s.t1 s.d1).1;rw [←h.d1];exact a1.1
  · show (soilAft rest' i 2 t.t2 t.d2).1≤(soilAft rest i 2 s.t2 s.d2).1;rw [←h.d2];exact a2.1
  · show (soilAft rest' i 3 t.t3 t.d3).1≤(soilAft rest i 3 s.t3 s.d3).1;rw [←h.d3];exact a3.1
  · show (soilAft rest' i 0 t.t0 t.d0).2=(soilAft rest i 0 s.t0 s.d0).2;rw [←h.d0];exact a0.2
  · show (soilAft rest' i 1 t.t1 t.d1).2=(soilAft rest i 1 s.t1 s.d1).2;rw [←h.d1];exact a1.2
  · show (soilAft rest' i 2 t.t2 t.d2).2=(soilAft rest i 2 s.t2 s.d2).2;rw [←h.d2];exact a2.2
  · show (soilAft rest' i 3 t.t3 t.d3).2=(soilAft rest i 3 s.t3 s.d3).2;rw [←h.d3];exact a3.2
theorem Soils.More.taken {s t:Soils} (h:s.More t) (i:Int):t.taken i≤s.taken i:=by
  unfold Soils.taken
  split
  · exact h.t0
  · split
    · exact h.t1
    · split
      · exact h.t2
      · exact h.t3
theorem cropB_less {l:Land} (hv:l.Valid) {b:Int} (b0:0≤b) (b1:b<l.sites.length) {t t':Int} (ht:0≤t') (h:t'≤t) (c:Bool):cropB (atI l.sites b) t c≤cropB (atI l.sites b) t' c:=by
  obtain ⟨a1,a2,a3,a4⟩:=crop_val hv t b0 b1
  obtain ⟨c1,c2,c3,c4⟩:=crop_val hv t' b0 b1
  have hm:atI l.sites b∈l.sites:=by
    unfold atI
    rw [getD_lt _ _ _ (by omega)];exact List.getElem_mem _
  have hs:=hv.site _ hm
  have hc:cropOf (atI l.sites b) t≤cropOf (atI l.sites b) t':=by
    unfold cropOf
    repeat' split
    all_goals omega
  cases c
  · rw [a4,c4];exact hc
  · rw [a3,c3];omega
theorem rest_kind {l:Land} (hv:l.Valid) {r:Int} (h2:r≤l.rest):Kind Soils.More (fun a b=>a≤b) l (restL l r):=
  ⟨rfl,rfl,rfl,rfl,rfl,fun _ _ h=>h,⟨Int.le_refl _,Int.le_refl _,Int.le_refl _,Int.le_refl _,rfl,rfl,rfl,rfl⟩,fun k s t i hk hs ht h=>h.after hs ht hk h2,
    fun s t i c i0 i1 ht h=>cropB_less hv i0 i1 ht (h.taken i) c,fun _ _ _ _ _ _=>Int.le_refl _⟩
def cheapS (s:Site) (a:Int):Site:=⟨s.fresh,s.second,max 0 (s.rent-a)⟩
def cheapR (w:List Int) (k:Nat) (b:Int):List Int:=w.set k (max 0 (w.getD k default-b))
def cheapL (l:Land) (i k:Nat) (a b:Int):Land:=⟨l.last,l.home,l.purse,l.bad,l.rest,l.sites.set i (cheapS (l.sites.getD i default) a),l.roads.set i (cheapR (l.roads.getD i default) k b)⟩
theorem set_atI {α:Type} [Inhabited α] {a:List α} {k:Nat} {x:α} (hk:k<a.length) (i:Int):atI (a.set k x) i=if i.toNat=k then x else atI a i:=by
  unfold atI
  simp only [List.getD_eq_getElem?_getD,List.getElem?_set]
  by_cases h:k=i.toNat
  · subst h;simp [hk]
  · rw [if_neg h,if_neg (fun e=>h e.symm)]
theorem cheap_valid {l:Land} (hv:l.Valid) {i k:Nat} {a b:Int} (hi:i<l.sites.length) (hk:k<l.sites.length) (a0:0≤a) (b0:0≤b):(cheapL l i k a b).Valid:=by
  have hr:=hv.roads
  have hl:(cheapL l i k a b).sites.length=l.sites.length:=by simp [cheapL]
  have hm:l.sites.getD i default∈l.sites:=by rw [getD_lt _ _ _ hi];exact List.getElem_mem _
  have hm2:l.roads.getD i default∈l.roads:=by rw [getD_lt _ _ _ (by omega)];exact List.getElem_mem _
  have w1:=(hv.road _ hm2).1
  have w2:=(hv.road _ hm2).2
  refine ⟨hv.last0,hv.last4,by rw [hl];exact hv.n0,by rw [hl];exact hv.n4,hv.home0,by rw [hl];exact hv.home1,hv.purse0,hv.purse1,hv.bad0,hv.bad1,hv.rest1,hv.rest5,?_,?_,?_,?_⟩
  · intro s hs
    have hs:s∈l.sites.set i _:=hs
    rcases List.mem_or_eq_of_mem_set hs with hs | rfl
    · exact hv.site s hs
    · have:=hv.site _ hm
      show 0≤(l.sites.getD i default).second∧_∧_∧0≤max 0 ((l.sites.getD i default).rent-a)∧max 0 ((l.sites.getD i default).rent-a)≤99
      refine ⟨this.1,this.2.1,this.2.2.1,?_,?_⟩<;>omega
  · rw [hl]
    show (l.roads.set i _).length=_
    rw [List.length_set];exact hr
  · intro r hr'
    have hr':r∈l.roads.set i _:=hr'
    rw [hl]
    rcases List.mem_or_eq_of_mem_set hr' with hr' | rfl
    · exact hv.road r hr'
    · refine ⟨by unfold cheapR;rw [List.length_set];exact w1,fun x hx=>?_⟩
      unfold cheapR at hx
      rcases List.mem_or_eq_of_mem_set hx with hx | rfl
      · exact w2 x hx
      · revert w1 w2
        generalize l.roads.getD i default=W
        intro w1 w2
        have:=w2 (W.getD k default) (by rw [getD_lt _ _ _ (by omega)];exact List.getElem_mem _)
        omega
  · rw [hl]
    intro j hj
    show ((l.roads.set i (cheapR (l.roads.getD i default) k b)).getD j default).getD j 0=0
    have h0:=hv.home j hj
    have e:(l.roads.set i (cheapR (l.roads.getD i default) k b)).getD j default=if i=j then cheapR (l.roads.getD i default) k b else l.roads.getD j default:=by
      simp only [List.getD_eq_getElem?_getD,List.getElem?_set]
      by_cases h:i=j
      · subst h;rw [if_pos rfl,if_pos rfl,if_pos (by omega)];rfl
      · rw [if_neg h,if_neg h]
    rw [e]
    by_cases h:i=j
    · subst h
      rw [if_pos rfl]
      have e2:(cheapR (l.roads.getD i default) k b).getD i 0=if k=i then max 0 ((l.roads.getD i default).getD k default-b) else (l.roads.getD i default).getD i 0:=by
        unfold cheapR
        revert w1
        generalize l.roads.getD i default=W
        intro w1
        simp only [List.getD_eq_getElem?_getD,List.getElem?_set]
        by_cases h:k=i
        · subst h;rw [if_pos rfl,if_pos rfl,if_pos (by omega)];rfl
        · rw [if_neg h,if_neg h]
      rw [e2]
      by_cases h:k=i
      · subst h
        rw [if_pos rfl]
        have:(l.roads.getD k default).getD k default=0:=h0
        omega
      · rw [if_neg h];exact h0
    · rw [if_neg h];exact h0
theorem cheap_kind {l:Land} (hv:l.Valid) {i k:Nat} {a b:Int} (hi:i<l.sites.length) (hk:k<l.sites.length) (a0:0≤a) (b0:0≤b):Kind Eq Eq l (cheapL l i k a b):=by
  have hr:=hv.roads
  have hV:=cheap_valid hv hi hk a0 b0
  have hl:(cheapL l i k a b).sites.length=l.sites.length:=by simp [cheapL]
  refine ⟨rfl,rfl,rfl,rfl,hl,fun x y h=>by omega,rfl,fun _ s t i _ _ _ h=>by subst h;rfl,fun s t j c j0 j1 _ h=>?_,fun x y x0 x1 y0 y1=>?_⟩
  · subst h
    show _=cropB (atI (l.sites.set i _) j) _ c
    rw [set_atI hi]
    by_cases e:j.toNat=i
    · rw [if_pos e]
      have:atI l.sites j=l.sites.getD i default:=by unfold atI;rw [e]
      rw [this];rfl
    · rw [if_neg e]
  · obtain ⟨c1,c2,c3,c4,c5⟩:=cost_val hv x0 x1 y0 y1
    obtain ⟨d1,d2,d3,d4,d5⟩:=cost_val hV x0 (by omega) y0 (by omega)
    have s1:(atI (cheapL l i k a b).sites y).rent≤(atI l.sites y).rent:=by
      show (atI (l.sites.set i _) y).rent≤_
      rw [set_atI hi]
      by_cases e:y.toNat=i
      · rw [if_pos e]
        have:atI l.sites y=l.sites.getD i default:=by unfold atI;rw [e]
        rw [this] at c4 ⊢
        show max 0 ((l.sites.getD i default).rent-a)≤_
        omega
      · rw [if_neg e];exact Int.le_refl _
    have s2:roadAt (cheapL l i k a b).roads x y≤roadAt l.roads x y:=by
      unfold roadAt at c2 ⊢
      show atI (atI (l.roads.set i _) x) y≤_
      rw [set_atI (by omega)]
      by_cases e:x.toNat=i
      · rw [if_pos e]
        have ex:atI l.roads x=l.roads.getD i default:=by unfold atI;rw [e]
        have hm2:l.roads.getD i default∈l.roads:=by rw [getD_lt _ _ _ (by omega)];exact List.getElem_mem _
        have w1:=(hv.road _ hm2).1
        rw [ex] at c2 ⊢
        unfold cheapR
        rw [set_atI (by omega)]
        by_cases e2:y.toNat=k
        · rw [if_pos e2]
          have ey:atI (l.roads.getD i default) y=(l.roads.getD i default).getD k default:=by unfold atI;rw [e2]
          rw [ey] at c2 ⊢
          omega
        · rw [if_neg e2];exact Int.le_refl _
      · rw [if_neg e];exact Int.le_refl _
    omega
end Am.Mv
namespace Am.Mv
open Go Am Am.Tm
set_option maxRecDepth 100000
set_option maxHeartbeats 4000000
set_option linter.unusedSimpArgs false
set_option linter.unusedVariables false
def rdG : List (List Int)→List Obj
  | []=>[]
  | r::rs=>gone :: .arr false 1 1 (r.map Row.row) :: .none::rdG rs
theorem rdG_append (a b:List (List Int)):rdG (a++b)=rdG a++rdG b:=by
  induction a with
  | nil=>rfl
  | cons r a ih=>simp only [List.cons_append,rdG,ih]
theorem rdG_len (a:List (List Int)):(rdG a).length=3*a.length:=by
  induction a with
  | nil=>rfl
  | cons r a ih=>simp only [List.length_cons,rdG,ih];omega
theorem rdG_take {rs:List (List Int)} {k:Nat} (h:k<rs.length):rdG (rs.take (k+1))=rdG (rs.take k)++[gone,.arr false 1 1 ((rs.getD k default).map Row.row),.none]:=by
  rw [take_getD h default,rdG_append];rfl
theorem rdG_takeLen {rs:List (List Int)} {k:Nat} (h:k≤rs.length):(rdG (rs.take k)).length=3*k:=by
  rw [rdG_len,List.length_take,Nat.min_eq_left h]
def csG (rs:List (List Int)):Nat→List C
  | 0=>[]
  | k+1=>csG rs k++[.sl ((rdG (rs.take k)).length+6) 1 0 (rs.getD k default).length]
theorem csG_len (rs:List (List Int)):∀k,(csG rs k).length=k
  | 0=>rfl
  | k+1=>by rw [csG,List.length_append,csG_len];rfl
theorem csG_nth (rs:List (List Int)) {i:Nat}:∀k,i<k→nth (csG rs k) i=some (.sl ((rdG (rs.take i)).length+6) 1 0 (rs.getD i default).length)
  | k+1,h=>by
    rw [csG,nth_append,csG_len]
    by_cases e:i=k
    · subst e;rw [if_neg (Nat.lt_irrefl _),Nat.sub_self];rfl
    · rw [if_pos (by omega)];exact csG_nth rs k (by omega)
theorem part_nth {α:Type}:∀(i:Nat) (cs:List α) (c:α),nth cs i=some c→takeN 1 (dropN i cs)=some [c]
  | 0,x::cs,c,h=>by cases h;rfl
  | i+1,x::cs,c,h=>part_nth i cs c h
  | 0,[],c,h=>by cases h
  | _+1,[],c,h=>by cases h
def tlG (rs:List (List Int)):Nat→List Obj
  | 0=>[]
  | k+1=>rdG (rs.take k)++[.cells (csG rs (k+1)),.arr false 1 1 ((rs.getD k default).map Row.row),.none]
def rdsC (rs:List (List Int)):Nat→C
  | 0=>.nils
  | k+1=>.psl ((rdG (rs.take k)).length+5) 0 (k+1)
theorem tlG_len {rs:List (List Int)}:∀{k:Nat},k≤rs.length→(tlG rs k).length=3*k
  | 0,_=>rfl
  | k+1,h=>by
    unfold tlG
    rw [List.length_append,rdG_takeLen (by omega)];simp only [List.length_cons,List.length_nil];omega
theorem rdG_at {rs:List (List Int)}:∀{k i:Nat},k≤rs.length→i<k→getH (rdG (rs.take k)) ((rdG (rs.take i)).length+1) = .arr false 1 1 ((rs.getD i default).map Row.row)
  | k+1,i,hk,hi=>by
    rw [rdG_take (by omega)]
    by_cases e:i=k
    · subst e
      rw [getH_at];rfl
    · rw [getH_left (by rw [rdG_takeLen (by omega),rdG_takeLen (by omega)];omega)]
      exact rdG_at (by omega) (by omega)
theorem tlG_at {rs:List (List Int)} {k i:Nat} (hk:k+1≤rs.length) (hi:i<k+1):getH (tlG rs (k+1)) ((rdG (rs.take i)).length+1) = .arr false 1 1 ((rs.getD i default).map Row.row):=by
  unfold tlG
  by_cases e:i=k
  · subst e
    rw [getH_at];rfl
  · rw [getH_left (by rw [rdG_takeLen (by omega),rdG_takeLen (by omega)];omega)]
    exact rdG_at (by omega) (by omega)
theorem tlG_cells {rs:List (List Int)} {k:Nat}:getH (tlG rs (k+1)) (rdG (rs.take k)).length = .cells (csG rs (k+1)):=by
  unfold tlG
  rw [getH_at0];rfl
theorem getH_setH {h:List Obj} {o p:Nat} {x:Obj} (ho:o<h.length):getH (setH h o x) p=if p=o then x else getH h p:=by
  by_cases e:p=o
  · subst e
    rw [if_pos rfl]
    induction h generalizing p with
    | nil=>simp at ho
    | cons a h ih=>cases p with
      | zero=>rfl
      | succ p=>simp only [setH,getH];exact ih (by simpa using ho)
  · rw [if_neg e]
    induction h generalizing o p with
    | nil=>rfl
    | cons a h ih=>cases o with
      | zero=>cases p with
        | zero=>exact absurd rfl e
        | succ p=>rfl
      | succ o=>cases p with
        | zero=>rfl
        | succ p=>simp only [setH,getH];exact ih (by simpa using ho) (by omega)
structure Fz (b:Nat) (h h':List Obj):Prop where
  len:h'.length=h.length
  same:∀o,o<b→getH h' o=getH h o
  arr:∀o f v sz rows,getH h o = .arr f v sz rows→∃f',getH h' o = .arr f' v sz rows
theorem frzDs_cons {h:List Obj} {c:C} {cs:List C}:frzDs h (c::cs)=(match frzD h c with
    | some (d,h')=>match frzDs h' cs with
      | some (ds,h2)=>some ([d]::ds,h2)
      | none=>none
    | none=>none):=by
  conv=>lhs;unfold frzDs
  cases frzD h c with
  | none=>rfl
  | some z=>
    obtain ⟨d,h'⟩:=z
    simp only
    cases frzDs h' cs with
    | none=>rfl
    | some z=>rfl
theorem frzDs_app : ∀{a b:List C} {h h':List Obj} {x:List (List D)},frzDs h a=some (x,h')→frzDs h (a++b)=(frzDs h' b).map fun r=>(x++r.1,r.2)
  | [],b,h,h',x,e=>by
    cases e
    cases hb:frzDs h b with
    | none=>simp [hb]
    | some r=>simp [hb]
  | c::a,b,h,h',x,e=>by
    rw [List.cons_append,frzDs_cons]
    rw [frzDs_cons] at e
    cases hc:frzD h c with
    | none=>rw [hc] at e;cases e
    | some r=>
      obtain ⟨d,h2⟩:=r
      rw [hc] at e
      simp only at e ⊢
      cases ha:frzDs h2 a with
      | none=>rw [ha] at e;cases e
      | some q=>
        obtain ⟨ds,h3⟩:=q
        rw [ha] at e
        cases e
        rw [frzDs_app ha]
        cases frzDs h' b<;>simp
theorem frzDs_csG {rs ws:List (List Int)} {h:List Obj} (hn:ws.length=rs.length) (hl:∀i,i<rs.length→(ws.getD i default).length=(rs.getD i default).length)
    (hh:∀i,i<rs.length→∃f,getH h ((rdG (rs.take i)).length+6) = .arr f 1 1 ((ws.getD i default).map Row.row)) :
    ∀k,k≤rs.length→∃h',frzDs h (csG rs k)=some ((ws.take k).map Row.row,h')∧Fz 6 h h'
  | 0,_=>⟨h,rfl,rfl,fun _ _=>rfl,fun o f v sz rows e=>⟨f,e⟩⟩
  | k+1,hk=>by
    obtain ⟨h1,e1,z1⟩:=frzDs_csG hn hl hh k (by omega)
    obtain ⟨f,e2⟩:=hh k (by omega)
    obtain ⟨f',e3⟩:=z1.arr _ _ _ _ _ e2
    have hlk:=hl k (by omega)
    refine ⟨setH h1 ((rdG (rs.take k)).length+6) (.arr true 1 1 ((ws.getD k default).map Row.row)),?_,?_,?_,?_⟩
    · rw [csG,frzDs_app e1]
      have:part 0 (rs.getD k default).length ((ws.getD k default).map (Row.row (α:=Int)))=some ((ws.getD k default).map Row.row):=part_map hlk
      simp only [frzDs,frzD_sl,e3,if_true,this,Option.map_some]
      rw [take_getD (show k<ws.length by omega) default,List.map_append]
      rfl
    · rw [length_setH];exact z1.len
    · intro o ho
      have hlt:=lt_of_getH (h:=h1) (o:=(rdG (rs.take k)).length+6) (by rw [e3];simp)
      rw [getH_setH hlt,if_neg (by omega)]
      exact z1.same o ho
    · intro o f2 v sz rows e
      have hlt:=lt_of_getH (h:=h1) (o:=(rdG (rs.take k)).length+6) (by rw [e3];simp)
      rw [getH_setH hlt]
      by_cases eo:o=(rdG (rs.take k)).length+6
      · subst eo
        rw [if_pos rfl]
        rw [e2] at e
        cases e
        exact ⟨true,rfl⟩
      · rw [if_neg eo]
        exact z1.arr o f2 v sz rows e
theorem frz_five {rs ws:List (List Int)} {T:List Obj} (hn:ws.length=rs.length) (hl:∀i,i<rs.length→(ws.getD i default).length=(rs.getD i default).length)
    (hh:∀i,i<rs.length→∃f,getH T ((rdG (rs.take i)).length+1) = .arr f 1 1 ((ws.getD i default).map Row.row)) :
    ∃F:Obj→Obj→Obj→Obj→Obj→List Obj,∀L X Y A E,frzDs (L::X::Y::A::E::T) (csG rs rs.length)=some (ws.map Row.row,L::X::Y::A::E::F L X Y A E):=by
  have:∀L X Y A E,∃T',frzDs (L::X::Y::A::E::T) (csG rs rs.length)=some (ws.map Row.row,L::X::Y::A::E::T'):=by
    intro L X Y A E
    obtain ⟨h',e,z⟩:=frzDs_csG (h:=L::X::Y::A::E::T) hn hl hh rs.length (Nat.le_refl _)
    rw [←hn,List.take_length,hn] at e
    have hlen:=z.len
    match h',hlen,e,z with
    | a::b::c::d::f::T',_,e,z=>
      have s0:=z.same 0 (by omega)
      have s1:=z.same 1 (by omega)
      have s2:=z.same 2 (by omega)
      have s3:=z.same 3 (by omega)
      have s4:=z.same 4 (by omega)
      simp only [getH] at s0 s1 s2 s3 s4
      subst s0 s1 s2 s3 s4
      exact ⟨T',e⟩
    | [],hlen,_,_=>simp at hlen
    | [_],hlen,_,_=>simp at hlen
    | [_,_],hlen,_,_=>simp at hlen
    | [_,_,_],hlen,_,_=>simp at hlen
    | [_,_,_,_],hlen,_,_=>simp at hlen
  exact ⟨fun L X Y A E=>Classical.choose (this L X Y A E),fun L X Y A E=>Classical.choose_spec (this L X Y A E)⟩
theorem setNth_gen {α:Type} [Row α] {l:List α} {j:Nat} {a:α}:setNth (l.map Row.row) j (Row.row a)=(l.set j a).map Row.row:=by
  induction l generalizing j with
  | nil=>rfl
  | cons b l ih=>cases j with
    | zero=>rfl
    | succ j=>simp only [List.map_cons,setNth,List.set_cons_succ,ih]
theorem setNth_site {l:List Site} {j:Nat} {a b c:Int}:setNth (l.map (Row.row (α:=Site))) j [.int .i64 a,.int .i64 b,.int .i64 c]=(l.set j ⟨a,b,c⟩).map Row.row:=setNth_gen (a:=(⟨a,b,c⟩:Site))
theorem nth_site {w:List Site} {y:Nat} (h:y<w.length):nth (w.map Row.row) y=some [.int .i64 (w.getD y default).fresh,.int .i64 (w.getD y default).second,.int .i64 (w.getD y default).rent]:=by
  rw [nth_get];simp [h];rfl
theorem playR_tup {l:Land} {p w:List Int}:∃(c:C) (g:Int),playR l p w = .tup [.c c,.c (.int .i64 g)]:=by
  unfold playR
  repeat' split
  all_goals exact ⟨_,_,rfl⟩
end Am.Mv
namespace Am.Mv
open Go Am Am.Tm
set_option maxRecDepth 100000
set_option maxHeartbeats 8000000
set_option linter.unusedSimpArgs false
set_option linter.unusedVariables false
variable {l:Land} {g1 g2:Bool × Bool}
theorem csG_succ {rs:List (List Int)} {k:Nat}:csG rs (k+1)=csG rs k++[.sl ((rdG (rs.take k)).length+6) 1 0 (rs.getD k default).length]:=rfl
theorem tlG_succ {rs:List (List Int)} {k:Nat}:tlG rs (k+1)=rdG (rs.take k)++[.cells (csG rs (k+1)),.arr false 1 1 ((rs.getD k default).map Row.row),.none]:=rfl
theorem rdsC_succ {rs:List (List Int)} {k:Nat}:rdsC rs (k+1) = .psl ((rdG (rs.take k)).length+5) 0 (k+1):=rfl
theorem MoveRest_val {which bad b:Int} (w0:0≤which) (w1:which≤65535) (b0:0≤bad) (b1:bad≤255) (y0:0≤b) (y1:b≤255):Val tab 3 [landV g1 g2 l,.c (.int .u16 which),.c (.int .u8 bad),.c (.int .u8 b)] (.c (.bool true)):=by
  refine Val_X (fn:=f3) rfl ?_
  by_cases hr:(thin l&&decide (checkLand l=0))=true
  · have hr':=hr
    simp only [Bool.and_eq_true,decide_eq_true_eq] at hr'
    obtain ⟨ht,h0⟩:=hr'
    have hs:=thin_small ht
    have hv:=valid_of h0
    have l0:=hv.last0
    have l4:=hv.last4
    have n0:=hv.n0
    have n4:=hv.n4
    have hrd:=hv.roads
    have r1:=hv.rest1
    have r5:=hv.rest5
    have hP40:=fun {Q:V→Prop}=>P40 (g1:=g1) (g2:=g2) hv w0 w1 (Q:=Q)
    have hP38:=fun {Q:V→Prop}=>P38 (g1:=g1) (g2:=g2) hv b0 (by omega) (Q:=Q)
    have hwb:IntKind.i64.wrap b=b:=wrapB (by omega) (by omega)
    have t3:0≤b.tmod 3∧b.tmod 3≤2:=by rw [Int.tmod_eq_emod_of_nonneg y0];omega
    have hw3:IntKind.i64.wrap (l.rest-b.tmod 3)=l.rest-b.tmod 3:=wrapB (by omega) (by omega)
    have hsb:l.sites.length*24≤2^40:=by omega
    simp only [go_sem,f3,P37s,hr,hP40,hP38,hwb,hw3,hsb]
    refine RX_for l.roads.length (fun k=>[(13,.c (.int .i64 k))]) (fun k=>[.cells [.int .i64 l.last,.int .i64 l.home,.int .i64 l.purse,.int .i64 l.bad,.int .i64 l.rest,L g1 l.sites,L g2 l.roads],.cells [.int .i64 l.last,.int .i64 l.home,.int .i64 l.purse,.int .i64 l.bad,.int .i64 (max 1 (l.rest-b.tmod 3)),L g1 l.sites,L g2 l.roads],.cells [.int .i64 l.last,.int .i64 l.home,.int .i64 l.purse,.int .i64 l.bad,.int .i64 l.rest,.sl 3 1 0 l.sites.length,rdsC l.roads k],.arr false 1 3 (l.sites.map Row.row),.none]++tlG l.roads k) (fun _=>True) trivial (by simp only [go_sem,tlG,rdsC]) ?_
    intro k hk _
    by_cases h1:k<l.roads.length
    · have hrl:(l.roads.getD k default).length≤6:=hs.road _ (by rw [getD_lt _ _ _ h1];exact List.getElem_mem h1)
      have hF:=fun {H:List Obj} {Q:V→List Obj→Prop}=>Flist (g:=(false,g2.2)) (a:=l.roads.getD k default) (by omega) (H:=H) (Q:=Q)
      have hws:=wrap_succ (n:=1000) (show k<1000 by omega) (by decide)
      rcases Nat.eq_zero_or_pos k with rfl | hk0
      · have hz:(0:Int)<(l.roads.length:Int):=by omega
        have ha:atI l.roads 0=l.roads.getD 0 default:=rfl
        simp only [go_sem,h1,hz,ha,hF,tlG_succ,rdsC_succ,csG_succ,csG,rdsC,tlG,rdG,List.take_zero,hws]
      · obtain ⟨k',hk'⟩:∃k',k=k'+1:=⟨k-1,by omega⟩
        have e1:tlG l.roads k=rdG (l.roads.take k')++[.cells (csG l.roads k),.arr false 1 1 ((l.roads.getD k' default).map Row.row),.none]:=by rw [hk'];rfl
        have e2:rdsC l.roads k = .psl ((rdG (l.roads.take k')).length+5) 0 k:=by rw [hk'];rfl
        have e3:rdG (l.roads.take k)=rdG (l.roads.take k')++[gone,.arr false 1 1 ((l.roads.getD k' default).map Row.row),.none]:=by rw [hk'];exact rdG_take (by omega)
        have hb:(k+1)*24≤2^40:=by omega
        simp only [go_sem,h1,hF,tlG_succ,rdsC_succ,csG_succ,csG_len,e1,e2,e3,hk0,hb,atI_nat,hws]
    · have hkn:k=l.roads.length:=by omega
      obtain ⟨k',hk'⟩:∃k',k=k'+1:=⟨k-1,by omega⟩
      clear hk
      have e2:rdsC l.roads k = .psl ((rdG (l.roads.take k')).length+5) 0 k:=by rw [hk'];rfl
      have hTc:getH (tlG l.roads k) (rdG (l.roads.take k')).length = .cells (csG l.roads k):=by rw [hk'];exact tlG_cells
      have hn0:¬(l.sites.length:Int)=0:=by omega
      have hwq:IntKind.i64.wrap (b.tdiv 4)=((b.toNat / 4:Nat):Int):=by
        have:=quo_nat (a:=b.toNat) (b:=4) (by omega)
        rwa [show ((b.toNat:Nat):Int)=b by omega] at this
      obtain ⟨i,hi,hil⟩:∃i:Nat,b.tmod (l.sites.length:Int)=(i:Int)∧i<l.sites.length:=by
        have:=rem_nat (a:=b.toNat) (b:=l.sites.length)
        rw [show ((b.toNat:Nat):Int)=b by omega] at this
        exact ⟨_,this,Nat.mod_lt _ n0⟩
      obtain ⟨j,hj,hjl⟩:∃j:Nat,((b.toNat / 4:Nat):Int).tmod (l.sites.length:Int)=(j:Int)∧j<l.sites.length:=⟨_,rem_nat,Nat.mod_lt _ n0⟩
      have hir:i<l.roads.length:=by omega
      have hik:i<k:=by omega
      have hm:l.sites.getD i default∈l.sites:=by rw [getD_lt _ _ _ hil];exact List.getElem_mem hil
      have hsi:=hv.site _ hm
      have hm2:l.roads.getD i default∈l.roads:=by rw [getD_lt _ _ _ hir];exact List.getElem_mem hir
      have hwl:=(hv.road _ hm2).1
      have hjw:j<(l.roads.getD i default).length:=by omega
      have hwj:=(hv.road _ hm2).2 ((l.roads.getD i default).getD j default) (by rw [getD_lt _ _ _ hjw];exact List.getElem_mem hjw)
      have t5:0≤b.tmod 5∧b.tmod 5≤4:=by rw [Int.tmod_eq_emod_of_nonneg y0];omega
      have t7:0≤b.tmod 7∧b.tmod 7≤6:=by rw [Int.tmod_eq_emod_of_nonneg y0];omega
      have hw5:IntKind.i64.wrap ((l.sites.getD i default).rent-b.tmod 5)=(l.sites.getD i default).rent-b.tmod 5:=wrapB (by omega) (by omega)
      have hw7:IntKind.i64.wrap ((l.roads.getD i default).getD j default-b.tmod 7)=(l.roads.getD i default).getD j default-b.tmod 7:=wrapB (by omega) (by omega)
      have hlw:((i:Nat):Int)<((k:Nat):Int):=by omega
      have hTi:getH (tlG l.roads k) ((rdG (l.roads.take i)).length+1) = .arr false 1 1 ((l.roads.getD i default).map Row.row):=by rw [hk'];exact tlG_at (by omega) (by omega)
      have hTj:∀i,i<k→getH (tlG l.roads k) ((rdG (l.roads.take i)).length+1) = .arr false 1 1 ((l.roads.getD i default).map Row.row):=fun i hi=>by rw [hk'];exact tlG_at (by omega) (by omega)
      have hpt:=part_nth i (csG l.roads k) _ (csG_nth l.roads (i:=i) k hik)
      have hct:=csG_len l.roads k
      have hlen:(tlG l.roads k).length=3*k:=tlG_len (by omega)
      have hci:(rdG (l.roads.take i)).length=3*i:=rdG_takeLen (by omega)
      have hck:(rdG (l.roads.take k')).length=3*k':=rdG_takeLen (by omega)
      obtain ⟨sy,hsy⟩:∃sy,l.sites.set i ⟨(l.sites.getD i default).fresh,(l.sites.getD i default).second,max 0 ((l.sites.getD i default).rent-b.tmod 5)⟩=sy:=⟨_,rfl⟩
      obtain ⟨ry,hry⟩:∃ry,l.roads.set i ((l.roads.getD i default).set j (max 0 ((l.roads.getD i default).getD j default-b.tmod 7)))=ry:=⟨_,rfl⟩
      have hY:cheapL l i j (b.tmod 5) (b.tmod 7)=⟨l.last,l.home,l.purse,l.bad,l.rest,sy,ry⟩:=by rw [←hsy,←hry];rfl
      have hsl:sy.length=l.sites.length:=by rw [←hsy,List.length_set]
      obtain ⟨T,hT⟩:∃T,tlG l.roads k=T:=⟨_,rfl⟩
      rw [hT] at hTc hTi hlen
      obtain ⟨T',hT'⟩:∃T',setH T ((rdG (l.roads.take i)).length+1) (.arr false 1 1 (((l.roads.getD i default).set j (max 0 ((l.roads.getD i default).getD j default-b.tmod 7))).map Row.row))=T':=⟨_,rfl⟩
      have hTc':getH T' (rdG (l.roads.take k')).length = .cells (csG l.roads k):=by
        rw [←hT',getH_setH (by omega),if_neg (by omega)];exact hTc
      obtain ⟨F,hF⟩:=frz_five (rs:=l.roads) (ws:=ry) (T:=T') (by rw [←hry,List.length_set])
        (fun m hm=>by
          rw [←hry]
          simp only [List.getD_eq_getElem?_getD,List.getElem?_set]
          by_cases e:i=m
          · subst e;rw [if_pos rfl,if_pos hir];simp
          · rw [if_neg e])
        (fun m hm=>by
          refine ⟨false,?_⟩
          rw [←hT',getH_setH (by omega),rdG_takeLen (show m≤l.roads.length by omega),hci]
          by_cases e:m=i
          · subst e
            rw [if_pos rfl,←hry]
            have:(l.roads.set m ((l.roads.getD m default).set j (max 0 ((l.roads.getD m default).getD j default-b.tmod 7)))).getD m default=(l.roads.getD m default).set j (max 0 ((l.roads.getD m default).getD j default-b.tmod 7)):=by
              rw [getD_lt _ _ _ (by rw [List.length_set];omega),List.getElem_set_self]
            rw [this]
          · rw [if_neg (by omega),←rdG_takeLen (show m≤l.roads.length by omega),←hT,hTj m (by omega),←hry]
            have:(l.roads.set i ((l.roads.getD i default).set j (max 0 ((l.roads.getD i default).getD j default-b.tmod 7)))).getD m default=l.roads.getD m default:=by
              simp only [List.getD_eq_getElem?_getD,List.getElem?_set]
              rw [if_neg (fun h=>e h.symm)]
            rw [this])
      rw [←hkn] at hF
      have hcl:=csG_len l.roads k
      generalize csG l.roads k=cs at *
      generalize (rdG (l.roads.take k')).length=ck at *
      generalize (rdG (l.roads.take i)).length=ci at *
      simp only [go_sem,h1,hT,hTc,hTi,hT',hTc',hF,hpt,hcl,e2,hn0,hi,hj,hwb,hwq,hil,hlw,nth_site hil,nth_row hjw,setNth_site,setNth_map,hw5,hw7,hsy,hsl,hjw,C.obj]
      generalize setH (F _ _ _ _ _) _ _=T2
      clear hF hTc hTc' hTi hTj hT' hpt hcl e2
      obtain ⟨p1,p2,p3⟩:=planN_ok hv (which.toNat % plansN l)
      have hip:=isPlan_of hv p1 p2
      change AreSites l (planOf l which) at p1
      change (planOf l which).length=_ at p2
      change (planOf l which).length≤100 at p3
      change isPlan l (planOf l which)=true at hip
      obtain ⟨t1,t2⟩:=wth_is hv (wthOf_mem hv bad)
      generalize planOf l which=p at *
      generalize wthOf l bad=w at *
      have hpB:p.length<Big:=Nat.lt_of_le_of_lt p3 (by decide)
      have hwB:w.length<Big:=Nat.lt_of_le_of_lt t2 (by decide)
      have hw1:IntKind.i64.wrap (l.last+1)=l.last+1:=wrapB (by omega) (by omega)
      -- the two other lands
      have hX:(restL l (max 1 (l.rest-b.tmod 3))).Valid:=rest_valid hv (by omega) (by omega)
      have kX:=rest_kind hv (r:=max 1 (l.rest-b.tmod 3)) (by omega)
      have hYv:(cheapL l i j (b.tmod 5) (b.tmod 7)).Valid:=cheap_valid hv hil hjl t5.1 t7.1
      have kY:=cheap_kind hv hil hjl t5.1 t7.1
      rw [hY] at hYv kY
      have hX0:=check_valid hX
      have hY0:=check_valid hYv
      have hXs:(restL l (max 1 (l.rest-b.tmod 3))).Small:=⟨hs.sites,hs.roads,hs.road⟩
      have hYs:(⟨l.last,l.home,l.purse,l.bad,l.rest,sy,ry⟩:Land).Small:=⟨by show sy.length≤6;omega,by show ry.length≤6;rw [←hry,List.length_set];omega,fun r hr=>by
        have:=(hYv.road r hr).1
        have:r.length=sy.length:=this
        omega⟩
      have mX:=kind_best kX hv hX
      have mY:=kind_best kY hv hYv
      have nX:¬profN (restL l (max 1 (l.rest-b.tmod 3)))<profN l:=by omega
      have nY:¬profN (⟨l.last,l.home,l.purse,l.bad,l.rest,sy,ry⟩:Land)<profN l:=by omega
      have cL:=fun {Q:V→Prop}=>P19 (g1:=g1) (g2:=g2) hs (Q:=Q)
      have cX:∀{Q:V→Prop},CallP tab 10 [.agg [.int .i64 l.last,.int .i64 l.home,.int .i64 l.purse,.int .i64 l.bad,.int .i64 (max 1 (l.rest-b.tmod 3)),L g1 l.sites,L g2 l.roads]] Q↔Q (.agg [.int .i64 l.last,.int .i64 l.home,.int .i64 l.purse,.int .i64 l.bad,.int .i64 (max 1 (l.rest-b.tmod 3)),L (false,false) l.sites,L (false,false) l.roads]):=fun {Q}=>P19 hXs
      have cY:∀{Q:V→Prop},CallP tab 10 [.agg [.int .i64 l.last,.int .i64 l.home,.int .i64 l.purse,.int .i64 l.bad,.int .i64 l.rest,L (false,false) sy,L (false,false) ry]] Q↔Q (.agg [.int .i64 l.last,.int .i64 l.home,.int .i64 l.purse,.int .i64 l.bad,.int .i64 l.rest,L (false,false) sy,L (false,false) ry]):=fun {Q}=>P19 hYs
      have rL:=fun {Q:V→Prop}=>Pprofits (g1:=g1) (g2:=g2) hs hs.fits h0 (Q:=Q)
      have rX:∀{Q:V→Prop},CallP tab 11 [.agg [.int .i64 l.last,.int .i64 l.home,.int .i64 l.purse,.int .i64 l.bad,.int .i64 (max 1 (l.rest-b.tmod 3)),L g1 l.sites,L g2 l.roads]] Q↔Q (.tup [.c (.int .i64 (profN (restL l (max 1 (l.rest-b.tmod 3))))),.c (.int .i64 (profS (restL l (max 1 (l.rest-b.tmod 3))))),.c (.bool true)]):=fun {Q}=>Pprofits hXs hXs.fits hX0
      have rY:∀{Q:V→Prop},CallP tab 11 [.agg [.int .i64 l.last,.int .i64 l.home,.int .i64 l.purse,.int .i64 l.bad,.int .i64 l.rest,L (false,false) sy,L (false,false) ry]] Q↔Q (.tup [.c (.int .i64 (profN (⟨l.last,l.home,l.purse,l.bad,l.rest,sy,ry⟩:Land))),.c (.int .i64 (profS (⟨l.last,l.home,l.purse,l.bad,l.rest,sy,ry⟩:Land))),.c (.bool true)]):=fun {Q}=>Pprofits hYs hYs.fits hY0
      have qL:=fun {Q:V→Prop}=>P18 (l:=l) (g1:=(false,false)) (g2:=(false,false)) (g3:=(false,false)) (g4:=(false,false)) (plan:=p) (ws:=w) hs.fits hpB hwB (Q:=Q)
      have qX:∀{Q:V→Prop},CallP tab 9 [.agg [.int .i64 l.last,.int .i64 l.home,.int .i64 l.purse,.int .i64 l.bad,.int .i64 (max 1 (l.rest-b.tmod 3)),L (false,false) l.sites,L (false,false) l.roads],.c (L (false,false) p),.c (L (false,false) w)] Q↔Q (playR (restL l (max 1 (l.rest-b.tmod 3))) p w):=fun {Q}=>P18 hXs.fits hpB hwB
      have qY:∀{Q:V→Prop},CallP tab 9 [.agg [.int .i64 l.last,.int .i64 l.home,.int .i64 l.purse,.int .i64 l.bad,.int .i64 l.rest,L (false,false) sy,L (false,false) ry],.c (L (false,false) p),.c (L (false,false) w)] Q↔Q (playR (⟨l.last,l.home,l.purse,l.bad,l.rest,sy,ry⟩:Land) p w):=fun {Q}=>P18 hYs.fits hpB hwB
      have hipX:isPlan (restL l (max 1 (l.rest-b.tmod 3))) p=true:=hip
      have hipY:isPlan (⟨l.last,l.home,l.purse,l.bad,l.rest,sy,ry⟩:Land) p=true:=isPlan_of hYv (fun x hx=>by
        have:=p1 x hx
        show 0≤x∧x<(sy.length:Int)
        omega) p2
      have tX:isWeather (restL l (max 1 (l.rest-b.tmod 3))) w (l.last+1)=true:=t1
      have tY:isWeather (⟨l.last,l.home,l.purse,l.bad,l.rest,sy,ry⟩:Land) w (l.last+1)=true:=t1
      have wX:IntKind.i64.wrap ((restL l (max 1 (l.rest-b.tmod 3))).last+1)=l.last+1:=hw1
      cases hfa:failAt l w p with
      | some q=>
        have eL:playR l p w = .tup [.c .nils,.c (.int .i64 9)]:=by simp only [playR,h0,hip,hw1,t1,hfa,if_true]
        obtain ⟨dX,gX,eX⟩:=playR_tup (l:=restL l (max 1 (l.rest-b.tmod 3))) (p:=p) (w:=w)
        obtain ⟨dY,gY,eY⟩:=playR_tup (l:=(⟨l.last,l.home,l.purse,l.bad,l.rest,sy,ry⟩:Land)) (p:=p) (w:=w)
        rw [eL] at qL
        rw [eX] at qX
        rw [eY] at qY
        simp only [go_sem,cL,cX,cY,rL,rX,rY,qL,qX,qY,P20 (show p.length≤1000 by omega),P20 (show w.length≤1000 by omega),nX,nY,P17]
      | none=>
        obtain ⟨fX,_,yX⟩:=kind_fail kX hv hX p1 p3 hfa
        obtain ⟨fY,_,yY⟩:=kind_fail kY hv hYv p1 p3 hfa
        have eL:playR l p w = .tup [.c (L (false,false) ((List.range p.length).map (yrAt l w p))),.c (.int .i64 0)]:=by simp only [playR,h0,hip,hw1,t1,hfa,if_true]
        have eX:playR (restL l (max 1 (l.rest-b.tmod 3))) p w = .tup [.c (L (false,false) ((List.range p.length).map (yrAt (restL l (max 1 (l.rest-b.tmod 3))) w p))),.c (.int .i64 0)]:=by simp only [playR,hX0,hipX,wX,tX,fX,if_true]
        have eY:playR (⟨l.last,l.home,l.purse,l.bad,l.rest,sy,ry⟩:Land) p w = .tup [.c (L (false,false) ((List.range p.length).map (yrAt (⟨l.last,l.home,l.purse,l.bad,l.rest,sy,ry⟩:Land) w p))),.c (.int .i64 0)]:=by simp only [playR,hY0,hipY,hw1,tY,fY,if_true]
        rw [eL] at qL
        rw [eX] at qX
        rw [eY] at qY
        have zL:=fun k hk=>@yr_getD l w p k hk
        have zX:=fun k hk=>@yr_getD (restL l (max 1 (l.rest-b.tmod 3))) w p k hk
        have zY:=fun k hk=>@yr_getD (⟨l.last,l.home,l.purse,l.bad,l.rest,sy,ry⟩:Land) w p k hk
        have sL:((List.range p.length).map (yrAt l w p)).length=p.length:=by simp
        have sX:((List.range p.length).map (yrAt (restL l (max 1 (l.rest-b.tmod 3))) w p)).length=p.length:=by simp
        have sY:((List.range p.length).map (yrAt (⟨l.last,l.home,l.purse,l.bad,l.rest,sy,ry⟩:Land) w p)).length=p.length:=by simp
        generalize (List.range p.length).map (yrAt l w p)=aL at *
        generalize (List.range p.length).map (yrAt (restL l (max 1 (l.rest-b.tmod 3))) w p)=aX at *
        generalize (List.range p.length).map (yrAt (⟨l.last,l.home,l.purse,l.bad,l.rest,sy,ry⟩:Land) w p)=aY at *
        have sL1:(aL.length:Int)=l.last+1:=by omega
        have sX1:(aX.length:Int)=l.last+1:=by omega
        have sY1:(aY.length:Int)=l.last+1:=by omega
        simp only [go_sem,cL,cX,cY,rL,rX,rY,qL,qX,qY,P20 (show p.length≤1000 by omega),P20 (show w.length≤1000 by omega),nX,nY,hw1,sL1,sX1,sY1]
        refine RX_for p.length (fun k=>[(31,.c (.int .i64 k))]) (fun _=>[.cells [.int .i64 l.last,.int .i64 l.home,.int .i64 l.purse,.int .i64 l.bad,.int .i64 l.rest,L g1 l.sites,L g2 l.roads],.cells [.int .i64 l.last,.int .i64 l.home,.int .i64 l.purse,.int .i64 l.bad,.int .i64 (max 1 (l.rest-b.tmod 3)),L g1 l.sites,L g2 l.roads],.cells [.int .i64 l.last,.int .i64 l.home,.int .i64 l.purse,.int .i64 l.bad,.int .i64 l.rest,L (false,false) sy,L (false,false) ry],.arr true 1 3 (sy.map Row.row),.none]++T2) (fun _=>True) trivial (by simp only [go_sem]) ?_
        intro m hmk _
        by_cases h2:m<p.length
        · have hm2:(m:Int)<l.last+1:=by omega
          have z1:=zL m h2
          have z2:=zX m h2
          have z3:=zY m h2
          obtain ⟨u1,u2⟩:=yX m h2
          obtain ⟨v1,v2⟩:=yY m h2
          have v1':=v1.symm
          have u3:¬(yrAt (restL l (max 1 (l.rest-b.tmod 3))) w p m).crop<(yrAt l w p m).crop:=by omega
          have v3:¬(yrAt (⟨l.last,l.home,l.purse,l.bad,l.rest,sy,ry⟩:Land) w p m).money<(yrAt l w p m).money:=by omega
          simp (maxSteps:=2000000) only [go_sem,h2,hm2,sL1,sX1,sY1,z1,z2,z3,u3,v3,v1',wrap_succ h2 hpB,atI_nat]
        · have hm2:¬(m:Int)<l.last+1:=by omega
          simp only [go_sem,hm2,sL1,P17]
  · simp only [go_sem,f3,P37s,hr,P17]
end Am.Mv
