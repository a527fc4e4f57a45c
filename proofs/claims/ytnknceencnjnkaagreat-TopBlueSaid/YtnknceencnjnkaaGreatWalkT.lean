/-
  A part of the proof: the texts T3, T4, T5 of this seat, joined.
-/
import Derived.Test.YtnknceencnjnkaaGreatWalkF
import Derived.Test.YtnknceencnjnkaaGreatWalkR
import Derived.KernelRfl
namespace Am.Vt
open Go Am
set_option maxRecDepth 1000000
set_option maxHeartbeats 4000000
set_option linter.unusedSimpArgs false
set_option linter.unusedVariables false
theorem pour1 : PlayC ⟨[⟨40,40⟩,⟨60,60⟩],[[10,10]],[]⟩ [40,60] = .tup [.c (L (false,false) [(50:Int)]),.c (.int .i64 0)]:=by kernel_rfl
theorem pour1C {t1 t2 t3:Bool} {Q:V→Prop}:CallP tab 12 [.agg [C.lst t1 [[.int .i64 40,.int .i64 40],[.int .i64 60,.int .i64 60]],.lst t2 [[.lst [[.int .i64 10],[.int .i64 10]]]],.nils],.c (.lst t3 [[.int .i64 40],[.int .i64 60]])] Q↔Q (.tup [.c (.lst false [[.int .i64 50]]),.c (.int .i64 0)]):=by
  have h:=kPlay (c:=⟨[⟨40,40⟩,⟨60,60⟩],[[10,10]],[]⟩) (g1:=(false,t1)) (g2:=(false,t2)) (g3:=(true,false)) ⟨by simp,by simp,by simp,by simp⟩ (g:=(false,t3)) (l:=[40,60]) (by decide) (Q:=Q)
  rw [pour1] at h
  exact h
theorem pour2 : ShadeR ⟨0,5,⟨0,0⟩,⟨150,150⟩,0,0,[⟨0,0⟩],[⟨0,0,0⟩],[0],[]⟩ 0 1 = .tup [.agg [.int .i64 15,.int .i64 15],.c (.int .i64 0)]:=by kernel_rfl
theorem pour2C {t1 t2 t3:Bool} {Q:V→Prop}:CallP tab 20 [.agg [C.int .i64 0,.int .i64 5,.int .i64 0,.int .i64 0,.int .i64 150,.int .i64 150,.int .i64 0,.int .i64 0,.lst t1 [[.int .i64 0,.int .i64 0]],.lst t2 [[.int .i64 0,.int .i64 0,.int .i64 0]],.lst t3 [[.int .i64 0]],.nils],.c (.int .i64 0),.c (.int .i64 1)] Q↔Q (.tup [.agg [.int .i64 15,.int .i64 15],.c (.int .i64 0)]):=by
  have h:=cShade (v:=⟨0,5,⟨0,0⟩,⟨150,150⟩,0,0,[⟨0,0⟩],[⟨0,0,0⟩],[0],[]⟩) (g1:=(false,t1)) (g2:=(false,t2)) (g3:=(false,t3)) (g4:=(true,false)) ⟨by simp,by simp,by simp,by simp⟩ (day:=0) (many:=1) (Q:=Q)
  rw [pour2] at h
  exact h
theorem poured_val : Val tab 8 [] (.c (.bool true)):=by
  refine Val_X (fn:=f8) rfl ?_
  simp only [go_sem,f8,pour1C,pour2C,disj_nil]
end Am.Vt
namespace Am.Vt
open Go Am
set_option maxRecDepth 1000000
set_option maxHeartbeats 4000000
set_option linter.unusedSimpArgs false
set_option linter.unusedVariables false
variable {g1 g2 g3 h1 h2 h3 h4:Bool × Bool} {c:Cellar} {v:Vat}
abbrev bvC (h1 h2 h3:Bool × Bool) (v:Vat) (a b:Int):V:=.agg [.int .i64 v.last,.int .i64 v.band,.int .i64 v.start.lo,.int .i64 v.start.hi,.int .i64 a,.int .i64 b,.int .i64 v.gain,.int .i64 v.take,L h1 v.drift,L h2 v.feeds,L h3 v.dips,.nils]
abbrev bwC (v:Vat) (a b:Int):V:=.agg [.int .i64 v.last,.int .i64 v.band,.int .i64 v.start.lo,.int .i64 v.start.hi,.int .i64 a,.int .i64 b,.int .i64 v.gain,.int .i64 v.take,L (false,false) v.drift,L (false,false) v.feeds,L (false,false) v.dips,.lst false []]
theorem bThin {a b:Int} {Q:V→Prop}:CallP tab 6 [bvC h1 h2 h3 v a b] Q↔Q (.c (.bool (thinB (blueV v a b)))):=lThin (v:=blueV v a b) (g4:=(true,false))
theorem bFault {a b:Int} (hf:v.Fits) {Q:V→Prop}:CallP tab 7 [bvC h1 h2 h3 v a b] Q↔Q (.c (.int .i64 (checkVat (blueV v a b)))):=rFault (v:=blueV v a b) (g4:=(true,false)) ⟨hf.drift,hf.feeds,hf.dips,Nat.zero_le _⟩
theorem bVat {a b:Int} (hs:v.Small) {Q:V→Prop}:CallP tab 16 [bvC h1 h2 h3 v a b] Q↔Q (bwC v a b):=lVat (v:=blueV v a b) (g4:=(true,false)) ⟨hs.drift,hs.feeds,hs.dips,Nat.zero_le _⟩
theorem bMany {a b:Int} (hy:checkVat (blueV v a b)=0) {Q:V→Prop}:CallP tab 14 [bvC h1 h2 h3 v a b] Q↔Q (.c (.int .i64 (manyF (rangesL (blueV v a b))))):=rManyV (v:=blueV v a b) (g4:=(true,false)) (valid_of hy)
theorem bNth {a b:Int} (hy:checkVat (blueV v a b)=0) {n:Nat} (hn:n≤100000) {Q:V→Prop}:CallP tab 13 [bvC h1 h2 h3 v a b,.c (.int .i64 n)] Q↔Q (truthG (false,false) (nthT (blueV v a b) n)):=rNth (v:=blueV v a b) (g4:=(true,false)) (valid_of hy) hn
theorem b_fits {a b:Int} (hs:v.Small):(blueV v a b).Fits:=⟨by have:=hs.drift;exact Nat.le_trans this (by decide),by have:=hs.feeds;exact Nat.le_trans this (by decide),by have:=hs.dips;exact Nat.le_trans this (by decide),Nat.zero_le _⟩
theorem bBounds {a b:Int} (hs:v.Small) (hx:checkVat (blueV v a b)=0) {Q:V→Prop}:CallP tab 19 [bwC v a b] Q↔Q (.tup [.c (L (false,false) (boundsL (blueV v a b))),.c (.int .i64 0)]):=by
  have h:=cBounds (v:=blueV v a b) (g1:=(false,false)) (g2:=(false,false)) (g3:=(false,false)) (g4:=(false,false)) (b_fits hs) (Q:=Q)
  rw [BoundsR,if_pos (blue_ask hx)] at h
  exact h
theorem bShade {a b:Int} (hs:v.Small) (hx:checkVat (blueV v a b)=0) {d m:Nat} (hd:inR d 0 v.last=true) (hm:inR m 0 20=true) {Q:V→Prop}:CallP tab 20 [bwC v a b,.c (.int .i64 d),.c (.int .i64 m)] Q↔Q (.tup [.agg [.int .i64 (shadeRg (blueV v a b) d m).lo,.int .i64 (shadeRg (blueV v a b) d m).hi],.c (.int .i64 0)]):=by
  have h:=cShade (v:=blueV v a b) (g1:=(false,false)) (g2:=(false,false)) (g3:=(false,false)) (g4:=(false,false)) (b_fits hs) (day:=d) (many:=m) (Q:=Q)
  rw [ShadeR,show inR d 0 (blueV v a b).last=true from hd,hm,Bool.and_self,if_pos (blue_ask hx)] at h
  exact h
theorem bPlay {a b:Int} {t:Truth} (hs:v.Small) (hx:checkVat (blueV v a b)=0) (hT:IsT (blueV v a b) t) {Q:V→Prop}:CallP tab 15 [bwC v a b,truthG (false,false) t] Q↔Q (.tup [.c (L (false,false) (playL v t)),.c (.int .i64 0)]):=by
  have h:=cPlay (v:=blueV v a b) (t:=t) (g1:=(false,false)) (g2:=(false,false)) (g3:=(false,false)) (g4:=(false,false)) (gt:=(false,false)) (b_fits hs) (Q:=Q)
  have e:playL (blueV v a b) t=playL v t:=by unfold playL;simp only [blue_st];rfl
  rw [PlayR,if_neg (by rw [hx];simp),if_neg (by rw [listed_iff.2 hT];simp),e] at h
  exact h
theorem bShades {a b:Int} {t:Truth} (hs:v.Small) (hx:checkVat (blueV v a b)=0) (hT:IsT (blueV v a b) t) {d m:Nat} (hd:inR d 0 v.last=true) (hm:inR m 0 20=true) {Q:V→Prop}:CallP tab 18 [bwC v a b,truthG (false,false) t,.c (.int .i64 d),.c (.int .i64 m)] Q↔Q (.tup [.c (L (false,false) (shadesL v (stAt v t (d+1)) m)),.c (.int .i64 0)]):=by
  have h:=cShades (v:=blueV v a b) (t:=t) (g1:=(false,false)) (g2:=(false,false)) (g3:=(false,false)) (g4:=(false,false)) (gt:=(false,false)) (b_fits hs) (day:=(d:Int)) (many:=(m:Int)) (Q:=Q)
  rw [ShadesR,if_neg (by rw [hx];simp),listed_iff.2 hT,show inR d 0 (blueV v a b).last=true from hd,hm] at h
  have e:shadesL (blueV v a b) (stAt (blueV v a b) t (((d:Int)).toNat+1)) ((m:Int)).toNat=shadesL v (stAt v t (d+1)) m:=by rw [blue_st];rfl
  rw [e] at h
  exact h
end Am.Vt
namespace Am.Vt
open Go Am
set_option maxRecDepth 1000000
set_option maxHeartbeats 8000000
set_option linter.unusedSimpArgs false
set_option linter.unusedVariables false
variable {g1 g2 g3 h1 h2 h3 h4:Bool × Bool} {c:Cellar} {v:Vat}
theorem TopBlue_val {which other at_ day dips:Int} (hw0:0≤which) (hw1:which≤65535) (ho0:0≤other) (ho1:other≤65535) (a0:0≤at_) (a1:at_≤255) (d0:0≤day) (d1:day≤255) (n0:0≤dips) (n1:dips≤255) :
    Val tab 3 [cellV g1 g2 g3 c,vatV h1 h2 h3 h4 v,.c (.int .u16 which),.c (.int .u16 other),.c (.int .u8 at_),.c (.int .u8 day),.c (.int .u8 dips)] (.c (.bool true)):=by
  obtain ⟨wn,rfl⟩:∃n:Nat,which=n:=⟨which.toNat,by omega⟩
  obtain ⟨on,rfl⟩:∃n:Nat,other=n:=⟨other.toNat,by omega⟩
  obtain ⟨an,rfl⟩:∃n:Nat,at_=n:=⟨at_.toNat,by omega⟩
  obtain ⟨dn,rfl⟩:∃n:Nat,day=n:=⟨day.toNat,by omega⟩
  obtain ⟨mn,rfl⟩:∃n:Nat,dips=n:=⟨dips.toNat,by omega⟩
  have pv:∀{Q:V→Prop},CallP tab 8 [] Q↔Q (.c (.bool true)):=fun {Q}=>CallP_of poured_val
  refine Val_X (fn:=f3) rfl ?_
  have kT5:=fun {Q:V→Prop}=>lThin5 (g1:=g1) (g2:=g2) (g3:=g3) (c:=c) (Q:=Q)
  cases ht:thinC c with
  | false=>simp only [go_sem,f3,kT5,ht,pv,disj_nil]
  | true=>
  obtain ⟨hsm,hmy⟩:=thin_yes ht
  have hcf:=small_fits hsm
  have kF:=fun {Q:V→Prop}=>qFault (g1:=g1) (g2:=g2) (g3:=g3) hcf (Q:=Q)
  by_cases hc0:¬checkCell c=0
  · simp only [go_sem,f3,kT5,ht,kF,hc0,pv,disj_nil]
  have hc0:=Decidable.not_not.1 hc0
  have hcv:=cell_valid hc0
  have hmy:=hmy hc0
  by_cases hk0:(c.casks.length:Int)=0
  · simp only [go_sem,f3,kT5,ht,kF,hc0,hk0,pv,disj_nil]
  have kTv:=fun {Q:V→Prop}=>lThin (g1:=h1) (g2:=h2) (g3:=h3) (g4:=h4) (v:=v) (Q:=Q)
  cases htv:thinB v with
  | false=>simp only [go_sem,f3,kT5,ht,kF,hc0,hk0,kTv,htv,pv,disj_nil]
  | true=>
  have hs:=thin_small htv
  have hf:=hs.fits
  have kFv:=fun {Q:V→Prop}=>rFault (g1:=h1) (g2:=h2) (g3:=h3) (g4:=h4) hf (Q:=Q)
  by_cases hv0:¬checkVat v=0
  · simp only [go_sem,f3,kT5,ht,kF,hc0,hk0,kTv,htv,kFv,hv0,pv,disj_nil]
  have hv0:=Decidable.not_not.1 hv0
  have hv:=valid_of hv0
  have kTr:=fun {Q:V→Prop}=>qTruths (g1:=g1) (g2:=g2) (g3:=g3) hcv (by omega) (Q:=Q)
  have kC:=fun {Q:V→Prop}=>lCellar (g1:=g1) (g2:=g2) (g3:=g3) hcf (Q:=Q)
  have kB:=fun {Q:V→Prop}=>kBounds (g1:=(false,false)) (g2:=(false,false)) (g3:=(false,false)) hcf (Q:=Q)
  obtain ⟨LQ,hLQ⟩:∃x,x=truthsQ c (manyQ c.heaps):=⟨_,rfl⟩
  rw [←hLQ] at kTr
  rcases (ask_nil hcv hc0).symm with ⟨ha,hnil⟩ | ⟨ha,hne⟩
  · have hB:BoundsC c = .tup [.c .nils,.c .nils,.c (.int .i64 11)]:=by rw [BoundsC,if_neg (by rw [ha];decide),ha]
    rw [hB] at kB
    rw [←hLQ] at hnil
    subst hnil
    simp only [go_sem,f3,kT5,ht,kF,hc0,hk0,kTv,htv,kFv,hv0,kTr,kC,kB,List.length_nil,pv,disj_nil]
  have hB:BoundsC c = .tup [.c (L (false,false) (heapsB c)),.c (L (false,false) (casksB c)),.c (.int .i64 0)]:=by rw [BoundsC,if_pos ha]
  rw [hB] at kB
  have hLne:LQ≠[]:=by rw [hLQ];exact fun h=>hne ((truths_nil hcv).2 h)
  have hLl:0<LQ.length:=List.length_pos_iff.2 hLne
  have hLz:¬(LQ.length:Int)=0:=by omega
  have bl2:=show (casksB c).length=c.casks.length by simp [casksB]
  have hc3:=hcv.casks3
  have hn3:=hcv.n3
  -- the cask
  obtain ⟨k,hk⟩:∃k,k=an % c.casks.length:=⟨_,rfl⟩
  have hkl:k<c.casks.length:=by rw [hk];exact Nat.mod_lt _ (by omega)
  have e1:IntKind.i64.wrap (an:Int)=(an:Int):=wrapB (by omega) (by omega)
  have e2:(an:Int).tmod ((c.casks.length:Nat):Int)=(k:Int):=by rw [hk];rfl
  obtain ⟨r,hr⟩:∃r,r=bdsC c (c.heaps.length+k):=⟨_,rfl⟩
  have hrg:(casksB c).getD k default=r:=by rw [getD_lt _ _ _ (by omega),hr];simp [casksB]
  obtain ⟨q1,q2,q3,q4⟩:=cask_bd hcv hne hkl
  rw [←hr] at q1 q2 q3 q4
  have r1:¬r.lo<0:=by omega
  have r2:¬r.lo>r.hi:=by omega
  have r3:¬r.hi>100:=by omega
  -- the truth
  obtain ⟨n,hn⟩:∃n,n=wn % LQ.length:=⟨_,rfl⟩
  have hnl:n<LQ.length:=by rw [hn];exact Nat.mod_lt _ hLl
  have e3:IntKind.i64.wrap (wn:Int)=(wn:Int):=wrapB (by omega) (by omega)
  have e4:(wn:Int).tmod ((LQ.length:Nat):Int)=(n:Int):=by rw [hn];rfl
  obtain ⟨l,hl⟩:∃l,l=LQ.getD n default:=⟨_,rfl⟩
  have hlm:l∈truthsQ c (manyQ c.heaps):=by rw [hl,←hLQ];exact getD_mem hnl
  obtain ⟨hl1,hl2⟩:=(mem_truthsQ hcv).1 hlm
  have hll:=(listed_in.1 hl1).1
  have b8:l.length*8≤2^40:=by omega
  have kP:=fun {g:Bool × Bool} {Q:V→Prop}=>kPlay (g1:=(false,false)) (g2:=(false,false)) (g3:=(false,false)) hcf (g:=g) (l:=l) (show l.length<Big by unfold Big;omega) (Q:=Q)
  have hPC:PlayC c l = .tup [.c (L (false,false) (playC c l)),.c (.int .i64 0)]:=by rw [PlayC,if_pos hc0,if_pos hl1]
  rw [hPC] at kP
  have pcl:(playC c l).length=c.casks.length:=by simp [playC]
  obtain ⟨s,hsv⟩:∃s,s=meanW (padK l) (c.casks.getD k default):=⟨_,rfl⟩
  have hps:(playC c l).getD k default=s:=by rw [getD_lt _ _ _ (by omega),hsv];simp [playC]
  have hsb:=q4 l hl1 hl2
  rw [←hsv] at hsb
  have m1:IntKind.i64.wrap (3*r.lo)=3*r.lo:=wrapB (by omega) (by omega)
  have m2:IntKind.i64.wrap (3*r.hi)=3*r.hi:=wrapB (by omega) (by omega)
  have m3:IntKind.i64.wrap (3*s)=3*s:=wrapB (by omega) (by omega)
  have bT:=fun {Q:V→Prop}=>bThin (h1:=h1) (h2:=h2) (h3:=h3) (v:=v) (a:=3*r.lo) (b:=3*r.hi) (Q:=Q)
  have bF:=fun {Q:V→Prop}=>bFault (h1:=h1) (h2:=h2) (h3:=h3) (v:=v) (a:=3*r.lo) (b:=3*r.hi) hf (Q:=Q)
  cases hxt:thinB (blueV v (3*r.lo) (3*r.hi)) with
  | false=>
    simp (maxSteps:=1000000) only [go_sem,f3,kT5,ht,kF,hc0,hk0,kTv,htv,kFv,hv0,kTr,kC,kB,hLz,bl2,e1,e2,hkl,hrg,r1,r2,r3,e3,e4,hnl,atI_nat,←hl,b8,kP,pcl,m1,m2,bT,hxt,pv,disj_nil]
  | true=>
  by_cases hx:¬checkVat (blueV v (3*r.lo) (3*r.hi))=0
  · simp (maxSteps:=1000000) only [go_sem,f3,kT5,ht,kF,hc0,hk0,kTv,htv,kFv,hv0,kTr,kC,kB,hLz,bl2,e1,e2,hkl,hrg,r1,r2,r3,e3,e4,hnl,atI_nat,←hl,b8,kP,pcl,m1,m2,bT,hxt,bF,hx,pv,disj_nil]
  have hx:=Decidable.not_not.1 hx
  have hAB:3*r.lo≤3*r.hi:=by omega
  have hy:=blue_check hx (Int.le_refl _) (Int.le_refl _) hAB
  have hz:=blue_check hx hAB (Int.le_refl _) (Int.le_refl _)
  have hyv:=valid_of hy
  have hxv:=valid_of hx
  have v1:=hv.drift
  have v4:=hv.last7
  have v0:=hv.last0
  have kM:=fun {Q:V→Prop}=>bMany (h1:=h1) (h2:=h2) (h3:=h3) hy (Q:=Q)
  obtain ⟨my,hmyd⟩:∃x,x=manyF (rangesL (blueV v (3*r.lo) (3*r.lo))):=⟨_,rfl⟩
  rw [←hmyd] at kM
  have hmp:1≤my:=by
    have h1:=many_prod (rs:=rangesL (blueV v (3*r.lo) (3*r.lo))) hyv.lohi
    have h2:=prodN_pos hyv.lohi
    rw [←hmyd] at h1
    omega
  have hmz:¬(my:Int)=0:=by omega
  have e5:IntKind.i64.wrap (on:Int)=(on:Int):=wrapB (by omega) (by omega)
  have e6:(on:Int).tmod (my:Int)=((on % my:Nat):Int):=rfl
  have hon:on % my≤on:=Nat.mod_le _ _
  obtain ⟨nn,hnn⟩:∃x,x=on % my:=⟨_,rfl⟩
  rw [←hnn] at e6 hon
  have kN:=fun {Q:V→Prop}=>bNth (h1:=h1) (h2:=h2) (h3:=h3) hy (n:=nn) (by omega) (Q:=Q)
  have hT0:=nthT_isT hyv (n:=nn)
  obtain ⟨t0,ht0⟩:∃x,x=nthT (blueV v (3*r.lo) (3*r.lo)) nn:=⟨_,rfl⟩
  rw [←ht0] at kN hT0
  have hT:IsT (blueV v (3*r.lo) (3*r.hi)) (withU t0 (3*s)):=by
    rw [blue_isT] at hT0 ⊢
    exact ⟨hT0.1,⟨by show 3*r.lo≤3*s;omega,by show 3*s≤3*r.hi;omega⟩,hT0.2.2⟩
  have hTd:t0.drift.length=v.drift.length:=hT0.dl
  obtain ⟨d,hd⟩:∃x,x=dn % v.drift.length:=⟨_,rfl⟩
  obtain ⟨m,hm⟩:∃x,x=mn % 21:=⟨_,rfl⟩
  have hdl:d<v.drift.length:=by rw [hd];exact Nat.mod_lt _ (by omega)
  have hml:m≤20:=by omega
  have w1:IntKind.i64.wrap (v.last+1)=(v.drift.length:Nat):=by rw [wrapB (by omega) (by omega),v1]
  have w2:IntKind.i64.wrap (dn:Int)=(dn:Int):=wrapB (by omega) (by omega)
  have w3:IntKind.i64.wrap (mn:Int)=(mn:Int):=wrapB (by omega) (by omega)
  have w4:¬((v.drift.length:Nat):Int)=0:=by omega
  have w5:(dn:Int).tmod (v.drift.length:Nat)=(d:Int):=by rw [hd];rfl
  have w6:(mn:Int).tmod 21=(m:Int):=by rw [hm];rfl
  have hdi:inR d 0 v.last=true:=inR_iff.2 (by omega)
  have hmi:inR m 0 20=true:=inR_iff.2 (by omega)
  have bVx:=fun {Q:V→Prop} {a b:Int}=>bVat (h1:=h1) (h2:=h2) (h3:=h3) (v:=v) (a:=a) (b:=b) hs (Q:=Q)
  have kTt:=fun {Q:V→Prop}=>lTruth (gt:=(false,false)) (t:=withU t0 (3*s)) (by show t0.drift.length≤_;omega) (Q:=Q)
  have kPl:=fun {Q:V→Prop}=>bPlay hs hx hT (Q:=Q)
  have kSh:=fun {Q:V→Prop}=>bShades hs hx hT hdi hmi (Q:=Q)
  have kBd:=fun {Q:V→Prop}=>bBounds hs hx (Q:=Q)
  have kX:=fun {Q:V→Prop}=>bShade hs hx hdi hmi (Q:=Q)
  have kY:=fun {Q:V→Prop}=>bShade hs hy hdi hmi (Q:=Q)
  have kZ:=fun {Q:V→Prop}=>bShade hs hz hdi hmi (Q:=Q)
  have bb:=stBlue_bd hxv hT hdl
  rw [blue_st] at bb
  have bs:=shadesL_bd hv (s:=stAt v (withU t0 (3*s)) (d+1)) (n:=m) (by omega)
  have sl:=shadesL_len (v:=v) (s:=stAt v (withU t0 (3*s)) (d+1)) (n:=m)
  have kSu:=fun {g:Bool × Bool} {Q:V→Prop}=>rSum (g:=g) (l:=shadesL v (stAt v (withU t0 (3*s)) (d+1)) m) (M:=5000) (by omega) (by omega) (fun x hx=>by have:=bs x hx;omega) (Q:=Q)
  have pl:=playL_len (v:=v) (t:=withU t0 (3*s))
  have bl:=show (boundsL (blueV v (3*r.lo) (3*r.hi))).length=v.drift.length from boundsL_len (v:=blueV v (3*r.lo) (3*r.hi))
  have p1:d<(playL v (withU t0 (3*s))).length:=by omega
  have p2:(playL v (withU t0 (3*s))).getD d default=stAt v (withU t0 (3*s)) (d+1):=playL_get hdl default
  have i1:d<(boundsL (blueV v (3*r.lo) (3*r.hi))).length:=by omega
  have hbg:(boundsL (blueV v (3*r.lo) (3*r.hi))).getD d default=bdAt (blueV v (3*r.lo) (3*r.hi)) d:=by rw [getD_lt _ _ _ i1];simp [boundsL]
  obtain ⟨z1,z2⟩:=blue_day hx hT (d:=d)
  obtain ⟨y1,y2⟩:=shade_ends hx (d:=d) (m:=m) hdl
  have y3:=(shade_is hx (d:=d) (m:=m)).2.2 _ ((blue_mem hxv).2 hT)
  have y4:sumS v d m (withU t0 (3*s))=sumI (shadesL v (stAt v (withU t0 (3*s)) (d+1)) m):=rfl
  rw [y4] at y3
  obtain ⟨y5,y6⟩:=y3
  rw [←y1] at kY
  rw [←y2] at kZ
  simp only [truthG] at kN kTt kPl kSh
  simp only [withU] at kTt kPl kSh kSu pl p1 p2 sl z1 z2 y5 y6
  generalize hug:({ start:=t0.start,blue:=3*s,drift:=t0.drift }:Truth)=u at kTt kPl kSh kSu pl p1 p2 sl z1 z2 y5 y6
  have pcl2:k<(playC c l).length:=by omega
  simp (maxSteps:=2000000) only [go_sem,f3,kT5,ht,kF,hc0,hk0,kTv,htv,kFv,hv0,kTr,kC,kB,hLz,bl2,e1,e2,hkl,hrg,r1,r2,r3,e3,e4,hnl,atI_nat,←hl,b8,kP,pcl,m1,m2,bT,hxt,bF,hx,pcl2,hps,m3,kM,hmz,e5,e6,kN,w1,w2,w3,w4,w5,w6,bVx,kTt,kPl,kSh,kBd,kX,kY,kZ,kSu,pl,bl,sl,p1,p2,i1,hbg,hdl,z1,z2,y5,y6,ge_iff_le,pv,disj_nil]
end Am.Vt
