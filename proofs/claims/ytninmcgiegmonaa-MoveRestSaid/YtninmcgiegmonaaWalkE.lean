/-
  A part of the proof: the texts M25, M26, M27, M28, M29, M30, M31, M33, M34, M37, M38 of this seat, joined.
-/
import Derived.Test.YtninmcgiegmonaaWalkD
namespace Am.Mv
open Go Am Am.Tm
set_option maxRecDepth 100000
set_option maxHeartbeats 4000000
set_option linter.unusedSimpArgs false
set_option linter.unusedVariables false
variable {l:Land} {g1 g2:Bool × Bool}
theorem range_mul (a b:Nat):List.range (a*b)=(List.range a).flatMap fun k=>(List.range b).map fun m=>k*b+m:=by
  induction a with
  | zero=>simp
  | succ a ih=>rw [Nat.succ_mul,List.range_add,ih,List.range_succ,List.flatMap_append];simp
theorem dig_add (S:Nat) (h:0<S):∀(r n k:Nat),dig S r (k*S^r+n)=dig S r n
  | 0,_,_=>rfl
  | r+1,n,k=>by
    have e:k*S^(r+1)+n=(k*S)*S^r+n:=by rw [Nat.pow_succ,Nat.mul_comm (S^r) S,Nat.mul_assoc]
    simp only [dig]
    rw [e,dig_add S h r n (k*S),Nat.add_comm,Nat.add_mul_div_right _ _ (Nat.pow_pos h),Nat.add_mul_mod_self_right]
theorem dig_head {S r k m:Nat} (h:0<S) (hk:k<S) (hm:m<S^r):dig S (r+1) (k*S^r+m)=(k:Int)::dig S r m:=by
  simp only [dig]
  rw [dig_add S h,Nat.add_comm,Nat.add_mul_div_right _ _ (Nat.pow_pos h),Nat.div_eq_of_lt hm,Nat.zero_add,Nat.mod_eq_of_lt hk]
theorem plansFrom_dig {S:Nat} (h:0<S) (but:Int):∀(r:Nat) (w:List Int),plansFrom S but r w=((List.range (S^r)).filter fun m=>!decide (but∈dig S r m)).map fun m=>w++dig S r m
  | 0,w=>by simp [plansFrom,dig]
  | r+1,w=>by
    rw [Nat.pow_succ,Nat.mul_comm,range_mul,plansFrom,List.filter_flatMap,List.map_flatMap]
    rw [List.flatMap_def,List.flatMap_def]
    congr 1
    apply List.map_congr_left
    intro k hk
    have hk':=List.mem_range.1 hk
    by_cases hb:(k:Int)=but
    · rw [if_pos hb]
      symm
      rw [List.map_eq_nil_iff,List.filter_eq_nil_iff]
      intro x hx
      obtain ⟨m,hm,rfl⟩:=List.mem_map.1 hx
      rw [dig_head h hk' (List.mem_range.1 hm),←hb]
      simp
    · rw [if_neg hb,plansFrom_dig h but r,List.filter_map,List.map_map]
      have e:(List.range (S^r)).filter (fun m=>!decide (but∈dig S r m))=(List.range (S^r)).filter ((fun m=>!decide (but∈dig S (r+1) m))∘fun m=>k*S^r+m):=by
        apply List.filter_congr
        intro m hm
        simp only [Function.comp]
        rw [dig_head h hk' (List.mem_range.1 hm)]
        have:¬but=(k:Int):=fun h=>hb h.symm
        simp [this]
      rw [e]
      apply List.map_congr_left
      intro m hm
      have hm':=List.mem_range.1 (List.mem_filter.1 hm).1
      simp only [Function.comp]
      rw [dig_head h hk' hm']
      simp
def Wk (l:Land) (but:Int) (k:Nat):List (List Int):=((List.range k).map (planN l)).filter fun p=>!decide (but∈p)
theorem plans_same (hv:l.Valid) (but:Int):plansL l but=Wk l but (plansN l):=by
  rw [plansL,plansFrom_dig hv.n0,Wk,List.filter_map]
  rfl
structure RbOk (l:Land) (but:Int) (k:Nat):Prop where
  e1:(rbest l but k).1=((Wk l but k).foldl (bestStep l) ([],0,false)).1
  e2:(rbest l but k).2.1=((Wk l but k).foldl (bestStep l) ([],0,false)).2.1
  e3:(rbest l but k).2.2.2=((Wk l but k).foldl (bestStep l) ([],0,false)).2.2
  late:(rbest l but k).2.2.2=true→(Wk l but k).foldl (lateStep l (rbest l but k).2.1) 0=(rbest l but k).2.2.1
  most:∀p∈Wk l but k,(sureL l p).2.2=true→(rbest l but k).2.2.2=true∧(sureL l p).1≤(rbest l but k).2.1
end Am.Mv
namespace Am.Mv
open Go Am Am.Tm
set_option maxRecDepth 100000
set_option maxHeartbeats 4000000
set_option linter.unusedSimpArgs false
set_option linter.unusedVariables false
variable {l:Land} {g1 g2:Bool × Bool}
structure IsBest (l:Land) (W:List (List Int)) (r:List Int × Int × Bool):Prop where
  no:r.2.2=false→r=([],0,false)∧∀p∈W,(sureL l p).2.2=false
  yes:r.2.2=true→(sureL l r.1).2.2=true∧r.2.1=(sureL l r.1).1∧(∀p∈W,(sureL l p).2.2=true→(sureL l p).1≤r.2.1)∧∃A B,W=A++r.1::B∧∀p∈A,(sureL l p).2.2=true→(sureL l p).1<r.2.1
theorem IsBest.step {W:List (List Int)} {r:List Int × Int × Bool} (h:IsBest l W r) (p:List Int):IsBest l (W++[p]) (bestStep l r p):=by
  unfold bestStep
  by_cases hc:(sureL l p).2.2=true∧(r.2.2=false∨r.2.1<(sureL l p).1)
  · rw [if_pos hc]
    refine ⟨fun h=>(by cases h),fun _=>⟨hc.1,rfl,fun q hq hqc=>?_,W,[],rfl,fun q hq hqc=>?_⟩⟩
    · rcases List.mem_append.1 hq with hq | hq
      · cases hf:r.2.2 with
        | false=>rw [(h.no hf).2 q hq] at hqc;cases hqc
        | true=>
          have:=(h.yes hf).2.2.1 q hq hqc
          rcases hc.2 with hc | hc
          · rw [hf] at hc;cases hc
          · simp only;omega
      · rw [List.mem_singleton.1 hq];exact Int.le_refl _
    · cases hf:r.2.2 with
      | false=>rw [(h.no hf).2 q hq] at hqc;cases hqc
      | true=>
        have:=(h.yes hf).2.2.1 q hq hqc
        rcases hc.2 with hc | hc
        · rw [hf] at hc;cases hc
        · simp only;omega
  · rw [if_neg hc]
    refine ⟨fun hf=>⟨(h.no hf).1,fun q hq=>?_⟩,fun hf=>?_⟩
    · rcases List.mem_append.1 hq with hq | hq
      · exact (h.no hf).2 q hq
      · rw [List.mem_singleton.1 hq]
        cases hs:(sureL l p).2.2 with
        | false=>rfl
        | true=>exact absurd ⟨hs,.inl hf⟩ hc
    · obtain ⟨h1,h2,h3,A,B,h4,h5⟩:=h.yes hf
      refine ⟨h1,h2,fun q hq hqc=>?_,A,B++[p],by rw [h4];simp,h5⟩
      rcases List.mem_append.1 hq with hq | hq
      · exact h3 q hq hqc
      · rw [List.mem_singleton.1 hq] at hqc ⊢
        by_cases hlt:r.2.1<(sureL l p).1
        · exact absurd ⟨hqc,.inr hlt⟩ hc
        · omega
theorem IsBest.all : ∀(B A:List (List Int)) (r:List Int × Int × Bool),IsBest l A r→IsBest l (A++B) (B.foldl (bestStep l) r)
  | [],A,r,h=>by simpa using h
  | p::B,A,r,h=>by
    have:=IsBest.all B (A++[p]) _ (h.step p)
    simpa using this
theorem best_is (l:Land) (but:Int):IsBest l (plansL l but) (bestL l but):=by
  have:=IsBest.all (l:=l) (plansL l but) [] ([],0,false) ⟨fun _=>⟨rfl,fun p hp=>(by cases hp)⟩,fun h=>(by cases h)⟩
  rw [List.nil_append] at this
  exact this
theorem plans_mem (hv:l.Valid) {but:Int} {p:List Int} (h:p∈plansL l but):AreSites l p∧p.length=(l.last+1).toNat∧p.length≤100∧but∉p:=by
  rw [plans_same hv,Wk,List.mem_filter,List.mem_map] at h
  obtain ⟨⟨n,_,rfl⟩,h2⟩:=h
  obtain ⟨h3,h4,h5⟩:=planN_ok hv n
  exact ⟨h3,h4,h5,by simpa using h2⟩
theorem best_mem {but:Int} (h:(bestL l but).2.2=true):(bestL l but).1∈plansL l but:=by
  obtain ⟨_,_,_,A,B,h4,_⟩:=(best_is l but).yes h
  rw [h4];simp
end Am.Mv
namespace Am.Mv
open Go Am Am.Tm
set_option maxRecDepth 100000
set_option maxHeartbeats 4000000
set_option linter.unusedSimpArgs false
set_option linter.unusedVariables false
variable {l:Land} {g1 g2:Bool × Bool}
theorem P37s {Q:V→Prop}:CallP tab 4 [landV g1 g2 l] Q↔Q (.c (.bool (thin l&&decide (checkLand l=0)))):=CallP_of (by
  refine Val_X (fn:=f4) rfl ?_
  by_cases ht:thin l=true
  · have hs:=thin_small ht
    simp only [go_sem,f4,P16,ht,P21 hs.fits,Bool.true_and]
  · simp only [go_sem,f4,P16,ht,Bool.false_and])
theorem plansN_pos (hv:l.Valid):0<plansN l:=Nat.pow_pos hv.n0
def planOf (l:Land) (n:Int):List Int:=planN l (n.toNat % plansN l)
theorem P40 (hv:l.Valid) {n:Int} (h0:0≤n) (h1:n≤65535) {Q:V→Prop}:CallP tab 6 [landV g1 g2 l,.c (.int .u16 n)] Q↔Q (.c (L (false,false) (planOf l n))):=CallP_of (by
  refine Val_X (fn:=f6) rfl ?_
  have P50':∀{Q:V→Prop},CallP tab 24 [landV g1 g2 l] Q↔Q (.c (.int .i64 (plansN l:Int))):=by
    intro Q
    rw [P50 hv,plansN_val hv]
  have hN:=plansN_pos hv
  have hN2:=plansN_le hv
  have hw:IntKind.i64.wrap n=n:=wrapB (by omega) (by omega)
  have hn:n=((n.toNat:Nat):Int):=by omega
  have h3:¬(plansN l:Int)=0:=by omega
  have hr:n.tmod (plansN l:Int)=((n.toNat % plansN l:Nat):Int):=by rw [hn,rem_nat];rfl
  have hlt:=Nat.mod_lt n.toNat hN
  simp only [go_sem,f6,P50',hw,h3,hr,P66 hv (show n.toNat % plansN l≤100000 by omega)]
  rfl)
theorem wthR_pos (hv:l.Valid):0<(wthR l).length:=List.length_pos_of_mem ((wth_mem hv _).1 (wth_nil hv))
def wthOf (l:Land) (n:Int):List Int:=(wthR l).getD (n.toNat % (wthR l).length) default
theorem P38 (hv:l.Valid) {n:Int} (h0:0≤n) (h1:n≤65535) {Q:V→Prop}:CallP tab 7 [landV g1 g2 l,.c (.int .u8 n)] Q↔Q (.c (L (false,false) (wthOf l n))):=CallP_of (by
  refine Val_X (fn:=f7) rfl ?_
  have hN:=wthR_pos hv
  have hN2:=wthR_num hv
  have hw:IntKind.i64.wrap n=n:=wrapB (by omega) (by omega)
  have hn:n=((n.toNat:Nat):Int):=by omega
  have h3:¬((wthR l).length:Int)=0:=by omega
  have hr:n.tmod ((wthR l).length:Int)=((n.toNat % (wthR l).length:Nat):Int):=by rw [hn,rem_nat];rfl
  have hlt:=Nat.mod_lt n.toNat hN
  simp only [go_sem,f7,P70 hv,hw,h3,hr,hlt,atI_nat]
  rfl)
theorem wthOf_mem (hv:l.Valid) (n:Int):wthOf l n∈weathersL l:=by
  rw [wth_mem hv,wthOf,getD_lt _ _ _ (Nat.mod_lt _ (wthR_pos hv))]
  exact List.getElem_mem _
end Am.Mv
namespace Am.Mv
open Go Am Am.Tm
set_option maxRecDepth 100000
set_option maxHeartbeats 4000000
set_option linter.unusedSimpArgs false
set_option linter.unusedVariables false
variable {l:Land} {g1 g2:Bool × Bool}
theorem isPlan_of (hv:l.Valid) {p:List Int} (h:AreSites l p) (hl:p.length=(l.last+1).toNat):isPlan l p=true:=by
  have l0:=hv.last0
  have l4:=hv.last4
  simp only [isPlan,Bool.and_eq_true,decide_eq_true_eq]
  rw [wrapB (by omega) (by omega)]
  refine ⟨by omega,List.all_eq_true.2 fun x hx=>?_⟩
  have:=h x hx
  simp only [isSite,inR_iff]
  omega
end Am.Mv
namespace Am.Mv
open Go Am Am.Tm
set_option maxRecDepth 100000
set_option maxHeartbeats 4000000
set_option linter.unusedSimpArgs false
set_option linter.unusedVariables false
variable {l:Land} {g1 g2:Bool × Bool}
theorem okW_all : (List.range 5).all (fun last=>(List.range (last+2)).all fun bad=>(combW (last:Int) (bad:Int)).all fun w=>decide ((w.length:Int)≤(bad:Int))&&weatherOk ((last:Int)+1) (-1) w)=true:=by decide +kernel
theorem wth_is (hv:l.Valid) {w:List Int} (h:w∈weathersL l):isWeather l w (l.last+1)=true∧w.length≤5:=by
  have l0:=hv.last0
  have l4:=hv.last4
  have b0:=hv.bad0
  have b1:=hv.bad1
  have h1:=(List.all_eq_true.1 okW_all) l.last.toNat (by simp;omega)
  have h2:=(List.all_eq_true.1 h1) l.bad.toNat (by simp;omega)
  rw [show ((l.last.toNat:Nat):Int)=l.last by omega,show ((l.bad.toNat:Nat):Int)=l.bad by omega] at h2
  exact ⟨(List.all_eq_true.1 h2) w h,wthR_len ((wth_mem hv w).1 h)⟩
theorem yr_getD {w p:List Int} {k:Nat} (hk:k<p.length):((List.range p.length).map (yrAt l w p)).getD k default=yrAt l w p k:=by
  rw [getD_lt _ _ _ (by simpa using hk)];simp
end Am.Mv
namespace Am.Mv
open Go Am Am.Tm
set_option maxRecDepth 100000
set_option maxHeartbeats 4000000
set_option linter.unusedSimpArgs false
set_option linter.unusedVariables false
variable {l:Land} {g1 g2:Bool × Bool}
end Am.Mv
namespace Am.Mv
open Go Am Am.Tm
set_option maxRecDepth 100000
set_option maxHeartbeats 4000000
set_option linter.unusedSimpArgs false
set_option linter.unusedVariables false
variable {l:Land} {g1 g2:Bool × Bool}
structure SeenOk (l:Land) (A R:Ans):Prop where
  is:R.2.2=A.2.2
  yes:A.2.2=true→R.1=A.1∧R.2.1=A.2.1-l.purse∧0≤A.2.1∧A.2.1≤20000
  no:A.2.2=false→R=(0,0,false)
end Am.Mv
namespace Am.Mv
open Go Am Am.Tm
set_option maxRecDepth 100000
set_option maxHeartbeats 4000000
set_option linter.unusedSimpArgs false
set_option linter.unusedVariables false
variable {l:Land} {g1 g2:Bool × Bool}
def CandIs (l:Land) (n:Nat) (s:S) (b k:Int):Prop:=costOf l.sites l.roads s.site k≤s.money∧(fromF l n (nextS l s k false) b).2.2=true∧(0<b→(fromF l n (nextS l s k true) (b-1)).2.2=true)
def candV (l:Land) (n:Nat) (s:S) (b k:Int):Int:=if 0<b then min (fromF l n (nextS l s k false) b).2.1 (fromF l n (nextS l s k true) (b-1)).2.1 else (fromF l n (nextS l s k false) b).2.1
structure FoldOk (l:Land) (n:Nat) (s:S) (b:Int) (m:Nat) (r:Ans):Prop where
  yes:r.2.2=true→∃k:Nat,k<m∧CandIs l n s b k∧r.1=k∧r.2.1=candV l n s b k
  most:∀k:Nat,k<m→CandIs l n s b k→r.2.2=true∧candV l n s b k≤r.2.1
end Am.Mv
namespace Am.Mv
open Go Am Am.Tm
set_option maxRecDepth 100000
set_option maxHeartbeats 4000000
set_option linter.unusedSimpArgs false
set_option linter.unusedVariables false
variable {l:Land} {g1 g2:Bool × Bool}
end Am.Mv
namespace Am.Mv
open Go Am Am.Tm
set_option maxRecDepth 100000
set_option maxHeartbeats 4000000
set_option linter.unusedSimpArgs false
set_option linter.unusedVariables false
variable {l:Land} {g1 g2:Bool × Bool}
end Am.Mv
namespace Am.Mv
open Go Am Am.Tm
set_option maxRecDepth 100000
set_option maxHeartbeats 4000000
set_option linter.unusedSimpArgs false
set_option linter.unusedVariables false
variable {l:Land} {g1 g2:Bool × Bool}
theorem best_le {l r:Land} (hv:l.Valid) (hpl:plansL r (-1)=plansL l (-1)) (h:∀p,AreSites l p→p.length≤100→(sureL l p).2.2=true→(sureL r p).2.2=true∧(sureL l p).1≤(sureL r p).1) (hc:(bestL l (-1)).2.2=true):(bestL r (-1)).2.2=true∧(bestL l (-1)).2.1≤(bestL r (-1)).2.1:=by
  obtain ⟨z1,z2,_,_⟩:=(best_is l (-1)).yes hc
  have hm:=best_mem hc
  obtain ⟨q1,q2,q3,_⟩:=plans_mem hv hm
  obtain ⟨h1,h2⟩:=h _ q1 q3 z1
  rw [←hpl] at hm
  cases hr:(bestL r (-1)).2.2 with
  | false=>have:=((best_is r (-1)).no hr).2 _ hm;rw [h1] at this;cases this
  | true=>
    refine ⟨rfl,?_⟩
    have:=((best_is r (-1)).yes hr).2.2.1 _ hm h1
    omega
end Am.Mv
