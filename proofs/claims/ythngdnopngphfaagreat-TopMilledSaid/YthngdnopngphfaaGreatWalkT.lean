/-
  A part of the proof: the texts TP1, TP2, TP3, TP4 of this seat, joined.
-/
import Derived.Test.YthngdnopngphfaaGreatWalkO
import Derived.Test.YthngdnopngphfaaGreatWalkF
import Derived.Test.YthngdnopngphfaaGreatWalkE
import Derived.KernelRfl
namespace Am.Mv
open Go Am Am.Tm
set_option maxRecDepth 100000
set_option maxHeartbeats 4000000
set_option linter.unusedSimpArgs false
set_option linter.unusedVariables false
structure LeL (l r:Land):Prop where
  last:r.last=l.last
  home:r.home=l.home
  purse:r.purse=l.purse
  bad:r.bad=l.bad
  rest:r.rest=l.rest
  len:r.sites.length=l.sites.length
  crop:∀k:Int,0≤k→k<l.sites.length→∀t,cropOf (atI l.sites k) t≤cropOf (atI r.sites k) t
  cost:∀a b:Int,0≤a→a<l.sites.length→0≤b→b<l.sites.length→costOf r.sites r.roads a b≤costOf l.sites l.roads a b
theorem cropB_le {l r:Land} (h:LeL l r) (hv:l.Valid) (hr:r.Valid) {k:Int} (k0:0≤k) (k1:k<l.sites.length) (t:Int) (c:Bool):cropB (atI l.sites k) t c≤cropB (atI r.sites k) t c:=by
  have hl:=h.len
  obtain ⟨a1,a2,a3,a4⟩:=crop_val hv t k0 k1
  obtain ⟨b1,b2,b3,b4⟩:=crop_val hr t k0 (by omega)
  have:=h.crop k k0 k1 t
  cases c
  · rw [a4,b4];exact this
  · rw [a3,b3];omega
theorem nextS_le {l r:Land} (h:LeL l r) (hv:l.Valid) (hr:r.Valid) {s:S} {k:Int} {c:Bool} {d:Int} (d0:0≤d) (d1:d≤100000) (s0:0≤s.site) (s1:s.site<l.sites.length) (k0:0≤k) (k1:k<l.sites.length) (m0:0≤s.money) (m1:s.money≤100000) (hc:costOf l.sites l.roads s.site k≤s.money) :
    (∃e,0≤e∧e≤d+300∧nextS r (s.plus d) k c=(nextS l s k c).plus e)∧0≤(nextS l s k c).money∧(nextS l s k c).money≤s.money+99:=by
  have hl:=h.len
  obtain ⟨c1,c2,c3,c4,c5⟩:=cost_val hv s0 s1 k0 k1
  obtain ⟨c1',c2',c3',c4',c5'⟩:=cost_val hr s0 (by omega) k0 (by omega)
  obtain ⟨e0,e1⟩:=cropB_val hv (s.so.taken k) c k0 k1
  obtain ⟨e0',e1'⟩:=cropB_val hr (s.so.taken k) c k0 (by omega)
  have hcr:=cropB_le h hv hr k0 k1 (s.so.taken k) c
  have hco:=h.cost s.site k s0 s1 k0 k1
  have m:(nextS l s k c).money=s.money-costOf l.sites l.roads s.site k+cropB (atI l.sites k) (s.so.taken k) c:=by
    show IntKind.i64.wrap (IntKind.i64.wrap (s.money-costOf l.sites l.roads s.site k)+cropB (atI l.sites k) (s.so.taken k) c)=_
    rw [wrapB (n:=s.money-costOf l.sites l.roads s.site k) (by omega) (by omega),wrapB (by omega) (by omega)]
  have m':(nextS r (s.plus d) k c).money=s.money+d-costOf r.sites r.roads s.site k+cropB (atI r.sites k) (s.so.taken k) c:=by
    show IntKind.i64.wrap (IntKind.i64.wrap (s.money+d-costOf r.sites r.roads s.site k)+cropB (atI r.sites k) (s.so.taken k) c)=_
    rw [wrapB (n:=s.money+d-costOf r.sites r.roads s.site k) (by omega) (by omega),wrapB (by omega) (by omega)]
  refine ⟨⟨d+(costOf l.sites l.roads s.site k-costOf r.sites r.roads s.site k)+(cropB (atI r.sites k) (s.so.taken k) c-cropB (atI l.sites k) (s.so.taken k) c),by omega,by omega,?_⟩,by rw [m];omega,by rw [m];omega⟩
  have e:(nextS r (s.plus d) k c).money=(nextS l s k c).money+(d+(costOf l.sites l.roads s.site k-costOf r.sites r.roads s.site k)+(cropB (atI r.sites k) (s.so.taken k) c-cropB (atI l.sites k) (s.so.taken k) c)):=by rw [m,m'];omega
  show (⟨_,_,(nextS r (s.plus d) k c).money,s.so.after r.rest k⟩:S)=⟨_,_,(nextS l s k c).money+_,s.so.after l.rest k⟩
  rw [e,h.rest]
  rfl
theorem from_le {l r:Land} (h:LeL l r) (hv:l.Valid) (hr:r.Valid):∀(n:Nat) (s:S) (b d:Int),0≤d→d+300*n≤10000→0≤s.site→s.site<l.sites.length→0≤s.money→s.money+99*n≤100000→(fromF l n s b).2.2=true→(fromF r n (s.plus d) b).2.2=true∧(fromF l n s b).2.1≤(fromF r n (s.plus d) b).2.1
  | 0,s,b,d,d0,d1,s0,s1,m0,m1,hh=>⟨rfl,by show s.money≤s.money+d;omega⟩
  | n+1,s,b,d,d0,d1,s0,s1,m0,m1,hh=>by
    have hl:=h.len
    obtain ⟨k,hk,⟨c1,c2,c3⟩,_,e⟩:=(from_ok2 (l:=l) n s b).yes hh
    have hN:=fun c=>nextS_le h hv hr (c:=c) (k:=(k:Int)) d0 (by omega) s0 s1 (by omega) (by omega) m0 (by omega) c1
    obtain ⟨⟨df,f0,f00,f1⟩,f2,f3⟩:=hN false
    obtain ⟨⟨dt,t0,t00,t1⟩,t2,t3⟩:=hN true
    obtain ⟨i1,i2⟩:=from_le h hv hr n (nextS l s k false) b df f0 (by omega) (show 0≤(k:Int) by omega) (show (k:Int)<_ by omega) f2 (by omega) c2
    have i3:=fun hb=>from_le h hv hr n (nextS l s k true) (b-1) dt t0 (by omega) (show 0≤(k:Int) by omega) (show (k:Int)<_ by omega) t2 (by omega) (c3 hb)
    rw [←f1] at i1 i2
    rw [←t1] at i3
    have hco:=h.cost s.site k s0 s1 (by omega) (by omega)
    have hcand:CandIs r n (s.plus d) b (k:Int):=⟨show costOf r.sites r.roads s.site k≤s.money+d by omega,i1,fun hb=>(i3 hb).1⟩
    obtain ⟨j1,j2⟩:=(from_ok2 (l:=r) n (s.plus d) b).most k (by omega) hcand
    refine ⟨j1,Int.le_trans ?_ j2⟩
    rw [e]
    unfold candV
    by_cases hb:0<b
    · rw [if_pos hb,if_pos hb]
      have:=(i3 hb).2
      omega
    · rw [if_neg hb,if_neg hb]
      exact i2
theorem from_bd {l:Land} (hv:l.Valid):∀(n:Nat) (s:S) (b:Int),0≤s.site→s.site<l.sites.length→0≤s.money→s.money+99*n≤100000→(fromF l n s b).2.2=true→0≤(fromF l n s b).2.1∧(fromF l n s b).2.1≤s.money+99*n
  | 0,s,b,s0,s1,m0,m1,hh=>⟨m0,by show s.money≤_;omega⟩
  | n+1,s,b,s0,s1,m0,m1,hh=>by
    obtain ⟨k,hk,⟨c1,c2,c3⟩,_,e⟩:=(from_ok2 (l:=l) n s b).yes hh
    have hN:=fun c=>nextS_plus hv (c:=c) (k:=(k:Int)) (Int.le_refl 0) (by omega) s0 s1 (by omega) (by omega) m0 (by omega) c1
    obtain ⟨_,f2,f3⟩:=hN false
    obtain ⟨_,t2,t3⟩:=hN true
    obtain ⟨i1,i2⟩:=from_bd hv n (nextS l s k false) b (show 0≤(k:Int) by omega) (show (k:Int)<_ by omega) f2 (by omega) c2
    have i3:=fun hb=>from_bd hv n (nextS l s k true) (b-1) (show 0≤(k:Int) by omega) (show (k:Int)<_ by omega) t2 (by omega) (c3 hb)
    rw [e]
    unfold candV
    by_cases hb:0<b
    · rw [if_pos hb]
      have:=i3 hb
      omega
    · rw [if_neg hb]
      omega
theorem stAt_better {l r:Land} (h:LeL l r) (hv:l.Valid) (hr:r.Valid) {w p:List Int} (hp:AreSites l p) (hl:p.length≤100):∀k:Nat,k≤p.length→(∀i,i<k→canAt l w p i=true)→∃d:Int,0≤d∧d≤300*(k:Int)∧stAt r w p k=(stAt l w p k).plus d
  | 0,_,_=>⟨0,by omega,by omega,by
      show startS r=(startS l).plus 0
      simp only [startS,S.plus,h.home,h.purse,Int.add_zero]⟩
  | k+1,hk,hc=>by
    obtain ⟨m0,m1,_⟩:=money_next hv (ws:=w) hp (by omega) k (by omega) (fun i hi=>hc i (by omega))
    have p1:=hv.purse1
    obtain ⟨s0,s1⟩:=stAt_site hv (bad:=w) hp k (by omega)
    obtain ⟨q0,q1⟩:=plan_at hp (k:=k) (by omega)
    obtain ⟨d,d0,d1,e⟩:=stAt_better h hv hr hp hl k (by omega) (fun i hi=>hc i (by omega))
    obtain ⟨⟨d',e0,e1,e2⟩,_⟩:=nextS_le h hv hr (c:=decide ((k:Int)∈w)) d0 (by omega) s0 s1 q0 q1 m0 (by omega) (of_decide_eq_true (hc k (by omega)))
    refine ⟨d',e0,by omega,?_⟩
    show nextS r (stAt r w p k) _ _=(nextS l (stAt l w p k) _ _).plus d'
    rw [e,e2]
theorem fail_le {l r:Land} (h:LeL l r) (hv:l.Valid) (hr:r.Valid) {w p:List Int} (hp:AreSites l p) (hl:p.length≤100) (hf:failAt l w p=none):failAt r w p=none∧prof l p w≤prof r p w:=by
  have hc:=failAt_none.1 hf
  refine ⟨failAt_none.2 fun i hi=>?_,?_⟩
  · have:=hc i hi
    unfold canAt at this ⊢
    obtain ⟨d,d0,d1,e⟩:=stAt_better h hv hr hp hl i (by omega) (fun j hj=>hc j (by omega))
    obtain ⟨s0,s1⟩:=stAt_site hv (bad:=w) hp i (by omega)
    obtain ⟨q0,q1⟩:=plan_at hp (k:=i) (by omega)
    rw [e]
    have h2:=of_decide_eq_true this
    have h3:=h.cost _ _ s0 s1 q0 q1
    exact decide_eq_true (show costOf r.sites r.roads (stAt l w p i).site (p.getD i default)≤(stAt l w p i).money+d by omega)
  · unfold prof
    obtain ⟨d,d0,d1,e⟩:=stAt_better h hv hr hp hl p.length (Nat.le_refl _) hc
    rw [e,h.purse]
    show _≤(stAt l w p p.length).money+d-l.purse
    omega
theorem sure_le {l r:Land} (h:LeL l r) (hv:l.Valid) (hr:r.Valid) {p:List Int} (hp:AreSites l p) (hl:p.length≤100) (hc:(sureL l p).2.2=true):(sureL r p).2.2=true∧(sureL l p).1≤(sureL r p).1:=by
  have hlen:=h.len
  obtain ⟨h1,h2,h3,h4⟩:=(sureL_is hv hp (by omega)).yes hc
  have hw:weathersL r=weathersL l:=by unfold weathersL;rw [h.bad,h.last]
  have hp':AreSites r p:=fun x hx=>by have:=hp x hx;omega
  have hI:=sureL_is hr hp' (by omega)
  cases hcr:(sureL r p).2.2 with
  | false=>
    obtain ⟨w,w1,w2⟩:=hI.no hcr
    rw [hw] at w1
    exact absurd (fail_le h hv hr hp hl (h1 w w1)).1 w2
  | true=>
    obtain ⟨g1,g2,g3,g4⟩:=hI.yes hcr
    refine ⟨rfl,?_⟩
    rw [hw] at g2
    have a:=(fail_le h hv hr hp hl (h1 _ g2)).2
    have b:=h4 _ g2
    rw [g3]
    rcases b with b | b<;>omega
theorem plans_le {l r:Land} (h:LeL l r) (but:Int):plansL r but=plansL l but:=by unfold plansL;rw [h.len,h.last]
def bestN (l:Land):Int:=if (bestL l (-1)).2.2=true then (bestL l (-1)).2.1 else -1000
def seenN (l:Land):Int:=if (goA l [] []).2.2=true then (goA l [] []).2.1-l.purse else -1000
theorem best_bd {l:Land} (hv:l.Valid) (hc:(bestL l (-1)).2.2=true) : -999≤(bestL l (-1)).2.1∧(bestL l (-1)).2.1≤9900:=by
  obtain ⟨z1,z2,_,_⟩:=(best_is l (-1)).yes hc
  obtain ⟨q1,q2,q3,_⟩:=plans_mem hv (best_mem hc)
  obtain ⟨g1,g2,g3,g4⟩:=(sureL_is hv q1 q3).yes z1
  have:=prof_val hv q1 q3 (g1 _ g2)
  rw [z2,g3]
  exact this.2
theorem seen_bd {l:Land} (hv:l.Valid) (hc:(goA l [] []).2.2=true):0≤(goA l [] []).2.1∧(goA l [] []).2.1≤10000:=by
  have p0:=hv.purse0
  have p1:=hv.purse1
  have l4:=hv.last4
  rw [goA_start hv] at hc ⊢
  have h99:(startS l).money+99*(((l.last+1).toNat:Nat):Int)≤100000:=by show l.purse+_≤_;omega
  have:=from_bd hv (l.last+1).toNat (startS l) l.bad hv.home0 hv.home1 p0 h99 hc
  have e:(startS l).money=l.purse:=rfl
  omega
theorem bestN_le {l r:Land} (h:LeL l r) (hv:l.Valid) (hr:r.Valid):bestN l≤bestN r:=by
  have l4:=hv.last4
  unfold bestN
  cases hl:(bestL l (-1)).2.2 with
  | false=>
    rw [if_neg (by simp)]
    cases hr2:(bestL r (-1)).2.2 with
    | false=>simp
    | true=>have:=best_bd hr hr2;simp;omega
  | true=>
    have:=best_le hv (plans_le h (-1)) (fun p hp hpl hc=>?_) hl
    · rw [if_pos rfl,if_pos this.1];exact this.2
    · exact sure_le h hv hr hp hpl hc
theorem seenN_le {l r:Land} (h:LeL l r) (hv:l.Valid) (hr:r.Valid):seenN l≤seenN r:=by
  have p0:=hv.purse0
  have p1:=hv.purse1
  have l4:=hv.last4
  have e:=h.purse
  unfold seenN
  cases hl:(goA l [] []).2.2 with
  | false=>
    rw [if_neg (by simp)]
    cases hr2:(goA r [] []).2.2 with
    | false=>simp
    | true=>have:=seen_bd hr hr2;simp;omega
  | true=>
    rw [goA_start hv] at hl
    have h99:(startS l).money+99*(((l.last+1).toNat:Nat):Int)≤100000:=by show l.purse+_≤_;omega
    obtain ⟨a,b⟩:=from_le h hv hr (l.last+1).toNat (startS l) l.bad 0 (Int.le_refl 0) (by omega) hv.home0 hv.home1 p0 h99 hl
    have hs:startS r=(startS l).plus 0:=by simp only [startS,S.plus,h.home,h.purse,Int.add_zero]
    rw [goA_start hv,goA_start hr,h.last,h.bad,hs,if_pos rfl,if_pos a]
    omega
end Am.Mv
namespace Am.Mv
open Go Am Am.Tm
set_option maxRecDepth 100000
set_option maxHeartbeats 4000000
set_option linter.unusedSimpArgs false
set_option linter.unusedVariables false
variable {l:Land} {g1 g2:Bool × Bool}
def frI (w:Int):Int:=max 0 (min 99 (w.tdiv 20))
theorem frI_bd {w:Int}:0≤frI w∧frI w≤99:=by unfold frI;omega
theorem frI_le {w v:Int} (h0:0≤w) (h:w≤v):frI w≤frI v:=by
  unfold frI
  rw [Int.tdiv_eq_ediv_of_nonneg h0,Int.tdiv_eq_ediv_of_nonneg (by omega)]
  omega
def giveS (s:Site) (w:Int):Site:=⟨frI w,min s.second (frI w),s.rent⟩
def milledL (l:Land) (k:Nat) (w:Int):Land:=⟨l.last,l.home,l.purse,l.bad,l.rest,l.sites.set k (giveS (l.sites.getD k default) w),l.roads⟩
theorem milled_len {k:Nat} {w:Int}:(milledL l k w).sites.length=l.sites.length:=by simp [milledL]
theorem set_atI {α:Type} [Inhabited α] {a:List α} {k:Nat} {x:α} (hk:k<a.length) (i:Int):atI (a.set k x) i=if i.toNat=k then x else atI a i:=by
  unfold atI
  simp only [List.getD_eq_getElem?_getD,List.getElem?_set]
  by_cases h:k=i.toNat
  · subst h;simp [hk]
  · rw [if_neg h,if_neg (fun e=>h e.symm)]
theorem check_milled (h:checkLand l=0) {k:Nat} (hk:k<l.sites.length) {w:Int}:checkLand (milledL l k w)=0:=by
  have hv:=valid_of h
  have hlen:=milled_len (l:=l) (k:=k) (w:=w)
  have hs:(milledL l k w).sites.all siteOk=true:=by
    rw [List.all_eq_true]
    intro s hs
    have hs:s∈l.sites.set k (giveS (l.sites.getD k default) w):=hs
    have old:∀s∈l.sites,siteOk s=true:=by
      intro s hs
      have:=hv.site s hs
      simp only [siteOk,isCost,Bool.and_eq_true,inR_iff,decide_eq_true_eq]
      omega
    rcases List.mem_or_eq_of_mem_set hs with hs | rfl
    · exact old s hs
    · have hm:l.sites.getD k default∈l.sites:=by rw [getD_lt _ _ _ hk];exact List.getElem_mem hk
      have h1:=hv.site _ hm
      have h2:=frI_bd (w:=w)
      generalize l.sites.getD k default=s0 at h1
      show siteOk ⟨frI w,min s0.second (frI w),s0.rent⟩=true
      simp only [siteOk,isCost,Bool.and_eq_true,inR_iff,decide_eq_true_eq]
      omega
  have e1:∀n,isSite (milledL l k w).sites n=isSite l.sites n:=fun n=>by unfold isSite;rw [hlen]
  have e2:roadsOk (milledL l k w).sites (milledL l k w).roads=roadsOk l.sites l.roads:=by
    have:∀k',roadOk (milledL l k w).sites (milledL l k w).roads k'↔roadOk l.sites l.roads k':=fun k'=>by
      unfold roadOk;rw [hlen];exact Iff.rfl
    unfold roadsOk
    rw [hlen]
    simp only [this]
    rfl
  unfold checkLand at h ⊢
  rw [hs,e1,e2,hlen]
  repeat' (split at h;first | (exfalso;omega) | skip)
  rename_i a1 a2 a3 a4 a5 a6 a7 a8 a9 a10
  show (if l.last>4 then (3:Int) else if (l.sites.length:Int)>4 then 3 else if l.last<0 then 1 else if (l.sites.length:Int)=0 then 1 else if isSite l.sites l.home=false then 1
    else if inR l.purse 0 999=false then 1 else if inR l.bad 0 (IntKind.i64.wrap (l.last+1))=false then 1
    else if inR l.rest 1 5=false then 1 else if true=false then 1 else if roadsOk l.sites l.roads=false then 1 else 0)=0
  simp only [a1,a2,a3,a4,a5,a6,a7,a8,a10,if_false]
  rfl
theorem milled_le {k:Nat} (hk:k<l.sites.length) {w v:Int} (h0:0≤w) (h:w≤v):LeL (milledL l k w) (milledL l k v):=by
  have hf:=frI_le h0 h
  refine ⟨rfl,rfl,rfl,rfl,rfl,by rw [milled_len,milled_len],fun i i0 i1 t=>?_,fun a b a0 a1 b0 b1=>?_⟩
  · show cropOf (atI (l.sites.set k _) i) t≤cropOf (atI (l.sites.set k _) i) t
    rw [set_atI hk,set_atI hk]
    by_cases e:i.toNat=k
    · rw [if_pos e,if_pos e]
      unfold cropOf giveS
      simp only
      repeat' split
      all_goals omega
    · rw [if_neg e,if_neg e]
      exact Int.le_refl _
  · show IntKind.i64.wrap (roadAt l.roads a b+(atI (l.sites.set k _) b).rent)≤IntKind.i64.wrap (roadAt l.roads a b+(atI (l.sites.set k _) b).rent)
    rw [set_atI hk,set_atI hk]
    by_cases e:b.toNat=k
    · rw [if_pos e,if_pos e];exact Int.le_refl _
    · rw [if_neg e,if_neg e];exact Int.le_refl _
theorem setNth_rows {α:Type} [Row α] {a:List α} {k:Nat} {x:α}:setNth (a.map Row.row) k (Row.row x)=(a.set k x).map Row.row:=by
  induction a generalizing k with
  | nil=>rfl
  | cons y a ih=>
    cases k with
    | zero=>rfl
    | succ k=>simp only [List.map_cons,setNth,List.set_cons_succ,ih]
theorem nth_rows2 {α:Type} [Row α] [Inhabited α] {a:List α} {k:Nat} (h:k<a.length):nth (a.map Row.row) k=some (Row.row (a.getD k default)):=by
  rw [nth_get];simp [h]
theorem cMilled (h0:checkLand l=0) {k:Nat} (hk:k<l.sites.length) {w:Int} (w0:0≤w) (w1:w≤1000000) {Q:V→Prop}:CallP tab 15 [landV g1 g2 l,.c (.int .i64 k),.c (.int .i64 w)] Q↔Q (.tup [.c (.int .i64 (bestN (milledL l k w))),.c (.int .i64 (seenN (milledL l k w))),.c (.bool true)]):=CallP_of (by
  have hv:=valid_of h0
  have h4:=hv.n4
  have hc:=check_milled h0 hk (w:=w)
  have hv2:=valid_of hc
  obtain ⟨m,hm⟩:∃m,m=milledL l k w:=⟨_,rfl⟩
  have hsm:m.Small:=⟨by rw [hm,milled_len];omega,by have:=hv.roads;show m.roads.length≤6;rw [hm];show l.roads.length≤6;omega,fun r hr=>by rw [hm] at hr;have:=(hv.road r hr).1;omega⟩
  have hfit:=hsm.fits
  have hq:IntKind.i64.wrap (w.tdiv 20)=w.tdiv 20:=by
    rw [Int.tdiv_eq_ediv_of_nonneg w0]
    exact wrapB (by omega) (by omega)
  have b24:l.sites.length*24≤2^40:=by omega
  have hk':(k:Int)<(l.sites.length:Nat):=by omega
  obtain ⟨s0,hs0⟩:∃s0,s0=l.sites.getD k default:=⟨_,rfl⟩
  have e1:nth (l.sites.map Row.row) k=some [.int .i64 s0.fresh,.int .i64 s0.second,.int .i64 s0.rent]:=by rw [nth_rows2 hk,hs0];rfl
  have e2:setNth (l.sites.map Row.row) k [.int .i64 (frI w),.int .i64 s0.second,.int .i64 s0.rent]=(l.sites.set k ⟨frI w,s0.second,s0.rent⟩).map Row.row:=setNth_rows (x:=(⟨frI w,s0.second,s0.rent⟩:Site))
  have e3:nth ((l.sites.set k ⟨frI w,s0.second,s0.rent⟩).map Row.row) k=some [.int .i64 (frI w),.int .i64 s0.second,.int .i64 s0.rent]:=by
    rw [nth_rows2 (by simpa using hk)]
    simp [List.getElem?_set,hk]
    rfl
  have e4:setNth ((l.sites.set k ⟨frI w,s0.second,s0.rent⟩).map Row.row) k [.int .i64 (frI w),.int .i64 (min s0.second (frI w)),.int .i64 s0.rent]=(milledL l k w).sites.map Row.row:=by
    rw [show [D.int .i64 (frI w),.int .i64 (min s0.second (frI w)),.int .i64 s0.rent]=Row.row (⟨frI w,min s0.second (frI w),s0.rent⟩:Site) from rfl,setNth_rows,List.set_set,hs0]
    rfl
  rw [←hm] at hc hv2 e4 ⊢
  have hfr:max 0 (min 99 (w.tdiv 20))=frI w:=rfl
  obtain ⟨b,kB⟩:=V27 (l:=m) (g1:=(false,false)) (g2:=(false,false)) hfit
  have kS:=fun {Q:V→Prop}=>P33 (l:=m) (g1:=(false,false)) (g2:=(false,false)) hfit (Q:=Q)
  have kL:=fun {g1 g2:Bool × Bool} {Q:V→Prop}=>P19 (l:=m) (g1:=g1) (g2:=g2) hsm (Q:=Q)
  have ml:m.sites.length=l.sites.length:=by rw [hm];exact milled_len
  have m1:l.last=m.last:=by rw [hm];rfl
  have m2:l.home=m.home:=by rw [hm];rfl
  have m3:l.purse=m.purse:=by rw [hm];rfl
  have m4:l.bad=m.bad:=by rw [hm];rfl
  have m5:l.rest=m.rest:=by rw [hm];rfl
  have m6:l.roads=m.roads:=by rw [hm];rfl
  have hsb:=fun h=>seen_bd hv2 h
  have p0:=hv2.purse0
  have p1:=hv2.purse1
  have wS:(goA m [] []).2.2=true→IntKind.i64.wrap ((goA m [] []).2.1-m.purse)=(goA m [] []).2.1-m.purse:=fun h=>by
    have:=hsb h
    exact wrapB (by omega) (by omega)
  have nB:((bestL m (-1)).2.2=true∧BestR b m = .tup [.c (L (b,false) (bestL m (-1)).1),.c (.int .i64 (bestN m)),.c (.int .i64 0)])∨(bestN m = -1000∧BestR b m = .tup [.c .nils,.c (.int .i64 0),.c (.int .i64 10)]):=by
    unfold BestR bestN
    rw [if_pos hc]
    cases (bestL m (-1)).2.2 with
    | true=>exact .inl ⟨rfl,rfl⟩
    | false=>exact .inr ⟨rfl,rfl⟩
  have nS:SeenR m = .tup [.c (.int .i64 (seenN m)),.c (.int .i64 0)]∨(seenN m = -1000∧SeenR m = .tup [.c (.int .i64 0),.c (.int .i64 10)]):=by
    unfold SeenR seenN
    rw [if_pos hc]
    cases hg:(goA m [] []).2.2 with
    | true=>rw [if_pos rfl,if_pos rfl,wS hg];exact .inl rfl
    | false=>exact .inr ⟨rfl,rfl⟩
  refine Val_X (fn:=f15) rfl ?_
  rcases nB with ⟨_,nB⟩ | ⟨qB,nB⟩<;>rcases nS with nS | ⟨qS,nS⟩<;>rw [nB] at kB<;>rw [nS] at kS
  · simp only [go_sem,f15,b24,hk',hk,e1,hq,hfr]
    simp only [go_sem,e2,e3,e4,m1,m2,m3,m4,m5,m6,←ml,kL,kB,kS]
  · simp only [go_sem,f15,b24,hk',hk,e1,hq,hfr]
    simp only [go_sem,e2,e3,e4,m1,m2,m3,m4,m5,m6,←ml,kL,kB,kS,qS]
  · simp only [go_sem,f15,b24,hk',hk,e1,hq,hfr]
    simp only [go_sem,e2,e3,e4,m1,m2,m3,m4,m5,m6,←ml,kL,kB,kS,qB]
  · simp only [go_sem,f15,b24,hk',hk,e1,hq,hfr]
    simp only [go_sem,e2,e3,e4,m1,m2,m3,m4,m5,m6,←ml,kL,kB,kS,qB,qS])
end Am.Mv
namespace Am.Cr
open Go Am Am.Tm
set_option maxRecDepth 100000
set_option maxHeartbeats 4000000
set_option linter.unusedSimpArgs false
set_option linter.unusedVariables false
abbrev whF : Field:=⟨0,[⟨20,20⟩],[0],[9],[],1,0,0,[]⟩
abbrev whT : Truth:=⟨[20],[0]⟩
abbrev whL : Mv.Land:=⟨0,0,3,0,1,[⟨0,0,1⟩],[[0]]⟩
set_option maxRecDepth 1000000 in
theorem wh1 : PlayR false whF whT [0] = .tup [.c (L (false,false) [Crop.mk 20 9 180]),.c (.int .i64 0)]:=by kernel_rfl
theorem wh1C {Q:V→Prop}:CallP tab 13 [.agg [C.int .i64 0,.lst true [[.int .i64 20,.int .i64 20]],.lst true [[.int .i64 0]],.lst true [[.int .i64 9]],.nils,.int .i64 1,.int .i64 0,.int .i64 0,.nils],.agg [.lst false [[.int .i64 20]],.lst false [[.int .i64 0]]],.c (.lst true [[.int .i64 0]])] Q↔Q (.tup [.c (L (false,false) [Crop.mk 20 9 180]),.c (.int .i64 0)]):=by
  have h:=cPlay (f:=whF) (g1:=(false,true)) (g2:=(false,true)) (g3:=(false,true)) (g4:=(true,false)) (g5:=(true,false)) (b6:=false) (b7:=false) (g:=(false,true)) (t:=whT) (plan:=[0]) ⟨by decide,by decide,by decide,by decide,by decide⟩ (by decide) (Q:=Q)
  rw [wh1] at h
  exact h
set_option maxRecDepth 1000000 in
theorem wh2 : Mv.bestN (Mv.milledL whL 0 180)=8:=by kernel_rfl
set_option maxRecDepth 1000000 in
theorem wh3 : Mv.seenN (Mv.milledL whL 0 180)=8:=by kernel_rfl
theorem wh2C {Q:V→Prop}:CallP tab 15 [.agg [C.int .i64 0,.int .i64 0,.int .i64 3,.int .i64 0,.int .i64 1,.lst true [[.int .i64 0,.int .i64 0,.int .i64 1]],.lst true [[.lst [[.int .i64 0]]]]],.c (.int .i64 0),.c (.int .i64 180)] Q↔Q (.tup [.c (.int .i64 8),.c (.int .i64 8),.c (.bool true)]):=by
  have h:=Mv.cMilled (l:=whL) (g1:=(false,true)) (g2:=(false,true)) (by kernel_rfl) (k:=0) (by decide) (w:=180) (by decide) (by decide) (Q:=Q)
  rw [wh2,wh3] at h
  exact h
theorem tWheeled {Q:V→Prop}:CallP tab 8 [] Q↔Q (.c (.bool true)):=CallP_of (by
  have x0:atI [Crop.mk 20 9 180] 0=Crop.mk 20 9 180:=rfl
  refine Val_X (fn:=f8) rfl ?_
  simp only [go_sem,f8,wh1C,wh2C,x0])
end Am.Cr
namespace Am.Cr
open Go Am Am.Tm
set_option maxRecDepth 100000
set_option maxHeartbeats 8000000
set_option linter.unusedSimpArgs false
set_option linter.unusedVariables false
variable {f:Field} {l:Mv.Land}
theorem TopMilled_val {which bits site:Int} (hw0:0≤which) (hw1:which≤65535) (hb0:0≤bits) (hb1:bits≤65535) (hs0:0≤site) (hs1:site≤255):Val tab 3 [fieldV (false,false) (false,false) (false,false) (false,false) (false,false) f,Mv.landV (false,false) (false,false) l,.c (.int .u16 which),.c (.int .u16 bits),.c (.int .u8 site)] (.c (.bool true)):=by
  obtain ⟨wn,rfl⟩:∃n:Nat,which=n:=⟨which.toNat,by omega⟩
  obtain ⟨bits,rfl⟩:∃n:Nat,bits=n:=⟨bits.toNat,by omega⟩
  obtain ⟨sn,rfl⟩:∃n:Nat,site=n:=⟨site.toNat,by omega⟩
  refine Val_X (fn:=f3) rfl ?_
  have kT:=fun {Q:V→Prop}=>lThin (f:=f) (g1:=(false,false)) (g2:=(false,false)) (g3:=(false,false)) (g4:=(false,false)) (g5:=(false,false)) (Q:=Q)
  have jT:=fun {Q:V→Prop}=>Mv.P16 (l:=l) (g1:=(false,false)) (g2:=(false,false)) (Q:=Q)
  cases h1:thinB f with
  | false=>simp only [go_sem,f3,kT,h1,tWheeled]
  | true=>
  have hsm:=thin_small h1
  have hW:=hsm.fits
  have kF:=fun {Q:V→Prop}=>rFault (f:=f) (g1:=(false,false)) (g2:=(false,false)) (g3:=(false,false)) (g4:=(false,false)) (g5:=(false,false)) hW (Q:=Q)
  by_cases h0:checkField f=0
  case neg=>simp only [go_sem,f3,kT,h1,kF,h0,tWheeled]
  case pos=>
  cases h2:Mv.thin l with
  | false=>simp only [go_sem,f3,kT,h1,kF,h0,jT,h2,tWheeled]
  | true=>
  have hlf:=(Mv.thin_small h2).fits
  have jF:=fun {Q:V→Prop}=>Mv.P49 (l:=l) (g1:=(false,false)) (g2:=(false,false)) hlf (Q:=Q)
  by_cases h3:Mv.checkLand l=0
  case neg=>simp only [go_sem,f3,kT,h1,kF,h0,jT,h2,jF,h3,tWheeled]
  case pos=>
  have hv:=valid_of h0
  have hvl:=Mv.valid_of h3
  have v3:=hv.last0
  have v4:=hv.last9
  have v5:=hv.base3
  obtain ⟨a,ha⟩:∃a:Nat,f.last=a:=⟨f.last.toNat,by omega⟩
  have hk:(f.last+1).toNat=a+1:=by omega
  have ha9:a≤9:=by omega
  have e1:IntKind.u64.wrap (a:Int)=(a:Int):=by unfold IntKind.wrap;simp [IntKind.signed,IntKind.bits];omega
  have e2:min a IntKind.i64.bits=a:=Nat.min_eq_left (by show a≤64;omega)
  have hpw:(2:Int)*2^a=((2^(a+1):Nat):Int):=by rw [Nat.pow_succ];simp [Int.mul_comm]
  have hpb:2^(a+1)≤2^10:=Nat.pow_le_pow_right (by omega) (by omega)
  have hp1:1≤2^(a+1):=Nat.pow_pos (by omega)
  have e3:IntKind.i64.wrap ((2:Int)*2^a)=((2^(a+1):Nat):Int):=by
    rw [hpw];generalize 2^(a+1)=p at hpb;exact wrapB (by omega) (by omega)
  have e4:IntKind.i64.wrap (((2^(a+1):Nat):Int)-1)=((2^(a+1)-1:Nat):Int):=by
    generalize 2^(a+1)=p at hpb hp1;rw [wrapB (by omega) (by omega)];omega
  have e5:IntKind.i64.wrap (bits:Int)=(bits:Int):=wrapB (by omega) (by omega)
  have e6:IntKind.i64.wrap ((BitVec.ofInt IntKind.i64.bits (bits:Int) &&& BitVec.ofInt IntKind.i64.bits ((2^(a+1)-1:Nat):Int)).toNat:Int)=((bits % 2^(a+1):Nat):Int):=by
    have hb1:(BitVec.ofInt IntKind.i64.bits (bits:Int)).toNat=bits:=by
      rw [BitVec.ofInt_natCast,BitVec.toNat_ofNat]
      exact Nat.mod_eq_of_lt (by show bits<2^64;omega)
    have hb2:(BitVec.ofInt IntKind.i64.bits ((2^(a+1)-1:Nat):Int)).toNat=2^(a+1)-1:=by
      rw [BitVec.ofInt_natCast,BitVec.toNat_ofNat]
      exact Nat.mod_eq_of_lt (by show 2^(a+1)-1<2^64;omega)
    rw [BitVec.toNat_and,hb1,hb2,Nat.and_two_pow_sub_one_eq_mod]
    have:bits % 2^(a+1)≤bits:=Nat.mod_le _ _
    exact wrapB (by omega) (by omega)
  have hbl:bits % 2^(a+1)<2^60:=Nat.lt_of_lt_of_le (Nat.mod_lt _ hp1) (Nat.pow_le_pow_right (by omega) (by omega))
  have hB:=fun {Q:V→Prop}=>rBits (n:=bits % 2^(a+1)) hbl (Q:=Q)
  have a0:¬(a:Int)<0:=by omega
  have hpl0:plannedL f bits=(bitsF (bits % 2^(a+1))).take f.base.length:=by rw [plannedL,hk]
  have hpo:planOk f.last f.base (plannedL f bits)=true:=planned_ok hv
  generalize bitsF (bits % 2^(a+1))=bl at hB hpl0
  generalize plannedL f bits=p at hpl0 hpo
  have hP:=pok_of hv hpo
  have hpl:=plan_le hpo
  have kTr:=fun {Q:V→Prop}=>rTruths (f:=f) (g1:=(false,false)) (g2:=(false,false)) (g3:=(false,false)) (g4:=(false,false)) (g5:=(false,false)) hv (Q:=Q)
  have kFi:=fun {Q:V→Prop}=>lField (f:=f) (g1:=(false,false)) (g2:=(false,false)) (g3:=(false,false)) (g4:=(false,false)) (g5:=(false,false)) hsm (Q:=Q)
  have kW:=fun {g:Bool × Bool} {Q:V→Prop}=>cWorth (f:=f) (g1:=(false,false)) (g2:=(false,false)) (g3:=(false,false)) (g4:=(false,false)) (g5:=(false,false)) (g:=g) (plan:=p) hW (big_of (by omega)) (Q:=Q)
  have hask:=askE_ref hv h0 (planOk f.last f.base p)
  rw [hpo,if_neg (by simp)] at hask
  have b8:p.length*8≤2^40:=by omega
  have e7:IntKind.i64.wrap (wn:Int)=(wn:Int):=wrapB (by omega) (by omega)
  have e8:IntKind.i64.wrap (sn:Int)=(sn:Int):=wrapB (by omega) (by omega)
  have e1':IntKind.u64.wrap f.last=f.last:=by rw [ha];exact e1
  have e2':min f.last.toNat IntKind.i64.bits=a:=by rw [ha];exact e2
  have a0':¬f.last<0:=by omega
  have x0:0<l.sites.length:=hvl.n0
  obtain ⟨kk,hkk0⟩:∃kk,kk=sn % l.sites.length:=⟨_,rfl⟩
  have hkk:kk<l.sites.length:=by rw [hkk0];exact Nat.mod_lt _ x0
  have e11:(sn:Int).tmod ((l.sites.length:Nat):Int)=(kk:Int):=by rw [hkk0];rfl
  have e12:¬((l.sites.length:Nat):Int)=0:=by omega
  by_cases hz:refTruths f=[]
  · have hR:WorthR f p = .tup [.agg [.int .i64 0,.int .i64 0],.c (.int .i64 11)]:=by
      rw [if_pos hz] at hask
      rw [WorthR,hpo,if_neg (by rw [hask];decide),hask]
    rw [hR] at kW
    rw [hz] at kTr
    by_cases hlt:f.base.length<bl.length
    · have m3:takeN f.base.length (bl.map (Row.row (α:=Int)))=some (p.map Row.row):=by
        rw [takeN_L (by omega),hpl0]
      have m4:f.base.length≤bl.length:=by omega
      simp (maxSteps:=1000000) only [go_sem,f3,kT,h1,kF,h0,jT,h2,jF,h3,e1',e2',e3,e4,e5,e6,hB,a0',hlt,m3,m4,kTr,kFi,kW,b8,tWheeled,List.length_nil]
    · obtain rfl:p=bl:=by rw [hpl0,List.take_of_length_le (by omega)]
      simp (maxSteps:=1000000) only [go_sem,f3,kT,h1,kF,h0,jT,h2,jF,h3,e1',e2',e3,e4,e5,e6,hB,a0',hlt,kTr,kFi,kW,b8,tWheeled,List.length_nil]
  · rw [if_neg hz] at hask
    have hne:truthsL f []≠[]:=fun e=>hz ((refTruths_nil hv).2 e)
    have hR:WorthR f p = .tup [.agg [.int .i64 (worthRg f p).lo,.int .i64 (worthRg f p).hi],.c (.int .i64 0)]:=by
      rw [WorthR,hpo,if_pos hask]
    rw [hR] at kW
    obtain ⟨ts,hts⟩:∃ts,ts=refTruths f:=⟨_,rfl⟩
    have hmt:∀t∈ts,TOk f t∧t∈truthsL f []:=fun t ht=>by
      rw [hts] at ht;exact ⟨refTruths_tok hv t ht,(mem_refTruths hv).1 ht⟩
    have hl2:ts.length≤2000:=by rw [hts];exact refTruths_len hv
    rw [←hts] at kTr hz
    have hl0:0<ts.length:=List.length_pos_iff.2 hz
    obtain ⟨n,hn⟩:∃n,n=wn % ts.length:=⟨_,rfl⟩
    have hnl:n<ts.length:=by rw [hn];exact Nat.mod_lt _ hl0
    have e9:(wn:Int).tmod ((ts.length:Nat):Int)=(n:Int):=by rw [hn];rfl
    have e10:¬((ts.length:Nat):Int)=0:=by omega
    obtain ⟨t,ht⟩:∃t,t=ts.getD n default:=⟨_,rfl⟩
    obtain ⟨hTx,c1⟩:=hmt t (by rw [ht,getD_lt _ _ _ hnl];exact List.getElem_mem hnl)
    have hTg:=hTx.gl
    have hTw:=hTx.wl
    have hT10:=hTx.l10
    have hlt':listedB f t=true:=by have:=(truth_iff hv).1 c1;rw [isTruthB,Bool.and_eq_true] at this;exact this.1
    have k1:=fun {g:Bool × Bool} {Q:V→Prop}=>cPlay (f:=f) (g1:=(false,false)) (g2:=(false,false)) (g3:=(false,false)) (g4:=(false,false)) (g5:=(false,false)) (b6:=false) (b7:=false) (g:=g) (t:=t) (plan:=p) hW (big_of (by omega)) (Q:=Q)
    rw [play_ok h0 hlt' hpo] at k1
    have k9:=fun {b6 b7:Bool × Bool} {Q:V→Prop}=>lTruth (b6:=b6) (b7:=b7) (t:=t) (by omega) (by omega) (Q:=Q)
    have hcl:=cropsL_len (f:=f) (t:=t) (plan:=p)
    have hall:∀t∈truthsL f [],0≤worthI f t p∧worthI f t p≤1000000:=fun t h=>(worth_bound hv (refTruths_tok hv t ((mem_refTruths hv).2 h)) hP).2
    have hIs:=bdL_IsRg (val:=fun t=>worthI f t p) hne
    have hwr:(worthRg f p).lo≤worthI f t p∧worthI f t p≤(worthRg f p).hi:=hIs.2.2 t c1
    have hlo:0≤(worthRg f p).lo:=by obtain ⟨t',h',e'⟩:=hIs.1;have:=(hall t' h').1;have e':worthI f t' p=(worthRg f p).lo:=e';omega
    have hhi:(worthRg f p).hi≤1000000:=by obtain ⟨t',h',e'⟩:=hIs.2.1;have:=(hall t' h').2;have e':worthI f t' p=(worthRg f p).hi:=e';omega
    generalize worthRg f p=rg at kW hwr hlo hhi
    have q1:=fun {Q:V→Prop}=>Mv.cMilled (l:=l) (g1:=(false,false)) (g2:=(false,false)) h3 (k:=kk) hkk (w:=rg.lo) hlo (by omega) (Q:=Q)
    have q2:=fun {Q:V→Prop}=>Mv.cMilled (l:=l) (g1:=(false,false)) (g2:=(false,false)) h3 (k:=kk) hkk (w:=worthI f t p) (by omega) (by omega) (Q:=Q)
    have q3:=fun {Q:V→Prop}=>Mv.cMilled (l:=l) (g1:=(false,false)) (g2:=(false,false)) h3 (k:=kk) hkk (w:=rg.hi) (by omega) hhi (Q:=Q)
    have v:=fun w=>Mv.valid_of (Mv.check_milled h3 hkk (w:=w))
    have r1:=Mv.bestN_le (Mv.milled_le hkk hlo hwr.1) (v _) (v _)
    have r2:=Mv.bestN_le (Mv.milled_le hkk (by omega) hwr.2) (v _) (v _)
    have r3:=Mv.seenN_le (Mv.milled_le hkk hlo hwr.1) (v _) (v _)
    have r4:=Mv.seenN_le (Mv.milled_le hkk (by omega) hwr.2) (v _) (v _)
    clear v
    have hsum:totK f t p p.length=worthI f t p:=worthI_tot.symm
    generalize Mv.bestN (Mv.milledL l kk rg.lo)=z1 at q1 r1
    generalize Mv.seenN (Mv.milledL l kk rg.lo)=z2 at q1 r3
    generalize Mv.bestN (Mv.milledL l kk (worthI f t p))=z3 at q2 r1 r2
    generalize Mv.seenN (Mv.milledL l kk (worthI f t p))=z4 at q2 r3 r4
    generalize Mv.bestN (Mv.milledL l kk rg.hi)=z5 at q3 r2
    generalize Mv.seenN (Mv.milledL l kk rg.hi)=z6 at q3 r4
    by_cases hlt:f.base.length<bl.length
    · have m3:takeN f.base.length (bl.map (Row.row (α:=Int)))=some (p.map Row.row):=by
        rw [takeN_L (by omega),hpl0]
      have m4:f.base.length≤bl.length:=by omega
      simp (maxSteps:=1000000) only [go_sem,f3,kT,h1,kF,h0,jT,h2,jF,h3,e1',e2',e3,e4,e5,e6,hB,a0',hlt,m3,m4,kTr,kFi,kW,b8,e7,e9,e10,hnl,atI_nat,←ht,k9,k1,hcl]
      refine RX_forC p.length (fun k=>[(17,.c (.int .i64 (totK f t p k))),(18,.c (.int .i64 k))]) (fun _=>True) rfl trivial (by simp only [go_sem]<;>first | rfl | exact ⟨rfl,rfl⟩) ?_
      intro k hk _
      by_cases hlk:k<p.length
      · have e13:IntKind.i64.wrap ((k:Int)+1)=((k+1:Nat):Int):=wrap_succ (n:=3000) (by omega) (by decide)
        have hcr:=crops_getD (f:=f) (t:=t) hlk
        have i1:k<(cropsL f t p).length:=by omega
        have hst:IntKind.i64.wrap (totK f t p k+(cropAt f t p k).worth)=totK f t p (k+1):=rfl
        simp (maxSteps:=1000000) only [go_sem,hlk,i1,hcl,atI_nat,hcr,hst,e13]
      · have hke:k=p.length:=by omega
        subst hke
        simp (maxSteps:=1000000) only [go_sem,hlk,hcl,hsum,e8,e11,e12,q1,q2,q3,r1,r2,r3,r4,tWheeled]
    · obtain rfl:p=bl:=by rw [hpl0,List.take_of_length_le (by omega)]
      simp (maxSteps:=1000000) only [go_sem,f3,kT,h1,kF,h0,jT,h2,jF,h3,e1',e2',e3,e4,e5,e6,hB,a0',hlt,kTr,kFi,kW,b8,e7,e9,e10,hnl,atI_nat,←ht,k9,k1,hcl]
      refine RX_forC p.length (fun k=>[(17,.c (.int .i64 (totK f t p k))),(18,.c (.int .i64 k))]) (fun _=>True) rfl trivial (by simp only [go_sem]<;>first | rfl | exact ⟨rfl,rfl⟩) ?_
      intro k hk _
      by_cases hlk:k<p.length
      · have e13:IntKind.i64.wrap ((k:Int)+1)=((k+1:Nat):Int):=wrap_succ (n:=3000) (by omega) (by decide)
        have hcr:=crops_getD (f:=f) (t:=t) hlk
        have i1:k<(cropsL f t p).length:=by omega
        have hst:IntKind.i64.wrap (totK f t p k+(cropAt f t p k).worth)=totK f t p (k+1):=rfl
        simp (maxSteps:=1000000) only [go_sem,hlk,i1,hcl,atI_nat,hcr,hst,e13]
      · have hke:k=p.length:=by omega
        subst hke
        simp (maxSteps:=1000000) only [go_sem,hlk,hcl,hsum,e8,e11,e12,q1,q2,q3,r1,r2,r3,r4,tWheeled]
end Am.Cr
