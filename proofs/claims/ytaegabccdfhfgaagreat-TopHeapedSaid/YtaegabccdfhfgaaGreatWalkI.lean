/-
  A part of the proof: the texts HP5, HP6, HP7, HP8, HP9 of this seat, joined.
-/
import Derived.Test.YtaegabccdfhfgaaGreatWalkH
import Derived.Test.YtaegabccdfhfgaaGreatWalkD
import Derived.Test.YtaegabccdfhfgaaGreatWalkF
import Derived.Test.YtaegabccdfhfgaaGreatWalkE
import Derived.Test.YtaegabccdfhfgaaGreatWalkB
import Derived.Test.YtaegabccdfhfgaaGreatWalkC
import Derived.KernelRfl
namespace Am.Hp
open Go Am Am.Tm Am.Cr
set_option maxRecDepth 100000
set_option maxHeartbeats 4000000
set_option linter.unusedSimpArgs false
set_option linter.unusedVariables false
variable {g1 g2 g3:Bool × Bool} {x:Heap}
theorem qIn {n low high:Int} {Q:V→Prop}:CallP tab 22 [.c (.int .i64 n),.c (.int .i64 low),.c (.int .i64 high)] Q↔Q (.c (.bool (inR n low high))):=CallP_of (by
  refine Val_X (fn:=f22) rfl ?_
  simp only [go_sem,f22,ge_iff_le]
  constructor<;>intro h<;>simp [h,inR])
theorem qSize {lo hi:Int} {Q:V→Prop}:CallP tab 46 [.agg [.int .i64 lo,.int .i64 hi]] Q↔Q (.c (.int .i64 (sizeI lo hi))):=CallP_of (by
  refine Val_X (fn:=f46) rfl ?_
  simp only [go_sem,f46,sizeI])
theorem qWithin {lo hi low high:Int} {Q:V→Prop}:CallP tab 23 [.agg [.int .i64 lo,.int .i64 hi],.c (.int .i64 low),.c (.int .i64 high)] Q↔Q (.c (.bool (decide (low≤lo)&&(decide (lo≤hi)&&decide (hi≤high))))):=CallP_of (by
  refine Val_X (fn:=f23) rfl ?_
  simp only [go_sem,f23,ge_iff_le]
  refine ⟨fun h=>⟨fun h'=>?_,fun h'=>?_⟩,fun h=>?_⟩<;>simp [*])
theorem kto {lo hi:Int} {Q:V→Prop}:CallP tab 77 [.agg [.int .i64 lo,.int .i64 hi]] Q↔Q (.agg [.int .i64 lo,.int .i64 hi]):=CallP_of (by
  refine Val_X (fn:=f77) rfl ?_
  simp only [go_sem,f77])
theorem klist {g:Bool × Bool} {a:List Int} (ha:a.length≤1000) {Q:V→Prop}:CallP tab 78 [.c (L g a)] Q↔Q (.c (L (false,false) a)):=CallP_of (by
  have hb:a.length*8≤2^40:=by omega
  refine Val_X (fn:=f78) rfl ?_
  simp only [go_sem,f78,hb])
theorem kTruth {g:Bool × Bool} {st:Int} {wet:List Int} (h1:wet.length≤1000) {Q:V→Prop}:CallP tab 42 [.agg [.int .i64 st,L g wet]] Q↔Q (.agg [.int .i64 st,L (false,false) wet]):=CallP_of (by
  refine Val_X (fn:=f42) rfl ?_
  simp only [go_sem,f42,klist h1])
theorem qIsTurns (h9:x.last≤9) {g:Bool × Bool} {l:List Int} (hl:l.length≤1000) {Q:V→Prop}:CallP tab 24 [heapV g1 g2 g3 x,.c (L g l)] Q↔Q (.c (.bool (planOk x.last l l))):=CallP_of (by
  refine Val_X (fn:=f24) rfl ?_
  simp only [go_sem,f24]
  refine RX_forC l.length (fun k=>[(5,.c (.int .i64 k))]) (fun k=>∀i,i<k→(0≤l.getD i default∧l.getD i default≤x.last)∧(0<i→l.getD (i-1) default<l.getD i default)) rfl (fun i h=>by omega) (by simp only [go_sem]<;>rfl) ?_
  intro k hk hP
  by_cases hlt:k<l.length
  · have e4:IntKind.i64.wrap ((k:Int)+1)=((k+1:Nat):Int):=wrap_succ (n:=2000) (by omega) (by decide)
    have hno:∀{P:Prop},((0≤l.getD k default∧l.getD k default≤x.last)∧(0<k→l.getD (k-1) default<l.getD k default)→False)→planOk x.last l l=false:=fun h=>by
      cases hp:planOk x.last l l with
      | false=>rfl
      | true=>exact (h (((planOk_iff h9).1 hp).2 k hlt)).elim
    by_cases hk0:k=0
    · subst hk0
      have hl0:(0:Int)<l.length:=by omega
      have ha0:atI l 0=l.getD 0 default:=rfl
      cases hi:inR (l.getD 0 default) 0 x.last with
      | false=>
        have:planOk x.last l l=false:=hno (P:=True) fun h=>by
          rw [←Bool.not_eq_true,inR_iff] at hi
          exact hi ⟨h.1.1,h.1.2⟩
        simp only [go_sem,hlt,atI_nat,qIn,hi,this,hl0,ha0]
      | true=>
        simp only [go_sem,hlt,atI_nat,qIn,hi,gt_iff_lt,e4,hl0,ha0]
        rw [inR_iff] at hi
        intro i hi'
        have:i=0:=by omega
        subst this
        exact ⟨hi,fun h=>by omega⟩
    · have hkp:(0:Int)<(k:Int):=by omega
      have hkw:IntKind.i64.wrap ((k:Int)-1)=((k-1:Nat):Int):=by rw [wrapB (by omega) (by omega)];omega
      have k1:k-1<l.length:=by omega
      cases hi:inR (l.getD k default) 0 x.last with
      | false=>
        have:planOk x.last l l=false:=hno (P:=True) fun h=>by
          rw [←Bool.not_eq_true,inR_iff] at hi
          exact hi ⟨h.1.1,h.1.2⟩
        simp only [go_sem,hlt,atI_nat,qIn,hi,this]
      | true=>
        by_cases hle:l.getD k default≤l.getD (k-1) default
        · have:planOk x.last l l=false:=hno (P:=True) fun h=>by have:=h.2 (by omega);omega
          simp only [go_sem,hlt,atI_nat,qIn,hi,gt_iff_lt,hkp,hkw,k1,hle,this]
        · simp only [go_sem,hlt,atI_nat,qIn,hi,gt_iff_lt,hkp,hkw,k1,hle,e4]
          rw [inR_iff] at hi
          intro i hi'
          by_cases hik:i=k
          · subst hik;exact ⟨hi,fun _=>by omega⟩
          · exact hP i (by omega)
  · have:k=l.length:=by omega
    subst this
    have:planOk x.last l l=decide (l.length≤l.length):=by
      rw [Bool.eq_iff_iff,planOk_iff h9]
      simp only [decide_eq_true_eq]
      exact ⟨fun h=>h.1,fun h=>⟨h,hP⟩⟩
    simp only [go_sem,hlt,this])
def manyK (x:Heap):Nat→Nat
  | 0=>szN x.start
  | k+1=>min 3000 (manyK x k*szN (x.wet.getD k default))
structure Rgs (x:Heap):Prop where
  s:0≤x.start.lo∧x.start.lo≤x.start.hi∧x.start.hi≤500
  w:∀r∈x.wet,0≤r.lo∧r.lo≤r.hi∧r.hi≤20
  l:x.wet.length≤12
theorem sz_eq {r:Rg} (h:0≤r.lo∧r.lo≤r.hi∧r.hi≤500):sizeI r.lo r.hi=(szN r:Nat)∧1≤szN r∧szN r≤501:=by
  refine ⟨?_,by unfold szN;omega,by unfold szN;omega⟩
  unfold sizeI szN
  rw [wrapB (n:=r.hi-r.lo) (by omega) (by omega),wrapB (by omega) (by omega)];omega
theorem wet_at (h:Rgs x) {k:Nat} (hk:k<x.wet.length):0≤(x.wet.getD k default).lo∧(x.wet.getD k default).lo≤(x.wet.getD k default).hi∧(x.wet.getD k default).hi≤20:=h.w _ (by rw [getD_lt _ _ _ hk];exact List.getElem_mem hk)
theorem manyK_bd (h:Rgs x):∀{k:Nat},k≤x.wet.length→1≤manyK x k∧manyK x k≤3000
  | 0,_=>by have:=sz_eq h.s;show 1≤szN x.start∧szN x.start≤3000;omega
  | k+1,hk=>by
    have ih:=manyK_bd h (k:=k) (by omega)
    have hw:=wet_at h (k:=k) (by omega)
    have hz:=sz_eq (r:=x.wet.getD k default) (by omega)
    have:1≤manyK x k*szN (x.wet.getD k default):=Nat.mul_pos (by omega) (by omega)
    show 1≤min 3000 _∧min 3000 _≤3000
    omega
theorem qMany (h:Rgs x) {Q:V→Prop}:CallP tab 21 [heapV g1 g2 g3 x] Q↔Q (.c (.int .i64 (manyK x x.wet.length:Nat))):=CallP_of (by
  have hl:=h.l
  have hs:=(sz_eq h.s).1
  refine Val_X (fn:=f21) rfl ?_
  simp only [go_sem,f21,qSize,hs]
  refine RX_forC x.wet.length (fun k=>[(3,.c (.int .i64 (manyK x k:Nat))),(4,.c (.int .i64 k))]) (fun _=>True) rfl trivial (by simp only [go_sem]<;>rfl) ?_
  intro k hk _
  by_cases hlt:k<x.wet.length
  · have e4:IntKind.i64.wrap ((k:Int)+1)=((k+1:Nat):Int):=wrap_succ (n:=3000) (by omega) (by decide)
    have hw:=wet_at h hlt
    obtain ⟨z1,z2,z3⟩:=sz_eq (r:=x.wet.getD k default) (by omega)
    have hz21:szN (x.wet.getD k default)≤21:=by unfold szN;omega
    obtain ⟨hm1,hm2⟩:=manyK_bd h hk
    have hst:manyK x (k+1)=min 3000 (manyK x k*szN (x.wet.getD k default)):=rfl
    generalize szN (x.wet.getD k default)=z at z1 hz21 hst
    generalize manyK x k=m at hm1 hm2 hst
    have hmz:m*z≤3000*21:=Nat.mul_le_mul hm2 hz21
    have f1:IntKind.i64.wrap ((m:Int)*(z:Int))=((m*z:Nat):Int):=by
      rw [show (m:Int)*(z:Int)=((m*z:Nat):Int) by simp]
      generalize m*z=p at hmz
      exact wrapB (by omega) (by omega)
    have f3:min (3000:Int) ((m*z:Nat):Int)=((min 3000 (m*z):Nat):Int):=by omega
    simp only [go_sem,hlt,atI_nat,qSize,z1,f1,f3,e4,hst,Int.min_comm]
  · have:k=x.wet.length:=by omega
    subst this
    simp only [go_sem,hlt])
theorem many_prod (h:Rgs x):∀{k:Nat},k≤x.wet.length→manyK x k=min 3000 (szN x.start*prodN (x.wet.take k))
  | 0,_=>by have:=sz_eq h.s;show szN x.start=min 3000 (szN x.start*1);omega
  | k+1,hk=>by
    have ih:=many_prod h (k:=k) (by omega)
    have hw:=wet_at h (k:=k) (by omega)
    have hz:=sz_eq (r:=x.wet.getD k default) (by omega)
    have e:prodN (x.wet.take (k+1))=prodN (x.wet.take k)*szN (x.wet.getD k default):=by
      rw [take_getD (show k<x.wet.length by omega) default,prodN_append,prodN_one];rfl
    show min 3000 (manyK x k*szN (x.wet.getD k default))=_
    rw [ih,e,←Nat.mul_assoc]
    generalize szN x.start*prodN (x.wet.take k)=p
    generalize szN (x.wet.getD k default)=m at hz
    by_cases hp:p≤3000
    · rw [Nat.min_eq_right hp]
    · have h1:3000*1≤3000*m:=Nat.mul_le_mul_left _ hz.2.1
      have h2:3000*1≤p*m:=Nat.mul_le_mul (by omega) hz.2.1
      rw [Nat.min_eq_left (by omega:3000≤p),Nat.min_eq_left (by omega),Nat.min_eq_left (by omega)]
theorem many_L (h:Rgs x):manyL (x.start::x.wet)>2000↔manyK x x.wet.length>2000:=by
  have hs:=h.s
  have:=many_min (rs:=x.start::x.wet) (m:=1) (fun r hr=>by
    rcases List.mem_cons.1 hr with rfl | hr
    · omega
    · have:=h.w r hr;omega) (by omega) (by omega)
  rw [Nat.one_mul] at this
  have e:manyL (x.start::x.wet)=((min (prodN (x.start::x.wet)) 2001:Nat):Int):=this
  have e2:prodN (x.start::x.wet)=szN x.start*prodN x.wet:=rfl
  rw [e,e2,many_prod h (Nat.le_refl _),List.take_length]
  omega
end Am.Hp
namespace Am.Hp
open Go Am Am.Tm Am.Cr
set_option maxRecDepth 100000
set_option maxHeartbeats 4000000
set_option linter.unusedSimpArgs false
set_option linter.unusedVariables false
variable {g1 g2 g3:Bool × Bool} {x:Heap}
structure Heap.Small (x:Heap):Prop where
  wet:x.wet.length≤12
  turns:x.turns.length≤12
  reads:x.reads.length≤7
instance : Decidable x.Small:=decidable_of_iff (x.wet.length≤12∧x.turns.length≤12∧x.reads.length≤7) ⟨fun h=>⟨h.1,h.2.1,h.2.2⟩,fun h=>⟨h.wet,h.turns,h.reads⟩⟩
def wOk (lo hi high:Int):Bool:=decide (0≤lo)&&(decide (lo≤hi)&&decide (hi≤high))
theorem wOk_iff {lo hi high:Int}:wOk lo hi high=true↔0≤lo∧lo≤hi∧hi≤high:=by simp [wOk]
theorem qW {lo hi high:Int} {Q:V→Prop}:CallP tab 23 [.agg [.int .i64 lo,.int .i64 hi],.c (.int .i64 0),.c (.int .i64 high)] Q↔Q (.c (.bool (wOk lo hi high))):=qWithin
def numsR (x:Heap):Bool:=decide (0≤x.last)&&(inR x.size 0 20&&(inR x.cool 0 100&&(inR x.die 0 500&&(inR x.burn x.die 500&&wOk x.start.lo x.start.hi 500))))
def rdOk (last:Int) (s:Rd):Bool:=inR s.hour 0 last&&(inR s.seen 0 1000&&inR s.err 0 50)
def faultH (x:Heap):Int:=if x.last>9 then 3 else if (x.reads.length:Int)>5 then 3 else if numsR x=false then 1 else if ¬(x.wet.length:Int)=IntKind.i64.wrap (x.last+1) then 1
  else if planOk x.last x.turns x.turns=false then 1 else if x.wet.all (fun r=>wOk r.lo r.hi 20)=false then 1 else if x.reads.all (rdOk x.last)=false then 1 else if manyK x x.wet.length>2000 then 3 else 0
theorem qFault (hs:x.Small) {Q:V→Prop}:CallP tab 7 [heapV g1 g2 g3 x] Q↔Q (.c (.int .i64 (faultH x))):=CallP_of (by
  have s1:=hs.wet
  have s2:=hs.turns
  have s3:=hs.reads
  refine Val_X (fn:=f7) rfl ?_
  by_cases a1:x.last>9
  · simp only [go_sem,f7,a1,faultH]
  by_cases a2:(x.reads.length:Int)>5
  · simp only [go_sem,f7,a1,a2,faultH]
  have hN:numsR x=false→faultH x=1:=fun h=>by rw [faultH,if_neg a1,if_neg a2,if_pos h]
  by_cases a3:x.last<0
  · have:=hN (by simp [numsR,show ¬0≤x.last by omega])
    simp only [go_sem,f7,a1,a2,a3,this]
  cases a4:inR x.size 0 20 with
  | false=>have:=hN (by simp [numsR,a4]);simp only [go_sem,f7,a1,a2,a3,qIn,a4,this]
  | true=>
  cases a5:inR x.cool 0 100 with
  | false=>have:=hN (by simp [numsR,a5]);simp only [go_sem,f7,a1,a2,a3,qIn,a4,a5,this]
  | true=>
  cases a6:inR x.die 0 500 with
  | false=>have:=hN (by simp [numsR,a6]);simp only [go_sem,f7,a1,a2,a3,qIn,a4,a5,a6,this]
  | true=>
  cases a7:inR x.burn x.die 500 with
  | false=>have:=hN (by simp [numsR,a7]);simp only [go_sem,f7,a1,a2,a3,qIn,a4,a5,a6,a7,this]
  | true=>
  cases a8:wOk x.start.lo x.start.hi 500 with
  | false=>have:=hN (by simp [numsR,a8]);simp only [go_sem,f7,a1,a2,a3,qIn,qW,a4,a5,a6,a7,a8,this]
  | true=>
  have hn:numsR x=true:=by simp only [numsR,a4,a5,a6,a7,a8,Bool.and_true,decide_eq_true_eq];omega
  have hF1:faultH x=if ¬(x.wet.length:Int)=IntKind.i64.wrap (x.last+1) then 1 else if planOk x.last x.turns x.turns=false then 1 else if x.wet.all (fun r=>wOk r.lo r.hi 20)=false then 1 else if x.reads.all (rdOk x.last)=false then 1 else if manyK x x.wet.length>2000 then 3 else 0:=by
    rw [faultH,if_neg a1,if_neg a2,if_neg (by rw [hn];simp)]
  have hT:=fun {g:Bool × Bool} {Q:V→Prop}=>qIsTurns (g1:=g1) (g2:=g2) (g3:=g3) (x:=x) (by omega) (g:=g) (l:=x.turns) (by omega) (Q:=Q)
  by_cases a9:(x.wet.length:Int)=IntKind.i64.wrap (x.last+1)
  case neg=>
    rw [if_pos a9] at hF1
    simp only [go_sem,f7,a1,a2,a3,qIn,qW,a4,a5,a6,a7,a8,a9,hF1]
  case pos=>
  rw [if_neg (fun h=>h a9)] at hF1
  cases b1:planOk x.last x.turns x.turns with
  | false=>
    rw [if_pos b1] at hF1
    simp only [go_sem,f7,a1,a2,a3,qIn,qW,a4,a5,a6,a7,a8,a9,hT,b1,hF1]
  | true=>
  rw [if_neg (by rw [b1];simp)] at hF1
  simp only [go_sem,f7,a1,a2,a3,qIn,qW,a4,a5,a6,a7,a8,a9,hT,b1]
  refine RX_forC x.wet.length (fun k=>[(3,.c (.int .i64 k))]) (fun k=>∀i,i<k→wOk (x.wet.getD i default).lo (x.wet.getD i default).hi 20=true) rfl (fun i h=>by omega) (by simp only [go_sem]<;>rfl) ?_
  intro k hk hP
  by_cases hlt:k<x.wet.length
  · have e4:IntKind.i64.wrap ((k:Int)+1)=((k+1:Nat):Int):=wrap_succ (n:=3000) (by omega) (by decide)
    cases hw:wOk (x.wet.getD k default).lo (x.wet.getD k default).hi 20 with
    | false=>
      have:faultH x=1:=by
        rw [hF1,if_pos]
        rw [List.all_eq_false]
        exact ⟨_,List.getElem_mem hlt,by rw [←getD_lt _ _ default hlt,hw];simp⟩
      simp only [go_sem,hlt,atI_nat,qW,hw,this]
    | true=>
      simp only [go_sem,hlt,atI_nat,qW,hw,e4]
      intro i hi
      by_cases hik:i=k
      · subst hik;exact hw
      · exact hP i (by omega)
  have hke:k=x.wet.length:=by omega
  subst hke
  have hW:x.wet.all (fun r=>wOk r.lo r.hi 20)=true:=by
    rw [List.all_eq_true];intro r hr
    obtain ⟨i,hi,rfl⟩:=List.getElem_of_mem hr
    have:=hP i hi
    rwa [getD_lt _ _ _ hi] at this
  rw [if_neg (by rw [hW];simp)] at hF1
  simp only [go_sem,hlt]
  refine RX_for x.reads.length (fun k=>[(4,.c (.int .i64 k))]) (fun _=>[.cells (heapC g1 g2 g3 x)]) (fun k=>∀i,i<k→rdOk x.last (x.reads.getD i default)=true) (fun i h=>by omega) (by simp only [go_sem]<;>rfl) ?_
  intro k hk hP2
  by_cases hlt2:k<x.reads.length
  · have e4:IntKind.i64.wrap ((k:Int)+1)=((k+1:Nat):Int):=wrap_succ (n:=3000) (by omega) (by decide)
    have hno:rdOk x.last (x.reads.getD k default)=false→faultH x=1:=fun h=>by
      rw [hF1,if_pos]
      rw [List.all_eq_false]
      exact ⟨_,List.getElem_mem hlt2,by rw [←getD_lt _ _ default hlt2,h];simp⟩
    cases c1:inR (x.reads.getD k default).hour 0 x.last with
    | false=>have:=hno (by unfold rdOk;rw [c1];rfl);simp only [go_sem,hlt2,atI_nat,qIn,c1,this]
    | true=>
    cases c2:inR (x.reads.getD k default).seen 0 1000 with
    | false=>have:=hno (by unfold rdOk;rw [c1,c2];rfl);simp only [go_sem,hlt2,atI_nat,qIn,c1,c2,this]
    | true=>
    cases c3:inR (x.reads.getD k default).err 0 50 with
    | false=>have:=hno (by unfold rdOk;rw [c1,c2,c3];rfl);simp only [go_sem,hlt2,atI_nat,qIn,c1,c2,c3,this]
    | true=>
      simp only [go_sem,hlt2,atI_nat,qIn,c1,c2,c3,e4]
      intro i hi
      by_cases hik:i=k
      · subst hik;unfold rdOk;rw [c1,c2,c3];rfl
      · exact hP2 i (by omega)
  have hke:k=x.reads.length:=by omega
  subst hke
  have hR:x.reads.all (rdOk x.last)=true:=by
    rw [List.all_eq_true];intro r hr
    obtain ⟨i,hi,rfl⟩:=List.getElem_of_mem hr
    have:=hP2 i hi
    rwa [getD_lt _ _ _ hi] at this
  rw [if_neg (by rw [hR];simp)] at hF1
  have hRg:Rgs x:=⟨wOk_iff.1 a8,fun r hr=>wOk_iff.1 ((List.all_eq_true.1 hW) r hr),s1⟩
  have hM:=fun {Q:V→Prop}=>qMany (g1:=g1) (g2:=g2) (g3:=g3) hRg (Q:=Q)
  by_cases d1:manyK x x.wet.length>2000
  · rw [if_pos d1] at hF1
    have d2:((manyK x x.wet.length:Nat):Int)>2000:=by omega
    simp only [go_sem,hlt2,hM,d2,hF1]
  · rw [if_neg d1] at hF1
    have d2:¬((manyK x x.wet.length:Nat):Int)>2000:=by omega
    simp only [go_sem,hlt2,hM,d2,hF1])
structure Heap.Valid (x:Heap):Prop where
  last0:0≤x.last
  last9:x.last≤9
  nums:numsR x=true
  wetl:(x.wet.length:Int)=x.last+1
  turns:planOk x.last x.turns x.turns=true
  rgs:Rgs x
  many:manyK x x.wet.length≤2000
theorem valid_of (hs:x.Small) (h:faultH x=0):x.Valid:=by
  unfold faultH at h
  repeat' (split at h;first | (exfalso;omega) | skip)
  rename_i a1 a2 a3 a4 a5 a6 a7 a8
  have n0:numsR x=true:=by simpa using a3
  have n1:=n0
  simp only [numsR,Bool.and_eq_true,decide_eq_true_eq] at n1
  have a4:=Decidable.not_not.1 a4
  rw [wrapB (by omega) (by omega)] at a4
  have a6:x.wet.all (fun r=>wOk r.lo r.hi 20)=true:=by simpa using a6
  exact ⟨n1.1,by omega,n0,a4,by simpa using a5,⟨wOk_iff.1 n1.2.2.2.2.2,fun r hr=>wOk_iff.1 ((List.all_eq_true.1 a6) r hr),hs.wet⟩,by omega⟩
def thinH (x:Heap):Bool:=decide x.Small&&(decide (faultH x≠0)||decide (manyK x x.wet.length≤100))
theorem thinH_small (h:thinH x=true):x.Small:=by
  simp only [thinH,Bool.and_eq_true,decide_eq_true_eq] at h;exact h.1
theorem kThin {Q:V→Prop}:CallP tab 6 [heapV g1 g2 g3 x] Q↔Q (.c (.bool (thinH x))):=CallP_of (by
  refine Val_X (fn:=f6) rfl ?_
  by_cases h1:(x.wet.length:Int)≤12
  · by_cases h2:(x.turns.length:Int)≤12
    · by_cases h3:(x.reads.length:Int)≤7
      · have hs:x.Small:=⟨by omega,by omega,by omega⟩
        have hF:=fun {Q:V→Prop}=>qFault (g1:=g1) (g2:=g2) (g3:=g3) hs (Q:=Q)
        by_cases h0:faultH x=0
        · have hM:=fun {Q:V→Prop}=>qMany (g1:=g1) (g2:=g2) (g3:=g3) (valid_of hs h0).rgs (Q:=Q)
          have:(((manyK x x.wet.length:Nat):Int)≤100)↔manyK x x.wet.length≤100:=by omega
          simp only [go_sem,f6,h1,h2,h3,hF,hM,h0]
          simp [thinH,hs,h0,this]
        · simp only [go_sem,f6,h1,h2,h3,hF,h0]
          simp [thinH,hs,h0]
      · have hs:¬x.Small:=fun h=>h3 (by have:=h.reads;omega)
        simp only [go_sem,f6,h1,h2,h3]
        simp [thinH,hs]
    · have hs:¬x.Small:=fun h=>h2 (by have:=h.turns;omega)
      simp only [go_sem,f6,h1,h2]
      simp [thinH,hs]
  · have hs:¬x.Small:=fun h=>h1 (by have:=h.wet;omega)
    simp only [go_sem,f6,h1]
    simp [thinH,hs])
end Am.Hp
namespace Am.Hp
open Go Am Am.Tm Am.Cr
set_option maxRecDepth 100000
set_option maxHeartbeats 4000000
set_option linter.unusedSimpArgs false
set_option linter.unusedVariables false
variable {g1 g2 g3:Bool × Bool} {x:Heap}
def nthKH (x:Heap) (n:Nat):Nat→List Int × Nat
  | 0=>([],n / szN x.start)
  | k+1=>((nthKH x n k).1++[(x.wet.getD k default).lo+((nthKH x n k).2 % szN (x.wet.getD k default):Nat)],(nthKH x n k).2 / szN (x.wet.getD k default))
def stH (x:Heap) (n:Nat):Int:=x.start.lo+(n % szN x.start:Nat)
def wetH (x:Heap) (n:Nat):List Int:=(nthKH x n x.wet.length).1
theorem nthKH_len {n k:Nat}:(nthKH x n k).1.length=k:=by
  induction k with
  | zero=>rfl
  | succ k ih=>simp only [nthKH,List.length_append,ih,List.length_cons,List.length_nil]
theorem nthKH_le {n k:Nat}:(nthKH x n k).2≤n:=by
  induction k with
  | zero=>exact Nat.div_le_self _ _
  | succ k ih=>exact Nat.le_trans (Nat.div_le_self _ _) ih
theorem qNth (h:Rgs x) {n:Nat} (hn:n≤100000) {Q:V→Prop}:CallP tab 43 [heapV g1 g2 g3 x,.c (.int .i64 n)] Q↔Q (.agg [.int .i64 (stH x n),L (false,false) (wetH x n)]):=CallP_of (by
  have hl:=h.l
  have hs:=h.s
  obtain ⟨z1,z2,z3⟩:=sz_eq h.s
  have t1:(n:Int).tmod (szN x.start:Nat)=((n % szN x.start:Nat):Int):=rfl
  have t2:(n:Int).tdiv (szN x.start:Nat)=((n / szN x.start:Nat):Int):=rfl
  have hmod:n % szN x.start<szN x.start:=Nat.mod_lt _ z2
  have hdl:n / szN x.start≤n:=Nat.div_le_self _ _
  have c1:¬((szN x.start:Nat):Int)=0:=by omega
  have f1:IntKind.i64.wrap (x.start.lo+((n % szN x.start:Nat):Int))=stH x n:=by unfold stH;exact wrapB (by omega) (by omega)
  have f2:IntKind.i64.wrap ((n / szN x.start:Nat):Int)=((nthKH x n 0).2:Nat):=by
    show IntKind.i64.wrap ((n / szN x.start:Nat):Int)=((n / szN x.start:Nat):Int)
    generalize n / szN x.start=q at hdl ⊢
    exact wrapB (by omega) (by omega)
  refine Val_X (fn:=f43) rfl ?_
  simp only [go_sem,f43,qSize,z1,c1,t1,t2,f1,f2]
  refine RX_for x.wet.length (fun k=>[(1,.c (.int .i64 ((nthKH x n k).2:Nat))),(6,.c (.int .i64 k))]) (fun k=>[.cells (heapC g1 g2 g3 x),.cells [.int .i64 0,.nils],.cells [.int .i64 (stH x n),.sl 3 k 0 k],.arr false k 1 ((nthKH x n k).1.map Row.row)]) (fun _=>True) trivial (by simp only [go_sem]<;>first | rfl | exact ⟨rfl,rfl⟩) ?_
  intro k hk _
  by_cases hlt:k<x.wet.length
  · have e4:IntKind.i64.wrap ((k:Int)+1)=((k+1:Nat):Int):=wrap_succ (n:=3000) (by omega) (by decide)
    have hw:=wet_at h hlt
    have hle:=nthKH_le (x:=x) (n:=n) (k:=k)
    have hg:=nthKH_len (x:=x) (n:=n) (k:=k)
    obtain ⟨y1,y2,y3⟩:=sz_eq (r:=x.wet.getD k default) (by omega)
    obtain ⟨z,hz0⟩:∃z,z=szN (x.wet.getD k default):=⟨_,rfl⟩
    obtain ⟨m,hm0⟩:∃m,m=(nthKH x n k).2:=⟨_,rfl⟩
    have hst:nthKH x n (k+1)=((nthKH x n k).1++[(x.wet.getD k default).lo+((m % z:Nat):Int)],m / z):=by rw [hm0,hz0];rfl
    rw [←hm0] at hle
    rw [←hz0] at y1 y2 y3
    have hmod2:m % z<z:=Nat.mod_lt _ y2
    have hdl2:m / z≤m:=Nat.div_le_self _ _
    have u1:(m:Int).tmod (z:Nat)=((m % z:Nat):Int):=rfl
    have u2:(m:Int).tdiv (z:Nat)=((m / z:Nat):Int):=rfl
    generalize m % z=md at hmod2 u1 hst
    generalize m / z=q at hdl2 u2 hst
    have d1:¬((z:Nat):Int)=0:=by omega
    have v1:IntKind.i64.wrap ((x.wet.getD k default).lo+(md:Int))=(x.wet.getD k default).lo+(md:Int):=wrapB (by omega) (by omega)
    have v2:IntKind.i64.wrap (q:Int)=(q:Int):=wrapB (by omega) (by omega)
    have b1:(k+1)*8≤2^40:=by omega
    simp only [go_sem,hlt,atI_nat,←hm0,qSize,y1,d1,u1,u2,v1,v2,hg,b1,e4,hst,List.map_append]
  · have:k=x.wet.length:=by omega
    subst this
    have hg:=nthKH_len (x:=x) (n:=n) (k:=x.wet.length)
    simp only [go_sem,hlt,hg,wetH])
theorem nth_has (h:Rgs x) {n:Nat}:x.Has (stH x n) (wetH x n):=by
  have hs:=sz_eq h.s
  have hm:n % szN x.start<szN x.start:=Nat.mod_lt _ hs.2.1
  have key:∀k,k≤x.wet.length→∀i,i<k→(x.wet.getD i default).lo≤(nthKH x n k).1.getD i default∧(nthKH x n k).1.getD i default≤(x.wet.getD i default).hi:=by
    intro k
    induction k with
    | zero=>intro _ i hi;omega
    | succ k ih=>
      intro hk i hi
      have l1:=nthKH_len (x:=x) (n:=n) (k:=k)
      simp only [nthKH]
      by_cases hik:i=k
      · subst hik
        have hr:=wet_at h (k:=i) (by omega)
        have hz:1≤szN (x.wet.getD i default):=by unfold szN;omega
        have hm:(nthKH x n i).2 % szN (x.wet.getD i default)<szN (x.wet.getD i default):=Nat.mod_lt _ hz
        have g1:∀v,((nthKH x n i).1++[v]).getD i default=v:=fun v=>by rw [List.getD_eq_getElem?_getD,List.getElem?_append_right (by omega),l1];simp
        rw [g1]
        unfold szN at hm ⊢
        omega
      · have:=ih (by omega) i (by omega)
        have g1:∀v,((nthKH x n k).1++[v]).getD i default=(nthKH x n k).1.getD i default:=fun v=>by rw [List.getD_eq_getElem?_getD,List.getElem?_append_left (by omega),←List.getD_eq_getElem?_getD]
        rw [g1]
        exact this
  have hs0:=h.s
  refine ⟨by unfold stH;omega,by unfold stH;unfold szN at hm ⊢;omega,nthKH_len,fun i hi=>key _ (Nat.le_refl _) i ?_⟩
  have:(wetH x n).length=x.wet.length:=nthKH_len
  omega
theorem kHeap (hs:x.Small) {Q:V→Prop}:CallP tab 41 [heapV g1 g2 g3 x] Q↔Q (heapV (false,false) (false,false) (false,false) x):=CallP_of (by
  have c1:=hs.wet
  have c2:=hs.turns
  have c3:=hs.reads
  refine Val_X (fn:=f41) rfl ?_
  simp only [go_sem,f41,kto,klist (a:=x.turns) (by omega)]
  refine RX_for x.wet.length (fun k=>[(4,.c (.int .i64 k))]) (fun k=>[.cells (heapC g1 g2 g3 x),.cells [.int .i64 0,.int .i64 0,.int .i64 0,.int .i64 0,.int .i64 0,.int .i64 0,.int .i64 0,.nils,.nils,.nils],.cells [.int .i64 x.last,.int .i64 x.size,.int .i64 x.cool,.int .i64 x.die,.int .i64 x.burn,.int .i64 x.start.lo,.int .i64 x.start.hi,.sl 3 k 0 k,L (false,false) x.turns,.nils],.arr false k 2 ((x.wet.take k).map Row.row)]) (fun _=>True) trivial (by simp only [go_sem,List.take_zero]<;>rfl) ?_
  intro k hk _
  by_cases h3:k<x.wet.length
  · have hl:(x.wet.take k).length=k:=by simp;omega
    have b7:(k+1)*16≤2^40:=by omega
    have e4:IntKind.i64.wrap ((k:Int)+1)=((k+1:Nat):Int):=wrap_succ (n:=3000) (by omega) (by decide)
    simp only [go_sem,h3,hl,b7,atI_nat,e4,kto,take_getD h3 default,List.map_append]
  · have:k=x.wet.length:=by omega
    subst this
    simp only [go_sem,h3,List.take_length]
    refine RX_for x.reads.length (fun k=>[(5,.c (.int .i64 k))]) (fun k=>[.cells (heapC g1 g2 g3 x),.cells [.int .i64 0,.int .i64 0,.int .i64 0,.int .i64 0,.int .i64 0,.int .i64 0,.int .i64 0,.nils,.nils,.nils],.cells [.int .i64 x.last,.int .i64 x.size,.int .i64 x.cool,.int .i64 x.die,.int .i64 x.burn,.int .i64 x.start.lo,.int .i64 x.start.hi,.sl 3 x.wet.length 0 x.wet.length,L (false,false) x.turns,.sl 4 k 0 k],.arr false x.wet.length 2 (x.wet.map Row.row),.arr false k 3 ((x.reads.take k).map Row.row)]) (fun _=>True) trivial (by simp only [go_sem,List.take_zero]<;>rfl) ?_
    intro k hk _
    by_cases h4:k<x.reads.length
    · have hl:(x.reads.take k).length=k:=by simp;omega
      have b7:(k+1)*24≤2^40:=by omega
      have e4:IntKind.i64.wrap ((k:Int)+1)=((k+1:Nat):Int):=wrap_succ (n:=3000) (by omega) (by decide)
      simp only [go_sem,h4,hl,b7,atI_nat,e4,take_getD h4 default,List.map_append]
    · have:k=x.reads.length:=by omega
      subst this
      simp only [go_sem,h4,List.take_length])
end Am.Hp
namespace Am.Hp
open Go Am Am.Tm Am.Cr
set_option maxRecDepth 100000
set_option maxHeartbeats 4000000
set_option linter.unusedSimpArgs false
set_option linter.unusedVariables false
variable {g1 g2 g3:Bool × Bool} {x:Heap}
abbrev hx (x:Heap) (s:Int):Heap:=⟨x.last,s,x.cool,x.die,x.burn,x.start,x.wet,x.turns,[]⟩
theorem hx_many {s:Int}:∀{k:Nat},manyK (hx x s) k=manyK x k
  | 0=>rfl
  | k+1=>by show min 3000 (manyK (hx x s) k*_)=min 3000 (manyK x k*_);rw [hx_many]
theorem hx_nth {s:Int} {n:Nat}:∀{k:Nat},nthKH (hx x s) n k=nthKH x n k
  | 0=>rfl
  | k+1=>by simp only [nthKH,hx_nth]
theorem hx_wet {s:Int} {n:Nat}:wetH (hx x s) n=wetH x n:=by unfold wetH;rw [hx_nth]
theorem hx_rgs {s:Int} (h:Rgs x):Rgs (hx x s):=⟨h.s,h.w,h.l⟩
theorem hx_ok (hs:x.Small) (hv:x.Valid) {s:Int} (s0:0≤s) (s1:s≤20):(hx x s).Ok:=by
  have h1:=hv.nums
  simp only [numsR,Bool.and_eq_true,decide_eq_true_eq,inR_iff,wOk_iff] at h1
  have h2:=hv.turns
  simp only [planOk,Bool.and_eq_true] at h2
  have h3:=hv.many
  have h4:=many_L (hx_rgs (s:=s) hv.rgs)
  rw [hx_many] at h4
  refine ⟨hv.last0,hv.last9,?_,hv.wetl,h2.2,hs.turns,hv.rgs.w,rfl,?_⟩
  · simp only [numsOk,Bool.and_eq_true,decide_eq_true_eq,inR_iff,rgOf]
    omega
  · show manyL (x.start::x.wet)≤2000
    have h4:manyL (x.start::x.wet)>2000↔manyK x x.wet.length>2000:=h4
    omega
theorem left_val {n c:Int} {b:Bool} (n0:0≤n) (n1:n≤1000) (c0:0≤c) (c1:c≤100):leftI c n b=(if b=true then n-n*c / 100 else n)∧0≤n*c / 100∧n*c / 100≤n:=by
  have a1:0≤n*c:=Int.mul_nonneg n0 c0
  have a2:n*c≤n*100:=Int.mul_le_mul_of_nonneg_left c1 n0
  refine ⟨?_,by omega,by omega⟩
  unfold leftI
  generalize n*c=p at a1 a2 ⊢
  rw [wrapB (n:=p) (by omega) (by omega),Int.tdiv_eq_ediv_of_nonneg a1,wrapB (n:=p / 100) (by omega) (by omega),wrapB (by omega) (by omega)]
theorem left_mono {n m c:Int} {b:Bool} (n0:0≤n) (h:n≤m) (m1:m≤1000) (c0:0≤c) (c1:c≤100):leftI c n b≤leftI c m b:=by
  obtain ⟨e1,_,_⟩:=left_val (b:=b) n0 (by omega) c0 c1
  obtain ⟨e2,_,_⟩:=left_val (b:=b) (n:=m) (by omega) m1 c0 c1
  rw [e1,e2]
  cases b with
  | false=>exact h
  | true=>
    simp only [if_true]
    have h1:m*c=n*c+(m-n)*c:=by rw [←Int.add_mul];congr 1;omega
    have h2:(m-n)*c≤(m-n)*100:=Int.mul_le_mul_of_nonneg_left c1 (by omega)
    rw [h1]
    generalize n*c=p
    generalize (m-n)*c=q at h2
    omega
theorem gain_val {s w:Int} (s0:0≤s) (s1:s≤20) (w0:0≤w) (w1:w≤20):IntKind.i64.wrap ((IntKind.i64.wrap (s*w)).tdiv 10)=s*w / 10∧0≤s*w / 10∧s*w / 10≤40:=by
  have a1:0≤s*w:=Int.mul_nonneg s0 w0
  have a2:s*w≤20*w:=Int.mul_le_mul_of_nonneg_right s1 w0
  generalize s*w=p at a1 a2 ⊢
  refine ⟨?_,by omega,by omega⟩
  rw [wrapB (n:=p) (by omega) (by omega),Int.tdiv_eq_ediv_of_nonneg a1,wrapB (by omega) (by omega)]
structure HOk (x:Heap) (st:Int) (wet:List Int):Prop where
  c0:0≤x.cool
  c1:x.cool≤100
  s0:0≤st
  s1:st≤500
  w:∀i,i<wet.length→0≤wet.getD i default∧wet.getD i default≤20
  l:wet.length≤10
theorem heat_step {st s:Int} {wet:List Int} (h:HOk x st wet) (s0:0≤s) (s1:s≤20):∀{k:Nat},k≤wet.length→0≤heatF (hx x s) st wet x.turns k∧heatF (hx x s) st wet x.turns k≤500+40*k
  | 0,_=>⟨h.s0,by have:=h.s1;show st≤_;omega⟩
  | k+1,hk=>by
    obtain ⟨i0,i1⟩:=heat_step h s0 s1 (k:=k) (by omega)
    have hl:=h.l
    obtain ⟨w0,w1⟩:=h.w k (by omega)
    obtain ⟨e1,b1,b2⟩:=left_val (b:=decide ((k:Int)∈x.turns)) i0 (by omega) h.c0 h.c1
    obtain ⟨e2,b3,b4⟩:=gain_val s0 s1 w0 w1
    have e:heatF (hx x s) st wet x.turns (k+1)=IntKind.i64.wrap (leftI x.cool (heatF (hx x s) st wet x.turns k) (decide ((k:Int)∈x.turns))+IntKind.i64.wrap ((IntKind.i64.wrap (s*wet.getD k default)).tdiv 10)):=rfl
    rw [e,e2]
    have b5:0≤leftI x.cool (heatF (hx x s) st wet x.turns k) (decide ((k:Int)∈x.turns))∧leftI x.cool (heatF (hx x s) st wet x.turns k) (decide ((k:Int)∈x.turns))≤heatF (hx x s) st wet x.turns k:=by
      rw [e1];split<;>omega
    rw [wrapB (by omega) (by omega)]
    omega
theorem heat_mono {st s t:Int} {wet:List Int} (h:HOk x st wet) (s0:0≤s) (hst:s≤t) (t1:t≤20):∀{k:Nat},k≤wet.length→heatF (hx x s) st wet x.turns k≤heatF (hx x t) st wet x.turns k
  | 0,_=>Int.le_refl _
  | k+1,hk=>by
    have ih:=heat_mono h s0 hst t1 (k:=k) (by omega)
    obtain ⟨i0,i1⟩:=heat_step h s0 (by omega) (k:=k) (by omega)
    obtain ⟨j0,j1⟩:=heat_step h (s:=t) (by omega) t1 (k:=k) (by omega)
    have hl:=h.l
    obtain ⟨w0,w1⟩:=h.w k (by omega)
    obtain ⟨e1,b1,b2⟩:=left_val (b:=decide ((k:Int)∈x.turns)) i0 (by omega) h.c0 h.c1
    obtain ⟨e1',b1',b2'⟩:=left_val (b:=decide ((k:Int)∈x.turns)) j0 (by omega) h.c0 h.c1
    have hlm:=left_mono (b:=decide ((k:Int)∈x.turns)) i0 ih (by omega) h.c0 h.c1
    obtain ⟨e2,b3,b4⟩:=gain_val s0 (by omega) w0 w1
    obtain ⟨e3,b5,b6⟩:=gain_val (s:=t) (by omega) t1 w0 w1
    have hg:s*wet.getD k default≤t*wet.getD k default:=Int.mul_le_mul_of_nonneg_right hst w0
    have e:heatF (hx x s) st wet x.turns (k+1)=IntKind.i64.wrap (leftI x.cool (heatF (hx x s) st wet x.turns k) (decide ((k:Int)∈x.turns))+IntKind.i64.wrap ((IntKind.i64.wrap (s*wet.getD k default)).tdiv 10)):=rfl
    have e':heatF (hx x t) st wet x.turns (k+1)=IntKind.i64.wrap (leftI x.cool (heatF (hx x t) st wet x.turns k) (decide ((k:Int)∈x.turns))+IntKind.i64.wrap ((IntKind.i64.wrap (t*wet.getD k default)).tdiv 10)):=rfl
    rw [e,e',e2,e3]
    have b7:0≤leftI x.cool (heatF (hx x s) st wet x.turns k) (decide ((k:Int)∈x.turns))∧leftI x.cool (heatF (hx x s) st wet x.turns k) (decide ((k:Int)∈x.turns))≤1000:=by
      rw [e1];split<;>omega
    have b8:0≤leftI x.cool (heatF (hx x t) st wet x.turns k) (decide ((k:Int)∈x.turns))∧leftI x.cool (heatF (hx x t) st wet x.turns k) (decide ((k:Int)∈x.turns))≤1000:=by
      rw [e1'];split<;>omega
    rw [wrapB (by omega) (by omega),wrapB (by omega) (by omega)]
    generalize s*wet.getD k default=p at *
    generalize t*wet.getD k default=q at *
    omega
theorem out_get {y:Heap} {st:Int} {wet turns:List Int} {i:Nat}:∀{k:Nat},i<k→k≤10→(outF y st wet turns k).getD i default=heatF y st wet turns (i+1)
  | 0,h,_=>by omega
  | k+1,h,h10=>by
    have hl:=outF_len (x:=y) (st:=st) (wet:=wet) (turns:=turns) (k:=k)
    show ((outF y st wet turns k).set k (heatF y st wet turns (k+1))).getD i default=_
    rw [List.getD_eq_getElem?_getD,List.getElem?_set]
    by_cases e:k=i
    · subst e;rw [if_pos rfl,if_pos (by omega)];rfl
    · rw [if_neg e,←List.getD_eq_getElem?_getD]
      exact out_get (by omega) (by omega)
theorem valid_hok (hv:x.Valid) {n:Nat}:HOk x (stH x n) (wetH x n):=by
  have h1:=hv.nums
  simp only [numsR,Bool.and_eq_true,decide_eq_true_eq,inR_iff,wOk_iff] at h1
  have hh:=nth_has hv.rgs (n:=n)
  have hl:=hh.len
  have h2:=hv.wetl
  have h3:=hv.last9
  have a:=hh.st0
  have b:=hh.st1
  refine ⟨by omega,by omega,by omega,by omega,fun i hi=>?_,by omega⟩
  have:=hh.el i hi
  have:=wet_at hv.rgs (k:=i) (by omega)
  omega
def heatN (x:Heap) (s:Int) (n hour:Nat):Int:=heatF (hx x s) (stH x n) (wetH x n) x.turns (hour+1)
theorem heatN_le (hv:x.Valid) {s t:Int} (s0:0≤s) (hst:s≤t) (t1:t≤20) {n hour:Nat} (hh:hour<x.wet.length):heatN x s n hour≤heatN x t n hour:=
  heat_mono (valid_hok hv) s0 hst t1 (by have:=(nth_has hv.rgs (n:=n)).len;omega)
theorem tHeated (hs:x.Small) (hv:x.Valid) {s:Int} (s0:0≤s) (s1:s≤20) {wn hour:Nat} (hw:wn<65536) (hh:hour<x.wet.length) {Q:V→Prop}:CallP tab 15 [heapV g1 g2 g3 x,.c (.int .i64 s),.c (.int .u16 wn),.c (.int .i64 hour)] Q↔Q (.tup [.c (.int .i64 (heatN x s (wn % manyK x x.wet.length) hour)),.c (.bool true)]):=CallP_of (by
  have hok:=hx_ok hs hv s0 s1
  have hrg:=hx_rgs (s:=s) hv.rgs
  have hsm:(hx x s).Small:=⟨hs.wet,hs.turns,by show (0:Nat)≤7;omega⟩
  have l0:=hv.last0
  have l9:=hv.last9
  have hwl:=hv.wetl
  have htl:=hs.turns
  obtain ⟨m0,m1⟩:=manyK_bd hv.rgs (Nat.le_refl _)
  have kM:=fun {g1 g2 g3:Bool × Bool} {Q:V→Prop}=>qMany (g1:=g1) (g2:=g2) (g3:=g3) hrg (Q:=Q)
  have hme:manyK (hx x s) (hx x s).wet.length=manyK x x.wet.length:=hx_many
  rw [hme] at kM
  generalize manyK x x.wet.length=m at m0 m1 kM
  obtain ⟨n,hn⟩:∃n,n=wn % m:=⟨_,rfl⟩
  have hnl:n<m:=by rw [hn];exact Nat.mod_lt _ m0
  have e1:IntKind.i64.wrap (wn:Int)=(wn:Int):=wrapB (by omega) (by omega)
  have e2:(wn:Int).tmod ((m:Nat):Int)=(n:Int):=by rw [hn];rfl
  have e3:¬((m:Nat):Int)=0:=by omega
  have e4:IntKind.i64.wrap (x.last+1)=(x.wet.length:Int):=by rw [wrapB (by omega) (by omega)];omega
  have kN:=fun {g1 g2 g3:Bool × Bool} {Q:V→Prop}=>qNth (g1:=g1) (g2:=g2) (g3:=g3) hrg (n:=n) (by omega) (Q:=Q)
  rw [hx_wet,show stH (hx x s) n=stH x n from rfl] at kN
  have hha:=nth_has hv.rgs (n:=n)
  have hhs:(hx x s).Has (stH x n) (wetH x n):=⟨hha.st0,hha.st1,hha.len,hha.el⟩
  have hlen:=hha.len
  have kT:=fun {g:Bool × Bool} {Q:V→Prop}=>kTruth (g:=g) (st:=stH x n) (wet:=wetH x n) (by omega) (Q:=Q)
  have kH:=fun {g1 g2 g3:Bool × Bool} {Q:V→Prop}=>kHeap (g1:=g1) (g2:=g2) (g3:=g3) hsm (Q:=Q)
  have kP:=fun {g gt:Bool × Bool} {Q:V→Prop}=>hPlay (g1:=(false,false)) (g2:=(false,false)) (g3:=(false,false)) hok (g:=g) (gt:=gt) hhs (Q:=Q)
  have hol:=outF_len (x:=hx x s) (st:=stH x n) (wet:=wetH x n) (turns:=x.turns) (k:=(wetH x n).length)
  obtain ⟨ls,hls⟩:∃ls,ls=(outF (hx x s) (stH x n) (wetH x n) x.turns (wetH x n).length).take (wetH x n).length:=⟨_,rfl⟩
  have hll:ls.length=x.wet.length:=by rw [hls,List.length_take,hol];omega
  have hge:ls.getD hour default=heatN x s n hour:=by
    rw [hls,List.getD_eq_getElem?_getD,List.getElem?_take,if_pos (by omega),←List.getD_eq_getElem?_getD]
    exact out_get (by omega) (by omega)
  have hkp2:(outF (hx x s) (stH x n) (wetH x n) (hx x s).turns (wetH x n).length).take (wetH x n).length=ls:=hls.symm
  rw [hkp2] at kP
  have b8:x.turns.length*8≤2^40:=by omega
  rw [←hn]
  have kM':∀{g1 g2:Bool × Bool} {Q:V→Prop},CallP tab 21 [.agg [C.int .i64 x.last,.int .i64 s,.int .i64 x.cool,.int .i64 x.die,.int .i64 x.burn,.int .i64 x.start.lo,.int .i64 x.start.hi,L g1 x.wet,L g2 x.turns,.nils]] Q↔Q (.c (.int .i64 (m:Nat))):=fun {g1 g2} {Q}=>kM (g1:=g1) (g2:=g2) (g3:=(true,false)) (Q:=Q)
  have kN':∀{g1 g2:Bool × Bool} {Q:V→Prop},CallP tab 43 [.agg [C.int .i64 x.last,.int .i64 s,.int .i64 x.cool,.int .i64 x.die,.int .i64 x.burn,.int .i64 x.start.lo,.int .i64 x.start.hi,L g1 x.wet,L g2 x.turns,.nils],.c (.int .i64 n)] Q↔Q (.agg [.int .i64 (stH x n),L (false,false) (wetH x n)]):=fun {g1 g2} {Q}=>kN (g1:=g1) (g2:=g2) (g3:=(true,false)) (Q:=Q)
  have kH':∀{g1 g2:Bool × Bool} {Q:V→Prop},CallP tab 41 [.agg [C.int .i64 x.last,.int .i64 s,.int .i64 x.cool,.int .i64 x.die,.int .i64 x.burn,.int .i64 x.start.lo,.int .i64 x.start.hi,L g1 x.wet,L g2 x.turns,.nils]] Q↔Q (heapV (false,false) (false,false) (false,false) (hx x s)):=fun {g1 g2} {Q}=>kH (g1:=g1) (g2:=g2) (g3:=(true,false)) (Q:=Q)
  refine Val_X (fn:=f15) rfl ?_
  simp only [go_sem,f15,kM',kN',kT,kH',kP,e1,e2,e3,e4,b8,hll,hh,atI_nat,hge])
end Am.Hp
namespace Am.Hp
open Go Am Am.Tm Am.Cr
set_option maxRecDepth 100000
set_option maxHeartbeats 8000000
set_option linter.unusedSimpArgs false
set_option linter.unusedVariables false
abbrev whF : Cr.Field:=⟨0,[⟨20,20⟩],[0],[9],[],1,0,0,[]⟩
abbrev whT : Truth:=⟨[20],[0]⟩
abbrev whH : Heap:=⟨0,2,0,0,99,⟨5,5⟩,[⟨10,10⟩],[],[]⟩
set_option maxRecDepth 1000000 in
theorem wh1 : PlayR false whF whT [0] = .tup [.c (L (false,false) [Crop.mk 20 9 180]),.c (.int .i64 0)]:=by kernel_rfl
theorem wh1C {Q:V→Prop}:CallP tab 13 [.agg [C.int .i64 0,.lst true [[.int .i64 20,.int .i64 20]],.lst true [[.int .i64 0]],.lst true [[.int .i64 9]],.nils,.int .i64 1,.int .i64 0,.int .i64 0,.nils],.agg [.lst false [[.int .i64 20]],.lst false [[.int .i64 0]]],.c (.lst true [[.int .i64 0]])] Q↔Q (.tup [.c (L (false,false) [Crop.mk 20 9 180]),.c (.int .i64 0)]):=by
  have h:=cPlay (f:=whF) (g1:=(false,true)) (g2:=(false,true)) (g3:=(false,true)) (g4:=(true,false)) (g5:=(true,false)) (b6:=false) (b7:=false) (g:=(false,true)) (t:=whT) (plan:=[0]) ⟨by decide,by decide,by decide,by decide,by decide⟩ (by decide) (Q:=Q)
  rw [wh1] at h
  exact h
theorem whOk : whH.Ok:=⟨by decide,by decide,by kernel_rfl,by decide,by kernel_rfl,by decide,by decide,rfl,of_decide_eq_true (by kernel_rfl)⟩
theorem whHas : whH.Has 5 [10]:=⟨by decide,by decide,rfl,fun i hi=>by
  have:i=0:=by simp at hi;omega
  subst this;decide⟩
set_option maxRecDepth 1000000 in
theorem wh2 : (outF whH 5 [10] whH.turns ([10]:List Int).length).take ([10]:List Int).length=[7]:=by kernel_rfl
theorem wh2C {Q:V→Prop}:CallP tab 25 [.agg [C.int .i64 0,.int .i64 2,.int .i64 0,.int .i64 0,.int .i64 99,.int .i64 5,.int .i64 5,.lst true [[.int .i64 10,.int .i64 10]],.nils,.nils],.agg [.int .i64 5,.lst true [[.int .i64 10]]],.c .nils] Q↔Q (.tup [.c (L (false,false) ([7]:List Int)),.c (.int .i64 0)]):=by
  have h:=hPlay (x:=whH) (g1:=(false,true)) (g2:=(true,false)) (g3:=(true,false)) whOk (g:=(false,true)) (gt:=(true,false)) whHas (Q:=Q)
  rw [wh2] at h
  exact h
theorem tCarted {Q:V→Prop}:CallP tab 8 [] Q↔Q (.c (.bool true)):=CallP_of (by
  have x0:atI [Crop.mk 20 9 180] 0=Crop.mk 20 9 180:=rfl
  have x1:atI ([7]:List Int) 0=7:=rfl
  refine Val_X (fn:=f8) rfl ?_
  simp only [go_sem,f8,wh1C,wh2C,x0,x1])
def sizedI (w:Int):Int:=max 0 (min 20 (w.tdiv 10))
theorem tSized {w:Int} (w0:0≤w) (w1:w≤1000000) {Q:V→Prop}:CallP tab 16 [.c (.int .i64 w)] Q↔Q (.c (.int .i64 (sizedI w))):=CallP_of (by
  have hq:IntKind.i64.wrap (w.tdiv 10)=w.tdiv 10:=by
    rw [Int.tdiv_eq_ediv_of_nonneg w0]
    exact wrapB (by omega) (by omega)
  refine Val_X (fn:=f16) rfl ?_
  simp only [go_sem,f16,hq,sizedI])
theorem sized_bd {w:Int}:0≤sizedI w∧sizedI w≤20:=by unfold sizedI;omega
theorem sized_le {w v:Int} (h0:0≤w) (h:w≤v):sizedI w≤sizedI v:=by
  unfold sizedI
  rw [Int.tdiv_eq_ediv_of_nonneg h0,Int.tdiv_eq_ediv_of_nonneg (by omega)]
  omega
variable {f:Cr.Field} {x:Heap}
abbrev heapW (x:Heap):V:=heapV (false,false) (false,false) (false,false) x
theorem TopHeaped_val {which other bits at_ hour:Int} (hw0:0≤which) (hw1:which≤65535) (ho0:0≤other) (ho1:other≤65535) (hb0:0≤bits) (hb1:bits≤65535) (ha0:0≤at_) (ha1:at_≤255) (hh0:0≤hour) (hh1:hour≤255):Val tab 3 [fieldV (false,false) (false,false) (false,false) (false,false) (false,false) f,heapV (false,false) (false,false) (false,false) x,.c (.int .u16 which),.c (.int .u16 other),.c (.int .u16 bits),.c (.int .u8 at_),.c (.int .u8 hour)] (.c (.bool true)):=by
  obtain ⟨wn,rfl⟩:∃n:Nat,which=n:=⟨which.toNat,by omega⟩
  obtain ⟨on,rfl⟩:∃n:Nat,other=n:=⟨other.toNat,by omega⟩
  obtain ⟨bits,rfl⟩:∃n:Nat,bits=n:=⟨bits.toNat,by omega⟩
  obtain ⟨an,rfl⟩:∃n:Nat,at_=n:=⟨at_.toNat,by omega⟩
  obtain ⟨hn,rfl⟩:∃n:Nat,hour=n:=⟨hour.toNat,by omega⟩
  refine Val_X (fn:=f3) rfl ?_
  have kT:=fun {Q:V→Prop}=>lThin (f:=f) (g1:=(false,false)) (g2:=(false,false)) (g3:=(false,false)) (g4:=(false,false)) (g5:=(false,false)) (Q:=Q)
  have jT:=fun {Q:V→Prop}=>kThin (x:=x) (g1:=(false,false)) (g2:=(false,false)) (g3:=(false,false)) (Q:=Q)
  cases h1:thinB f with
  | false=>simp only [go_sem,f3,kT,h1,tCarted]
  | true=>
  have hsm:=thin_small h1
  have hW:=hsm.fits
  have kF:=fun {Q:V→Prop}=>rFault (f:=f) (g1:=(false,false)) (g2:=(false,false)) (g3:=(false,false)) (g4:=(false,false)) (g5:=(false,false)) hW (Q:=Q)
  by_cases h0:checkField f=0
  case neg=>simp only [go_sem,f3,kT,h1,kF,h0,tCarted]
  case pos=>
  cases h2:thinH x with
  | false=>simp only [go_sem,f3,kT,h1,kF,h0,jT,h2,tCarted]
  | true=>
  have hsx:=thinH_small h2
  have jF:=fun {Q:V→Prop}=>qFault (x:=x) (g1:=(false,false)) (g2:=(false,false)) (g3:=(false,false)) hsx (Q:=Q)
  by_cases h3:faultH x=0
  case neg=>simp only [go_sem,f3,kT,h1,kF,h0,jT,h2,jF,h3,tCarted]
  case pos=>
  have hv:=Cr.valid_of h0
  have hvx:=valid_of hsx h3
  have v3:=hv.last0
  have v4:=hv.last9
  have v5:=hv.base3
  obtain ⟨a,ha⟩:∃a:Nat,f.last=a:=⟨f.last.toNat,by omega⟩
  have hk:(f.last+1).toNat=a+1:=by omega
  have ha9:a≤9:=by omega
  have e1:IntKind.u64.wrap (a:Int)=(a:Int):=by unfold IntKind.wrap;simp [IntKind.signed,IntKind.bits];omega
  have e2:min a IntKind.i64.bits=a:=Nat.min_eq_left (by show a≤64;omega)
  have hpw:(2:Int)*2^a=((2^(a+1):Nat):Int):=by rw [Nat.pow_succ];simp [Int.mul_comm]
  have hpb:2^(a+1)≤2^10:=Nat.pow_le_pow_right (by omega) (by omega)
  have hp1:1≤2^(a+1):=Nat.pow_pos (by omega)
  have e3:IntKind.i64.wrap ((2:Int)*2^a)=((2^(a+1):Nat):Int):=by
    rw [hpw];generalize 2^(a+1)=p at hpb;exact wrapB (by omega) (by omega)
  have e4:IntKind.i64.wrap (((2^(a+1):Nat):Int)-1)=((2^(a+1)-1:Nat):Int):=by
    generalize 2^(a+1)=p at hpb hp1;rw [wrapB (by omega) (by omega)];omega
  have e5:IntKind.i64.wrap (bits:Int)=(bits:Int):=wrapB (by omega) (by omega)
  have e6:IntKind.i64.wrap ((BitVec.ofInt IntKind.i64.bits (bits:Int) &&& BitVec.ofInt IntKind.i64.bits ((2^(a+1)-1:Nat):Int)).toNat:Int)=((bits % 2^(a+1):Nat):Int):=by
    have hb1:(BitVec.ofInt IntKind.i64.bits (bits:Int)).toNat=bits:=by
      rw [BitVec.ofInt_natCast,BitVec.toNat_ofNat]
      exact Nat.mod_eq_of_lt (by show bits<2^64;omega)
    have hb2:(BitVec.ofInt IntKind.i64.bits ((2^(a+1)-1:Nat):Int)).toNat=2^(a+1)-1:=by
      rw [BitVec.ofInt_natCast,BitVec.toNat_ofNat]
      exact Nat.mod_eq_of_lt (by show 2^(a+1)-1<2^64;omega)
    rw [BitVec.toNat_and,hb1,hb2,Nat.and_two_pow_sub_one_eq_mod]
    have:bits % 2^(a+1)≤bits:=Nat.mod_le _ _
    exact wrapB (by omega) (by omega)
  have hbl:bits % 2^(a+1)<2^60:=Nat.lt_of_lt_of_le (Nat.mod_lt _ hp1) (Nat.pow_le_pow_right (by omega) (by omega))
  have hB:=fun {Q:V→Prop}=>rBits (n:=bits % 2^(a+1)) hbl (Q:=Q)
  have a0:¬(a:Int)<0:=by omega
  have hpl0:plannedL f bits=(bitsF (bits % 2^(a+1))).take f.base.length:=by rw [plannedL,hk]
  have hpo:planOk f.last f.base (plannedL f bits)=true:=planned_ok hv
  generalize bitsF (bits % 2^(a+1))=bl at hB hpl0
  generalize plannedL f bits=p at hpl0 hpo
  have hP:=pok_of hv hpo
  have hpl:=plan_le hpo
  have kTr:=fun {Q:V→Prop}=>rTruths (f:=f) (g1:=(false,false)) (g2:=(false,false)) (g3:=(false,false)) (g4:=(false,false)) (g5:=(false,false)) hv (Q:=Q)
  have kFi:=fun {Q:V→Prop}=>lField (f:=f) (g1:=(false,false)) (g2:=(false,false)) (g3:=(false,false)) (g4:=(false,false)) (g5:=(false,false)) hsm (Q:=Q)
  have kW:=fun {g:Bool × Bool} {Q:V→Prop}=>cBounds (f:=f) (g1:=(false,false)) (g2:=(false,false)) (g3:=(false,false)) (g4:=(false,false)) (g5:=(false,false)) (g:=g) (plan:=p) hW (big_of (by omega)) (Q:=Q)
  have hask:=askE_ref hv h0 (planOk f.last f.base p)
  rw [hpo,if_neg (by simp)] at hask
  have b8:p.length*8≤2^40:=by omega
  have e7:IntKind.i64.wrap (wn:Int)=(wn:Int):=wrapB (by omega) (by omega)
  have e8:IntKind.i64.wrap (an:Int)=(an:Int):=wrapB (by omega) (by omega)
  have e13:IntKind.i64.wrap (hn:Int)=(hn:Int):=wrapB (by omega) (by omega)
  have e1':IntKind.u64.wrap f.last=f.last:=by rw [ha];exact e1
  have e2':min f.last.toNat IntKind.i64.bits=a:=by rw [ha];exact e2
  have a0':¬f.last<0:=by omega
  have w0:=hvx.last0
  have w9:=hvx.last9
  have wl:=hvx.wetl
  have e14:IntKind.i64.wrap (x.last+1)=(x.wet.length:Int):=by rw [wrapB (by omega) (by omega)];omega
  have hwl0:0<x.wet.length:=by omega
  obtain ⟨hq,hq0⟩:∃hq,hq=hn % x.wet.length:=⟨_,rfl⟩
  have hql:hq<x.wet.length:=by rw [hq0];exact Nat.mod_lt _ hwl0
  have e15:(hn:Int).tmod ((x.wet.length:Nat):Int)=(hq:Int):=by rw [hq0];rfl
  have e16:¬((x.wet.length:Nat):Int)=0:=by omega
  by_cases hz:refTruths f=[]
  · have hR:BoundsR false f p = .tup [.c .nils,.c (.int .i64 11)]:=by
      rw [if_pos hz] at hask
      rw [BoundsR,hpo,if_neg (by rw [hask];decide),hask]
    rw [hR] at kW
    rw [hz] at kTr
    by_cases hlt:f.base.length<bl.length
    · have m3:takeN f.base.length (bl.map (Row.row (α:=Int)))=some (p.map Row.row):=by
        rw [takeN_L (by omega),hpl0]
      have m4:f.base.length≤bl.length:=by omega
      simp (maxSteps:=1000000) only [go_sem,f3,kT,h1,kF,h0,jT,h2,jF,h3,e1',e2',e3,e4,e5,e6,hB,a0',hlt,m3,m4,kTr,kFi,kW,b8,tCarted,List.length_nil]
    · obtain rfl:p=bl:=by rw [hpl0,List.take_of_length_le (by omega)]
      simp (maxSteps:=1000000) only [go_sem,f3,kT,h1,kF,h0,jT,h2,jF,h3,e1',e2',e3,e4,e5,e6,hB,a0',hlt,kTr,kFi,kW,b8,tCarted,List.length_nil]
  · rw [if_neg hz] at hask
    have hne:truthsL f []≠[]:=fun e=>hz ((refTruths_nil hv).2 e)
    have hR:BoundsR false f p = .tup [.c (L (false,false) (boundsL f p)),.c (.int .i64 0)]:=by
      rw [BoundsR,hpo,if_pos hask]
    rw [hR] at kW
    have hbl2:(boundsL f p).length=p.length:=by simp [boundsL]
    obtain ⟨ts,hts⟩:∃ts,ts=refTruths f:=⟨_,rfl⟩
    have hmt:∀t∈ts,TOk f t∧t∈truthsL f []:=fun t ht=>by
      rw [hts] at ht;exact ⟨refTruths_tok hv t ht,(mem_refTruths hv).1 ht⟩
    have hl2:ts.length≤2000:=by rw [hts];exact refTruths_len hv
    rw [←hts] at kTr hz
    have hl0:0<ts.length:=List.length_pos_iff.2 hz
    obtain ⟨n,hn'⟩:∃n,n=wn % ts.length:=⟨_,rfl⟩
    have hnl:n<ts.length:=by rw [hn'];exact Nat.mod_lt _ hl0
    have e9:(wn:Int).tmod ((ts.length:Nat):Int)=(n:Int):=by rw [hn'];rfl
    have e10:¬((ts.length:Nat):Int)=0:=by omega
    obtain ⟨t,ht⟩:∃t,t=ts.getD n default:=⟨_,rfl⟩
    obtain ⟨hTx,c1⟩:=hmt t (by rw [ht,getD_lt _ _ _ hnl];exact List.getElem_mem hnl)
    have hTg:=hTx.gl
    have hTw:=hTx.wl
    have hT10:=hTx.l10
    have hlt':listedB f t=true:=by have:=(truth_iff hv).1 c1;rw [isTruthB,Bool.and_eq_true] at this;exact this.1
    have k1:=fun {g:Bool × Bool} {Q:V→Prop}=>cPlay (f:=f) (g1:=(false,false)) (g2:=(false,false)) (g3:=(false,false)) (g4:=(false,false)) (g5:=(false,false)) (b6:=false) (b7:=false) (g:=g) (t:=t) (plan:=p) hW (big_of (by omega)) (Q:=Q)
    rw [play_ok h0 hlt' hpo] at k1
    have k9:=fun {b6 b7:Bool × Bool} {Q:V→Prop}=>lTruth (b6:=b6) (b7:=b7) (t:=t) (by omega) (by omega) (Q:=Q)
    have hcl:=cropsL_len (f:=f) (t:=t) (plan:=p)
    by_cases hp0:p.length=0
    · have hpz:((p.length:Nat):Int)=0:=by omega
      by_cases hlt:f.base.length<bl.length
      · have m3:takeN f.base.length (bl.map (Row.row (α:=Int)))=some (p.map Row.row):=by
          rw [takeN_L (by omega),hpl0]
        have m4:f.base.length≤bl.length:=by omega
        simp (maxSteps:=1000000) only [go_sem,f3,kT,h1,kF,h0,jT,h2,jF,h3,e1',e2',e3,e4,e5,e6,hB,a0',hlt,m3,m4,kTr,kFi,kW,b8,e10,hbl2,hpz,tCarted]
      · obtain rfl:p=bl:=by rw [hpl0,List.take_of_length_le (by omega)]
        simp (maxSteps:=1000000) only [go_sem,f3,kT,h1,kF,h0,jT,h2,jF,h3,e1',e2',e3,e4,e5,e6,hB,a0',hlt,kTr,kFi,kW,b8,e10,hbl2,tCarted]
        exact fun h=>absurd hpz (by simpa using h)
    · have hpp:¬((p.length:Nat):Int)=0:=by omega
      obtain ⟨k,hk0⟩:∃k,k=an % p.length:=⟨_,rfl⟩
      have hkl:k<p.length:=by rw [hk0];exact Nat.mod_lt _ (by omega)
      have e11:(an:Int).tmod ((p.length:Nat):Int)=(k:Int):=by rw [hk0];rfl
      have hcr:=crops_getD (f:=f) (t:=t) hkl
      have hb:(boundsL f p).getD k default=boundAt f p k:=by
        rw [getD_lt _ _ _ (by omega)];simp [boundsL]
      have i1:k<(cropsL f t p).length:=by omega
      have i2:k<(boundsL f p).length:=by omega
      have hIs:=bdL_IsRg (val:=fun t=>(cropAt f t p k).weight) hne
      have hB1:(boundAt f p k).weight.lo≤(cropAt f t p k).weight∧(cropAt f t p k).weight≤(boundAt f p k).weight.hi:=hIs.2.2 t c1
      have hall:∀t∈truthsL f [],0≤(cropAt f t p k).weight∧(cropAt f t p k).weight≤1000000:=fun t h=>by
        have:=crop_bound hv (refTruths_tok hv t ((mem_refTruths hv).2 h)) hP hkl;omega
      have hlo:0≤(boundAt f p k).weight.lo:=by obtain ⟨t',h',e'⟩:=hIs.1;have:=(hall t' h').1;have e':(cropAt f t' p k).weight=(boundAt f p k).weight.lo:=e';omega
      have hhi:(boundAt f p k).weight.hi≤1000000:=by obtain ⟨t',h',e'⟩:=hIs.2.1;have:=(hall t' h').2;have e':(cropAt f t' p k).weight=(boundAt f p k).weight.hi:=e';omega
      have s1:=fun {Q:V→Prop}=>tSized (w:=(boundAt f p k).weight.lo) hlo (by omega) (Q:=Q)
      have s2:=fun {Q:V→Prop}=>tSized (w:=(cropAt f t p k).weight) (by omega) (by omega) (Q:=Q)
      have s3:=fun {Q:V→Prop}=>tSized (w:=(boundAt f p k).weight.hi) (by omega) hhi (Q:=Q)
      have le1:=sized_le hlo hB1.1
      have le2:=sized_le (by omega) hB1.2
      obtain ⟨z1,z1'⟩:=sized_bd (w:=(boundAt f p k).weight.lo)
      obtain ⟨z2,z2'⟩:=sized_bd (w:=(cropAt f t p k).weight)
      obtain ⟨z3,z3'⟩:=sized_bd (w:=(boundAt f p k).weight.hi)
      generalize sizedI (boundAt f p k).weight.lo=u1 at s1 le1 z1 z1'
      generalize sizedI (cropAt f t p k).weight=u2 at s2 le1 le2 z2 z2'
      generalize sizedI (boundAt f p k).weight.hi=u3 at s3 le2 z3 z3'
      have q1:=fun {Q:V→Prop}=>tHeated (g1:=(false,false)) (g2:=(false,false)) (g3:=(false,false)) hsx hvx z1 z1' (wn:=on) (hour:=hq) (by omega) hql (Q:=Q)
      have q2:=fun {Q:V→Prop}=>tHeated (g1:=(false,false)) (g2:=(false,false)) (g3:=(false,false)) hsx hvx z2 z2' (wn:=on) (hour:=hq) (by omega) hql (Q:=Q)
      have q3:=fun {Q:V→Prop}=>tHeated (g1:=(false,false)) (g2:=(false,false)) (g3:=(false,false)) hsx hvx z3 z3' (wn:=on) (hour:=hq) (by omega) hql (Q:=Q)
      have r1:=heatN_le hvx z1 le1 z2' (n:=on % manyK x x.wet.length) hql
      have r2:=heatN_le hvx z2 le2 z3' (n:=on % manyK x x.wet.length) hql
      generalize heatN x u1 (on % manyK x x.wet.length) hq=y1 at q1 r1
      generalize heatN x u2 (on % manyK x x.wet.length) hq=y2 at q2 r1 r2
      generalize heatN x u3 (on % manyK x x.wet.length) hq=y3 at q3 r2
      by_cases hlt:f.base.length<bl.length
      · have m3:takeN f.base.length (bl.map (Row.row (α:=Int)))=some (p.map Row.row):=by
          rw [takeN_L (by omega),hpl0]
        have m4:f.base.length≤bl.length:=by omega
        simp (maxSteps:=1000000) only [go_sem,f3,kT,h1,kF,h0,jT,h2,jF,h3,e1',e2',e3,e4,e5,e6,hB,a0',hlt,m3,m4,kTr,kFi,kW,b8,e7,e9,e10,hnl,atI_nat,←ht,k9,k1,hcl,hbl2,hpp,e8,e11,e13,e14,e15,e16,i1,i2,hkl,hcr,hb,s1,s2,s3,q1,q2,q3,r1,r2,tCarted]
      · obtain rfl:p=bl:=by rw [hpl0,List.take_of_length_le (by omega)]
        simp (maxSteps:=1000000) only [go_sem,f3,kT,h1,kF,h0,jT,h2,jF,h3,e1',e2',e3,e4,e5,e6,hB,a0',hlt,kTr,kFi,kW,b8,e7,e9,e10,hnl,atI_nat,←ht,k9,k1,hcl,hbl2,hpp,e8,e11,e13,e14,e15,e16,i1,i2,hkl,hcr,hb,s1,s2,s3,q1,q2,q3,r1,r2,tCarted]
end Am.Hp
