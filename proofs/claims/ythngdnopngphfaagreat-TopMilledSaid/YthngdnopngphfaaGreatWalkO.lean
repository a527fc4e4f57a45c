/-
  A part of the proof: the texts M17, M18, M19, M20, M21, M22, M23, M24, M25, M26, M27, M28, M29, M30, M31, M33, M34, M37, M38 of this seat, joined.
-/
import Derived.Test.YthngdnopngphfaaGreatWalkN
import Derived.KernelRfl
namespace Am.Mv
open Go Am Am.Tm
set_option maxRecDepth 100000
set_option maxHeartbeats 4000000
set_option linter.unusedSimpArgs false
set_option linter.unusedVariables false
def twoL (p:Int):Land:=⟨2,0,p,1,2,[⟨20,12,2⟩,⟨30,10,4⟩],[[0,5],[5,0]]⟩
theorem w1 : playR (twoL 10) [0,0,1] [2] = .tup [.c (L (false,false) [Year.mk 20 2 28,Year.mk 12 2 38,Year.mk 15 9 44]),.c (.int .i64 0)]:=by kernel_rfl
theorem w2 (b:Bool):SureR b (twoL 10) [0,1,0] = .tup [.c (.int .i64 29),.c (L (b,false) ([1]:List Int)),.c (.int .i64 0)]:=by kernel_rfl
theorem w3 (b:Bool):BestR b (twoL 10) = .tup [.c (L (b,false) ([0,0,1]:List Int)),.c (.int .i64 34),.c (.int .i64 0)]:=by kernel_rfl
theorem w4 : SeenR (twoL 10) = .tup [.c (.int .i64 34),.c (.int .i64 0)]:=by kernel_rfl
theorem w5 : LateR (twoL 10) = .tup [.c (.int .i64 2),.c (.int .i64 0)]:=by kernel_rfl
end Am.Mv
namespace Am.Mv
open Go Am Am.Tm
set_option maxRecDepth 1000000
set_option maxHeartbeats 4000000
set_option linter.unusedSimpArgs false
set_option linter.unusedVariables false
def bitsL (n:Nat):List Int:=((List.range 5).filter fun p=>n.testBit p).map fun (p:Nat)=>(p:Int)
end Am.Mv
namespace Am.Mv
open Go Am Am.Tm
set_option maxRecDepth 100000
set_option maxHeartbeats 4000000
set_option linter.unusedSimpArgs false
set_option linter.unusedVariables false
variable {l:Land} {g1 g2:Bool × Bool}
def beforeL : List Int→List Int→Bool
  | [],b=>decide (0<b.length)
  | _::_,[]=>false
  | a::as,b::bs=>if a=b then beforeL as bs else decide (a<b)
def shorterL (a b:List Int):Bool:=decide (a.length<b.length)||(decide (a.length=b.length)&&beforeL a b)
end Am.Mv
namespace Am.Mv
open Go Am Am.Tm
set_option maxRecDepth 100000
set_option maxHeartbeats 4000000
set_option linter.unusedSimpArgs false
set_option linter.unusedVariables false
variable {l:Land}
theorem atI_mem {α:Type} [Inhabited α] {a:List α} {i:Int} (h0:0≤i) (h1:i<a.length):atI a i∈a:=by
  unfold atI;rw [getD_lt _ _ _ (by omega)];exact List.getElem_mem _
theorem cost_val (hv:l.Valid) {a b:Int} (a0:0≤a) (a1:a<l.sites.length) (b0:0≤b) (b1:b<l.sites.length):costOf l.sites l.roads a b=roadAt l.roads a b+(atI l.sites b).rent∧0≤roadAt l.roads a b∧roadAt l.roads a b≤99∧0≤(atI l.sites b).rent∧(atI l.sites b).rent≤99:=by
  have hr:=hv.roads
  have h1:=(hv.road (atI l.roads a) (atI_mem a0 (by omega)))
  have h2:=h1.2 (atI (atI l.roads a) b) (atI_mem b0 (by rw [h1.1];exact b1))
  have h3:=hv.site (atI l.sites b) (atI_mem b0 b1)
  refine ⟨?_,h2.1,h2.2,h3.2.2.2.1,h3.2.2.2.2⟩
  unfold costOf
  have:roadAt l.roads a b=atI (atI l.roads a) b:=rfl
  rw [wrapB (by omega) (by omega)]
theorem crop_val (hv:l.Valid) {b:Int} (t:Int) (b0:0≤b) (b1:b<l.sites.length):0≤cropOf (atI l.sites b) t∧cropOf (atI l.sites b) t≤99∧cropB (atI l.sites b) t true=cropOf (atI l.sites b) t / 2∧cropB (atI l.sites b) t false=cropOf (atI l.sites b) t:=by
  have h3:=hv.site (atI l.sites b) (atI_mem b0 b1)
  have h4:0≤cropOf (atI l.sites b) t∧cropOf (atI l.sites b) t≤99:=by
    unfold cropOf
    split
    · omega
    · split<;>omega
  refine ⟨h4.1,h4.2,?_,rfl⟩
  show IntKind.i64.wrap ((cropOf (atI l.sites b) t).tdiv 2)=_
  rw [Int.tdiv_eq_ediv_of_nonneg h4.1,wrapB (by omega) (by omega)]
theorem cropB_val (hv:l.Valid) {b:Int} (t:Int) (c:Bool) (b0:0≤b) (b1:b<l.sites.length):0≤cropB (atI l.sites b) t c∧cropB (atI l.sites b) t c≤99:=by
  obtain ⟨h1,h2,h3,h4⟩:=crop_val hv t b0 b1
  cases c
  · rw [h4];exact ⟨h1,h2⟩
  · rw [h3];omega
theorem plan_at {plan:List Int} (hp:AreSites l plan) {k:Nat} (hk:k<plan.length):0≤plan.getD k default∧plan.getD k default<l.sites.length:=by
  rw [getD_lt _ _ _ hk];exact hp _ (List.getElem_mem _)
theorem money_next (hv:l.Valid) {ws plan:List Int} (hp:AreSites l plan) (hpl:plan.length≤100):∀k:Nat,k≤plan.length→(∀i,i<k→canAt l ws plan i=true)→0≤(stAt l ws plan k).money∧(stAt l ws plan k).money≤l.purse+99*k∧∀i,i<k→(stAt l ws plan (i+1)).money=(stAt l ws plan i).money-(yrAt l ws plan i).cost+(yrAt l ws plan i).crop∧0≤(yrAt l ws plan i).cost∧(yrAt l ws plan i).cost≤(stAt l ws plan i).money∧0≤(yrAt l ws plan i).crop∧(yrAt l ws plan i).crop≤99∧0≤(stAt l ws plan i).money
  | 0,_,_=>⟨hv.purse0,by show l.purse≤_;omega,fun i h=>absurd h (by omega)⟩
  | k+1,hk,hc=>by
    have p1:=hv.purse1
    obtain ⟨m0,m1,hi⟩:=money_next hv hp hpl k (by omega) (fun i h=>hc i (by omega))
    obtain ⟨s0,s1⟩:=stAt_site hv (bad:=ws) hp k (by omega)
    obtain ⟨b0,b1⟩:=plan_at hp (k:=k) (by omega)
    obtain ⟨c1,c2,c3,c4,c5⟩:=cost_val hv s0 s1 b0 b1
    obtain ⟨d0,d1⟩:=cropB_val hv ((stAt l ws plan k).so.taken (plan.getD k default)) (decide ((k:Int)∈ws)) b0 b1
    have hcan:costOf l.sites l.roads (stAt l ws plan k).site (plan.getD k default)≤(stAt l ws plan k).money:=of_decide_eq_true (hc k (by omega))
    have e1:(yrAt l ws plan k).cost=costOf l.sites l.roads (stAt l ws plan k).site (plan.getD k default):=rfl
    have e2:(yrAt l ws plan k).crop=cropB (atI l.sites (plan.getD k default)) ((stAt l ws plan k).so.taken (plan.getD k default)) (decide ((k:Int)∈ws)):=rfl
    have e3:(stAt l ws plan (k+1)).money=IntKind.i64.wrap (IntKind.i64.wrap ((stAt l ws plan k).money-(yrAt l ws plan k).cost)+(yrAt l ws plan k).crop):=rfl
    have hk':(k:Int)≤100:=by omega
    have e4:(stAt l ws plan (k+1)).money=(stAt l ws plan k).money-(yrAt l ws plan k).cost+(yrAt l ws plan k).crop:=by
      rw [e3,wrapB (n:=(stAt l ws plan k).money-(yrAt l ws plan k).cost) (by omega) (by omega),wrapB (by omega) (by omega)]
    refine ⟨by omega,by omega,fun i h=>?_⟩
    by_cases hik:i<k
    · exact hi i hik
    · have:i=k:=by omega
      subst this
      exact ⟨e4,by omega,by omega,by omega,by omega,m0⟩
def prof (l:Land) (plan ws:List Int):Int:=(stAt l ws plan plan.length).money-l.purse
theorem prof_val (hv:l.Valid) {ws plan:List Int} (hp:AreSites l plan) (hpl:plan.length≤100) (hf:failAt l ws plan=none):IntKind.i64.wrap ((stAt l ws plan plan.length).money-l.purse)=prof l plan ws ∧ -999≤prof l plan ws∧prof l plan ws≤9900:=by
  obtain ⟨m0,m1,_⟩:=money_next hv (ws:=ws) hp hpl plan.length (Nat.le_refl _) (failAt_none.1 hf)
  have p1:=hv.purse1
  have p0:=hv.purse0
  have e:prof l plan ws=(stAt l ws plan plan.length).money-l.purse:=rfl
  exact ⟨wrapB (by omega) (by omega),by omega,by omega⟩
def combW (last bad:Int):List (List Int):=(List.range (bad+1).toNat).flatMap fun m=>comb last m [] 0
def bitsW (last bad:Int):List (List Int):=((List.range (2^(last+1).toNat)).map bitsL).filter fun b=>decide ((b.length:Int)≤bad)
def sorted : List (List Int)→Bool
  | []=>true
  | a::l=>l.all (fun b=>shorterL a b && !shorterL b a)&&sorted l
def sameW (last bad:Int):Bool:=sorted (combW last bad)&&(combW last bad).all (fun w=>(bitsW last bad).contains w)&&(bitsW last bad).all (fun w=>(combW last bad).contains w)&&(combW last bad).contains []&&(bitsW last bad).contains []
theorem sameW_all : (List.range 5).all (fun last=>(List.range (last+2)).all fun bad=>sameW (last:Int) (bad:Int))=true:=by decide +kernel
theorem sameW_of (hv:l.Valid):sameW l.last l.bad=true:=by
  have h1:=(List.all_eq_true.1 sameW_all) l.last.toNat (by have:=hv.last4;have:=hv.last0;simp;omega)
  have h2:=(List.all_eq_true.1 h1) l.bad.toNat (by have:=hv.bad1;have:=hv.bad0;have:=hv.last0;simp;omega)
  rwa [show ((l.last.toNat:Nat):Int)=l.last by have:=hv.last0;omega,show ((l.bad.toNat:Nat):Int)=l.bad by have:=hv.bad0;omega] at h2
theorem wth_sorted (hv:l.Valid):sorted (weathersL l)=true:=by
  have:=sameW_of hv
  simp only [sameW,Bool.and_eq_true] at this
  exact this.1.1.1.1
theorem wth_nil (hv:l.Valid):[]∈weathersL l:=by
  have:=sameW_of hv
  simp only [sameW,Bool.and_eq_true,List.all_eq_true,List.contains_iff_mem] at this
  exact this.1.2
theorem wth_any (hv:l.Valid) {a b:List Int} (ha:a∈weathersL l) (hb:b∈weathersL l):a=b∨(shorterL a b=true∧shorterL b a=false)∨(shorterL b a=true∧shorterL a b=false):=by
  have key:∀W:List (List Int),sorted W=true→a∈W→b∈W→a=b∨(shorterL a b=true∧shorterL b a=false)∨(shorterL b a=true∧shorterL a b=false):=by
    intro W
    induction W with
    | nil=>intro _ h;cases h
    | cons c W ih=>
      intro hs h1 h2
      simp only [sorted,Bool.and_eq_true,List.all_eq_true,Bool.not_eq_true'] at hs
      rcases List.mem_cons.1 h1 with rfl | h1'
      · rcases List.mem_cons.1 h2 with rfl | h2'
        · exact .inl rfl
        · exact .inr (.inl (hs.1 b h2'))
      · rcases List.mem_cons.1 h2 with rfl | h2'
        · exact .inr (.inr (hs.1 a h1'))
        · exact ih hs.2 h1' h2'
  exact key _ (wth_sorted hv) ha hb
structure IsSure (l:Land) (plan:List Int) (r:Int × List Int × Bool):Prop where
  no:r.2.2=false→∃w∈weathersL l,failAt l w plan≠none
  yes:r.2.2=true→(∀w∈weathersL l,failAt l w plan=none)∧r.2.1∈weathersL l∧r.1=prof l plan r.2.1∧∀w∈weathersL l,r.1<prof l plan w∨(r.1=prof l plan w∧shorterL w r.2.1=false)
theorem IsSure.same (hv:l.Valid) {plan:List Int} {r s:Int × List Int × Bool} (hr:IsSure l plan r) (hs:IsSure l plan s):r.2.2=s.2.2∧(r.2.2=true→r=s):=by
  obtain ⟨p,w,c⟩:=r
  obtain ⟨p',w',c'⟩:=s
  cases c with
  | false=>
    cases c' with
    | false=>exact ⟨rfl,fun h=>by cases h⟩
    | true=>
      obtain ⟨x,h1,h2⟩:=hr.no rfl
      exact absurd ((hs.yes rfl).1 x h1) h2
  | true=>
    cases c' with
    | false=>
      obtain ⟨x,h1,h2⟩:=hs.no rfl
      exact absurd ((hr.yes rfl).1 x h1) h2
    | true=>
      refine ⟨rfl,fun _=>?_⟩
      obtain ⟨_,a1,a2,a3⟩:=hr.yes rfl
      obtain ⟨_,b1,b2,b3⟩:=hs.yes rfl
      simp only at a1 a2 a3 b1 b2 b3
      have c1:=a3 w' b1
      have c2:=b3 w a1
      have hp:p=p':=by omega
      have d1:shorterL w' w=false:=by rcases c1 with h | h;omega;exact h.2
      have d2:shorterL w w'=false:=by rcases c2 with h | h;omega;exact h.2
      rcases wth_any hv a1 b1 with h | h | h
      · rw [hp,h]
      · rw [d2] at h;cases h.1
      · rw [d1] at h;cases h.1
end Am.Mv
namespace Am.Mv
open Go Am Am.Tm
set_option maxRecDepth 100000
set_option maxHeartbeats 4000000
set_option linter.unusedSimpArgs false
set_option linter.unusedVariables false
variable {l:Land}
theorem beforeL_irr : ∀a:List Int,beforeL a a=false
  | []=>rfl
  | x::a=>by simp [beforeL,beforeL_irr a]
theorem shorterL_irr (a:List Int):shorterL a a=false:=by simp [shorterL,beforeL_irr]
theorem sureStep_val (hv:l.Valid) {plan w:List Int} (hp:AreSites l plan) (hpl:plan.length≤100) (s:Int × List Int × Bool) :
    sureStep l plan s w=if failAt l w plan=none then (if s.2.2=false∨prof l plan w<s.1 then ((prof l plan w,w,true),true) else (s,true)) else ((s.1,s.2.1,false),false):=by
  unfold sureStep
  cases h:failAt l w plan with
  | some k=>rfl
  | none=>rw [if_pos rfl];simp only [(prof_val hv hp hpl h).1]
theorem sureL_go (hv:l.Valid) {plan:List Int} (hp:AreSites l plan) (hpl:plan.length≤100):∀(W:List (List Int)) (s:Int × List Int × Bool),sorted W=true →
    (s.2.2=true→∀w∈W,shorterL w s.2.1=false) →
    (((foldY (sureStep l plan) s W).1.2.2=false→(s.2.2=false∧W=[])∨∃w∈W,failAt l w plan≠none) ∧
    ((foldY (sureStep l plan) s W).1.2.2=true→(∀w∈W,failAt l w plan=none) ∧
      ((s.2.2=true∧(foldY (sureStep l plan) s W).1=s)∨((foldY (sureStep l plan) s W).1.2.1∈W∧(foldY (sureStep l plan) s W).1.1=prof l plan (foldY (sureStep l plan) s W).1.2.1∧(s.2.2=true→(foldY (sureStep l plan) s W).1.1<s.1))) ∧
      ∀w∈W,(foldY (sureStep l plan) s W).1.1<prof l plan w∨((foldY (sureStep l plan) s W).1.1=prof l plan w∧shorterL w (foldY (sureStep l plan) s W).1.2.1=false)))
  | [],s,_,_=>by
    simp only [foldY]
    exact ⟨fun h=>.inl ⟨h,trivial⟩,fun h=>⟨by simp,.inl ⟨h,trivial⟩,by simp⟩⟩
  | w::W,s,hs,hw=>by
    simp only [sorted,Bool.and_eq_true,List.all_eq_true,Bool.not_eq_true'] at hs
    have hirr:=shorterL_irr w
    simp only [foldY,sureStep_val hv hp hpl]
    by_cases hf:failAt l w plan=none
    · simp only [if_pos hf]
      by_cases hc:s.2.2=false∨prof l plan w<s.1
      · simp only [if_pos hc,if_true]
        obtain ⟨i1,i2⟩:=sureL_go hv hp hpl W (prof l plan w,w,true) hs.2 (fun _ x hx=>(hs.1 x hx).2)
        refine ⟨fun h=>?_,fun h=>?_⟩
        · rcases i1 h with ⟨h,_⟩ | ⟨x,h1,h2⟩
          · cases h
          · exact .inr ⟨x,List.mem_cons_of_mem _ h1,h2⟩
        · obtain ⟨j1,j2,j3⟩:=i2 h
          refine ⟨fun x hx=>?_,.inr ?_,fun x hx=>?_⟩
          · rcases List.mem_cons.1 hx with rfl | hx
            · exact hf
            · exact j1 x hx
          · rcases j2 with ⟨_,j2⟩ | ⟨j2,j4,j5⟩
            · rw [j2]
              exact ⟨List.mem_cons_self,rfl,fun h=>by rcases hc with hc | hc;rw [h] at hc;cases hc;exact hc⟩
            · exact ⟨List.mem_cons_of_mem _ j2,j4,fun h=>by rcases hc with hc | hc;rw [h] at hc;cases hc;have:=j5 rfl;simp only at this;omega⟩
          · rcases List.mem_cons.1 hx with rfl | hx
            · rcases j2 with ⟨_,j2⟩ | ⟨j2,j4,j5⟩
              · rw [j2];exact .inr ⟨rfl,hirr⟩
              · exact .inl (j5 rfl)
            · exact j3 x hx
      · simp only [if_neg hc,if_true]
        have hst:s.2.2=true:=by
          cases h:s.2.2 with
          | true=>rfl
          | false=>exact absurd (.inl h) hc
        have hge:s.1≤prof l plan w:=by
          by_cases h:prof l plan w<s.1
          · exact absurd (.inr h) hc
          · omega
        obtain ⟨i1,i2⟩:=sureL_go hv hp hpl W s hs.2 (fun h x hx=>hw h x (List.mem_cons_of_mem _ hx))
        refine ⟨fun h=>?_,fun h=>?_⟩
        · rcases i1 h with ⟨h,_⟩ | ⟨x,h1,h2⟩
          · rw [hst] at h;cases h
          · exact .inr ⟨x,List.mem_cons_of_mem _ h1,h2⟩
        · obtain ⟨j1,j2,j3⟩:=i2 h
          refine ⟨fun x hx=>?_,?_,fun x hx=>?_⟩
          · rcases List.mem_cons.1 hx with rfl | hx
            · exact hf
            · exact j1 x hx
          · rcases j2 with j2 | ⟨j2,j4,j5⟩
            · exact .inl j2
            · exact .inr ⟨List.mem_cons_of_mem _ j2,j4,j5⟩
          · rcases List.mem_cons.1 hx with rfl | hx
            · rcases j2 with ⟨_,j2⟩ | ⟨j2,j4,j5⟩
              · rw [j2]
                by_cases he:s.1=prof l plan x
                · exact .inr ⟨he,hw hst x List.mem_cons_self⟩
                · exact .inl (by omega)
              · exact .inl (by have:=j5 hst;omega)
            · exact j3 x hx
    · simp only [if_neg hf,Bool.false_eq_true,if_false]
      exact ⟨fun _=>.inr ⟨w,List.mem_cons_self,hf⟩,fun h=>by cases h⟩
theorem sureL_is (hv:l.Valid) {plan:List Int} (hp:AreSites l plan) (hpl:plan.length≤100):IsSure l plan (sureL l plan):=by
  obtain ⟨i1,i2⟩:=sureL_go hv hp hpl (weathersL l) (0,[],false) (wth_sorted hv) (fun h=>by cases h)
  refine ⟨fun h=>?_,fun h=>?_⟩
  · rcases i1 h with ⟨_,h⟩ | h
    · have:=wth_nil hv
      rw [h] at this;cases this
    · exact h
  · obtain ⟨j1,j2,j3⟩:=i2 h
    rcases j2 with ⟨j2,_⟩ | ⟨j2,j4,_⟩
    · cases j2
    · exact ⟨j1,j2,j4,j3⟩
end Am.Mv
namespace Am.Mv
open Go Am Am.Tm
set_option maxRecDepth 100000
set_option maxHeartbeats 4000000
set_option linter.unusedSimpArgs false
set_option linter.unusedVariables false
variable {l:Land} {g1 g2:Bool × Bool}
end Am.Mv
namespace Am.Mv
open Go Am Am.Tm
set_option maxRecDepth 100000
set_option maxHeartbeats 4000000
set_option linter.unusedSimpArgs false
set_option linter.unusedVariables false
variable {l:Land} {g1 g2:Bool × Bool}
def dig (S:Nat):Nat→Nat→List Int
  | 0,_=>[]
  | k+1,n=>((n / S^k % S:Nat):Int)::dig S k n
theorem dig_len (S k n:Nat):(dig S k n).length=k:=by
  induction k with
  | zero=>rfl
  | succ k ih=>simp [dig,ih]
def planN (l:Land) (n:Nat):List Int:=dig l.sites.length (l.last+1).toNat n
end Am.Mv
namespace Am.Mv
open Go Am Am.Tm
set_option maxRecDepth 100000
set_option maxHeartbeats 4000000
set_option linter.unusedSimpArgs false
set_option linter.unusedVariables false
variable {l:Land} {g1 g2:Bool × Bool}
theorem planN_ok (hv:l.Valid) (n:Nat):AreSites l (planN l n)∧(planN l n).length=(l.last+1).toNat∧(planN l n).length≤100:=by
  have l4:=hv.last4
  have h:(planN l n).length=(l.last+1).toNat:=dig_len _ _ _
  refine ⟨?_,h,by omega⟩
  have:∀k,AreSites l (dig l.sites.length k n):=by
    intro k
    induction k with
    | zero=>intro x hx;cases hx
    | succ k ih=>
      intro x hx
      rcases List.mem_cons.1 hx with rfl | hx
      · have:=Nat.mod_lt (n / l.sites.length^k) hv.n0
        omega
      · exact ih x hx
  exact this _
def plansN (l:Land):Nat:=l.sites.length^(l.last+1).toNat
def rbStep (l:Land) (but:Int) (s:List Int × Int × Int × Bool) (p:List Int):List Int × Int × Int × Bool:=
  if but∈p then s
  else if (sureL l p).2.2=false then s
  else if s.2.2.2=false∨s.2.1<(sureL l p).1 then (p,(sureL l p).1,moveL l p,true)
  else if (sureL l p).1=s.2.1 then (s.1,s.2.1,max s.2.2.1 (moveL l p),s.2.2.2)
  else s
def rbest (l:Land) (but:Int) (k:Nat):List Int × Int × Int × Bool:=((List.range k).map (planN l)).foldl (rbStep l but) ([],0,0,false)
end Am.Mv
namespace Am.Mv
open Go Am Am.Tm
set_option maxRecDepth 100000
set_option maxHeartbeats 4000000
set_option linter.unusedSimpArgs false
set_option linter.unusedVariables false
variable {l:Land} {g1 g2:Bool × Bool}
theorem range_mul (a b:Nat):List.range (a*b)=(List.range a).flatMap fun k=>(List.range b).map fun m=>k*b+m:=by
  induction a with
  | zero=>simp
  | succ a ih=>rw [Nat.succ_mul,List.range_add,ih,List.range_succ,List.flatMap_append];simp
theorem dig_add (S:Nat) (h:0<S):∀(r n k:Nat),dig S r (k*S^r+n)=dig S r n
  | 0,_,_=>rfl
  | r+1,n,k=>by
    have e:k*S^(r+1)+n=(k*S)*S^r+n:=by rw [Nat.pow_succ,Nat.mul_comm (S^r) S,Nat.mul_assoc]
    simp only [dig]
    rw [e,dig_add S h r n (k*S),Nat.add_comm,Nat.add_mul_div_right _ _ (Nat.pow_pos h),Nat.add_mul_mod_self_right]
theorem dig_head {S r k m:Nat} (h:0<S) (hk:k<S) (hm:m<S^r):dig S (r+1) (k*S^r+m)=(k:Int)::dig S r m:=by
  simp only [dig]
  rw [dig_add S h,Nat.add_comm,Nat.add_mul_div_right _ _ (Nat.pow_pos h),Nat.div_eq_of_lt hm,Nat.zero_add,Nat.mod_eq_of_lt hk]
theorem plansFrom_dig {S:Nat} (h:0<S) (but:Int):∀(r:Nat) (w:List Int),plansFrom S but r w=((List.range (S^r)).filter fun m=>!decide (but∈dig S r m)).map fun m=>w++dig S r m
  | 0,w=>by simp [plansFrom,dig]
  | r+1,w=>by
    rw [Nat.pow_succ,Nat.mul_comm,range_mul,plansFrom,List.filter_flatMap,List.map_flatMap]
    rw [List.flatMap_def,List.flatMap_def]
    congr 1
    apply List.map_congr_left
    intro k hk
    have hk':=List.mem_range.1 hk
    by_cases hb:(k:Int)=but
    · rw [if_pos hb]
      symm
      rw [List.map_eq_nil_iff,List.filter_eq_nil_iff]
      intro x hx
      obtain ⟨m,hm,rfl⟩:=List.mem_map.1 hx
      rw [dig_head h hk' (List.mem_range.1 hm),←hb]
      simp
    · rw [if_neg hb,plansFrom_dig h but r,List.filter_map,List.map_map]
      have e:(List.range (S^r)).filter (fun m=>!decide (but∈dig S r m))=(List.range (S^r)).filter ((fun m=>!decide (but∈dig S (r+1) m))∘fun m=>k*S^r+m):=by
        apply List.filter_congr
        intro m hm
        simp only [Function.comp]
        rw [dig_head h hk' (List.mem_range.1 hm)]
        have:¬but=(k:Int):=fun h=>hb h.symm
        simp [this]
      rw [e]
      apply List.map_congr_left
      intro m hm
      have hm':=List.mem_range.1 (List.mem_filter.1 hm).1
      simp only [Function.comp]
      rw [dig_head h hk' hm']
      simp
def Wk (l:Land) (but:Int) (k:Nat):List (List Int):=((List.range k).map (planN l)).filter fun p=>!decide (but∈p)
theorem plans_same (hv:l.Valid) (but:Int):plansL l but=Wk l but (plansN l):=by
  rw [plansL,plansFrom_dig hv.n0,Wk,List.filter_map]
  rfl
structure RbOk (l:Land) (but:Int) (k:Nat):Prop where
  e1:(rbest l but k).1=((Wk l but k).foldl (bestStep l) ([],0,false)).1
  e2:(rbest l but k).2.1=((Wk l but k).foldl (bestStep l) ([],0,false)).2.1
  e3:(rbest l but k).2.2.2=((Wk l but k).foldl (bestStep l) ([],0,false)).2.2
  late:(rbest l but k).2.2.2=true→(Wk l but k).foldl (lateStep l (rbest l but k).2.1) 0=(rbest l but k).2.2.1
  most:∀p∈Wk l but k,(sureL l p).2.2=true→(rbest l but k).2.2.2=true∧(sureL l p).1≤(rbest l but k).2.1
end Am.Mv
namespace Am.Mv
open Go Am Am.Tm
set_option maxRecDepth 100000
set_option maxHeartbeats 4000000
set_option linter.unusedSimpArgs false
set_option linter.unusedVariables false
variable {l:Land} {g1 g2:Bool × Bool}
structure IsBest (l:Land) (W:List (List Int)) (r:List Int × Int × Bool):Prop where
  no:r.2.2=false→r=([],0,false)∧∀p∈W,(sureL l p).2.2=false
  yes:r.2.2=true→(sureL l r.1).2.2=true∧r.2.1=(sureL l r.1).1∧(∀p∈W,(sureL l p).2.2=true→(sureL l p).1≤r.2.1)∧∃A B,W=A++r.1::B∧∀p∈A,(sureL l p).2.2=true→(sureL l p).1<r.2.1
theorem IsBest.step {W:List (List Int)} {r:List Int × Int × Bool} (h:IsBest l W r) (p:List Int):IsBest l (W++[p]) (bestStep l r p):=by
  unfold bestStep
  by_cases hc:(sureL l p).2.2=true∧(r.2.2=false∨r.2.1<(sureL l p).1)
  · rw [if_pos hc]
    refine ⟨fun h=>(by cases h),fun _=>⟨hc.1,rfl,fun q hq hqc=>?_,W,[],rfl,fun q hq hqc=>?_⟩⟩
    · rcases List.mem_append.1 hq with hq | hq
      · cases hf:r.2.2 with
        | false=>rw [(h.no hf).2 q hq] at hqc;cases hqc
        | true=>
          have:=(h.yes hf).2.2.1 q hq hqc
          rcases hc.2 with hc | hc
          · rw [hf] at hc;cases hc
          · simp only;omega
      · rw [List.mem_singleton.1 hq];exact Int.le_refl _
    · cases hf:r.2.2 with
      | false=>rw [(h.no hf).2 q hq] at hqc;cases hqc
      | true=>
        have:=(h.yes hf).2.2.1 q hq hqc
        rcases hc.2 with hc | hc
        · rw [hf] at hc;cases hc
        · simp only;omega
  · rw [if_neg hc]
    refine ⟨fun hf=>⟨(h.no hf).1,fun q hq=>?_⟩,fun hf=>?_⟩
    · rcases List.mem_append.1 hq with hq | hq
      · exact (h.no hf).2 q hq
      · rw [List.mem_singleton.1 hq]
        cases hs:(sureL l p).2.2 with
        | false=>rfl
        | true=>exact absurd ⟨hs,.inl hf⟩ hc
    · obtain ⟨h1,h2,h3,A,B,h4,h5⟩:=h.yes hf
      refine ⟨h1,h2,fun q hq hqc=>?_,A,B++[p],by rw [h4];simp,h5⟩
      rcases List.mem_append.1 hq with hq | hq
      · exact h3 q hq hqc
      · rw [List.mem_singleton.1 hq] at hqc ⊢
        by_cases hlt:r.2.1<(sureL l p).1
        · exact absurd ⟨hqc,.inr hlt⟩ hc
        · omega
theorem IsBest.all : ∀(B A:List (List Int)) (r:List Int × Int × Bool),IsBest l A r→IsBest l (A++B) (B.foldl (bestStep l) r)
  | [],A,r,h=>by simpa using h
  | p::B,A,r,h=>by
    have:=IsBest.all B (A++[p]) _ (h.step p)
    simpa using this
theorem best_is (l:Land) (but:Int):IsBest l (plansL l but) (bestL l but):=by
  have:=IsBest.all (l:=l) (plansL l but) [] ([],0,false) ⟨fun _=>⟨rfl,fun p hp=>(by cases hp)⟩,fun h=>(by cases h)⟩
  rw [List.nil_append] at this
  exact this
theorem plans_mem (hv:l.Valid) {but:Int} {p:List Int} (h:p∈plansL l but):AreSites l p∧p.length=(l.last+1).toNat∧p.length≤100∧but∉p:=by
  rw [plans_same hv,Wk,List.mem_filter,List.mem_map] at h
  obtain ⟨⟨n,_,rfl⟩,h2⟩:=h
  obtain ⟨h3,h4,h5⟩:=planN_ok hv n
  exact ⟨h3,h4,h5,by simpa using h2⟩
theorem best_mem {but:Int} (h:(bestL l but).2.2=true):(bestL l but).1∈plansL l but:=by
  obtain ⟨_,_,_,A,B,h4,_⟩:=(best_is l but).yes h
  rw [h4];simp
end Am.Mv
namespace Am.Mv
open Go Am Am.Tm
set_option maxRecDepth 100000
set_option maxHeartbeats 4000000
set_option linter.unusedSimpArgs false
set_option linter.unusedVariables false
variable {l:Land} {g1 g2:Bool × Bool}
end Am.Mv
namespace Am.Mv
open Go Am Am.Tm
set_option maxRecDepth 100000
set_option maxHeartbeats 4000000
set_option linter.unusedSimpArgs false
set_option linter.unusedVariables false
variable {l:Land} {g1 g2:Bool × Bool}
end Am.Mv
namespace Am.Mv
open Go Am Am.Tm
set_option maxRecDepth 100000
set_option maxHeartbeats 4000000
set_option linter.unusedSimpArgs false
set_option linter.unusedVariables false
variable {l:Land} {g1 g2:Bool × Bool}
end Am.Mv
namespace Am.Mv
open Go Am Am.Tm
set_option maxRecDepth 100000
set_option maxHeartbeats 4000000
set_option linter.unusedSimpArgs false
set_option linter.unusedVariables false
variable {l:Land} {g1 g2:Bool × Bool}
end Am.Mv
namespace Am.Mv
open Go Am Am.Tm
set_option maxRecDepth 100000
set_option maxHeartbeats 4000000
set_option linter.unusedSimpArgs false
set_option linter.unusedVariables false
variable {l:Land} {g1 g2:Bool × Bool}
structure SeenOk (l:Land) (A R:Ans):Prop where
  is:R.2.2=A.2.2
  yes:A.2.2=true→R.1=A.1∧R.2.1=A.2.1-l.purse∧0≤A.2.1∧A.2.1≤20000
  no:A.2.2=false→R=(0,0,false)
end Am.Mv
namespace Am.Mv
open Go Am Am.Tm
set_option maxRecDepth 100000
set_option maxHeartbeats 4000000
set_option linter.unusedSimpArgs false
set_option linter.unusedVariables false
variable {l:Land} {g1 g2:Bool × Bool}
def CandIs (l:Land) (n:Nat) (s:S) (b k:Int):Prop:=costOf l.sites l.roads s.site k≤s.money∧(fromF l n (nextS l s k false) b).2.2=true∧(0<b→(fromF l n (nextS l s k true) (b-1)).2.2=true)
def candV (l:Land) (n:Nat) (s:S) (b k:Int):Int:=if 0<b then min (fromF l n (nextS l s k false) b).2.1 (fromF l n (nextS l s k true) (b-1)).2.1 else (fromF l n (nextS l s k false) b).2.1
theorem fromStep_cand {n:Nat} {s:S} {b k:Int} {best:Ans}:(CandIs l n s b k∧(best.2.2=false∨best.2.1<candV l n s b k)→fromStep l (fromF l n) s b best k=(k,candV l n s b k,true))∧(¬(CandIs l n s b k∧(best.2.2=false∨best.2.1<candV l n s b k))→fromStep l (fromF l n) s b best k=best):=by
  unfold fromStep CandIs candV
  generalize fromF l n (nextS l s k false) b=a
  generalize fromF l n (nextS l s k true) (b-1)=c
  by_cases hc:costOf l.sites l.roads s.site k≤s.money
  · simp only [hc,if_true,true_and]
    by_cases hb:0<b
    · simp only [hb,and_true,if_true,forall_const]
      cases ha:a.2.2 with
      | true=>
        simp only [if_true,true_and]
        exact ⟨fun h=>if_pos h,fun h=>if_neg h⟩
      | false=>simp [ha]
    · simp only [hb,and_false,if_false,false_imp_iff,and_true]
      exact ⟨fun h=>if_pos h,fun h=>if_neg h⟩
  · simp [hc]
structure FoldOk (l:Land) (n:Nat) (s:S) (b:Int) (m:Nat) (r:Ans):Prop where
  yes:r.2.2=true→∃k:Nat,k<m∧CandIs l n s b k∧r.1=k∧r.2.1=candV l n s b k
  most:∀k:Nat,k<m→CandIs l n s b k→r.2.2=true∧candV l n s b k≤r.2.1
theorem fold_ok (n:Nat) (s:S) (b:Int):∀m:Nat,FoldOk l n s b m ((List.range m).foldl (fun best (k:Nat)=>fromStep l (fromF l n) s b best (k:Int)) (0,0,false))
  | 0=>⟨fun h=>(by cases h),fun k hk=>(by omega)⟩
  | m+1=>by
    have ih:=fold_ok n s b m
    simp only [List.range_succ,List.foldl_append,List.foldl_cons,List.foldl_nil]
    generalize (List.range m).foldl (fun best (k:Nat)=>fromStep l (fromF l n) s b best (k:Int)) (0,0,false)=r at *
    obtain ⟨f1,f2⟩:=fromStep_cand (l:=l) (n:=n) (s:=s) (b:=b) (k:=(m:Int)) (best:=r)
    by_cases h:CandIs l n s b (m:Int)∧(r.2.2=false∨r.2.1<candV l n s b (m:Int))
    · rw [f1 h]
      refine ⟨fun _=>⟨m,by omega,h.1,rfl,rfl⟩,fun k hk hc=>⟨rfl,?_⟩⟩
      by_cases hkm:k<m
      · obtain ⟨i1,i2⟩:=ih.most k hkm hc
        rcases h.2 with h | h
        · rw [i1] at h;cases h
        · simp only;omega
      · have:k=m:=by omega
        subst this;exact Int.le_refl _
    · rw [f2 h]
      refine ⟨fun hr=>?_,fun k hk hc=>?_⟩
      · obtain ⟨k,h1,h2⟩:=ih.yes hr
        exact ⟨k,by omega,h2⟩
      · by_cases hkm:k<m
        · exact ih.most k hkm hc
        · have:k=m:=by omega
          subst this
          cases hr:r.2.2 with
          | false=>exact absurd ⟨hc,.inl hr⟩ h
          | true=>
            refine ⟨rfl,?_⟩
            by_cases hlt:r.2.1<candV l n s b (k:Int)
            · exact absurd ⟨hc,.inr hlt⟩ h
            · omega
theorem from_ok2 (n:Nat) (s:S) (b:Int):FoldOk l n s b l.sites.length (fromF l (n+1) s b):=by
  have h:=fold_ok (l:=l) n s b l.sites.length
  simp only [fromF]
  generalize (List.range l.sites.length).foldl (fun best (k:Nat)=>fromStep l (fromF l n) s b best (k:Int)) (0,0,false)=r at *
  cases hr:r.2.2 with
  | true=>rw [if_pos rfl];exact h
  | false=>
    rw [if_neg (by simp)]
    exact ⟨fun h=>(by cases h),fun k hk hc=>by have:=(h.most k hk hc).1;rw [hr] at this;cases this⟩
end Am.Mv
namespace Am.Mv
open Go Am Am.Tm
set_option maxRecDepth 100000
set_option maxHeartbeats 4000000
set_option linter.unusedSimpArgs false
set_option linter.unusedVariables false
variable {l:Land} {g1 g2:Bool × Bool}
theorem goA_start (hv:l.Valid):goA l [] []=fromF l (l.last+1).toNat (startS l) l.bad:=by
  unfold goA fromL
  rw [show stAt l [] [] ([]:List Int).length=startS l from rfl]
  simp [startS]
end Am.Mv
namespace Am.Mv
open Go Am Am.Tm
set_option maxRecDepth 100000
set_option maxHeartbeats 4000000
set_option linter.unusedSimpArgs false
set_option linter.unusedVariables false
variable {l:Land} {g1 g2:Bool × Bool}
abbrev S.plus (s:S) (d:Int):S:=⟨s.year,s.site,s.money+d,s.so⟩
theorem nextS_plus (hv:l.Valid) {s:S} {k:Int} {c:Bool} {d:Int} (d0:0≤d) (d1:d≤10000) (s0:0≤s.site) (s1:s.site<l.sites.length) (k0:0≤k) (k1:k<l.sites.length) (m0:0≤s.money) (m1:s.money≤100000) (hc:costOf l.sites l.roads s.site k≤s.money) :
    nextS l (s.plus d) k c=(nextS l s k c).plus d∧0≤(nextS l s k c).money∧(nextS l s k c).money≤s.money+99:=by
  obtain ⟨c1,c2,c3,c4,c5⟩:=cost_val hv s0 s1 k0 k1
  obtain ⟨e0,e1⟩:=cropB_val hv (s.so.taken k) c k0 k1
  have m:(nextS l s k c).money=s.money-costOf l.sites l.roads s.site k+cropB (atI l.sites k) (s.so.taken k) c:=by
    show IntKind.i64.wrap (IntKind.i64.wrap (s.money-costOf l.sites l.roads s.site k)+cropB (atI l.sites k) (s.so.taken k) c)=_
    rw [wrapB (n:=s.money-costOf l.sites l.roads s.site k) (by omega) (by omega),wrapB (by omega) (by omega)]
  have m':(nextS l (s.plus d) k c).money=s.money+d-costOf l.sites l.roads s.site k+cropB (atI l.sites k) (s.so.taken k) c:=by
    show IntKind.i64.wrap (IntKind.i64.wrap (s.money+d-costOf l.sites l.roads s.site k)+cropB (atI l.sites k) (s.so.taken k) c)=_
    rw [wrapB (n:=s.money+d-costOf l.sites l.roads s.site k) (by omega) (by omega),wrapB (by omega) (by omega)]
  refine ⟨?_,by rw [m];omega,by rw [m];omega⟩
  have:(nextS l (s.plus d) k c).money=(nextS l s k c).money+d:=by rw [m,m'];omega
  show (⟨_,_,(nextS l (s.plus d) k c).money,_⟩:S)=⟨_,_,(nextS l s k c).money+d,_⟩
  rw [this]
  rfl
end Am.Mv
namespace Am.Mv
open Go Am Am.Tm
set_option maxRecDepth 100000
set_option maxHeartbeats 4000000
set_option linter.unusedSimpArgs false
set_option linter.unusedVariables false
variable {l:Land} {g1 g2:Bool × Bool}
theorem best_le {l r:Land} (hv:l.Valid) (hpl:plansL r (-1)=plansL l (-1)) (h:∀p,AreSites l p→p.length≤100→(sureL l p).2.2=true→(sureL r p).2.2=true∧(sureL l p).1≤(sureL r p).1) (hc:(bestL l (-1)).2.2=true):(bestL r (-1)).2.2=true∧(bestL l (-1)).2.1≤(bestL r (-1)).2.1:=by
  obtain ⟨z1,z2,_,_⟩:=(best_is l (-1)).yes hc
  have hm:=best_mem hc
  obtain ⟨q1,q2,q3,_⟩:=plans_mem hv hm
  obtain ⟨h1,h2⟩:=h _ q1 q3 z1
  rw [←hpl] at hm
  cases hr:(bestL r (-1)).2.2 with
  | false=>have:=((best_is r (-1)).no hr).2 _ hm;rw [h1] at this;cases this
  | true=>
    refine ⟨rfl,?_⟩
    have:=((best_is r (-1)).yes hr).2.2.1 _ hm h1
    omega
end Am.Mv
