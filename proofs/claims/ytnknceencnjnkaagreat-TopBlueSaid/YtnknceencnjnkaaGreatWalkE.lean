/-
  A part of the proof: the texts W1, W2, W3, W4, W5, W6, W7, W8, W9, W10, W11, W12 of this seat, joined.
-/
import Derived.Test.YtnknceencnjnkaaGreatWalkD
namespace Am.Vt
open Go Am
set_option maxRecDepth 100000
set_option maxHeartbeats 4000000
set_option linter.unusedSimpArgs false
set_option linter.unusedVariables false
variable {g1 g2 g3 g4:Bool × Bool} {v:Vat}
def manyK (v:Vat) (k:Nat):Nat:=(v.blue::v.drift.take k).foldl (fun n r=>min 3000 n*szN r) (szN v.start)
theorem manyK_succ {k:Nat} (h:k<v.drift.length):manyK v (k+1)=min 3000 (manyK v k)*szN (v.drift.getD k default):=by
  simp only [manyK,take_getD h default,List.foldl_cons,List.foldl_append,List.foldl_nil]
theorem sizeN {r:Rg} (h : -5000≤r.lo∧r.lo≤r.hi∧r.hi≤5000):sizeI r.lo r.hi=(szN r:Nat)∧szN r≤10001:=by
  unfold sizeI szN
  rw [wrapB (n:=r.hi-r.lo) (by omega) (by omega),wrapB (by omega) (by omega)]
  omega
theorem rMany (hr:∀r∈rangesL v,-5000≤r.lo∧r.lo≤r.hi∧r.hi≤5000) (hl:v.drift.length≤1000) {Q:V→Prop}:CallP tab 14 [vatV g1 g2 g3 g4 v] Q↔Q (.c (.int .i64 (manyF (rangesL v)))):=CallP_of (by
  refine Val_X (fn:=f14) rfl ?_
  obtain ⟨s1,s2⟩:=sizeN (hr v.start (by simp [rangesL]))
  obtain ⟨b1,b2⟩:=sizeN (hr v.blue (by simp [rangesL]))
  have q1:min (szN v.start) 3000*szN v.blue≤3000*10001:=Nat.mul_le_mul (Nat.min_le_right _ _) b2
  have m0:manyK v 0=min (szN v.start) 3000*szN v.blue:=by simp only [manyK,List.take_zero,List.foldl_cons,List.foldl_nil,Nat.min_comm]
  have e1:IntKind.i64.wrap (min 3000 ((szN v.start:Nat):Int)*((szN v.blue:Nat):Int))=((manyK v 0:Nat):Int):=by
    rw [m0]
    have:min 3000 ((szN v.start:Nat):Int)*((szN v.blue:Nat):Int)=((min (szN v.start) 3000*szN v.blue:Nat):Int):=by
      rw [Int.natCast_mul];congr 1;omega
    rw [this,wrapB (by omega) (by omega)]
  simp only [go_sem,f14,rSize,s1,b1,disj_nil,ite_min,e1]
  refine RX_forC v.drift.length (fun k=>[(3,.c (.int .i64 (manyK v k))),(4,.c (.int .i64 k))]) (fun _=>True) rfl trivial (by simp only [go_sem]<;>rfl) ?_
  intro k hk _
  by_cases hlt:k<v.drift.length
  · have e4:IntKind.i64.wrap ((k:Int)+1)=((k+1:Nat):Int):=wrap_succ (n:=3000) (by omega) (by decide)
    obtain ⟨d1,d2⟩:=sizeN (hr (v.drift.getD k default) (by simp only [rangesL,List.mem_cons];exact .inr (.inr (getD_mem hlt))))
    have m1:=manyK_succ hlt
    have q2:min 3000 (manyK v k)*szN (v.drift.getD k default)≤3000*10001:=Nat.mul_le_mul (Nat.min_le_left _ _) d2
    have e5:IntKind.i64.wrap (min 3000 ((manyK v k:Nat):Int)*((szN (v.drift.getD k default):Nat):Int))=((manyK v (k+1):Nat):Int):=by
      rw [m1]
      have:min 3000 ((manyK v k:Nat):Int)*((szN (v.drift.getD k default):Nat):Int)=((min 3000 (manyK v k)*szN (v.drift.getD k default):Nat):Int):=by
        rw [Int.natCast_mul];congr 1;omega
      rw [this,wrapB (by omega) (by omega)]
    simp only [go_sem,hlt,atI_nat,rSize,d1,e4,e5,ite_min]
  · have:k=v.drift.length:=by omega
    subst this
    have hm:manyF (rangesL v)=manyK v v.drift.length:=by simp only [manyF,rangesL,manyK,List.take_length]
    simp only [go_sem,hlt,hm])
def goodB (v:Vat):Bool:=numbersOk v&&(decide ((v.drift.length:Int)=v.last+1)&&(decide ((v.feeds.length:Int)=v.last+1)&&(decide ((v.dips.length:Int)=v.last+1)&&(v.drift.all (fun r=>rgOf r.lo r.hi (-9) 9)&&(v.feeds.all feedOk&&(v.dips.all (fun n=>inR n 0 20)&&v.looks.all (lookOk v.last)))))))
theorem check_eq (a1:¬v.last>7) (a3:¬(v.looks.length:Int)>5):checkVat v=if goodB v=false then 1 else if manyL (rangesL v)>2000 then 3 else 0:=by
  rw [checkVat,if_neg a1,if_neg a3]
  cases h1:numbersOk v with
  | false=>simp [goodB,h1]
  | true=>
    have hl:0≤v.last:=by simp [numbersOk] at h1;exact h1.1
    have hw:IntKind.i64.wrap (v.last+1)=v.last+1:=wrapB (by omega) (by omega)
    rw [hw]
    by_cases h2:(v.drift.length:Int)=v.last+1
    · by_cases h3:(v.feeds.length:Int)=v.last+1
      · by_cases h4:(v.dips.length:Int)=v.last+1
        · cases h5:v.drift.all (fun r=>rgOf r.lo r.hi (-9) 9)<;>cases h6:v.feeds.all feedOk<;>cases h7:v.dips.all (fun n=>inR n 0 20)<;>cases h8:v.looks.all (lookOk v.last)<;>simp only [goodB,h1,h2,h3,h4,h5,h6,h7,h8,decide_true,Bool.and_true,Bool.true_and,Bool.and_false,Bool.false_and,if_true,if_false,not_true_eq_false,Bool.true_eq_false]
        · simp [goodB,h1,h2,h3,h4]
      · simp [goodB,h1,h2,h3]
    · simp [goodB,h1,h2]
theorem good_many (a1:¬v.last>7) (a3:¬(v.looks.length:Int)>5) (h:goodB v=true):(∀r∈rangesL v,-5000≤r.lo∧r.lo≤r.hi∧r.hi≤5000)∧v.drift.length≤1000∧checkVat v=if ((manyF (rangesL v):Nat):Int)>2000 then 3 else 0:=by
  have hc:=check_eq a1 a3
  rw [if_neg (by rw [h];simp)] at hc
  simp only [goodB,numbersOk,Bool.and_eq_true,decide_eq_true_eq,inR_iff,rgOf,List.all_eq_true] at h
  obtain ⟨⟨_,_,hs,hb,_⟩,hd,_,_,hdr,_⟩:=h
  have hr:∀r∈rangesL v,-5000≤r.lo∧r.lo≤r.hi∧r.hi≤5000:=by
    intro r hr
    simp only [rangesL,List.mem_cons] at hr
    rcases hr with rfl | rfl | hr
    · omega
    · omega
    · have:=hdr r hr;omega
  refine ⟨hr,by omega,?_⟩
  rw [hc]
  have h2:=many_min (rs:=rangesL v) (m:=1) (fun r h=>by have:=hr r h;omega) (by omega) (by omega)
  have h3:manyL (rangesL v)=((min (1*prodN (rangesL v)) 2001:Nat):Int):=h2
  have h4:=many_prod (rs:=rangesL v) fun r h=>(hr r h).2.1
  rw [Nat.one_mul] at h3
  by_cases hm:manyL (rangesL v)>2000
  · rw [if_pos hm,if_pos (by omega)]
  · rw [if_neg hm,if_neg (by omega)]
end Am.Vt
namespace Am.Vt
open Go Am
set_option maxRecDepth 100000
set_option maxHeartbeats 4000000
set_option linter.unusedSimpArgs false
set_option linter.unusedVariables false
variable {g1 g2 g3 g4:Bool × Bool} {v:Vat}
theorem rFault (hf:v.Fits) {Q:V→Prop}:CallP tab 7 [vatV g1 g2 g3 g4 v] Q↔Q (.c (.int .i64 (checkVat v))):=CallP_of (by
  refine Val_X (fn:=f7) rfl ?_
  have c1:=hf.drift
  have c2:=hf.feeds
  have c3:=hf.dips
  have c4:=hf.looks
  by_cases a1:v.last>7
  · simp only [go_sem,f7,a1,checkVat]
  by_cases a3:(v.looks.length:Int)>5
  · simp only [go_sem,f7,a1,a3,checkVat]
  have hce:=check_eq a1 a3
  have bad:goodB v=false→checkVat v=1:=fun h=>by rw [hce,if_pos h]
  by_cases b0:v.last<0
  · have:checkVat v=1:=bad (by simp [goodB,numbersOk];intro h;omega)
    simp only [go_sem,f7,a1,a3,b0,this]
  have hw:IntKind.i64.wrap (v.last+1)=v.last+1:=wrapB (by omega) (by omega)
  cases b1:inR v.band 0 20 with
  | false=>
    have:checkVat v=1:=bad (by simp [goodB,numbersOk,b1])
    simp only [go_sem,f7,a1,a3,b0,hw,rIn,b1,this]
  | true=>
  cases b2:rgOf v.start.lo v.start.hi (-50) 50 with
  | false=>
    have:checkVat v=1:=bad (by simp [goodB,numbersOk,b2])
    simp only [go_sem,f7,a1,a3,b0,hw,rIn,rWithin,b1,b2,this]
  | true=>
  cases b3:rgOf v.blue.lo v.blue.hi 0 999 with
  | false=>
    have:checkVat v=1:=bad (by simp [goodB,numbersOk,b3])
    simp only [go_sem,f7,a1,a3,b0,hw,rIn,rWithin,b1,b2,b3,this]
  | true=>
  cases b4:inR v.gain 0 50 with
  | false=>
    have:checkVat v=1:=bad (by simp [goodB,numbersOk,b4])
    simp only [go_sem,f7,a1,a3,b0,hw,rIn,rWithin,b1,b2,b3,b4,this]
  | true=>
  cases b5:inR v.take 0 50 with
  | false=>
    have:checkVat v=1:=bad (by simp [goodB,numbersOk,b5])
    simp only [go_sem,f7,a1,a3,b0,hw,rIn,rWithin,b1,b2,b3,b4,b5,this]
  | true=>
  by_cases b6:¬(v.drift.length:Int)=v.last+1
  · have:checkVat v=1:=bad (by simp [goodB,b6])
    simp only [go_sem,f7,a1,a3,b0,hw,rIn,rWithin,b1,b2,b3,b4,b5,b6,this]
  have b6:=Decidable.not_not.1 b6
  by_cases b7:¬(v.feeds.length:Int)=v.last+1
  · have:checkVat v=1:=bad (by simp [goodB,b7])
    simp only [go_sem,f7,a1,a3,b0,hw,rIn,rWithin,b1,b2,b3,b4,b5,b6,b7,this]
  have b7:=Decidable.not_not.1 b7
  by_cases b8:¬(v.dips.length:Int)=v.last+1
  · have:checkVat v=1:=bad (by simp [goodB,b8])
    simp only [go_sem,f7,a1,a3,b0,hw,rIn,rWithin,b1,b2,b3,b4,b5,b6,b7,b8,this]
  have b8:=Decidable.not_not.1 b8
  simp only [go_sem,f7,a1,a3,b0,hw,rIn,rWithin,b1,b2,b3,b4,b5,b6,b7,b8]
  have hno:∀{P:Prop},(goodB v=true→False)→checkVat v=1:=fun h=>bad (by
    cases hg:goodB v with
    | false=>rfl
    | true=>exact (h hg).elim)
  have hgl:goodB v=true→(∀r∈v.drift,rgOf r.lo r.hi (-9) 9=true)∧(∀r∈v.feeds,feedOk r=true)∧(∀n∈v.dips,inR n 0 20=true)∧∀k∈v.looks,lookOk v.last k=true:=fun h=>by
    simp only [goodB,Bool.and_eq_true,List.all_eq_true] at h
    exact ⟨h.2.2.2.2.1,h.2.2.2.2.2.1,h.2.2.2.2.2.2.1,h.2.2.2.2.2.2.2⟩
  refine RX_for v.drift.length (fun k=>[(4,.c (.int .i64 k))]) (fun _=>[.cells (vatC g1 g2 g3 g4 v)]) (fun k=>∀i,i<k→rgOf (v.drift.getD i default).lo (v.drift.getD i default).hi (-9) 9=true∧feedOk (v.feeds.getD i default)=true∧inR (v.dips.getD i default) 0 20=true) (fun i h=>by omega) (by simp only [go_sem]<;>rfl) ?_
  intro k hk hP
  by_cases hlt:k<v.drift.length
  · have e4:IntKind.i64.wrap ((k:Int)+1)=((k+1:Nat):Int):=wrap_succ (n:=3000) (by omega) (by decide)
    have hle:(k:Int)<v.last+1:=by omega
    have q1:k<v.feeds.length:=by omega
    have q2:k<v.dips.length:=by omega
    have m1:v.drift.getD k default∈v.drift:=getD_mem hlt
    have m2:v.feeds.getD k default∈v.feeds:=getD_mem q1
    have m3:v.dips.getD k default∈v.dips:=getD_mem q2
    cases h1:rgOf (v.drift.getD k default).lo (v.drift.getD k default).hi (-9) 9 with
    | false=>
      have:checkVat v=1:=hno (P:=True) fun h=>by rw [(hgl h).1 _ m1] at h1;cases h1
      simp only [go_sem,hlt,hle,q1,q2,atI_nat,rWithin,rIn,h1,this]
    | true=>
    have hF:feedOk (v.feeds.getD k default)=(inR (v.feeds.getD k default).lime 0 9&&(inR (v.feeds.getD k default).bran 0 9&&inR (v.feeds.getD k default).madder 0 9)):=rfl
    cases h2:inR (v.feeds.getD k default).lime 0 9 with
    | false=>
      have:checkVat v=1:=hno (P:=True) fun h=>by have:=(hgl h).2.1 _ m2;rw [hF,h2] at this;cases this
      simp only [go_sem,hlt,hle,q1,q2,atI_nat,rWithin,rIn,h1,h2,this]
    | true=>
    cases h3:inR (v.feeds.getD k default).bran 0 9 with
    | false=>
      have:checkVat v=1:=hno (P:=True) fun h=>by have:=(hgl h).2.1 _ m2;rw [hF,h2,h3] at this;cases this
      simp only [go_sem,hlt,hle,q1,q2,atI_nat,rWithin,rIn,h1,h2,h3,this]
    | true=>
    cases h4:inR (v.feeds.getD k default).madder 0 9 with
    | false=>
      have:checkVat v=1:=hno (P:=True) fun h=>by have:=(hgl h).2.1 _ m2;rw [hF,h2,h3,h4] at this;cases this
      simp only [go_sem,hlt,hle,q1,q2,atI_nat,rWithin,rIn,h1,h2,h3,h4,this]
    | true=>
    cases h5:inR (v.dips.getD k default) 0 20 with
    | false=>
      have:checkVat v=1:=hno (P:=True) fun h=>by rw [(hgl h).2.2.1 _ m3] at h5;cases h5
      simp only [go_sem,hlt,hle,q1,q2,atI_nat,rWithin,rIn,h1,h2,h3,h4,h5,this]
    | true=>
      rw [h2,h3,h4] at hF
      simp only [go_sem,hlt,hle,q1,q2,atI_nat,rWithin,rIn,h1,h2,h3,h4,h5,e4]
      intro i hi
      by_cases hik:i=k
      · subst hik;exact ⟨h1,hF,h5⟩
      · exact hP i (by omega)
  have hke:k=v.drift.length:=by omega
  subst hke
  have hle:¬(v.drift.length:Int)<v.last+1:=by omega
  simp only [go_sem,hle]
  refine RX_forC v.looks.length (fun k=>[(6,.c (.int .i64 k))]) (fun k=>∀i,i<k→lookOk v.last (v.looks.getD i default)=true) rfl (fun i h=>by omega) (by simp only [go_sem]<;>rfl) ?_
  intro k hk hP2
  by_cases hlt:k<v.looks.length
  · have e4:IntKind.i64.wrap ((k:Int)+1)=((k+1:Nat):Int):=wrap_succ (n:=3000) (by omega) (by decide)
    have m1:v.looks.getD k default∈v.looks:=getD_mem hlt
    have hF:lookOk v.last (v.looks.getD k default)=(inR (v.looks.getD k default).day 0 v.last&&rgOf (v.looks.getD k default).n.lo (v.looks.getD k default).n.hi (-5000) 5000):=rfl
    cases h1:inR (v.looks.getD k default).day 0 v.last with
    | false=>
      have:checkVat v=1:=hno (P:=True) fun h=>by have:=(hgl h).2.2.2 _ m1;rw [hF,h1] at this;cases this
      simp only [go_sem,hlt,atI_nat,rWithin,rIn,h1,this]
    | true=>
    cases h2:rgOf (v.looks.getD k default).n.lo (v.looks.getD k default).n.hi (-5000) 5000 with
    | false=>
      have:checkVat v=1:=hno (P:=True) fun h=>by have:=(hgl h).2.2.2 _ m1;rw [hF,h1,h2] at this;cases this
      simp only [go_sem,hlt,atI_nat,rWithin,rIn,h1,h2,this]
    | true=>
      rw [h1,h2] at hF
      simp only [go_sem,hlt,atI_nat,rWithin,rIn,h1,h2,e4]
      intro i hi
      by_cases hik:i=k
      · subst hik;exact hF
      · exact hP2 i (by omega)
  have hke:k=v.looks.length:=by omega
  subst hke
  have hall:∀{α:Type} [Inhabited α] {p:α→Bool} {l:List α},(∀i,i<l.length→p (l.getD i default)=true)→l.all p=true:=fun h=>by
    rw [List.all_eq_true];intro x hx
    obtain ⟨i,hi,rfl⟩:=List.getElem_of_mem hx
    have:=h i hi
    rwa [getD_lt _ _ _ hi] at this
  have hg:goodB v=true:=by
    have l0:decide (0≤v.last)=true:=decide_eq_true (by omega)
    have x1:=hall (p:=fun r:Rg=>rgOf r.lo r.hi (-9) 9) fun i hi=>(hP i hi).1
    have x2:=hall (p:=feedOk) (l:=v.feeds) fun i hi=>(hP i (by omega)).2.1
    have x3:=hall (p:=fun n=>inR n 0 20) (l:=v.dips) fun i hi=>(hP i (by omega)).2.2
    have x4:=hall (p:=lookOk v.last) (l:=v.looks) fun i hi=>hP2 i hi
    simp only [goodB,numbersOk,l0,b1,b2,b3,b4,b5,b6,b7,b8,x1,x2,x3,x4,decide_true,Bool.and_self]
  obtain ⟨hr,hl,hcv⟩:=good_many a1 a3 hg
  have hM:=fun {Q:V→Prop}=>rMany (g1:=g1) (g2:=g2) (g3:=g3) (g4:=g4) hr hl (Q:=Q)
  simp only [vatV] at hM
  rw [hcv]
  by_cases hm:((manyF (rangesL v):Nat):Int)>2000
  · simp only [go_sem,hlt,hM,hm]
  · simp only [go_sem,hlt,hM,hm])
end Am.Vt
namespace Am.Vt
open Go Am
set_option maxRecDepth 100000
set_option maxHeartbeats 4000000
set_option linter.unusedSimpArgs false
set_option linter.unusedVariables false
variable {g1 g2 g3 g4 gt:Bool × Bool} {v:Vat} {t:Truth}
theorem rSum {g:Bool × Bool} {l:List Int} {M:Nat} (hM:M≤1000000) (hl:l.length≤1000) (hb:∀x∈l,-(M:Int)≤x∧x≤M) {Q:V→Prop}:CallP tab 21 [.c (L g l)] Q↔Q (.c (.int .i64 (sumI l))):=CallP_of (by
  refine Val_X (fn:=f21) rfl ?_
  simp only [go_sem,f21]
  refine RX_forC l.length (fun k=>[(3,.c (.int .i64 (sumI (l.take k)))),(4,.c (.int .i64 k))]) (fun _=>True) rfl trivial (by simp only [go_sem]<;>first | rfl | exact ⟨rfl,rfl⟩) ?_
  intro k hk _
  by_cases hlt:k<l.length
  · have e4:IntKind.i64.wrap ((k:Int)+1)=((k+1:Nat):Int):=wrap_succ (n:=3000) (by omega) (by decide)
    have hst:sumI (l.take (k+1))=sumI (l.take k)+l.getD k default:=by rw [take_getD hlt default,sumI_snoc]
    have hb1:=sumI_bd (M:=M) (l:=l.take (k+1)) fun x hx=>hb x (List.mem_of_mem_take hx)
    have hlen:(l.take (k+1)).length≤1000:=by rw [List.length_take];omega
    have hmul:(l.take (k+1)).length*M≤1000*1000000:=Nat.mul_le_mul hlen hM
    have e5:IntKind.i64.wrap (sumI (l.take k)+l.getD k default)=sumI (l.take (k+1)):=by rw [←hst];exact wrapB (by omega) (by omega)
    simp only [go_sem,hlt,atI_nat,e4,e5]
  · have:k=l.length:=by omega
    subst this
    simp only [go_sem,hlt,List.take_length])
end Am.Vt
namespace Am.Vt
open Go Am
set_option maxRecDepth 100000
set_option maxHeartbeats 4000000
set_option linter.unusedSimpArgs false
set_option linter.unusedVariables false
variable {g1 g2 g3 g4 gt:Bool × Bool} {v:Vat} {t:Truth}
theorem nthT_eq {n:Nat}:nthT v n=⟨v.start.lo+((n % szN v.start:Nat):Int),v.blue.lo+((n / szN v.start % szN v.blue:Nat):Int),nthR v.drift (n / szN v.start / szN v.blue)⟩:=rfl
theorem Vat.Valid.size (hv:v.Valid):∀r∈rangesL v,sizeI r.lo r.hi=(szN r:Nat)∧1≤szN r∧szN r≤10001 ∧ -5000≤r.lo∧r.hi≤5000:=by
  intro r hr
  have hb : -5000≤r.lo∧r.lo≤r.hi∧r.hi≤5000:=by
    simp only [rangesL,List.mem_cons] at hr
    rcases hr with rfl | rfl | hr
    · have:=hv.start;omega
    · have:=hv.blue;omega
    · have:=hv.driftO r hr;omega
  obtain ⟨a,b⟩:=sizeN hb
  refine ⟨a,?_,b,by omega,by omega⟩
  unfold szN;omega
theorem nth_step {lo:Int} {n z:Nat} (hn:n≤100000) (hz:1≤z) (hl : -5000≤lo∧lo≤5000):(n:Int).tmod (z:Int)=((n % z:Nat):Int)∧(n:Int).tdiv (z:Int)=((n / z:Nat):Int)∧IntKind.i64.wrap (lo+((n % z:Nat):Int))=lo+((n % z:Nat):Int)∧IntKind.i64.wrap ((n / z:Nat):Int)=((n / z:Nat):Int)∧(¬(z:Int)=0)∧n / z≤100000:=by
  have h1:n % z≤n:=Nat.mod_le _ _
  have h2:n / z≤n:=Nat.div_le_self _ _
  refine ⟨rfl,rfl,?_,?_,by omega,by omega⟩
  · generalize n % z=m at h1;exact wrapB (by omega) (by omega)
  · generalize n / z=m at h2;exact wrapB (by omega) (by omega)
theorem rNth (hv:v.Valid) {n:Nat} (hn:n≤100000) {Q:V→Prop}:CallP tab 13 [vatV g1 g2 g3 g4 v,.c (.int .i64 n)] Q↔Q (truthG (false,false) (nthT v n)):=CallP_of (by
  refine Val_X (fn:=f13) rfl ?_
  have v1:=hv.drift
  have v4:=hv.last7
  obtain ⟨s1,s2,_,s3,s4⟩:=hv.size v.start (by simp [rangesL])
  obtain ⟨b1,b2,_,b3,b4⟩:=hv.size v.blue (by simp [rangesL])
  have ss:=hv.start
  have sb:=hv.blue
  obtain ⟨x1,x2,x3,x4,x5,x6⟩:=nth_step (lo:=v.start.lo) hn s2 (by omega)
  rw [nthT_eq]
  generalize n % szN v.start=m1 at *
  generalize n / szN v.start=n1 at *
  obtain ⟨y1,y2,y3,y4,y5,y6⟩:=nth_step (lo:=v.blue.lo) x6 b2 (by omega)
  generalize n1 % szN v.blue=m2 at *
  generalize n1 / szN v.blue=n2 at *
  simp only [go_sem,f13,rSize,s1,b1,x1,x2,x3,x4,x5,y1,y2,y3,y4,y5,disj_nil]
  refine RX_whileU (α:=Nat) (fun k=>[(1,.c (.int .i64 ((restR v.drift n2 k:Nat)))),(6,.c (.int .i64 k))]) (fun k=>[.cells (vatC g1 g2 g3 g4 v),.cells [.int .i64 0,.int .i64 0,.nils],.cells [.int .i64 (v.start.lo+(m1:Nat)),.int .i64 (v.blue.lo+(m2:Nat)),.sl 3 k 0 k],.arr false k 1 (((nthR v.drift n2).take k).map Row.row)]) (fun k=>k≤v.drift.length) (fun k=>v.drift.length-k) 0 (Nat.zero_le _) (by simp only [go_sem]<;>rfl) ?_
  intro k hk
  have e4:IntKind.i64.wrap ((k:Int)+1)=((k+1:Nat):Int):=wrap_succ (n:=3000) (by omega) (by decide)
  have nl:=nthR_len (rs:=v.drift) (n:=n2)
  have tl:((nthR v.drift n2).take k).length=k:=by rw [List.length_take];omega
  by_cases hlt:k<v.drift.length
  · obtain ⟨d1,d2,_,d3,d4⟩:=hv.size (v.drift.getD k default) (by simp only [rangesL,List.mem_cons];exact .inr (.inr (getD_mem hlt)))
    have dd:=hv.driftO _ (getD_mem (d:=default) hlt)
    have rle:=restR_le (rs:=v.drift) (n:=n2) (k:=k)
    have rs:=restR_succ (n:=n2) hlt
    have rg:=nthR_get (n:=n2) (d:=default) hlt
    have tg:=take_getD (l:=nthR v.drift n2) (k:=k) (by omega) default
    rw [rg] at tg
    obtain ⟨rk1,hr1⟩:∃x,x=restR v.drift n2 (k+1):=⟨_,rfl⟩
    rw [←hr1] at rs
    generalize restR v.drift n2 k=rk at *
    obtain ⟨r,hr⟩:∃r,r=v.drift.getD k default:=⟨_,rfl⟩
    rw [←hr] at d1 d2 d3 d4 dd rs tg
    obtain ⟨z1,z2,z3,z4,z5,z6⟩:=nth_step (lo:=r.lo) (n:=rk) (z:=szN r) (by omega) d2 (by omega)
    rw [←rs] at z2 z4
    have b1:(k+1)*8≤2^40:=by omega
    simp only [go_sem,hlt,atI_nat,←hr,rSize,d1,z1,z2,z3,z4,z5,e4,tl,b1,disj_nil]
    exact ⟨k+1,⟨by omega,by omega⟩,⟨hr1,rfl⟩,rfl,by rw [tg,List.map_append];rfl⟩
  · have:k=v.drift.length:=by omega
    subst this
    have tk:(nthR v.drift n2).take v.drift.length=nthR v.drift n2:=List.take_of_length_le (by omega)
    simp only [go_sem,hlt,tl,tk,nl])
end Am.Vt
namespace Am.Vt
open Go Am
set_option maxRecDepth 100000
set_option maxHeartbeats 4000000
set_option linter.unusedSimpArgs false
set_option linter.unusedVariables false
variable {g1 g2 g3 g4 gt:Bool × Bool} {v:Vat} {t:Truth}
end Am.Vt
namespace Am.Vt
open Go Am
set_option maxRecDepth 100000
set_option maxHeartbeats 4000000
set_option linter.unusedSimpArgs false
set_option linter.unusedVariables false
variable {g1 g2 g3 g4 gt:Bool × Bool} {v:Vat} {t:Truth}
end Am.Vt
namespace Am.Vt
open Go Am
set_option maxRecDepth 100000
set_option maxHeartbeats 4000000
set_option linter.unusedSimpArgs false
set_option linter.unusedVariables false
variable {g1 g2 g3 g4 gt:Bool × Bool} {v:Vat} {t:Truth}
end Am.Vt
namespace Am.Vt
open Go Am
set_option maxRecDepth 100000
set_option maxHeartbeats 4000000
set_option linter.unusedSimpArgs false
set_option linter.unusedVariables false
variable {g1 g2 g3 g4 gt ga gb:Bool × Bool} {v:Vat} {t:Truth}
end Am.Vt
namespace Am.Vt
open Go Am
set_option maxRecDepth 100000
set_option maxHeartbeats 4000000
set_option linter.unusedSimpArgs false
set_option linter.unusedVariables false
variable {g1 g2 g3 g4 gt ga gb:Bool × Bool} {v:Vat} {t:Truth}
end Am.Vt
namespace Am.Vt
open Go Am
set_option maxRecDepth 100000
set_option maxHeartbeats 4000000
set_option linter.unusedSimpArgs false
set_option linter.unusedVariables false
variable {g1 g2 g3 g4 gt ga gb:Bool × Bool} {v:Vat} {t:Truth}
end Am.Vt
namespace Am.Vt
open Go Am
set_option maxRecDepth 100000
set_option maxHeartbeats 4000000
set_option linter.unusedSimpArgs false
set_option linter.unusedVariables false
variable {g1 g2 g3 g4 gt ga gb:Bool × Bool} {v:Vat} {t:Truth}
structure ReachOk (room:Nat→Rg) (d:Nat) (now:Rg) (l:List Rg):Prop where
  le:∀i,i<l.length→(l.getD i default).lo≤(l.getD i default).hi
  rm:∀i,i<l.length→(room (d+i)).lo≤(l.getD i default).lo∧(l.getD i default).hi≤(room (d+i)).hi
  st:∀i,i<l.length→(l.getD i default)=nextR (room (d+i)) (if i=0 then now else l.getD (i-1) default)
end Am.Vt
namespace Am.Vt
open Go Am
set_option maxRecDepth 100000
set_option maxHeartbeats 4000000
set_option linter.unusedSimpArgs false
set_option linter.unusedVariables false
variable {g1 g2 g3 g4 gt ga gb:Bool × Bool} {v:Vat} {t:Truth}
end Am.Vt
