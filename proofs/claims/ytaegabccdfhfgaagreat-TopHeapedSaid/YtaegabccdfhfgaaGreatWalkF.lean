/-
  A part of the proof: the texts F1, F2, F3, F4, F5, F6, F7, F9 of this seat, joined.
-/
import Derived.Test.YtaegabccdfhfgaaGreatWalkE
namespace Am.Cr
open Go Am Am.Tm
set_option maxRecDepth 100000
set_option maxHeartbeats 4000000
set_option linter.unusedSimpArgs false
set_option linter.unusedVariables false
variable {g1 g2 g3 g4 g5:Bool × Bool} {f:Field}
def widen (val:Truth→Int) (r:Rg) (t:Truth):Rg:=⟨min r.lo (val t),max r.hi (val t)⟩
end Am.Cr
namespace Am.Cr
open Go Am Am.Tm
set_option maxRecDepth 100000
set_option maxHeartbeats 4000000
set_option linter.unusedSimpArgs false
set_option linter.unusedVariables false
variable {g1 g2 g3 g4 g5:Bool × Bool} {f:Field}
end Am.Cr
namespace Am.Cr
open Go Am Am.Tm
set_option maxRecDepth 100000
set_option maxHeartbeats 4000000
set_option linter.unusedSimpArgs false
set_option linter.unusedVariables false
variable {g1 g2 g3 g4 g5:Bool × Bool} {f:Field}
theorem ofInt_nat {a:Nat} (h:a<2^29):(BitVec.ofInt IntKind.i64.bits (a:Int)).toNat=a:=by
  rw [BitVec.ofInt_natCast,BitVec.toNat_ofNat]
  exact Nat.mod_eq_of_lt (by show a<2^64;omega)
theorem orW {a b:Nat} (ha:a<2^29) (hb:b<2^29):IntKind.i64.wrap ((BitVec.ofInt IntKind.i64.bits (a:Int) ||| BitVec.ofInt IntKind.i64.bits (b:Int)).toNat:Int)=((a ||| b:Nat):Int):=by
  rw [BitVec.toNat_or,ofInt_nat ha,ofInt_nat hb]
  have:a ||| b<2^29:=Nat.or_lt_two_pow ha hb
  exact wrapB (by omega) (by omega)
def andn (a b:Nat):Nat:=a &&& (2^64-(b+1))
theorem shlW {a k:Nat} (hk:k≤20) (ha:a≤2):IntKind.i64.wrap ((a:Int)*2^(min k IntKind.i64.bits))=((a*2^k:Nat):Int):=by
  have e2:min k IntKind.i64.bits=k:=Nat.min_eq_left (by show k≤64;omega)
  rw [e2]
  have hpw:(a:Int)*2^k=((a*2^k:Nat):Int):=by simp
  have hpb:2^k≤2^20:=Nat.pow_le_pow_right (by omega) hk
  have:a*2^k≤2*2^20:=Nat.mul_le_mul ha hpb
  rw [hpw]
  generalize a*2^k=p at this
  exact wrapB (by omega) (by omega)
theorem u64W {k:Nat} (hk:k≤1000):IntKind.u64.wrap (k:Int)=(k:Int):=by unfold IntKind.wrap;simp [IntKind.signed,IntKind.bits];omega
def maskN (p:Nat→Bool):Nat→Nat
  | 0=>0
  | k+1=>if p k=true then maskN p k ||| 2^k else maskN p k
theorem maskN_lt {p:Nat→Bool}:∀{n:Nat},maskN p n<2^n
  | 0=>by simp [maskN]
  | k+1=>by
    have ih:=maskN_lt (p:=p) (n:=k)
    have hk:(2:Nat)^k<2^(k+1):=Nat.pow_lt_pow_right (by omega) (by omega)
    simp only [maskN]
    split
    · exact Nat.or_lt_two_pow (by omega) hk
    · omega
theorem maskN_bit {p:Nat→Bool} {i:Nat}:∀{n:Nat},(maskN p n).testBit i=(decide (i<n)&&p i)
  | 0=>by simp [maskN]
  | k+1=>by
    have ih:=maskN_bit (p:=p) (i:=i) (n:=k)
    simp only [maskN]
    split
    · rename_i h
      rw [Nat.testBit_or,ih,Nat.testBit_two_pow]
      by_cases hik:i=k
      · subst hik;simp [h]
      · have:(i<k+1)=(i<k):=by simp;omega
        simp [this,show ¬k=i from fun h=>hik h.symm]
    · rename_i h
      rw [ih]
      by_cases hik:i=k
      · subst hik;simp at h;simp [h]
      · have:(i<k+1)=(i<k):=by simp;omega
        simp [this]
theorem maskN_full {p:Nat→Bool} {n:Nat}:maskN p n=2^n-1↔(List.range n).all p=true:=by
  rw [List.all_eq_true]
  constructor
  · intro h i hi
    have hb:=maskN_bit (p:=p) (i:=i) (n:=n)
    rw [List.mem_range] at hi
    rw [h,Nat.testBit_two_pow_sub_one] at hb
    simpa [hi] using hb.symm
  · intro h
    refine Nat.eq_of_testBit_eq fun i=>?_
    rw [maskN_bit,Nat.testBit_two_pow_sub_one]
    by_cases hi:i<n
    · simp [h i (List.mem_range.2 hi)]
    · simp [hi]
def rightB (f:Field) (t:Truth):Nat→Bool:=rightAt f [] (standing t.growth f.crops)
def maskT (f:Field) (t:Truth):Nat:=maskN (rightB f t) f.looks.length
def allL (f:Field):List Int:=(List.range (prodF f)).map fun n=>(maskT f (nthT f n):Int)
def refTruths (f:Field):List Truth:=((List.range (prodF f)).filter fun n=>decide (maskT f (nthT f n)=2^f.looks.length-1)).map (nthT f)
theorem rFull (h5:f.looks.length≤20) {Q:V→Prop}:CallP tab 27 [fieldV g1 g2 g3 g4 g5 f] Q↔Q (.c (.int .i64 (2^f.looks.length-1:Nat))):=CallP_of (by
  refine Val_X (fn:=f27) rfl ?_
  have e1:=u64W (k:=f.looks.length) (by omega)
  have e2:=shlW (a:=1) h5 (by omega)
  have h1:1≤2^f.looks.length:=Nat.pow_pos (by omega)
  have h2:2^f.looks.length≤2^20:=Nat.pow_le_pow_right (by omega) h5
  rw [Nat.one_mul] at e2
  have e3:IntKind.i64.wrap (((2^f.looks.length:Nat):Int)-1)=((2^f.looks.length-1:Nat):Int):=by
    generalize 2^f.looks.length=p at h1 h2
    rw [wrapB (by omega) (by omega)];omega
  have a0:¬(f.looks.length:Int)<0:=by omega
  simp only [go_sem,f27,e1,a0]
  rw [show (1:Int)=((1:Nat):Int) from rfl,e2]
  simp only [go_sem,e3])
theorem rAll (hv:f.Valid) {Q:V→Prop}:CallP tab 26 [fieldV g1 g2 g3 g4 g5 f] Q↔Q (.c (L (false,false) (allL f))):=CallP_of (by
  refine Val_X (fn:=f26) rfl ?_
  have hro:=rgsOk_of hv
  have hmr:=manyR_eq hv
  have hle:=prodF_le hv
  have v5:=hv.looks5
  have v1:=hv.growth
  have hP:=pok_of hv hv.crops
  simp only [go_sem,f26]
  refine RX_for (prodF f) (fun k=>[(3,.c (.sl 1 k 0 k)),(4,.c (.int .i64 k))]) (fun k=>[.cells (fieldC g1 g2 g3 g4 g5 f.last f.growth f.wet f.base f.crops f.ripe f.late f.trod f.looks),.arr false k 1 (((List.range k).map fun n=>(maskT f (nthT f n):Int)).map Row.row)]) (fun _=>True) trivial (by simp only [go_sem]<;>first | rfl | exact ⟨rfl,rfl⟩) ?_
  intro k hk _
  have hm:IntKind.i64.wrap ((manyR f.growth f.wet:Nat):Int)=((prodF f:Nat):Int):=by rw [hmr];exact wrapB (by omega) (by omega)
  by_cases hlt:k<prodF f
  · have e4:IntKind.i64.wrap ((k:Int)+1)=((k+1:Nat):Int):=wrap_succ (n:=3000) (by omega) (by decide)
    have hT:=tok_of hv (nthT_isT hv (n:=k))
    have hN:=fun {Q:V→Prop}=>rNth (g1:=g1) (g2:=g2) (g3:=g3) (g4:=g4) (g5:=g5) (f:=f) hro (n:=k) (by omega) (Q:=Q)
    simp only [go_sem,rMany hro,hmr,hlt]
    refine RX_forC f.looks.length (fun i=>[(5,.c (.int .i64 (maskN (rightB f (nthT f k)) i))),(6,.c (.int .i64 i))]) (fun _=>True) rfl trivial (by simp only [go_sem]<;>first | rfl | exact ⟨rfl,rfl⟩) ?_
    intro i hi _
    by_cases hlt2:i<f.looks.length
    · have e5:IntKind.i64.wrap ((i:Int)+1)=((i+1:Nat):Int):=wrap_succ (n:=3000) (by omega) (by decide)
      have e1:=u64W (k:=i) (by omega)
      have e2:=shlW (a:=1) (k:=i) (by omega) (by omega)
      rw [Nat.one_mul,show ((1:Nat):Int)=1 from rfl] at e2
      have a0:¬(i:Int)<0:=by omega
      have hk2:=hv.looks (f.looks.getD i default) (by rw [getD_lt _ _ _ hlt2];exact List.getElem_mem hlt2)
      have hmlt:=maskN_lt (p:=rightB f (nthT f k)) (n:=i)
      have hpi:2^i≤2^5:=Nat.pow_le_pow_right (by omega) (by omega)
      have e6:=orW (a:=maskN (rightB f (nthT f k)) i) (b:=2^i) (by omega) (by omega)
      have hRt:=fun {b6 b7:Bool × Bool} {b c:Int} {Q:V→Prop}=>rRight (f:=f) (g1:=g1) (g2:=g2) (g3:=g3) (g4:=g4) (g5:=g5) (b6:=b6) (b7:=b7) (t:=nthT f k) (a:=(f.looks.getD i default).week) (b:=b) (c:=c) hT hP hk2.1.1 (by omega) (Q:=Q)
      have hrb:rightB f (nthT f k) i=inR (atI (standing (nthT f k).growth f.crops) (f.looks.getD i default).week) (f.looks.getD i default).w.lo (f.looks.getD i default).w.hi:=by
        simp [rightB,rightAt]
      cases hr:inR (atI (standing (nthT f k).growth f.crops) (f.looks.getD i default).week) (f.looks.getD i default).w.lo (f.looks.getD i default).w.hi with
      | true=>
        rw [hr] at hrb
        have hst:maskN (rightB f (nthT f k)) (i+1)=maskN (rightB f (nthT f k)) i ||| 2^i:=if_pos hrb
        simp only [go_sem,hlt2,atI_nat,hN,hRt,hr,e1,a0,e2,e6,e5,hst]
      | false=>
        rw [hr] at hrb
        have hst:maskN (rightB f (nthT f k)) (i+1)=maskN (rightB f (nthT f k)) i:=if_neg (by rw [hrb];simp)
        simp only [go_sem,hlt2,atI_nat,hN,hRt,hr,e5,hst]
    · have:i=f.looks.length:=by omega
      subst this
      have b1:(k+1)*8≤2^40:=by omega
      simp only [go_sem,hlt2,b1,e4,List.length_map,List.length_range]
      rw [List.range_succ,List.map_append,List.map_append]
      rfl
  · have:k=prodF f:=by omega
    subst this
    simp only [go_sem,rMany hro,hmr,hlt,List.length_map,List.length_range,allL])
end Am.Cr
namespace Am.Cr
open Go Am Am.Tm
set_option maxRecDepth 100000
set_option maxHeartbeats 4000000
set_option linter.unusedSimpArgs false
set_option linter.unusedVariables false
variable {g1 g2 g3 g4 g5:Bool × Bool} {f:Field}
def fullB (f:Field) (n:Nat):Bool:=decide (maskT f (nthT f n)=2^f.looks.length-1)
def trK (f:Field) (k:Nat):List Truth:=((List.range k).filter (fullB f)).map (nthT f)
theorem trK_succ {k:Nat}:trK f (k+1)=if fullB f k=true then trK f k++[nthT f k] else trK f k:=by
  unfold trK
  rw [List.range_succ,List.filter_append,List.map_append]
  by_cases h:fullB f k=true
  · rw [if_pos h];simp [h]
  · rw [if_neg h];simp [h]
theorem trK_len {k:Nat}:(trK f k).length≤k:=by
  unfold trK;rw [List.length_map];exact Nat.le_trans (List.length_filter_le _ _) (by simp)
theorem refTruths_eq : refTruths f=trK f (prodF f):=rfl
theorem rTruths (hv:f.Valid) {Q:V→Prop}:CallP tab 10 [fieldV g1 g2 g3 g4 g5 f] Q↔Q (.c (L (false,false) (refTruths f))):=CallP_of (by
  refine Val_X (fn:=f10) rfl ?_
  have hro:=rgsOk_of hv
  have hle:=prodF_le hv
  have hpp:=prodF_pos hv
  have v5:=hv.looks5
  have hal:(allL f).length=prodF f:=by simp [allL]
  simp only [go_sem,f10,rAll hv]
  refine RX_for (prodF f) (fun k=>[(4,.c (.sl 1 (trK f k).length 0 (trK f k).length)),(5,.c (.int .i64 k))]) (fun k=>[.cells (fieldC g1 g2 g3 g4 g5 f.last f.growth f.wet f.base f.crops f.ripe f.late f.trod f.looks),.arr false (trK f k).length 2 ((trK f k).map Row.row)]) (fun _=>True) trivial (by simp only [go_sem]<;>first | rfl | exact ⟨rfl,rfl⟩) ?_
  intro k hk _
  by_cases hlt:k<prodF f
  · have e4:IntKind.i64.wrap ((k:Int)+1)=((k+1:Nat):Int):=wrap_succ (n:=3000) (by omega) (by decide)
    have hg:(allL f).getD k default=(maskT f (nthT f k):Int):=by
      rw [getD_lt _ _ _ (by omega)];simp [allL]
    have hN:=fun {Q:V→Prop}=>rNth (g1:=g1) (g2:=g2) (g3:=g3) (g4:=g4) (g5:=g5) (f:=f) hro (n:=k) (by omega) (Q:=Q)
    have hst:=trK_succ (f:=f) (k:=k)
    have hlen:=trK_len (f:=f) (k:=k)
    by_cases hf:maskT f (nthT f k)=2^f.looks.length-1
    · have hf':(maskT f (nthT f k):Int)=((2^f.looks.length-1:Nat):Int):=by rw [hf]
      rw [if_pos (by simp [fullB,hf])] at hst
      have b1:((trK f k).length+1)*48≤2^40:=by omega
      simp only [go_sem,hal,hlt,atI_nat,hg,rFull (f:=f) (by omega),hf',hN,b1,e4,hst,List.map_append]
    · have hf':¬(maskT f (nthT f k):Int)=((2^f.looks.length-1:Nat):Int):=by omega
      rw [if_neg (by simp [fullB,hf])] at hst
      simp only [go_sem,hal,hlt,atI_nat,hg,rFull (f:=f) (by omega),hf',e4,hst]
  · have:k=prodF f:=by omega
    subst this
    simp only [go_sem,hal,hlt,←refTruths_eq])
theorem fullB_right {n:Nat}:fullB f n=rightL f [] (standing (nthT f n).growth f.crops):=by
  rw [Bool.eq_iff_iff,fullB,decide_eq_true_eq,maskT,maskN_full];rfl
theorem mem_refTruths (hv:f.Valid) {t:Truth}:t∈refTruths f↔t∈truthsL f []:=by
  rw [refTruths_eq,trK,truthsL,List.mem_filter,mem_listsA hv,List.mem_map]
  constructor
  · rintro ⟨n,hn,rfl⟩
    rw [List.mem_filter,fullB_right] at hn
    exact ⟨nthT_isT hv,hn.2⟩
  · rintro ⟨h1,h2⟩
    obtain ⟨n,hn,rfl⟩:=isT_nth hv h1
    exact ⟨n,by rw [List.mem_filter,fullB_right];exact ⟨List.mem_range.2 hn,h2⟩,rfl⟩
theorem refTruths_nil (hv:f.Valid):refTruths f=[]↔truthsL f []=[]:=by
  constructor<;>intro h<;>refine List.eq_nil_iff_forall_not_mem.2 fun t ht=>?_
  · have:=(mem_refTruths hv).2 ht;rw [h] at this;cases this
  · have:=(mem_refTruths hv).1 ht;rw [h] at this;cases this
theorem refTruths_len (hv:f.Valid):(refTruths f).length≤2000:=by
  rw [refTruths_eq]
  exact Nat.le_trans trK_len (prodF_le hv).1
theorem refTruths_tok (hv:f.Valid):∀t∈refTruths f,TOk f t:=fun t ht=>by
  have:=(mem_refTruths hv).1 ht
  rw [truthsL,List.mem_filter,mem_listsA hv] at this
  exact tok_of hv this.1
def IsRg (val:Truth→Int) (ts:List Truth) (r:Rg):Prop:=(∃t∈ts,val t=r.lo)∧(∃t∈ts,val t=r.hi)∧∀t∈ts,r.lo≤val t∧val t≤r.hi
theorem widen_IsRg {val:Truth→Int}:∀{ts l:List Truth} {r:Rg},IsRg val l r→IsRg val (l++ts) (ts.foldl (widen val) r)
  | [],l,r,h=>by rw [List.append_nil];exact h
  | t::ts,l,r,h=>by
    have:=widen_IsRg (val:=val) (ts:=ts) (l:=l++[t]) (r:=widen val r t) (by
      obtain ⟨⟨a,a1,a2⟩,⟨b,b1,b2⟩,c⟩:=h
      refine ⟨?_,?_,?_⟩
      · by_cases hl:r.lo≤val t
        · exact ⟨a,by simp [a1],by simp only [widen];omega⟩
        · exact ⟨t,by simp,by simp only [widen];omega⟩
      · by_cases hl:val t≤r.hi
        · exact ⟨b,by simp [b1],by simp only [widen];omega⟩
        · exact ⟨t,by simp,by simp only [widen];omega⟩
      · intro x hx
        rw [List.mem_append,List.mem_singleton] at hx
        rcases hx with hx | rfl
        · have:=c x hx;simp only [widen];omega
        · simp only [widen];omega)
    rw [List.append_assoc] at this
    exact this
theorem bdL_fold {val:Truth→Int}:∀{ts:List Truth} {r:Rg},(foldY (bdStep val) (r,false) ts).1.1=ts.foldl (widen val) r
  | [],r=>rfl
  | t::ts,r=>by
    simp only [foldY,bdStep,if_true,List.foldl_cons,widen,Bool.false_eq_true,if_false]
    exact bdL_fold
theorem bdL_IsRg {val:Truth→Int} {ts:List Truth} (h:ts≠[]):IsRg val ts (bdL val ts):=by
  cases ts with
  | nil=>exact absurd rfl h
  | cons t ts=>
    have e:bdL val (t::ts)=ts.foldl (widen val) ⟨val t,val t⟩:=by
      unfold bdL
      simp only [foldY,bdStep,if_true]
      rw [bdL_fold]
      congr 2<;>omega
    rw [e]
    exact widen_IsRg (l:=[t]) ⟨⟨t,by simp,rfl⟩,⟨t,by simp,rfl⟩,fun x hx=>by rw [List.mem_singleton] at hx;subst hx;exact ⟨Int.le_refl _,Int.le_refl _⟩⟩
end Am.Cr
namespace Am.Cr
open Go Am Am.Tm
set_option maxRecDepth 100000
set_option maxHeartbeats 4000000
set_option linter.unusedSimpArgs false
set_option linter.unusedVariables false
variable {g1 g2 g3 g4 g5:Bool × Bool} {f:Field}
theorem crop_bound (hv:f.Valid) {t:Truth} {plan:List Int} (ht:TOk f t) (hp:POk f plan) {i:Nat} (hi:i<plan.length):0≤(cropAt f t plan i).weight∧(cropAt f t plan i).weight≤500∧0≤(cropAt f t plan i).worth∧(cropAt f t plan i).worth≤100000:=by
  rw [cropAt_eq hv ht hp hi]
  have hpl:=hp.l
  have o:=onF_bound ht hp hi
  have h1:=less_le (b:=decide (t.wet.getD (plan.getD i default).toNat default>0)) hv.trod.1 hv.trod.2 o.1
  change 0≤wgtF f t plan i∧wgtF f t plan i≤_ at h1
  have h2:=str_bound hv (plan:=plan) (show i<f.base.length by omega)
  have h3:wgtF f t plan i*strF f plan i≤500*200:=Int.mul_le_mul (by omega) (by omega) h2.1 (by omega)
  have h4:0≤wgtF f t plan i*strF f plan i:=Int.mul_nonneg h1.1 h2.1
  exact ⟨h1.1,Int.le_trans h1.2 o.2.1,h4,h3⟩
theorem askE_ref (hv:f.Valid) (h0:checkField f=0) (b:Bool):askE f b=if b=false then 2 else if refTruths f=[] then 11 else 0:=by
  unfold askE
  rw [if_neg (by rw [h0];simp)]
  have:(posB f []=false)↔refTruths f=[]:=by
    rw [refTruths_nil hv]
    unfold posB;cases truthsL f []<;>simp
  simp only [this]
end Am.Cr
namespace Am.Cr
open Go Am Am.Tm
set_option maxRecDepth 100000
set_option maxHeartbeats 4000000
set_option linter.unusedSimpArgs false
set_option linter.unusedVariables false
variable {g1 g2 g3 g4 g5:Bool × Bool} {f:Field}
end Am.Cr
namespace Am.Cr
open Go Am Am.Tm
set_option maxRecDepth 100000
set_option maxHeartbeats 4000000
set_option linter.unusedSimpArgs false
set_option linter.unusedVariables false
variable {g1 g2 g3 g4 g5:Bool × Bool} {f:Field}
end Am.Cr
namespace Am.Cr
open Go Am Am.Tm
set_option maxRecDepth 100000
set_option maxHeartbeats 4000000
set_option linter.unusedSimpArgs false
set_option linter.unusedVariables false
variable {g1 g2 g3 g4 g5:Bool × Bool} {f:Field}
theorem truth_iff (hv:f.Valid) {t:Truth}:t∈truthsL f []↔isTruthB f t=true:=by
  rw [truthsL,List.mem_filter,mem_listsA hv]
  have hr:rightL f [] (standing t.growth f.crops)=f.looks.all fun k=>inR (atI (standing t.growth f.crops) k.week) k.w.lo k.w.hi:=by
    rw [Bool.eq_iff_iff,rightL,List.all_eq_true,List.all_eq_true]
    constructor
    · intro h k hk
      obtain ⟨i,hi,rfl⟩:=List.getElem_of_mem hk
      have:=h i (List.mem_range.2 hi)
      simp only [rightAt,List.not_mem_nil,decide_false,Bool.false_or] at this
      rwa [getD_lt _ _ _ hi] at this
    · intro h i hi
      rw [List.mem_range] at hi
      simp only [rightAt,List.not_mem_nil,decide_false,Bool.false_or]
      rw [getD_lt _ _ _ hi]
      exact h _ (List.getElem_mem hi)
  rw [hr,isTruthB,Bool.and_eq_true]
  constructor
  · rintro ⟨a,b⟩;exact ⟨listed_isT hv a,b⟩
  · rintro ⟨a,b⟩;exact ⟨isT_listed hv a,b⟩
structure WsOk (f:Field) (plan:List Int) (ts:List Truth) (s:WS):Prop where
  fd:s.found=true
  m:s.out∈ts
  l:s.least=worthI f s.out plan
  a:∀t∈ts,s.least≤worthI f t plan
end Am.Cr
