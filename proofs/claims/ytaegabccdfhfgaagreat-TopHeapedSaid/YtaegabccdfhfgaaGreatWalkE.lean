/-
  A part of the proof: the texts E1, E2, E4, D8, E6 of this seat, joined.
-/
import Derived.Test.YtaegabccdfhfgaaGreatWalkD
import Derived.KernelRfl
namespace Am.Cr
open Go Am Am.Tm
set_option maxRecDepth 100000
set_option maxHeartbeats 4000000
set_option linter.unusedSimpArgs false
set_option linter.unusedVariables false
variable {g1 g2 g3 g4 g5:Bool × Bool} {f:Field}
structure Field.Small (f:Field):Prop where
  growth:f.growth.length≤12
  wet:f.wet.length≤12
  base:f.base.length≤5
  crops:f.crops.length≤12
  looks:f.looks.length≤7
instance : Decidable f.Small:=decidable_of_iff (f.growth.length≤12∧f.wet.length≤12∧f.base.length≤5∧f.crops.length≤12∧f.looks.length≤7) ⟨fun h=>⟨h.1,h.2.1,h.2.2.1,h.2.2.2.1,h.2.2.2.2⟩,fun h=>⟨h.growth,h.wet,h.base,h.crops,h.looks⟩⟩
theorem Field.Small.fits (h:f.Small):f.Fits:=⟨by have:=h.growth;omega,by have:=h.wet;omega,by have:=h.base;omega,by have:=h.crops;omega,by have:=h.looks;omega⟩
def thinB (f:Field):Bool:=decide f.Small&&(decide (checkField f≠0)||decide (manyR f.growth f.wet≤100))
theorem lThin {Q:V→Prop}:CallP tab 4 [fieldV g1 g2 g3 g4 g5 f] Q↔Q (.c (.bool (thinB f))):=CallP_of (by
  refine Val_X (fn:=f4) rfl ?_
  by_cases h1:(f.growth.length:Int)≤12
  · by_cases h2:(f.wet.length:Int)≤12
    · by_cases h3:(f.base.length:Int)≤5
      · by_cases h4:(f.crops.length:Int)≤12
        · by_cases h5:(f.looks.length:Int)≤7
          · have hs:f.Small:=⟨by omega,by omega,by omega,by omega,by omega⟩
            by_cases h0:checkField f=0
            · have hro:=rgsOk_of (valid_of h0)
              have:(((manyR f.growth f.wet:Nat):Int)≤100)↔manyR f.growth f.wet≤100:=by omega
              simp only [go_sem,f4,h1,h2,h3,h4,h5,rFault hs.fits,rMany hro,h0]
              simp [thinB,hs,h0,this]
            · simp only [go_sem,f4,h1,h2,h3,h4,h5,rFault hs.fits,h0]
              simp [thinB,hs,h0]
          · have hs:¬f.Small:=fun h=>h5 (by have:=h.looks;omega)
            simp only [go_sem,f4,h1,h2,h3,h4,h5]
            simp [thinB,hs]
        · have hs:¬f.Small:=fun h=>h4 (by have:=h.crops;omega)
          simp only [go_sem,f4,h1,h2,h3,h4]
          simp [thinB,hs]
      · have hs:¬f.Small:=fun h=>h3 (by have:=h.base;omega)
        simp only [go_sem,f4,h1,h2,h3]
        simp [thinB,hs]
    · have hs:¬f.Small:=fun h=>h2 (by have:=h.wet;omega)
      simp only [go_sem,f4,h1,h2]
      simp [thinB,hs]
  · have hs:¬f.Small:=fun h=>h1 (by have:=h.growth;omega)
    simp only [go_sem,f4,h1]
    simp [thinB,hs])
theorem thin_small (h:thinB f=true):f.Small:=by
  simp only [thinB,Bool.and_eq_true,decide_eq_true_eq] at h;exact h.1
abbrev fieldW (f:Field):V:=fieldV (false,false) (false,false) (false,false) (false,false) (false,false) f
theorem lField (hs:f.Small) {Q:V→Prop}:CallP tab 12 [fieldV g1 g2 g3 g4 g5 f] Q↔Q (fieldW f):=CallP_of (by
  refine Val_X (fn:=f12) rfl ?_
  have c1:=hs.growth
  have c2:=hs.wet
  have c3:=hs.base
  have c4:=hs.crops
  have c5:=hs.looks
  simp only [go_sem,f12,llist (a:=f.wet) (by omega),llist (a:=f.base) (by omega),llist (a:=f.crops) (by omega)]
  refine RX_for f.growth.length (fun k=>[(4,.c (.int .i64 k))]) (fun k=>[.cells (fieldC g1 g2 g3 g4 g5 f.last f.growth f.wet f.base f.crops f.ripe f.late f.trod f.looks),.cells [.int .i64 0,.nils,.nils,.nils,.nils,.int .i64 0,.int .i64 0,.int .i64 0,.nils],.cells [.int .i64 f.last,.sl 3 k 0 k,L (false,false) f.wet,L (false,false) f.base,L (false,false) f.crops,.int .i64 f.ripe,.int .i64 f.late,.int .i64 f.trod,.nils],.arr false k 2 ((f.growth.take k).map Row.row)]) (fun _=>True) trivial (by simp only [go_sem,List.take_zero]<;>rfl) ?_
  intro k hk _
  by_cases h3:k<f.growth.length
  · have hl:(f.growth.take k).length=k:=by simp;omega
    have b7:(k+1)*16≤2^40:=by omega
    have e4:IntKind.i64.wrap ((k:Int)+1)=((k+1:Nat):Int):=wrap_succ (n:=3000) (by omega) (by decide)
    simp only [go_sem,h3,hl,b7,atI_nat,e4,lto,take_getD h3 default,List.map_append]
  · have:k=f.growth.length:=by omega
    subst this
    simp only [go_sem,h3,List.take_length]
    refine RX_for f.looks.length (fun k=>[(5,.c (.int .i64 k))]) (fun k=>[.cells (fieldC g1 g2 g3 g4 g5 f.last f.growth f.wet f.base f.crops f.ripe f.late f.trod f.looks),.cells [.int .i64 0,.nils,.nils,.nils,.nils,.int .i64 0,.int .i64 0,.int .i64 0,.nils],.cells [.int .i64 f.last,.sl 3 f.growth.length 0 f.growth.length,L (false,false) f.wet,L (false,false) f.base,L (false,false) f.crops,.int .i64 f.ripe,.int .i64 f.late,.int .i64 f.trod,.sl 4 k 0 k],.arr false f.growth.length 2 (f.growth.map Row.row),.arr false k 3 ((f.looks.take k).map Row.row)]) (fun _=>True) trivial (by simp only [go_sem,List.take_zero]<;>rfl) ?_
    intro k hk _
    by_cases h4:k<f.looks.length
    · have hl:(f.looks.take k).length=k:=by simp;omega
      have b7:(k+1)*24≤2^40:=by omega
      have e4:IntKind.i64.wrap ((k:Int)+1)=((k+1:Nat):Int):=wrap_succ (n:=3000) (by omega) (by decide)
      simp only [go_sem,h4,hl,b7,atI_nat,e4,lto,take_getD h4 default,List.map_append]
    · have:k=f.looks.length:=by omega
      subst this
      simp only [go_sem,h4,List.take_length])
theorem lTruth {b6 b7:Bool × Bool} {t:Truth} (h1:t.growth.length≤1000) (h2:t.wet.length≤1000) {Q:V→Prop}:CallP tab 14 [.agg [L b6 t.growth,L b7 t.wet]] Q↔Q (.agg [L (false,false) t.growth,L (false,false) t.wet]):=CallP_of (by
  refine Val_X (fn:=f14) rfl ?_
  simp only [go_sem,f14,llist h1,llist h2])
end Am.Cr
namespace Am.Cr
open Go Am Am.Tm
set_option maxRecDepth 100000
set_option maxHeartbeats 4000000
set_option linter.unusedSimpArgs false
set_option linter.unusedVariables false
def oneF (n:Nat):Field:=⟨4,[⟨10,12⟩,⟨8,8⟩,⟨6,6⟩,⟨4,5⟩,⟨2,2⟩],[0,2,0,1,0],[20,15],[],2,4,50,([⟨2,⟨25,25⟩⟩,⟨1,⟨18,18⟩⟩]:List Lk).take n⟩
def dryT : Truth:=⟨[10,8,6,4,2],[0,0,0,1,0]⟩
def worT : Truth:=worstL (oneF 0) [1,3]
set_option maxRecDepth 1000000
theorem w1 : PlayR false (oneF 0) dryT [1,3] = .tup [.c (L (false,false) [Crop.mk 18 20 360,Crop.mk 5 15 75]),.c (.int .i64 0)]:=by kernel_rfl
theorem w2 : BoundsR false (oneF 0) [2,4] = .tup [.c (L (false,false) [Bound.mk ⟨24,26⟩ 16 ⟨384,416⟩,Bound.mk ⟨6,7⟩ 15 ⟨90,105⟩]),.c (.int .i64 0)]:=by kernel_rfl
theorem w3 : WorthR (oneF 0) [1,3] = .tup [.agg [.int .i64 255,.int .i64 490],.c (.int .i64 0)]:=by kernel_rfl
theorem w4 (b:Bool):BestR b (oneF 0) = .tup [.c (L (b,false) ([2,4]:List Int)),.c (.int .i64 474),.c (.int .i64 0)]:=by kernel_rfl
theorem w5 : StandR (oneF 0) 4 = .tup [.agg [.int .i64 30,.int .i64 33],.c (.int .i64 0)]:=by kernel_rfl
theorem w9 : provesTruth (oneF 0) worT=true:=by kernel_rfl
set_option maxRecDepth 100000
end Am.Cr
namespace Am.Cr
open Go Am Am.Tm
set_option maxRecDepth 100000
set_option maxHeartbeats 4000000
set_option linter.unusedSimpArgs false
set_option linter.unusedVariables false
variable {g1 g2 g3 g4 g5:Bool × Bool} {f:Field}
def bitsP (n p:Nat):List Int:=((List.range p).filter fun i=>n.testBit i).map Int.ofNat
def bitsF (n:Nat):List Int:=bitsP n 62
theorem bitsP_succ {n p:Nat}:bitsP n (p+1)=if n.testBit p=true then bitsP n p++[(p:Int)] else bitsP n p:=by
  unfold bitsP
  rw [List.range_succ,List.filter_append,List.map_append]
  by_cases h:n.testBit p=true
  · rw [if_pos h];simp [h]
  · rw [if_neg h];simp [h]
theorem bitsP_end {n p q:Nat} (hpq:p≤q) (h:n<2^p):bitsP n q=bitsP n p:=by
  obtain ⟨d,rfl⟩:∃d,q=p+d:=⟨q-p,by omega⟩
  clear hpq
  induction d with
  | zero=>rfl
  | succ d ih=>
    rw [←Nat.add_assoc,bitsP_succ,if_neg,ih]
    rw [Nat.testBit_lt_two_pow (Nat.lt_of_lt_of_le h (Nat.pow_le_pow_right (by omega) (by omega)))]
    decide
theorem bitsP_len {n p:Nat}:(bitsP n p).length≤p:=by
  unfold bitsP
  rw [List.length_map]
  exact Nat.le_trans (List.length_filter_le _ _) (by simp)
theorem rBits {n:Nat} (hn:n<2^60) {Q:V→Prop}:CallP tab 9 [.c (.int .i64 n)] Q↔Q (.c (L (false,false) (bitsF n))):=CallP_of (by
  refine Val_X (fn:=f9) rfl ?_
  simp only [go_sem,f9]
  refine RX_whileU (α:=Nat × Nat) (fun x=>[(3,.c (.sl 0 x.2 0 (bitsP n x.1).length)),(4,.c (.int .i64 x.1))]) (fun x=>[.arr false x.2 1 ((bitsP n x.1).map Row.row)]) (fun x=>x.1≤60) (fun x=>60-x.1) (0,0) (Nat.zero_le _) (by simp only [go_sem]<;>exact ⟨rfl,rfl⟩) ?_
  rintro ⟨p,v⟩ hp
  simp only at hp
  have e1:IntKind.u64.wrap (p:Int)=(p:Int):=by unfold IntKind.wrap;simp [IntKind.signed,IntKind.bits];omega
  have e2:min p IntKind.i64.bits=p:=Nat.min_eq_left (by show p≤64;omega)
  have e3:(n:Int).fdiv (2^p)=((n / 2^p:Nat):Int):=by
    rw [show ((2:Int)^p)=((2^p:Nat):Int) by simp,Int.fdiv_eq_ediv_of_nonneg _ (Int.natCast_nonneg _)];simp
  have e4:IntKind.i64.wrap ((p:Int)+1)=((p+1:Nat):Int):=wrap_succ (n:=3000) (by omega) (by decide)
  have hb:=bitsP_len (n:=n) (p:=p)
  have b1:((bitsP n p).length+1)*8≤2^40:=by omega
  have e5:((n / 2^p:Nat):Int).tmod 2=((n / 2^p % 2:Nat):Int):=rfl
  have p0:¬(p:Int)<0:=by omega
  by_cases hlt:((n / 2^p:Nat):Int)>0
  · have hp60:p<60:=by
      by_cases h:p<60
      · exact h
      · have:n / 2^p=0:=Nat.div_eq_of_lt (Nat.lt_of_lt_of_le hn (Nat.pow_le_pow_right (by omega) (by omega)))
        rw [this] at hlt;omega
    have hbt:=bitsP_succ (n:=n) (p:=p)
    by_cases ht:n.testBit p=true
    · have h1:((n / 2^p % 2:Nat):Int)=1:=by
        rw [Nat.testBit_eq_decide_div_mod_eq] at ht
        have:=of_decide_eq_true ht;omega
      rw [if_pos ht] at hbt
      simp only [go_sem,e1,e2,e3,e5,p0,hlt,h1,b1,e4]
      refine ⟨(p+1,v+1),⟨by simp only;omega,by simp only;omega⟩,⟨?_,rfl⟩,?_⟩
      · rw [hbt];simp
      · rw [hbt,List.map_append];rfl
    · have h1:¬((n / 2^p % 2:Nat):Int)=1:=by
        rw [Nat.testBit_eq_decide_div_mod_eq] at ht
        intro h
        exact ht (decide_eq_true (by omega))
      rw [if_neg ht] at hbt
      simp only [go_sem,e1,e2,e3,e5,p0,hlt,h1,e4]
      exact ⟨(p+1,v),⟨by simp only;omega,by simp only;omega⟩,⟨by rw [hbt],rfl⟩,by rw [hbt]⟩
  · have hz:n / 2^p=0:=by
      generalize n / 2^p=q at hlt
      omega
    have hlt':n<2^p:=by
      have h2:0<2^p:=Nat.pow_pos (by omega)
      exact (Nat.div_eq_zero_iff_lt h2).1 hz
    have hbe:bitsF n=bitsP n p:=bitsP_end (by omega) hlt'
    simp only [go_sem,e1,e2,e3,p0,hlt,hbe])
theorem bitsP_mem {n p:Nat} {x:Int} (h:x∈bitsP n p):∃i:Nat,x=i∧i<p∧n.testBit i=true:=by
  unfold bitsP at h
  simp only [List.mem_map,List.mem_filter,List.mem_range] at h
  obtain ⟨i,⟨h1,h2⟩,rfl⟩:=h
  exact ⟨i,rfl,h1,h2⟩
theorem bitsP_sorted {n p:Nat}:(bitsP n p).Pairwise (·<·):=by
  unfold bitsP
  rw [List.pairwise_map]
  refine List.Pairwise.filter _ ?_
  exact (List.pairwise_lt_range (n:=p)).imp fun h=>Int.ofNat_lt.2 h
theorem planOk_of {last:Int} (h9:last≤9) {base l:List Int} (h1:l.length≤base.length) (h2:∀x∈l,0≤x∧x≤last) (h3:l.Pairwise (·<·)):planOk last base l=true:=by
  rw [planOk_iff h9]
  refine ⟨h1,fun i hi=>⟨?_,fun h0=>?_⟩⟩
  · rw [getD_lt _ _ _ hi];exact h2 _ (List.getElem_mem hi)
  · rw [getD_lt _ _ _ hi,getD_lt _ _ _ (by omega)]
    exact List.pairwise_iff_getElem.1 h3 (i-1) i (by omega) hi (by omega)
def plannedL (f:Field) (bits:Nat):List Int:=(bitsF (bits % 2^(f.last+1).toNat)).take f.base.length
theorem planned_ok (hv:f.Valid) {bits:Nat}:planOk f.last f.base (plannedL f bits)=true:=by
  have v3:=hv.last0
  have v4:=hv.last9
  refine planOk_of v4 (by rw [plannedL,List.length_take];omega) (fun x hx=>?_) (bitsP_sorted.sublist (List.take_sublist _ _))
  obtain ⟨i,rfl,_,h2⟩:=bitsP_mem (List.mem_of_mem_take hx)
  have:i<(f.last+1).toNat:=by
    by_cases h:i<(f.last+1).toNat
    · exact h
    · rw [Nat.testBit_lt_two_pow (Nat.lt_of_lt_of_le (Nat.mod_lt _ (Nat.pow_pos (by omega))) (Nat.pow_le_pow_right (by omega) (by omega)))] at h2
      cases h2
  omega
end Am.Cr
namespace Am.Cr
open Go Am Am.Tm
set_option maxRecDepth 100000
set_option maxHeartbeats 4000000
set_option linter.unusedSimpArgs false
set_option linter.unusedVariables false
variable {g1 g2 g3 g4 g5:Bool × Bool} {f:Field}
def pre (g:List Int) (k:Nat):Int:=(g.take k).sum
theorem pre_succ {g:List Int} {k:Nat} (h:k<g.length):pre g (k+1)=pre g k+g.getD k default:=by
  unfold pre
  rw [take_getD h default,List.sum_append];simp
theorem pre_bound {g:List Int} (h:∀i,i<g.length→0≤g.getD i default∧g.getD i default≤50):∀{a b:Nat},a≤b→b≤g.length→0≤pre g b-pre g a∧pre g b-pre g a≤50*(b-a)
  | a,0,h1,_=>by
    have:a=0:=by omega
    subst this;omega
  | a,b+1,h1,h2=>by
    by_cases hab:a=b+1
    · subst hab;omega
    · have ih:=pre_bound h (a:=a) (b:=b) (by omega) (by omega)
      have:=h b (by omega)
      rw [pre_succ (by omega)];omega
theorem sumG_pre {g:List Int} (h:∀i,i<g.length→0≤g.getD i default∧g.getD i default≤50) (h10:g.length≤10) {a:Nat}:∀{k:Nat},a+k≤g.length→sumG g a k=pre g (a+k)-pre g a
  | 0,_=>by simp [sumG]
  | k+1,hk=>by
    have ih:=sumG_pre h h10 (a:=a) (k:=k) (by omega)
    have hb:=pre_bound h (a:=a) (b:=a+k) (by omega) (by omega)
    have hx:=h (a+k) (by omega)
    rw [sumG,ih,show (a:Int)+(k:Int)=((a+k:Nat):Int) by simp,atI_nat,←Nat.add_assoc,pre_succ (by omega),wrapB (by omega) (by omega)]
    omega
theorem fromR_at {plan:List Int} (hs:plan.Pairwise (·<·)) {i:Nat} (hi:i<plan.length):fromR plan (plan.getD i default)=if i=0 then 0 else plan.getD (i-1) default+1:=by
  have hsplit:plan=plan.take i++plan.drop i:=(List.take_append_drop _ _).symm
  have hge:∀x∈plan.drop i,¬x<plan.getD i default:=by
    intro x hx
    obtain ⟨j,hj,rfl⟩:=List.getElem_of_mem hx
    rw [List.getElem_drop,getD_lt _ _ _ hi]
    simp at hj
    by_cases h:j=0
    · subst h;simp
    · have:=List.pairwise_iff_getElem.1 hs i (i+j) hi (by omega) (by omega);omega
  have hf:∀(m:List Int) (b:Int),(∀x∈m,¬x<plan.getD i default)→m.foldl (fun fr q=>if q<plan.getD i default then q+1 else fr) b=b:=by
    intro m
    induction m with
    | nil=>intro b _;rfl
    | cons y m ihm=>intro b hm;rw [List.foldl_cons,if_neg (hm y (by simp)),ihm _ fun x hx=>hm x (by simp [hx])]
  unfold fromR
  generalize hw:plan.getD i default=w at *
  have hfold:plan.foldl (fun fr p=>if p<w then p+1 else fr) 0=(plan.take i).foldl (fun fr p=>if p<w then p+1 else fr) 0:=by
    conv=>lhs;rw [hsplit,List.foldl_append]
    exact hf _ _ hge
  rw [hfold]
  cases i with
  | zero=>simp
  | succ i=>
    rw [if_neg (by omega),take_getD (by omega) default,List.foldl_append]
    have hlt:plan.getD i default<w:=by
      rw [←hw,getD_lt _ _ _ hi,getD_lt _ _ _ (by omega)]
      exact List.pairwise_iff_getElem.1 hs i (i+1) (by omega) hi (by omega)
    simp only [List.foldl_cons,List.foldl_nil,if_pos hlt,Nat.add_sub_cancel]
def beg (plan:List Int) (i:Nat):Nat:=if i=0 then 0 else (plan.getD (i-1) default+1).toNat
def onF (t:Truth) (plan:List Int) (i:Nat):Int:=pre t.growth ((plan.getD i default).toNat+1)-pre t.growth (beg plan i)
def lessF (trod n:Int) (wet:Bool):Int:=if wet=true then n-n*trod / 100 else n
def ageF (plan:List Int) (i:Nat):Int:=plan.getD i default-(if i=0 then -1 else plan.getD (i-1) default)
def strF (f:Field) (plan:List Int) (i:Nat):Int:=max 0 (f.base.getD i default-f.late*max 0 (ageF plan i-f.ripe))
def wgtF (f:Field) (t:Truth) (plan:List Int) (i:Nat):Int:=lessF f.trod (onF t plan i) (decide (t.wet.getD (plan.getD i default).toNat default>0))
theorem less_le {trod n:Int} {b:Bool} (h0:0≤trod) (h1:trod≤100) (hn:0≤n):0≤lessF trod n b∧lessF trod n b≤n:=by
  unfold lessF
  split
  · have a1:0≤n*trod:=Int.mul_nonneg hn h0
    have a2:n*trod≤n*100:=Int.mul_le_mul_of_nonneg_left h1 hn
    generalize n*trod=q at a1 a2
    omega
  · omega
theorem onF_bound {t:Truth} {plan:List Int} (ht:TOk f t) (hp:POk f plan) {i:Nat} (hi:i<plan.length):0≤onF t plan i∧onF t plan i≤500∧beg plan i≤(plan.getD i default).toNat+1∧(plan.getD i default).toNat+1≤t.growth.length:=by
  have l1:=ht.gl
  have l3:=ht.l10
  obtain ⟨p0,p1⟩:=hp.at hi
  have hb:beg plan i≤(plan.getD i default).toNat+1:=by
    unfold beg
    split
    · omega
    · have h1:=(hp.at (show i-1<plan.length by omega)).1
      have:=List.pairwise_iff_getElem.1 hp.s (i-1) i (by omega) hi (by omega)
      rw [←getD_lt _ _ default,←getD_lt _ _ default] at this
      omega
  have:=pre_bound ht.gr hb (by omega)
  unfold onF
  exact ⟨this.1,by omega,hb,by omega⟩
theorem str_bound (hv:f.Valid) {plan:List Int} {i:Nat} (hi:i<f.base.length):0≤strF f plan i∧strF f plan i≤f.base.getD i default∧0≤f.base.getD i default∧f.base.getD i default≤200:=by
  have hb:=(baseOk_iff.1 hv.base).2 i hi
  have hl:=hv.late
  have a1:0≤f.late*max 0 (ageF plan i-f.ripe):=Int.mul_nonneg hl.1 (by omega)
  unfold strF
  generalize f.late*max 0 (ageF plan i-f.ripe)=q at a1
  omega
theorem cropAt_eq (hv:f.Valid) {t:Truth} {plan:List Int} (ht:TOk f t) (hp:POk f plan) {i:Nat} (hi:i<plan.length):cropAt f t plan i=⟨wgtF f t plan i,strF f plan i,wgtF f t plan i*strF f plan i⟩:=by
  have l1:=ht.gl
  have l3:=ht.l10
  obtain ⟨p0,p1⟩:=hp.at hi
  obtain ⟨o1,o2,o3,o4⟩:=onF_bound ht hp hi
  have hpl:=hp.l
  have hpn:=hp.len l3
  have hat:atI plan (i:Int)=plan.getD i default:=atI_nat _ _
  have hE:=standing_eq (g:=t.growth) (plan:=plan) hp.s (fun p h=>(hp.m p h).1) p0 (by omega) (by omega)
  have hon:atI (standing t.growth plan) (plan.getD i default)=onF t plan i:=by
    rw [←hE,refSt,fromR_at hp.s hi]
    have hfr:(if i=0 then (0:Int) else plan.getD (i-1) default+1)=(beg plan i:Nat):=by
      unfold beg
      split
      · rfl
      · have h1:=(hp.at (show i-1<plan.length by omega)).1
        omega
    rw [hfr,sumG_pre ht.gr (by omega) (by omega)]
    unfold onF
    congr 2;omega
  have hw:leftI f.trod (onF t plan i) (decide (atI t.wet (plan.getD i default)>0))=wgtF f t plan i:=by
    unfold wgtF leftI lessF
    have ha:atI t.wet (plan.getD i default)=t.wet.getD (plan.getD i default).toNat default:=rfl
    rw [ha]
    split
    · have htr:=hv.trod
      have a1:0≤onF t plan i*f.trod:=Int.mul_nonneg o1 htr.1
      have a2:onF t plan i*f.trod≤onF t plan i*100:=Int.mul_le_mul_of_nonneg_left htr.2 o1
      generalize onF t plan i*f.trod=q at a1 a2
      have e1:IntKind.i64.wrap q=q:=wrapB (by omega) (by omega)
      rw [e1,Int.tdiv_eq_ediv_of_nonneg a1,wrapB (n:=q / 100) (by omega) (by omega),wrapB (by omega) (by omega)]
    · rfl
  have hs:strengthI f.base f.late f.ripe plan i=strF f plan i:=by
    have hb:=(baseOk_iff.1 hv.base).2 i (by omega)
    have hl:=hv.late
    have hr:=hv.ripe
    have v4:=hv.last9
    have v1:=hv.growth
    unfold strengthI strF
    have hbf:before plan (i:Int)=(if i=0 then -1 else plan.getD (i-1) default):=by
      unfold before
      by_cases h0:i=0
      · subst h0;rfl
      · rw [if_pos (by omega),if_neg h0,show (i:Int)-1=((i-1:Nat):Int) by omega,atI_nat]
    rw [hat,hbf,atI_nat]
    have hage:ageF plan i=plan.getD i default-(if i=0 then -1 else plan.getD (i-1) default):=rfl
    have hab : -1≤(if i=0 then (-1:Int) else plan.getD (i-1) default)∧(if i=0 then (-1:Int) else plan.getD (i-1) default)≤20:=by
      split
      · omega
      · have h1:=hp.at (show i-1<plan.length by omega)
        omega
    rw [←hage]
    have hag : -30≤ageF plan i∧ageF plan i≤30:=by
      rw [hage]
      generalize (if i=0 then (-1:Int) else plan.getD (i-1) default)=z at hab
      omega
    rw [wrapB (n:=ageF plan i) (by omega) (by omega),wrapB (n:=ageF plan i-f.ripe) (by omega) (by omega)]
    obtain ⟨m,hm⟩:∃m,m=max 0 (ageF plan i-f.ripe):=⟨_,rfl⟩
    rw [←hm]
    have hm1:0≤m:=by omega
    have hm2:m≤30:=by omega
    have a1:0≤f.late*m:=Int.mul_nonneg hl.1 hm1
    have a2:f.late*m≤50*30:=Int.mul_le_mul hl.2 hm2 hm1 (by omega)
    generalize f.late*m=q at a1 a2
    rw [wrapB (n:=q) (by omega) (by omega),wrapB (by omega) (by omega)]
  obtain ⟨s1,s2,s3,s4⟩:=str_bound hv (plan:=plan) (show i<f.base.length by omega)
  have hwb:=less_le (b:=decide (t.wet.getD (plan.getD i default).toNat default>0)) hv.trod.1 hv.trod.2 o1
  change 0≤wgtF f t plan i∧wgtF f t plan i≤_ at hwb
  have hww:IntKind.i64.wrap (wgtF f t plan i*strF f plan i)=wgtF f t plan i*strF f plan i:=by
    have a1:0≤wgtF f t plan i*strF f plan i:=Int.mul_nonneg hwb.1 s1
    have a2:wgtF f t plan i*strF f plan i≤500*200:=Int.mul_le_mul (by omega) (by omega) s1 (by omega)
    generalize wgtF f t plan i*strF f plan i=q at a1 a2
    exact wrapB (by omega) (by omega)
  unfold cropAt
  simp only
  rw [hat,hon,hw,hs,hww]
end Am.Cr
namespace Am.Cr
open Go Am Am.Tm
set_option maxRecDepth 100000
set_option maxHeartbeats 4000000
set_option linter.unusedSimpArgs false
set_option linter.unusedVariables false
variable {g1 g2 g3 g4 g5:Bool × Bool} {f:Field}
theorem play_ok (h0:checkField f=0) {t:Truth} {plan:List Int} (hl:listedB f t=true) (hp:planOk f.last f.base plan=true):PlayR false f t plan = .tup [.c (L (false,false) (cropsL f t plan)),.c (.int .i64 0)]:=by
  rw [PlayR,if_neg (by rw [h0];simp),if_neg (by rw [hl,hp];simp)]
theorem crops_getD {t:Truth} {plan:List Int} {k:Nat} (hk:k<plan.length):(cropsL f t plan).getD k default=cropAt f t plan k:=by
  rw [getD_lt _ _ _ (by rw [cropsL_len];exact hk)];simp [cropsL]
end Am.Cr
