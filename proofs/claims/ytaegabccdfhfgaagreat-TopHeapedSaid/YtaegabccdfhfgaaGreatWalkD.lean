/-
  A part of the proof: the texts D1, D2, D3, D4, D5, D6, D7 of this seat, joined.
-/
import Derived.Test.YtaegabccdfhfgaaGreatWalkC
namespace Am.Cr
open Go Am Am.Tm
set_option maxRecDepth 100000
set_option maxHeartbeats 4000000
set_option linter.unusedSimpArgs false
set_option linter.unusedVariables false
variable {g1 g2 g3 g4 g5:Bool × Bool} {f:Field}
theorem planOk_iff {last:Int} (h9:last≤9) {base l:List Int}:planOk last base l=true↔l.length≤base.length∧∀i,i<l.length→(0≤l.getD i default∧l.getD i default≤last)∧(0<i→l.getD (i-1) default<l.getD i default):=by
  constructor
  · intro h
    refine ⟨plan_le h,fun i hi=>?_⟩
    have:=plan_in h9 h i hi
    refine ⟨by omega,fun h0=>?_⟩
    cases i with
    | zero=>omega
    | succ i=>simpa [prevAt] using this.2.2
  · rintro ⟨h1,h2⟩
    simp only [planOk,Bool.and_eq_true,decide_eq_true_eq,chain_iff]
    refine ⟨h1,fun i hi=>?_⟩
    have:=h2 i hi
    simp only [planP,inR_iff]
    cases i with
    | zero=>simp only [prevAt];rw [wrapB (by omega) (by omega)];omega
    | succ i=>
      have h3:=h2 i (by omega)
      have h4:=this.2 (by omega)
      simp only [prevAt]
      rw [Nat.add_sub_cancel] at h4
      rw [wrapB (by omega) (by omega)];omega
theorem rIsPlan (h9:f.last≤9) {g:Bool × Bool} {l:List Int} (hl:l.length≤1000) {Q:V→Prop}:CallP tab 19 [fieldV g1 g2 g3 g4 g5 f,.c (L g l)] Q↔Q (.c (.bool (planOk f.last f.base l))):=CallP_of (by
  refine Val_X (fn:=f19) rfl ?_
  simp only [go_sem,f19]
  refine RX_forC l.length (fun k=>[(5,.c (.int .i64 k))]) (fun k=>∀i,i<k→(0≤l.getD i default∧l.getD i default≤f.last)∧(0<i→l.getD (i-1) default<l.getD i default)) rfl (fun i h=>by omega) (by simp only [go_sem]<;>rfl) ?_
  intro k hk hP
  by_cases hlt:k<l.length
  · have e4:IntKind.i64.wrap ((k:Int)+1)=((k+1:Nat):Int):=wrap_succ (n:=2000) (by omega) (by decide)
    have hno:∀{P:Prop},((0≤l.getD k default∧l.getD k default≤f.last)∧(0<k→l.getD (k-1) default<l.getD k default)→False)→planOk f.last f.base l=false:=fun h=>by
      cases hp:planOk f.last f.base l with
      | false=>rfl
      | true=>exact (h (((planOk_iff h9).1 hp).2 k hlt)).elim
    by_cases hk0:k=0
    · subst hk0
      have hl0:(0:Int)<l.length:=by omega
      have ha0:atI l 0=l.getD 0 default:=rfl
      cases hi:inR (l.getD 0 default) 0 f.last with
      | false=>
        have:planOk f.last f.base l=false:=hno (P:=True) fun h=>by
          rw [←Bool.not_eq_true,inR_iff] at hi
          exact hi ⟨h.1.1,h.1.2⟩
        simp only [go_sem,hlt,atI_nat,rIn,hi,this,hl0,ha0]
      | true=>
        simp only [go_sem,hlt,atI_nat,rIn,hi,gt_iff_lt,e4,hl0,ha0]
        rw [inR_iff] at hi
        intro i hi'
        have:i=0:=by omega
        subst this
        exact ⟨hi,fun h=>by omega⟩
    · have hkp:(0:Int)<(k:Int):=by omega
      have hkw:IntKind.i64.wrap ((k:Int)-1)=((k-1:Nat):Int):=by rw [wrapB (by omega) (by omega)];omega
      have k1:k-1<l.length:=by omega
      cases hi:inR (l.getD k default) 0 f.last with
      | false=>
        have:planOk f.last f.base l=false:=hno (P:=True) fun h=>by
          rw [←Bool.not_eq_true,inR_iff] at hi
          exact hi ⟨h.1.1,h.1.2⟩
        simp only [go_sem,hlt,atI_nat,rIn,hi,this]
      | true=>
        by_cases hle:l.getD k default≤l.getD (k-1) default
        · have:planOk f.last f.base l=false:=hno (P:=True) fun h=>by have:=h.2 (by omega);omega
          simp only [go_sem,hlt,atI_nat,rIn,hi,gt_iff_lt,hkp,hkw,k1,hle,this]
        · simp only [go_sem,hlt,atI_nat,rIn,hi,gt_iff_lt,hkp,hkw,k1,hle,e4]
          rw [inR_iff] at hi
          intro i hi'
          by_cases hik:i=k
          · subst hik;exact ⟨hi,fun _=>by omega⟩
          · exact hP i (by omega)
  · have:k=l.length:=by omega
    subst this
    have:planOk f.last f.base l=decide (l.length≤f.base.length):=by
      rw [Bool.eq_iff_iff,planOk_iff h9]
      simp only [decide_eq_true_eq]
      exact ⟨fun h=>h.1,fun h=>⟨h,hP⟩⟩
    simp only [go_sem,hlt,this])
end Am.Cr
namespace Am.Cr
open Go Am Am.Tm
set_option maxRecDepth 100000
set_option maxHeartbeats 4000000
set_option linter.unusedSimpArgs false
set_option linter.unusedVariables false
variable {g1 g2 g3 g4 g5:Bool × Bool} {f:Field}
def fromR (plan:List Int) (week:Int):Int:=plan.foldl (fun fr p=>if p<week then p+1 else fr) 0
def sumG (g:List Int) (fr:Int):Nat→Int
  | 0=>0
  | k+1=>IntKind.i64.wrap (sumG g fr k+atI g (fr+k))
theorem fromR_le {plan:List Int} {week:Int} (hw:0≤week) (hp:∀p∈plan,0≤p):0≤fromR plan week∧fromR plan week≤week:=by
  unfold fromR
  have:∀(l:List Int) (a:Int),(∀p∈l,0≤p)→0≤a∧a≤week→0≤l.foldl (fun fr p=>if p<week then p+1 else fr) a∧l.foldl (fun fr p=>if p<week then p+1 else fr) a≤week:=by
    intro l
    induction l with
    | nil=>intro a _ h;exact h
    | cons p l ih=>
      intro a hl ha
      simp only [List.foldl_cons]
      refine ih _ (fun x hx=>hl x (by simp [hx])) ?_
      have:=hl p (by simp)
      split<;>omega
  exact this plan 0 hp ⟨by omega,hw⟩
def refSt (g plan:List Int) (week:Int):Int:=sumG g (fromR plan week) (week+1-fromR plan week).toNat
theorem rStanding {g6 g7 g:Bool × Bool} {gr wt plan:List Int} {week:Int} (h0:0≤week) (h1:week<gr.length) (hg:gr.length≤1000) (hp:plan.length≤1000) (hpp:∀p∈plan,0≤p∧p≤1000) {Q:V→Prop}:CallP tab 93 [.agg [L g6 gr,L g7 wt],.c (L g plan),.c (.int .i64 week)] Q↔Q (.c (.int .i64 (refSt gr plan week))):=CallP_of (by
  refine Val_X (fn:=f93) rfl ?_
  simp only [go_sem,f93]
  refine RX_forC plan.length (fun k=>[(7,.c (.int .i64 (fromR (plan.take k) week))),(8,.c (.int .i64 k))]) (fun _=>True) rfl trivial (by simp only [go_sem]<;>rfl) ?_
  intro k hk _
  by_cases hlt:k<plan.length
  · have e4:IntKind.i64.wrap ((k:Int)+1)=((k+1:Nat):Int):=wrap_succ (n:=3000) (by omega) (by decide)
    have hpk:=hpp (plan.getD k default) (by rw [getD_lt _ _ _ hlt];exact List.getElem_mem hlt)
    have e5:IntKind.i64.wrap (plan.getD k default+1)=plan.getD k default+1:=wrapB (by omega) (by omega)
    have e6:fromR (plan.take (k+1)) week=if plan.getD k default<week then plan.getD k default+1 else fromR (plan.take k) week:=by
      rw [take_getD hlt default];simp only [fromR,List.foldl_append,List.foldl_cons,List.foldl_nil]
    by_cases hw:plan.getD k default<week
    · rw [if_pos hw] at e6
      simp only [go_sem,hlt,atI_nat,e4,hw,e5,e6]
    · rw [if_neg hw] at e6
      simp only [go_sem,hlt,atI_nat,e4,hw,e6]
  · have:k=plan.length:=by omega
    subst this
    obtain ⟨a1,a2⟩:=fromR_le (plan:=plan) h0 fun p hp=>(hpp p hp).1
    simp only [go_sem,hlt,List.take_length]
    unfold refSt
    obtain ⟨fr,hfr⟩:∃fr,fr=fromR plan week:=⟨_,rfl⟩
    rw [←hfr] at a1 a2 ⊢
    refine RX_forC (week+1-fr).toNat (fun k=>[(9,.c (.int .i64 (sumG gr fr k))),(10,.c (.int .i64 (fr+k)))]) (fun _=>True) rfl trivial (by simp only [go_sem,Int.add_zero]<;>rfl) ?_
    intro k hk _
    by_cases hlt:fr+k≤week
    · have e4:IntKind.i64.wrap (fr+k+1)=fr+((k+1:Nat):Int):=by rw [wrapB (by omega) (by omega)];omega
      have b1:0≤fr+(k:Int):=by omega
      have b2:fr+(k:Int)<gr.length:=by omega
      have b3:k<(week+1-fr).toNat:=by omega
      simp only [go_sem,hlt,e4,b1,b2,b3,sumG]
    · have:k=(week+1-fr).toNat:=by omega
      subst this
      simp only [go_sem,hlt])
end Am.Cr
namespace Am.Cr
open Go Am Am.Tm
set_option maxRecDepth 100000
set_option maxHeartbeats 4000000
set_option linter.unusedSimpArgs false
set_option linter.unusedVariables false
variable {g1 g2 g3 g4 g5:Bool × Bool} {f:Field}
theorem sorted_of {l:List Int} (h:∀i,i<l.length→0<i→l.getD (i-1) default<l.getD i default):l.Pairwise (·<·):=by
  rw [List.pairwise_iff_getElem]
  intro i j hi hj hij
  induction j with
  | zero=>omega
  | succ j ih=>
    have h1:=h (j+1) hj (by omega)
    rw [Nat.add_sub_cancel,getD_lt _ _ _ hj,getD_lt _ _ _ (by omega)] at h1
    by_cases hij':i=j
    · subst hij';exact h1
    · have:=ih (by omega) (by omega);omega
theorem plan_sorted {last:Int} (h9:last≤9) {base l:List Int} (h:planOk last base l=true):l.Pairwise (·<·):=sorted_of fun i hi h0=>(((planOk_iff h9).1 h).2 i hi).2 h0
theorem plan_mem {last:Int} (h9:last≤9) {base l:List Int} (h:planOk last base l=true):∀p∈l,0≤p∧p≤last:=by
  intro p hp
  obtain ⟨i,hi,rfl⟩:=List.getElem_of_mem hp
  have:=(((planOk_iff h9).1 h).2 i hi).1
  rwa [getD_lt _ _ _ hi] at this
theorem fromR_succ {plan:List Int} {w:Int} (hs:plan.Pairwise (·<·)):fromR plan (w+1)=if w∈plan then w+1 else fromR plan w:=by
  unfold fromR
  have:∀(l:List Int) (a:Int),l.Pairwise (·<·)→l.foldl (fun fr p=>if p<w+1 then p+1 else fr) a=if w∈l then w+1 else l.foldl (fun fr p=>if p<w then p+1 else fr) a:=by
    intro l
    induction l with
    | nil=>intro a _;simp
    | cons p l ih=>
      intro a hl
      rw [List.pairwise_cons] at hl
      simp only [List.foldl_cons]
      rw [ih _ hl.2]
      by_cases hp:p=w
      · subst hp
        have hn:p∉l:=fun h=>by have:=hl.1 p h;omega
        have hge:∀x∈l,¬x<p:=fun x hx=>by have:=hl.1 x hx;omega
        have hf:∀(m:List Int) (b:Int),(∀x∈m,¬x<p)→m.foldl (fun fr q=>if q<p then q+1 else fr) b=b:=by
          intro m
          induction m with
          | nil=>intro b _;rfl
          | cons y m ihm=>intro b hm;rw [List.foldl_cons,if_neg (hm y (by simp)),ihm _ fun x hx=>hm x (by simp [hx])]
        rw [if_neg hn,hf _ _ hge,if_pos (by omega),if_pos (by simp)]
      · by_cases hm:w∈l
        · rw [if_pos hm,if_pos (by simp [hm])]
        · have hnm:w∉p::l:=by
            simp only [List.mem_cons,not_or];exact ⟨fun h=>hp h.symm,hm⟩
          rw [if_neg hm,if_neg hnm]
          by_cases hpw:p<w
          · rw [if_pos hpw,if_pos (by omega)]
          · rw [if_neg hpw,if_neg (by omega)]
  exact this plan 0 hs
theorem stF_fst {g plan:List Int} (hs:plan.Pairwise (·<·)) (hp:∀p∈plan,0≤p):∀w:Nat,(stF g plan w).1=sumG g (fromR plan w) (w-fromR plan w).toNat
  | 0=>by
    have h:=fromR_le (plan:=plan) (week:=0) (by omega) hp
    have:((0:Nat)-fromR plan (0:Nat)).toNat=0:=by simp only [Int.natCast_zero] at *;omega
    rw [this];rfl
  | w+1=>by
    have h:=fromR_le (plan:=plan) (week:=w) (by omega) hp
    have hf:=fromR_succ (plan:=plan) (w:=(w:Int)) hs
    have e:((w+1:Nat):Int)=(w:Int)+1:=by omega
    rw [e,hf]
    simp only [stF]
    by_cases hm:(w:Int)∈plan
    · rw [if_pos hm,if_pos hm]
      have:((w:Int)+1-((w:Int)+1)).toNat=0:=by omega
      rw [this];rfl
    · rw [if_neg hm,if_neg hm,stF_fst hs hp w]
      have:((w:Int)+1-fromR plan w).toNat=(w-fromR plan w).toNat+1:=by omega
      rw [this,sumG]
      have:fromR plan w+((w-fromR plan w).toNat:Int)=w:=by omega
      rw [this,atI_nat]
theorem stF_snd {g plan:List Int}:∀{k w:Nat},w<k→k≤10→(stF g plan k).2.getD w default=IntKind.i64.wrap ((stF g plan w).1+g.getD w default)
  | k+1,w,h,h10=>by
    simp only [stF]
    have hl:=stF_len (g:=g) (plan:=plan) (k:=k)
    by_cases hwk:w=k
    · subst hwk
      rw [getD_lt _ _ _ (by rw [List.length_set,hl];omega),List.getElem_set_self]
    · rw [getD_lt _ _ _ (by rw [List.length_set,hl];omega),List.getElem_set_ne (fun h=>hwk h.symm),←getD_lt _ _ default (by rw [hl];omega)]
      exact stF_snd (by omega) (by omega)
theorem standing_eq {g plan:List Int} (hs:plan.Pairwise (·<·)) (hp:∀p∈plan,0≤p) {week:Int} (h0:0≤week) (h1:week<g.length) (hg:g.length≤10):refSt g plan week=atI (standing g plan) week:=by
  obtain ⟨w,rfl⟩:∃w:Nat,week=w:=⟨week.toNat,by omega⟩
  have h:=fromR_le (plan:=plan) (week:=w) (by omega) hp
  rw [atI_nat,standing,stF_snd (by omega) hg,stF_fst hs hp,refSt]
  have:((w:Int)+1-fromR plan w).toNat=(w-fromR plan w).toNat+1:=by omega
  rw [this,sumG]
  have:fromR plan w+((w-fromR plan w).toNat:Int)=w:=by omega
  rw [this,atI_nat]
end Am.Cr
namespace Am.Cr
open Go Am Am.Tm
set_option maxRecDepth 100000
set_option maxHeartbeats 4000000
set_option linter.unusedSimpArgs false
set_option linter.unusedVariables false
variable {g1 g2 g3 g4 g5:Bool × Bool} {f:Field}
structure TOk (f:Field) (t:Truth):Prop where
  gl:t.growth.length=f.growth.length
  wl:t.wet.length=f.growth.length
  l10:f.growth.length≤10
  gr:∀i,i<t.growth.length→0≤t.growth.getD i default∧t.growth.getD i default≤50
  wr:∀i,i<t.wet.length→t.wet.getD i default=0∨t.wet.getD i default=1
theorem tok_of (hv:f.Valid) {t:Truth} (h:IsT f t):TOk f t:=by
  have v1:=hv.growth
  have v2:=hv.wet
  have v4:=hv.last9
  have h1:=h.gl
  have h2:=h.wl
  refine ⟨h1,by omega,by omega,fun i hi=>?_,fun i hi=>?_⟩
  · have:=h.gr i hi
    have:=hv.growths (f.growth.getD i default) (by rw [getD_lt _ _ _ (by omega)];exact List.getElem_mem _)
    omega
  · have h3:=h.wr i hi
    have h4:=hv.wets (f.wet.getD i default) (by rw [getD_lt _ _ _ (by omega)];exact List.getElem_mem _)
    unfold wetR at h3
    split at h3
    · simp only at h3;omega
    · simp only at h3;omega
structure POk (f:Field) (plan:List Int):Prop where
  s:plan.Pairwise (·<·)
  m:∀p∈plan,0≤p∧p<f.growth.length
  l:plan.length≤f.base.length
theorem pok_of (hv:f.Valid) {plan:List Int} (h:planOk f.last f.base plan=true):POk f plan:=by
  have v1:=hv.growth
  exact ⟨plan_sorted hv.last9 h,fun p hp=>by have:=plan_mem hv.last9 h p hp;omega,plan_le h⟩
theorem POk.len {plan:List Int} (hp:POk f plan) (h10:f.growth.length≤10):plan.length≤10:=by
  by_cases h0:plan.length=0
  · omega
  have key:∀i (hi:i<plan.length),(i:Int)≤plan[i]:=by
    intro i
    induction i with
    | zero=>intro hi;exact (hp.m _ (List.getElem_mem hi)).1
    | succ i ih=>
      intro hi
      have h1:=ih (by omega)
      have h2:=List.pairwise_iff_getElem.1 hp.s i (i+1) (by omega) hi (by omega)
      omega
  have h1:=key (plan.length-1) (by omega)
  have h2:=(hp.m _ (List.getElem_mem (show plan.length-1<plan.length by omega))).2
  omega
theorem POk.at {plan:List Int} (hp:POk f plan) {i:Nat} (hi:i<plan.length):0≤plan.getD i default∧plan.getD i default<f.growth.length:=by
  rw [getD_lt _ _ _ hi];exact hp.m _ (List.getElem_mem hi)
theorem rRight {b6 b7:Bool × Bool} {t:Truth} {a b c:Int} (ht:TOk f t) (hp:POk f f.crops) (h0:0≤a) (h1:a<f.growth.length) {Q:V→Prop}:CallP tab 54 [fieldV g1 g2 g3 g4 g5 f,.agg [L b6 t.growth,L b7 t.wet],.agg [.int .i64 a,.int .i64 b,.int .i64 c]] Q↔Q (.c (.bool (inR (atI (standing t.growth f.crops) a) b c))):=CallP_of (by
  refine Val_X (fn:=f54) rfl ?_
  have l1:=ht.gl
  have l3:=ht.l10
  have l4:=hp.len l3
  have hS:=fun {b6 b7 g:Bool × Bool} {wt:List Int} {Q:V→Prop}=>rStanding (g6:=b6) (g7:=b7) (g:=g) (gr:=t.growth) (wt:=wt) (plan:=f.crops) (week:=a) h0 (by omega) (by omega) (by omega) (fun p h=>⟨(hp.m p h).1,by have:=(hp.m p h).2;omega⟩) (Q:=Q)
  have hE:=standing_eq (g:=t.growth) (plan:=f.crops) hp.s (fun p h=>(hp.m p h).1) h0 (by omega) (by omega)
  simp only [go_sem,f54,hS,hE,rIn])
theorem listed_isT (hv:f.Valid) {t:Truth} (h:IsT f t):listedB f t=true:=by
  have v1:=hv.growth
  have v2:=hv.wet
  have v3:=hv.last0
  have v4:=hv.last9
  have h1:=h.gl
  have h2:=h.wl
  have hw:IntKind.i64.wrap (f.last+1)=f.last+1:=wrapB (by omega) (by omega)
  simp only [listedB,Bool.and_eq_true,decide_eq_true_eq,hw,List.all_eq_true,List.mem_range,inR_iff]
  refine ⟨by omega,by omega,fun i hi=>?_⟩
  by_cases hig:i<f.growth.length
  · rw [show (t.growth++t.wet).getD i default=t.growth.getD i default by simp [List.getD_eq_getElem?_getD,List.getElem?_append,show i<t.growth.length by omega]]
    rw [show (rangesL f.growth f.wet).getD i default=f.growth.getD i default by simp [rangesL,List.getD_eq_getElem?_getD,List.getElem?_append,hig]]
    exact h.gr i (by omega)
  · obtain ⟨j,rfl⟩:∃j,i=f.growth.length+j:=⟨i-f.growth.length,by omega⟩
    have hj:j<f.wet.length:=by omega
    rw [show (t.growth++t.wet).getD (f.growth.length+j) default=t.wet.getD j default by rw [←h1,List.getD_eq_getElem?_getD,List.getElem?_append_right (by omega)];simp [List.getD_eq_getElem?_getD]]
    rw [show (rangesL f.growth f.wet).getD (f.growth.length+j) default=wetR (f.wet.getD j default) by simp [rangesL,List.getD_eq_getElem?_getD,List.getElem?_append,hj]]
    exact h.wr j (by omega)
end Am.Cr
namespace Am.Cr
open Go Am Am.Tm
set_option maxRecDepth 100000
set_option maxHeartbeats 4000000
set_option linter.unusedSimpArgs false
set_option linter.unusedVariables false
variable {g1 g2 g3 g4 g5:Bool × Bool} {f:Field}
def isTruthB (f:Field) (t:Truth):Bool:=listedB f t&&f.looks.all fun k=>inR (atI (standing t.growth f.crops) k.week) k.w.lo k.w.hi
theorem prodN_append {a b:List Rg}:prodN (a++b)=prodN a*prodN b:=by
  induction a with
  | nil=>simp [prodN]
  | cons r a ih=>rw [List.cons_append];show (r.hi+1-r.lo).toNat*prodN (a++b)=(r.hi+1-r.lo).toNat*prodN a*prodN b;rw [ih,Nat.mul_assoc]
theorem prodN_one {r:Rg}:prodN [r]=(r.hi+1-r.lo).toNat:=by simp [prodN]
structure RgsOk (growth:List Rg) (wet:List Int):Prop where
  g:∀r∈growth,0≤r.lo∧r.lo≤r.hi∧r.hi≤50
  w:∀n∈wet,0≤n∧n≤2
  l:growth.length=wet.length
  b:growth.length≤1000
def manyR (growth:List Rg) (wet:List Int):Nat:=min 3000 (prodN growth*prodN (wet.map wetR))
theorem rMany (ho:RgsOk f.growth f.wet) {Q:V→Prop}:CallP tab 17 [fieldV g1 g2 g3 g4 g5 f] Q↔Q (.c (.int .i64 (manyR f.growth f.wet))):=CallP_of (by
  refine Val_X (fn:=f17) rfl ?_
  have hb:=ho.b
  have hl:=ho.l
  simp only [go_sem,f17]
  refine RX_forC f.growth.length (fun k=>[(3,.c (.int .i64 (manyR (f.growth.take k) (f.wet.take k)))),(4,.c (.int .i64 k))]) (fun _=>True) rfl trivial (by simp only [go_sem]<;>rfl) ?_
  intro k hk _
  by_cases hlt:k<f.growth.length
  · have e4:IntKind.i64.wrap ((k:Int)+1)=((k+1:Nat):Int):=wrap_succ (n:=3000) (by omega) (by decide)
    have q2:k<f.wet.length:=by omega
    have hr:=ho.g (f.growth.getD k default) (by rw [getD_lt _ _ _ hlt];exact List.getElem_mem hlt)
    have hw:=ho.w (f.wet.getD k default) (by rw [getD_lt _ _ _ q2];exact List.getElem_mem q2)
    obtain ⟨r,hr0⟩:∃r,r=f.growth.getD k default:=⟨_,rfl⟩
    obtain ⟨w,hw0⟩:∃w,w=f.wet.getD k default:=⟨_,rfl⟩
    rw [←hr0] at hr
    rw [←hw0] at hw
    have hz:sizeI r.lo r.hi=((r.hi+1-r.lo).toNat:Nat):=by
      unfold sizeI
      rw [wrapB (n:=r.hi-r.lo) (by omega) (by omega),wrapB (by omega) (by omega)];omega
    have hww:IntKind.i64.wrap (1+IntKind.i64.wrap (w.tdiv 2))=(((wetR w).hi+1-(wetR w).lo).toNat:Nat):=by
      have:w=0∨w=1∨w=2:=by omega
      rcases this with rfl | rfl | rfl<;>rfl
    have hw3:((wetR w).hi+1-(wetR w).lo).toNat=1∨((wetR w).hi+1-(wetR w).lo).toNat=2:=by
      have:w=0∨w=1∨w=2:=by omega
      rcases this with rfl | rfl | rfl
      · exact .inl rfl
      · exact .inl rfl
      · exact .inr rfl
    obtain ⟨z,hz0⟩:∃z,z=(r.hi+1-r.lo).toNat:=⟨_,rfl⟩
    obtain ⟨y,hy0⟩:∃y,y=((wetR w).hi+1-(wetR w).lo).toNat:=⟨_,rfl⟩
    have hst:manyR (f.growth.take (k+1)) (f.wet.take (k+1))=min 3000 (manyR (f.growth.take k) (f.wet.take k)*z*y):=by
      unfold manyR
      rw [take_getD hlt default,take_getD q2 default,←hr0,←hw0,List.map_append,prodN_append,prodN_append,prodN_one,List.map_cons,List.map_nil,prodN_one,←hz0,←hy0]
      have e:prodN (f.growth.take k)*z*(prodN ((f.wet.take k).map wetR)*y)=prodN (f.growth.take k)*prodN ((f.wet.take k).map wetR)*(z*y):=by
        rw [Nat.mul_assoc,Nat.mul_assoc,Nat.mul_left_comm z]
      rw [e,Nat.mul_assoc (min _ _)]
      generalize prodN (f.growth.take k)*prodN ((f.wet.take k).map wetR)=p
      have hzy:1≤z*y:=Nat.mul_pos (by omega) (by omega)
      generalize z*y=m at hzy
      by_cases hp:p≤3000
      · rw [Nat.min_eq_right hp]
      · have h1:3000*1≤3000*m:=Nat.mul_le_mul_left _ hzy
        have h2:3000*1≤p*m:=Nat.mul_le_mul (by omega) hzy
        rw [Nat.min_eq_left (by omega:3000≤p),Nat.min_eq_left (by omega),Nat.min_eq_left (by omega)]
    obtain ⟨m,hm0⟩:∃m,m=manyR (f.growth.take k) (f.wet.take k):=⟨_,rfl⟩
    have hm1:m≤3000:=by rw [hm0];exact Nat.min_le_left _ _
    rw [←hm0] at hst
    have hz2:z≤51:=by omega
    have hmz:m*z≤3000*51:=Nat.mul_le_mul hm1 hz2
    have hmzy:m*z*y≤3000*51*2:=Nat.mul_le_mul hmz (by omega)
    have f1:IntKind.i64.wrap ((m:Int)*(z:Int))=((m*z:Nat):Int):=by
      rw [show (m:Int)*(z:Int)=((m*z:Nat):Int) by simp]
      generalize m*z=p at hmz
      exact wrapB (by omega) (by omega)
    have f2:IntKind.i64.wrap (((m*z:Nat):Int)*(y:Int))=((m*z*y:Nat):Int):=by
      rw [show ((m*z:Nat):Int)*(y:Int)=((m*z*y:Nat):Int) by simp]
      generalize m*z*y=p at hmzy
      exact wrapB (by omega) (by omega)
    have f3:min (3000:Int) ((m*z*y:Nat):Int)=((min 3000 (m*z*y):Nat):Int):=by omega
    rw [←hz0] at hz
    rw [←hy0] at hww
    simp only [go_sem,hlt,q2,atI_nat,←hr0,←hw0,←hm0,rSize,rWays,hz,hww,f1,f2,f3,e4,hst,Int.min_comm]
  · have:k=f.growth.length:=by omega
    subst this
    rw [List.take_length,hl,List.take_length]
    rw [←hl]
    simp only [go_sem,hlt])
end Am.Cr
namespace Am.Cr
open Go Am Am.Tm
set_option maxRecDepth 100000
set_option maxHeartbeats 4000000
set_option linter.unusedSimpArgs false
set_option linter.unusedVariables false
variable {g1 g2 g3 g4 g5:Bool × Bool} {f:Field}
theorem baseOk_iff {base:List Int}:baseOk base=true↔0<base.length∧∀i,i<base.length→(0≤base.getD i default∧base.getD i default≤200)∧(0<i→base.getD i default≤base.getD (i-1) default):=by
  simp only [baseOk,Bool.and_eq_true,decide_eq_true_eq,chain_iff,baseP,inR_iff]
  constructor
  · rintro ⟨h1,h2⟩
    refine ⟨h1,fun i=>?_⟩
    induction i with
    | zero=>
      intro hi
      have:=h2 0 hi
      simp only [prevAt] at this
      exact ⟨this,fun h=>by omega⟩
    | succ i ih=>
      intro hi
      have:=h2 (i+1) hi
      have h3:=ih (by omega)
      simp only [prevAt] at this
      exact ⟨by omega,fun _=>this.2⟩
  · rintro ⟨h1,h2⟩
    refine ⟨h1,fun i hi=>?_⟩
    have:=h2 i hi
    cases i with
    | zero=>simp only [prevAt];omega
    | succ i=>
      have h3:=this.2 (by omega)
      simp only [prevAt]
      rw [Nat.add_sub_cancel] at h3
      omega
def goodB (f:Field):Bool:=numbersOk f.last f.ripe f.late f.trod&&(decide ((f.growth.length:Int)=f.last+1)&&(decide ((f.wet.length:Int)=f.last+1)&&(baseOk f.base&&(planOk f.last f.base f.crops&&(f.growth.all (fun r=>rgOf r.lo r.hi 50)&&(f.wet.all (fun n=>inR n 0 2)&&f.looks.all (lookOk f.last)))))))
theorem check_eq (a1:¬f.last>9) (a2:¬(f.base.length:Int)>3) (a3:¬(f.looks.length:Int)>5):checkField f=if goodB f=false then 1 else if manyL (rangesL f.growth f.wet)>2000 then 3 else 0:=by
  rw [checkField,if_neg a1,if_neg a2,if_neg a3]
  cases h1:numbersOk f.last f.ripe f.late f.trod with
  | false=>simp [goodB,h1]
  | true=>
    have hl:0≤f.last:=by simp [numbersOk] at h1;exact h1.1
    have hw:IntKind.i64.wrap (f.last+1)=f.last+1:=wrapB (by omega) (by omega)
    rw [hw]
    by_cases h2:(f.growth.length:Int)=f.last+1
    · by_cases h3:(f.wet.length:Int)=f.last+1
      · cases h4:baseOk f.base<;>cases h5:planOk f.last f.base f.crops<;>cases h6:f.growth.all (fun r=>rgOf r.lo r.hi 50)<;>cases h7:f.wet.all (fun n=>inR n 0 2)<;>cases h8:f.looks.all (lookOk f.last)<;>simp only [goodB,h1,h2,h3,h4,h5,h6,h7,h8,decide_true,Bool.and_true,Bool.true_and,Bool.and_false,Bool.false_and,if_true,if_false,not_true_eq_false,Bool.true_eq_false]
      · simp [goodB,h1,h2,h3]
    · simp [goodB,h1,h2]
theorem rFault (hf:f.Fits) {Q:V→Prop}:CallP tab 5 [fieldV g1 g2 g3 g4 g5 f] Q↔Q (.c (.int .i64 (checkField f))):=CallP_of (by
  refine Val_X (fn:=f5) rfl ?_
  have c1:=hf.growth
  have c2:=hf.wet
  have c3:=hf.crops
  by_cases a1:f.last>9
  · simp only [go_sem,f5,a1,checkField]
  by_cases a2:(f.base.length:Int)>3
  · simp only [go_sem,f5,a1,a2,checkField]
  by_cases a3:(f.looks.length:Int)>5
  · simp only [go_sem,f5,a1,a2,a3,checkField]
  have hce:=check_eq a1 a2 a3
  have bad:goodB f=false→checkField f=1:=fun h=>by rw [hce,if_pos h]
  have g9:f.last≤9:=by omega
  have hIP:=fun {Q:V→Prop}=>rIsPlan (g1:=g1) (g2:=g2) (g3:=g3) (g4:=g4) (g5:=g5) (f:=f) g9 (g:=g4) (l:=f.crops) c3 (Q:=Q)
  by_cases b0:f.last<0
  · have:checkField f=1:=bad (by simp [goodB,numbersOk];intro h;omega)
    simp only [go_sem,f5,a1,a2,a3,b0,this]
  have hw:IntKind.i64.wrap (f.last+1)=f.last+1:=wrapB (by omega) (by omega)
  by_cases b1:¬(f.growth.length:Int)=f.last+1
  · have:checkField f=1:=bad (by simp [goodB,b1])
    simp only [go_sem,f5,a1,a2,a3,b0,hw,b1,this]
  have b1:=Decidable.not_not.1 b1
  by_cases b2:¬(f.wet.length:Int)=f.last+1
  · have:checkField f=1:=bad (by simp [goodB,b2])
    simp only [go_sem,f5,a1,a2,a3,b0,hw,b1,b2,this]
  have b2:=Decidable.not_not.1 b2
  by_cases b3:(f.base.length:Int)=0
  · have:checkField f=1:=bad (by
      have:baseOk f.base=false:=by simp only [baseOk,Bool.and_eq_false_iff,decide_eq_false_iff_not];left;omega
      simp [goodB,this])
    simp only [go_sem,f5,a1,a2,a3,b0,hw,b1,b2,b3,this]
  cases b4:inR f.ripe 1 10 with
  | false=>
    have:checkField f=1:=bad (by simp [goodB,numbersOk,b4])
    simp only [go_sem,f5,a1,a2,a3,b0,hw,b1,b2,b3,rIn,b4,this]
  | true=>
  cases b5:inR f.late 0 50 with
  | false=>
    have:checkField f=1:=bad (by simp [goodB,numbersOk,b5])
    simp only [go_sem,f5,a1,a2,a3,b0,hw,b1,b2,b3,rIn,b4,b5,this]
  | true=>
  cases b6:inR f.trod 0 100 with
  | false=>
    have:checkField f=1:=bad (by simp [goodB,numbersOk,b6])
    simp only [go_sem,f5,a1,a2,a3,b0,hw,b1,b2,b3,rIn,b4,b5,b6,this]
  | true=>
  cases b7:planOk f.last f.base f.crops with
  | false=>
    have:checkField f=1:=bad (by simp [goodB,b7])
    simp only [go_sem,f5,a1,a2,a3,b0,hw,b1,b2,b3,rIn,b4,b5,b6,hIP,b7,this]
  | true=>
  simp only [go_sem,f5,a1,a2,a3,b0,hw,b1,b2,b3,rIn,b4,b5,b6,hIP,b7]
  have hno:∀{P:Prop},(goodB f=true→False)→checkField f=1:=fun h=>bad (by
    cases hg:goodB f with
    | false=>rfl
    | true=>exact (h hg).elim)
  have hgl:goodB f=true→(∀r∈f.growth,rgOf r.lo r.hi 50=true)∧(∀n∈f.wet,inR n 0 2=true)∧baseOk f.base=true∧∀k∈f.looks,lookOk f.last k=true:=fun h=>by
    simp only [goodB,Bool.and_eq_true,List.all_eq_true] at h
    exact ⟨h.2.2.2.2.2.1,h.2.2.2.2.2.2.1,h.2.2.2.1,h.2.2.2.2.2.2.2⟩
  refine RX_forC f.growth.length (fun k=>[(3,.c (.int .i64 k))]) (fun k=>∀i,i<k→rgOf (f.growth.getD i default).lo (f.growth.getD i default).hi 50=true∧inR (f.wet.getD i default) 0 2=true) rfl (fun i h=>by omega) (by simp only [go_sem]<;>rfl) ?_
  intro k hk hP
  by_cases hlt:k<f.growth.length
  · have e4:IntKind.i64.wrap ((k:Int)+1)=((k+1:Nat):Int):=wrap_succ (n:=3000) (by omega) (by decide)
    have hle:(k:Int)≤f.last:=by omega
    have q2:k<f.wet.length:=by omega
    have m1:f.growth.getD k default∈f.growth:=by rw [getD_lt _ _ _ hlt];exact List.getElem_mem hlt
    have m2:f.wet.getD k default∈f.wet:=by rw [getD_lt _ _ _ q2];exact List.getElem_mem q2
    have hro:∀lo hi:Int,(decide (0≤lo)&&(decide (lo≤hi)&&decide (hi≤50)))=rgOf lo hi 50:=fun _ _=>rfl
    cases h1:rgOf (f.growth.getD k default).lo (f.growth.getD k default).hi 50 with
    | false=>
      have:checkField f=1:=hno (P:=True) fun h=>by rw [(hgl h).1 _ m1] at h1;cases h1
      simp only [go_sem,hlt,hle,q2,atI_nat,rWithin,hro,h1,this]
    | true=>
      cases h2:inR (f.wet.getD k default) 0 2 with
      | false=>
        have:checkField f=1:=hno (P:=True) fun h=>by rw [(hgl h).2.1 _ m2] at h2;cases h2
        simp only [go_sem,hlt,hle,q2,atI_nat,rWithin,hro,rIn,h1,h2,this]
      | true=>
        simp only [go_sem,hlt,hle,q2,atI_nat,rWithin,hro,rIn,h1,h2,e4]
        intro i hi
        by_cases hik:i=k
        · subst hik;exact ⟨h1,h2⟩
        · exact hP i (by omega)
  have hke:k=f.growth.length:=by omega
  subst hke
  have hle:¬(f.growth.length:Int)≤f.last:=by omega
  have hG:f.growth.all (fun r=>rgOf r.lo r.hi 50)=true:=by
    rw [List.all_eq_true];intro x hx
    obtain ⟨i,hi,rfl⟩:=List.getElem_of_mem hx
    have:=(hP i hi).1
    rwa [getD_lt _ _ _ hi] at this
  have hW:f.wet.all (fun n=>inR n 0 2)=true:=by
    rw [List.all_eq_true];intro x hx
    obtain ⟨i,hi,rfl⟩:=List.getElem_of_mem hx
    have:=(hP i (by omega)).2
    rwa [getD_lt _ _ _ hi] at this
  clear hP hk
  simp only [go_sem,hle]
  refine RX_forC f.base.length (fun k=>[(4,.c (.int .i64 k))]) (fun k=>∀i,i<k→(0≤f.base.getD i default∧f.base.getD i default≤200)∧(0<i→f.base.getD i default≤f.base.getD (i-1) default)) rfl (fun i h=>by omega) (by simp only [go_sem]<;>rfl) ?_
  intro k hk hP
  by_cases hlt:k<f.base.length
  · have e4:IntKind.i64.wrap ((k:Int)+1)=((k+1:Nat):Int):=wrap_succ (n:=3000) (by omega) (by decide)
    cases h1:inR (f.base.getD k default) 0 200 with
    | false=>
      have:checkField f=1:=hno (P:=True) fun h=>by
        rw [←Bool.not_eq_true,inR_iff] at h1
        exact h1 ((baseOk_iff.1 (hgl h).2.2.1).2 k hlt).1
      simp only [go_sem,hlt,atI_nat,rIn,h1,this]
    | true=>
      by_cases hk0:k=0
      · subst hk0
        have hl0:(0:Int)<f.base.length:=by omega
        have ha0:atI f.base 0=f.base.getD 0 default:=rfl
        simp only [go_sem,hlt,atI_nat,rIn,h1,gt_iff_lt,e4,hl0,ha0]
        rw [inR_iff] at h1
        intro i hi
        have:i=0:=by omega
        subst this
        exact ⟨h1,fun h=>by omega⟩
      · have hkp:(0:Int)<(k:Int):=by omega
        have hkw:IntKind.i64.wrap ((k:Int)-1)=((k-1:Nat):Int):=by rw [wrapB (by omega) (by omega)];omega
        have k1:k-1<f.base.length:=by omega
        by_cases hgt:f.base.getD (k-1) default<f.base.getD k default
        · have:checkField f=1:=hno (P:=True) fun h=>by
            have:=((baseOk_iff.1 (hgl h).2.2.1).2 k hlt).2 (by omega)
            omega
          simp only [go_sem,hlt,atI_nat,rIn,h1,gt_iff_lt,hkp,hkw,k1,hgt,this]
        · simp only [go_sem,hlt,atI_nat,rIn,h1,gt_iff_lt,hkp,hkw,k1,hgt,e4]
          rw [inR_iff] at h1
          intro i hi
          by_cases hik:i=k
          · subst hik;exact ⟨h1,fun _=>by omega⟩
          · exact hP i (by omega)
  have hke:k=f.base.length:=by omega
  subst hke
  have hB:baseOk f.base=true:=baseOk_iff.2 ⟨by omega,hP⟩
  clear hP hk
  simp only [go_sem,hlt]
  refine RX_forC f.looks.length (fun k=>[(5,.c (.int .i64 k))]) (fun k=>∀i,i<k→lookOk f.last (f.looks.getD i default)=true) rfl (fun i h=>by omega) (by simp only [go_sem]<;>rfl) ?_
  intro k hk hP
  by_cases hlt:k<f.looks.length
  · have e4:IntKind.i64.wrap ((k:Int)+1)=((k+1:Nat):Int):=wrap_succ (n:=3000) (by omega) (by decide)
    have m1:f.looks.getD k default∈f.looks:=by rw [getD_lt _ _ _ hlt];exact List.getElem_mem hlt
    have hlo:lookOk f.last (f.looks.getD k default)=(inR (f.looks.getD k default).week 0 f.last&&rgOf (f.looks.getD k default).w.lo (f.looks.getD k default).w.hi 1000):=rfl
    have hro:∀lo hi:Int,(decide (0≤lo)&&(decide (lo≤hi)&&decide (hi≤1000)))=rgOf lo hi 1000:=fun _ _=>rfl
    cases h1:inR (f.looks.getD k default).week 0 f.last with
    | false=>
      have:checkField f=1:=hno (P:=True) fun h=>by
        have:=(hgl h).2.2.2 _ m1
        rw [hlo,h1] at this;cases this
      simp only [go_sem,hlt,atI_nat,rIn,h1,this]
    | true=>
      cases h2:rgOf (f.looks.getD k default).w.lo (f.looks.getD k default).w.hi 1000 with
      | false=>
        have:checkField f=1:=hno (P:=True) fun h=>by
          have:=(hgl h).2.2.2 _ m1
          rw [hlo,h1,h2] at this;cases this
        simp only [go_sem,hlt,atI_nat,rIn,rWithin,hro,h1,h2,this]
      | true=>
        simp only [go_sem,hlt,atI_nat,rIn,rWithin,hro,h1,h2,e4]
        intro i hi
        by_cases hik:i=k
        · subst hik;rw [hlo,h1,h2];rfl
        · exact hP i (by omega)
  have hke:k=f.looks.length:=by omega
  subst hke
  have hLk:f.looks.all (lookOk f.last)=true:=by
    rw [List.all_eq_true];intro x hx
    obtain ⟨i,hi,rfl⟩:=List.getElem_of_mem hx
    have:=hP i hi
    rwa [getD_lt _ _ _ hi] at this
  have hgood:goodB f=true:=by
    have hn:numbersOk f.last f.ripe f.late f.trod=true:=by simp only [numbersOk,b4,b5,b6,Bool.and_true,decide_eq_true_eq];omega
    simp only [goodB,hn,b1,b2,hB,b7,hG,hW,hLk,decide_true,Bool.and_self]
  have hro:RgsOk f.growth f.wet:=by
    simp only [List.all_eq_true,rgOf,Bool.and_eq_true,decide_eq_true_eq,inR_iff] at hG hW
    exact ⟨hG,hW,by omega,c1⟩
  rw [if_neg (by rw [hgood];simp)] at hce
  have hml:manyL (rangesL f.growth f.wet)=((min (prodN f.growth*prodN (f.wet.map wetR)) 2001:Nat):Int):=by
    have:=many_min (rs:=rangesL f.growth f.wet) (m:=1) (fun r hr=>by
      simp only [rangesL,List.mem_append,List.mem_map] at hr
      rcases hr with hr | ⟨n,hn,rfl⟩
      · have:=hro.g r hr;omega
      · have:=hro.w n hn
        unfold wetR
        split
        · exact ⟨by show (-100000:Int)≤0;omega,by show (0:Int)≤1;omega,by show (1:Int)≤100000;omega⟩
        · exact ⟨by show -100000≤n;omega,Int.le_refl _,by show n≤100000;omega⟩) (by omega) (by omega)
    rw [Nat.one_mul,rangesL,prodN_append] at this
    exact this
  have hmr:((manyR f.growth f.wet:Nat):Int)>2000↔manyL (rangesL f.growth f.wet)>2000:=by
    rw [hml];unfold manyR;omega
  by_cases hmm:manyL (rangesL f.growth f.wet)>2000
  · rw [if_pos hmm] at hce
    have:=hmr.2 hmm
    simp only [go_sem,hlt,rMany hro,this,hce]
  · rw [if_neg hmm] at hce
    have hn2:¬((manyR f.growth f.wet:Nat):Int)>2000:=fun h=>hmm (hmr.1 h)
    simp only [go_sem,hlt,rMany hro,hn2,hce])
end Am.Cr
namespace Am.Cr
open Go Am Am.Tm
set_option maxRecDepth 100000
set_option maxHeartbeats 4000000
set_option linter.unusedSimpArgs false
set_option linter.unusedVariables false
variable {g1 g2 g3 g4 g5:Bool × Bool} {f:Field}
def szN (r:Rg):Nat:=(r.hi+1-r.lo).toNat
def nthK (f:Field) (n:Nat):Nat→List Int × List Int × Nat
  | 0=>([],[],n)
  | k+1=>((nthK f n k).1++[(f.growth.getD k default).lo+((nthK f n k).2.2 % szN (f.growth.getD k default):Nat)],
      (nthK f n k).2.1++[if f.wet.getD k default=2 then (((nthK f n k).2.2 / szN (f.growth.getD k default) % 2:Nat):Int) else f.wet.getD k default],
      if f.wet.getD k default=2 then (nthK f n k).2.2 / szN (f.growth.getD k default) / 2 else (nthK f n k).2.2 / szN (f.growth.getD k default))
def nthT (f:Field) (n:Nat):Truth:=⟨(nthK f n f.growth.length).1,(nthK f n f.growth.length).2.1⟩
theorem nthK_len {n k:Nat}:(nthK f n k).1.length=k∧(nthK f n k).2.1.length=k:=by
  induction k with
  | zero=>exact ⟨rfl,rfl⟩
  | succ k ih=>simp only [nthK,List.length_append,ih.1,ih.2,List.length_cons,List.length_nil,Nat.zero_add,and_self]
theorem nthK_le {n k:Nat}:(nthK f n k).2.2≤n:=by
  induction k with
  | zero=>exact Nat.le_refl _
  | succ k ih=>
    have h1:(nthK f n k).2.2 / szN (f.growth.getD k default)≤n:=Nat.le_trans (Nat.div_le_self _ _) ih
    simp only [nthK]
    split
    · exact Nat.le_trans (Nat.div_le_self _ _) h1
    · exact h1
theorem rNth (ho:RgsOk f.growth f.wet) {n:Nat} (hn:n≤100000) {Q:V→Prop}:CallP tab 28 [fieldV g1 g2 g3 g4 g5 f,.c (.int .i64 n)] Q↔Q (.agg [L (false,false) (nthT f n).growth,L (false,false) (nthT f n).wet]):=CallP_of (by
  refine Val_X (fn:=f28) rfl ?_
  have hb:=ho.b
  have hl:=ho.l
  simp only [go_sem,f28]
  refine RX_for f.growth.length (fun k=>[(1,.c (.int .i64 ((nthK f n k).2.2:Nat))),(6,.c (.int .i64 k))]) (fun k=>[.cells (fieldC g1 g2 g3 g4 g5 f.last f.growth f.wet f.base f.crops f.ripe f.late f.trod f.looks),.cells [.nils,.nils],.cells [.sl 3 k 0 k,.sl 4 k 0 k],.arr false k 1 ((nthK f n k).1.map Row.row),.arr false k 1 ((nthK f n k).2.1.map Row.row)]) (fun _=>True) trivial (by simp only [go_sem]<;>exact ⟨rfl,rfl,rfl⟩) ?_
  intro k hk _
  by_cases hlt:k<f.growth.length
  · have e4:IntKind.i64.wrap ((k:Int)+1)=((k+1:Nat):Int):=wrap_succ (n:=3000) (by omega) (by decide)
    have q2:k<f.wet.length:=by omega
    have hr:=ho.g (f.growth.getD k default) (by rw [getD_lt _ _ _ hlt];exact List.getElem_mem hlt)
    have hw:=ho.w (f.wet.getD k default) (by rw [getD_lt _ _ _ q2];exact List.getElem_mem q2)
    have hle:=nthK_le (f:=f) (n:=n) (k:=k)
    obtain ⟨hg1,hg2⟩:=nthK_len (f:=f) (n:=n) (k:=k)
    have hz:sizeI (f.growth.getD k default).lo (f.growth.getD k default).hi=(szN (f.growth.getD k default):Nat):=by
      unfold sizeI szN
      rw [wrapB (n:=(f.growth.getD k default).hi-(f.growth.getD k default).lo) (by omega) (by omega),wrapB (by omega) (by omega)];omega
    have hz1:1≤szN (f.growth.getD k default):=by unfold szN;omega
    obtain ⟨z,hz0⟩:∃z,z=szN (f.growth.getD k default):=⟨_,rfl⟩
    obtain ⟨m,hm0⟩:∃m,m=(nthK f n k).2.2:=⟨_,rfl⟩
    rw [←hm0] at hle
    rw [←hz0] at hz hz1
    have hmod:m % z<z:=Nat.mod_lt _ hz1
    have hdl:m / z≤m:=Nat.div_le_self _ _
    have t1:(m:Int).tmod (z:Int)=((m % z:Nat):Int):=rfl
    have t2:(m:Int).tdiv (z:Int)=((m / z:Nat):Int):=rfl
    obtain ⟨md,hmd⟩:∃md,md=m % z:=⟨_,rfl⟩
    obtain ⟨q,hq⟩:∃q,q=m / z:=⟨_,rfl⟩
    have hst:nthK f n (k+1)=((nthK f n k).1++[(f.growth.getD k default).lo+(md:Int)],(nthK f n k).2.1++[if f.wet.getD k default=2 then ((q % 2:Nat):Int) else f.wet.getD k default],if f.wet.getD k default=2 then q / 2 else q):=by
      rw [hmd,hq,hz0,hm0];rfl
    rw [←hmd] at t1 hmod
    rw [←hq] at t2 hdl
    have hz2:z≤51:=by rw [hz0];unfold szN;omega
    have c1:¬(z:Int)=0:=by omega
    have f1:IntKind.i64.wrap ((f.growth.getD k default).lo+(md:Int))=(f.growth.getD k default).lo+(md:Int):=wrapB (by omega) (by omega)
    have f2:IntKind.i64.wrap (q:Int)=(q:Int):=wrapB (by omega) (by omega)
    have b1:(k+1)*8≤2^40:=by omega
    by_cases hw2:f.wet.getD k default=2
    · have t3:(q:Int).tmod 2=((q % 2:Nat):Int):=rfl
      have t4:(q:Int).tdiv 2=((q / 2:Nat):Int):=rfl
      have f3:IntKind.i64.wrap ((q / 2:Nat):Int)=((q / 2:Nat):Int):=wrapB (by omega) (by omega)
      rw [if_pos hw2,if_pos hw2] at hst
      simp only [go_sem,hlt,q2,atI_nat,←hm0,rSize,hz,c1,t1,t2,t3,t4,f1,f2,f3,hw2,hg1,hg2,b1,e4,hst,List.map_append]
    · rw [if_neg hw2,if_neg hw2] at hst
      simp only [go_sem,hlt,q2,atI_nat,←hm0,rSize,hz,c1,t1,t2,f1,f2,hw2,hg1,hg2,b1,e4,hst,List.map_append]
  · have:k=f.growth.length:=by omega
    subst this
    obtain ⟨hg1,hg2⟩:=nthK_len (f:=f) (n:=n) (k:=f.growth.length)
    simp only [go_sem,hlt,hg1,hg2,nthT])
theorem listsF_mem : ∀{rs:List Rg} {y w:List Int},y.length=rs.length→InR rs y→w++y∈listsF rs w
  | [],y,w,hl,_=>by
    have:y=[]:=List.length_eq_zero_iff.1 hl
    subst this
    simp [listsF]
  | r::rs,y,w,hl,hi=>by
    cases y with
    | nil=>simp at hl
    | cons a y=>
      have h0:=hi 0 (by simp)
      simp only [List.getD_cons_zero] at h0
      simp only [listsF,List.mem_flatMap,List.mem_range]
      refine ⟨(a-r.lo).toNat,by omega,?_⟩
      have e:r.lo+((a-r.lo).toNat:Int)=a:=by omega
      rw [e,show w++a::y=(w++[a])++y by simp]
      exact listsF_mem (by simpa using hl) fun i h=>by
        have:=hi (i+1) (by simpa using h)
        simpa using this
theorem mem_listsA (hv:f.Valid) {t:Truth}:t∈(listsA f).map (tOf f)↔IsT f t:=by
  constructor
  · rw [List.mem_map]
    rintro ⟨w,hw,rfl⟩
    obtain ⟨y,h1,h2,h3⟩:=listsF_in hw
    rw [List.nil_append] at h1
    subst h1
    exact isT_of h2 h3
  · intro h
    have h1:=h.gl
    have h2:=h.wl
    rw [List.mem_map]
    refine ⟨t.growth++t.wet,?_,?_⟩
    · have:=listsF_mem (rs:=rangesL f.growth f.wet) (y:=t.growth++t.wet) (w:=[]) (by rw [rangesL_len,List.length_append];omega) (fun i hi=>by
        by_cases hig:i<f.growth.length
        · rw [show (t.growth++t.wet).getD i default=t.growth.getD i default by simp [List.getD_eq_getElem?_getD,List.getElem?_append,show i<t.growth.length by omega]]
          rw [show (rangesL f.growth f.wet).getD i default=f.growth.getD i default by simp [rangesL,List.getD_eq_getElem?_getD,List.getElem?_append,hig]]
          exact h.gr i (by omega)
        · obtain ⟨j,rfl⟩:∃j,i=f.growth.length+j:=⟨i-f.growth.length,by omega⟩
          have hj:j<f.wet.length:=by simp at hi;omega
          rw [show (t.growth++t.wet).getD (f.growth.length+j) default=t.wet.getD j default by rw [←h1,List.getD_eq_getElem?_getD,List.getElem?_append_right (by omega)];simp [List.getD_eq_getElem?_getD]]
          rw [show (rangesL f.growth f.wet).getD (f.growth.length+j) default=wetR (f.wet.getD j default) by simp [rangesL,List.getD_eq_getElem?_getD,List.getElem?_append,hj]]
          exact h.wr j (by omega))
      rwa [List.nil_append] at this
    · unfold tOf
      rw [←h1,List.take_left,List.drop_left]
def numL : List Rg→List Int→List Int→List Int→Nat
  | r::rs,w::ws,a::as,b::bs=>(a-r.lo).toNat+szN r*(if w=2 then b.toNat+2*numL rs ws as bs else numL rs ws as bs)
  | _,_,_,_=>0
theorem numL_lt : ∀{rs:List Rg} {ws as bs:List Int},ws.length=rs.length→as.length=rs.length→bs.length=rs.length→(∀r∈rs,r.lo≤r.hi)→InR rs as→InR (ws.map wetR) bs→numL rs ws as bs<prodN rs*prodN (ws.map wetR)
  | [],ws,as,bs,h1,h2,h3,_,_,_=>by
    have:ws=[]:=List.length_eq_zero_iff.1 h1
    subst this
    exact (by decide:(0:Nat)<1*1)
  | r::rs,[],_,_,h1,_,_,_,_,_=>by simp at h1
  | r::rs,_::_,[],_,_,h2,_,_,_,_=>by simp at h2
  | r::rs,_::_,_::_,[],_,_,h3,_,_,_=>by simp at h3
  | r::rs,w::ws,a::as,b::bs,h1,h2,h3,hr,ha,hb=>by
    have ih:=numL_lt (rs:=rs) (ws:=ws) (as:=as) (bs:=bs) (by simpa using h1) (by simpa using h2) (by simpa using h3) (fun x hx=>hr x (by simp [hx])) (fun i hi=>by simpa using ha (i+1) (by simpa using hi)) (fun i hi=>by simpa using hb (i+1) (by simpa using hi))
    have a0:=ha 0 (by simp)
    have b0:=hb 0 (by simp)
    simp only [List.getD_cons_zero,List.map_cons] at a0 b0
    have hz:1≤szN r:=by have:=hr r (by simp);unfold szN;omega
    have haz:(a-r.lo).toNat+1≤szN r:=by unfold szN;omega
    have e:prodN (r::rs)*prodN ((w::ws).map wetR)=szN r*(szN (wetR w)*(prodN rs*prodN (ws.map wetR))):=by
      show szN r*prodN rs*(szN (wetR w)*prodN (ws.map wetR))=_
      rw [Nat.mul_assoc,Nat.mul_left_comm (prodN rs)]
    rw [e,numL]
    generalize prodN rs*prodN (ws.map wetR)=p at ih
    generalize numL rs ws as bs=m at ih
    have key:∀x y:Nat,x+1≤y→(a-r.lo).toNat+szN r*x<szN r*y:=by
      intro x y hxy
      have:szN r*(x+1)≤szN r*y:=Nat.mul_le_mul_left _ hxy
      rw [Nat.mul_succ] at this
      omega
    apply key
    by_cases hw:w=2
    · subst hw
      rw [if_pos rfl]
      have h2:szN (wetR 2)=2:=rfl
      have b1:b≤1:=b0.2
      rw [h2];omega
    · rw [if_neg hw]
      have h2:szN (wetR w)=1:=by unfold wetR szN;rw [if_neg hw];simp only;omega
      rw [h2];omega
theorem nthK_num {A B:List Int} (hw:f.wet.length=f.growth.length) (hA:A.length=f.growth.length) (hB:B.length=f.growth.length) (hr:∀r∈f.growth,r.lo≤r.hi) (ha:InR f.growth A) (hb:InR (f.wet.map wetR) B):∀{k:Nat},k≤f.growth.length→nthK f (numL f.growth f.wet A B) k=(A.take k,B.take k,numL (f.growth.drop k) (f.wet.drop k) (A.drop k) (B.drop k))
  | 0,_=>by simp [nthK]
  | k+1,hk=>by
    have ih:=nthK_num hw hA hB hr ha hb (k:=k) (by omega)
    have k1:k<f.growth.length:=by omega
    have k2:k<f.wet.length:=by omega
    have k3:k<A.length:=by omega
    have k4:k<B.length:=by omega
    have e1:f.growth.drop k=f.growth.getD k default::f.growth.drop (k+1):=by rw [List.drop_eq_getElem_cons k1,getD_lt _ _ _ k1]
    have e2:f.wet.drop k=f.wet.getD k default::f.wet.drop (k+1):=by rw [List.drop_eq_getElem_cons k2,getD_lt _ _ _ k2]
    have e3:A.drop k=A.getD k default::A.drop (k+1):=by rw [List.drop_eq_getElem_cons k3,getD_lt _ _ _ k3]
    have e4:B.drop k=B.getD k default::B.drop (k+1):=by rw [List.drop_eq_getElem_cons k4,getD_lt _ _ _ k4]
    have a0:=ha k k3
    have b0:=hb k k4
    rw [show (f.wet.map wetR).getD k default=wetR (f.wet.getD k default) by simp [List.getD_eq_getElem?_getD,k2]] at b0
    have hz:(f.growth.getD k default).lo≤(f.growth.getD k default).hi:=hr _ (by rw [getD_lt _ _ _ k1];exact List.getElem_mem k1)
    rw [e1,e2,e3,e4,numL] at ih
    simp only [nthK,ih]
    rw [take_getD k3 default,take_getD k4 default]
    generalize f.growth.getD k default=r at *
    generalize f.wet.getD k default=w at *
    generalize A.getD k default=a at *
    generalize B.getD k default=b at *
    generalize numL (f.growth.drop (k+1)) (f.wet.drop (k+1)) (A.drop (k+1)) (B.drop (k+1))=m at *
    have hlt:(a-r.lo).toNat<szN r:=by unfold szN;omega
    have hm:∀x:Nat,((a-r.lo).toNat+szN r*x) % szN r=(a-r.lo).toNat:=fun x=>by rw [Nat.add_mul_mod_self_left,Nat.mod_eq_of_lt hlt]
    have hd:∀x:Nat,((a-r.lo).toNat+szN r*x) / szN r=x:=fun x=>by rw [Nat.add_mul_div_left _ _ (by omega),Nat.div_eq_of_lt hlt,Nat.zero_add]
    rw [hm,hd]
    have ea:r.lo+((a-r.lo).toNat:Int)=a:=by omega
    rw [ea]
    by_cases h2:w=2
    · subst h2
      have b1:b≤1:=b0.2
      have b2:0≤b:=b0.1
      simp only [if_true]
      refine Prod.ext rfl (Prod.ext ?_ ?_)
      · simp only;congr 2;omega
      · simp only;omega
    · simp only [if_neg h2]
      unfold wetR at b0
      rw [if_neg h2] at b0
      simp only at b0
      have:w=b:=by omega
      rw [this]
theorem nthT_isT (hv:f.Valid) {n:Nat}:IsT f (nthT f n):=by
  have v1:=hv.growth
  have v2:=hv.wet
  obtain ⟨hg1,hg2⟩:=nthK_len (f:=f) (n:=n) (k:=f.growth.length)
  have key:∀k,k≤f.growth.length→∀i,i<k→((f.growth.getD i default).lo≤(nthK f n k).1.getD i default∧(nthK f n k).1.getD i default≤(f.growth.getD i default).hi)∧((wetR (f.wet.getD i default)).lo≤(nthK f n k).2.1.getD i default∧(nthK f n k).2.1.getD i default≤(wetR (f.wet.getD i default)).hi):=by
    intro k
    induction k with
    | zero=>intro _ i hi;omega
    | succ k ih=>
      intro hk i hi
      obtain ⟨l1,l2⟩:=nthK_len (f:=f) (n:=n) (k:=k)
      simp only [nthK]
      by_cases hik:i=k
      · subst hik
        have hr:=hv.growths (f.growth.getD i default) (by rw [getD_lt _ _ _ (by omega)];exact List.getElem_mem _)
        have hz:1≤szN (f.growth.getD i default):=by unfold szN;omega
        have hm:(nthK f n i).2.2 % szN (f.growth.getD i default)<szN (f.growth.getD i default):=Nat.mod_lt _ hz
        have g1:∀x,((nthK f n i).1++[x]).getD i default=x:=fun x=>by rw [List.getD_eq_getElem?_getD,List.getElem?_append_right (by omega),l1];simp
        have g2:∀x,((nthK f n i).2.1++[x]).getD i default=x:=fun x=>by rw [List.getD_eq_getElem?_getD,List.getElem?_append_right (by omega),l2];simp
        rw [g1,g2]
        refine ⟨by unfold szN at hm ⊢;omega,?_⟩
        unfold wetR
        split
        · exact ⟨by show (0:Int)≤_;omega,by show _≤(1:Int);omega⟩
        · exact ⟨Int.le_refl _,Int.le_refl _⟩
      · have:=ih (by omega) i (by omega)
        have g1:∀x,((nthK f n k).1++[x]).getD i default=(nthK f n k).1.getD i default:=fun x=>by rw [List.getD_eq_getElem?_getD,List.getElem?_append_left (by omega),←List.getD_eq_getElem?_getD]
        have g2:∀x,((nthK f n k).2.1++[x]).getD i default=(nthK f n k).2.1.getD i default:=fun x=>by rw [List.getD_eq_getElem?_getD,List.getElem?_append_left (by omega),←List.getD_eq_getElem?_getD]
        rw [g1,g2];exact this
  exact ⟨by show (nthK f n f.growth.length).1.length=_;omega,by show (nthK f n f.growth.length).2.1.length=_;omega,fun i hi=>(key _ (Nat.le_refl _) i (by have:i<(nthK f n f.growth.length).1.length:=hi;omega)).1,fun i hi=>(key _ (Nat.le_refl _) i (by have:i<(nthK f n f.growth.length).2.1.length:=hi;omega)).2⟩
def prodF (f:Field):Nat:=prodN f.growth*prodN (f.wet.map wetR)
theorem isT_nth (hv:f.Valid) {t:Truth} (h:IsT f t):∃n,n<prodF f∧nthT f n=t:=by
  have v1:=hv.growth
  have v2:=hv.wet
  have h1:=h.gl
  have h2:=h.wl
  have ha:InR f.growth t.growth:=h.gr
  have hb:InR (f.wet.map wetR) t.wet:=fun i hi=>by
    rw [show (f.wet.map wetR).getD i default=wetR (f.wet.getD i default) by simp [List.getD_eq_getElem?_getD,show i<f.wet.length by omega]]
    exact h.wr i hi
  have hr:∀r∈f.growth,r.lo≤r.hi:=fun r hr=>(hv.growths r hr).2.1
  refine ⟨numL f.growth f.wet t.growth t.wet,numL_lt (by omega) h1 (by omega) hr ha hb,?_⟩
  have:=nthK_num (f:=f) (A:=t.growth) (B:=t.wet) (by omega) h1 (by omega) hr ha hb (Nat.le_refl _)
  unfold nthT
  rw [this]
  simp only
  rw [List.take_of_length_le (by omega),List.take_of_length_le (by omega)]
theorem prodF_le (hv:f.Valid):prodF f≤2000∧prodF f=prodN (rangesL f.growth f.wet):=by
  have:=hv.prod.1
  rw [rangesL,prodN_append] at this
  exact ⟨this,by rw [rangesL,prodN_append];rfl⟩
theorem prodF_pos (hv:f.Valid):1≤prodF f:=by
  rw [(prodF_le hv).2]
  exact prodN_pos fun r hr=>(hv.rgs.2 r hr).2.1
theorem manyR_eq (hv:f.Valid):manyR f.growth f.wet=prodF f:=by
  have:=(prodF_le hv).1
  unfold manyR prodF at *
  omega
theorem rgsOk_of (hv:f.Valid):RgsOk f.growth f.wet:=⟨hv.growths,hv.wets,by have:=hv.growth;have:=hv.wet;omega,by have:=hv.growth;have:=hv.last9;omega⟩
end Am.Cr
