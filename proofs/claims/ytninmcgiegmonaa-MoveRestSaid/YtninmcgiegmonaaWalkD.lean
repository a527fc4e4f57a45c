/-
  A part of the proof: the texts M18, M19, M20, M21, M22, M23, M24 of this seat, joined.
-/
import Derived.Test.YtninmcgiegmonaaWalkC
namespace Am.Mv
open Go Am Am.Tm
set_option maxRecDepth 1000000
set_option maxHeartbeats 4000000
set_option linter.unusedSimpArgs false
set_option linter.unusedVariables false
def bitsL (n:Nat):List Int:=((List.range 5).filter fun p=>n.testBit p).map fun (p:Nat)=>(p:Int)
theorem bits0 : evP tab 40 39 [.c (.int .i64 0)]=some (.c (L (false,false) (bitsL 0))):=by kernel_rfl
theorem bits1 : evP tab 40 39 [.c (.int .i64 1)]=some (.c (L (false,false) (bitsL 1))):=by kernel_rfl
theorem bits2 : evP tab 40 39 [.c (.int .i64 2)]=some (.c (L (false,false) (bitsL 2))):=by kernel_rfl
theorem bits3 : evP tab 40 39 [.c (.int .i64 3)]=some (.c (L (false,false) (bitsL 3))):=by kernel_rfl
theorem bits4 : evP tab 40 39 [.c (.int .i64 4)]=some (.c (L (false,false) (bitsL 4))):=by kernel_rfl
theorem bits5 : evP tab 40 39 [.c (.int .i64 5)]=some (.c (L (false,false) (bitsL 5))):=by kernel_rfl
theorem bits6 : evP tab 40 39 [.c (.int .i64 6)]=some (.c (L (false,false) (bitsL 6))):=by kernel_rfl
theorem bits7 : evP tab 40 39 [.c (.int .i64 7)]=some (.c (L (false,false) (bitsL 7))):=by kernel_rfl
theorem bits8 : evP tab 40 39 [.c (.int .i64 8)]=some (.c (L (false,false) (bitsL 8))):=by kernel_rfl
theorem bits9 : evP tab 40 39 [.c (.int .i64 9)]=some (.c (L (false,false) (bitsL 9))):=by kernel_rfl
theorem bits10 : evP tab 40 39 [.c (.int .i64 10)]=some (.c (L (false,false) (bitsL 10))):=by kernel_rfl
theorem bits11 : evP tab 40 39 [.c (.int .i64 11)]=some (.c (L (false,false) (bitsL 11))):=by kernel_rfl
theorem bits12 : evP tab 40 39 [.c (.int .i64 12)]=some (.c (L (false,false) (bitsL 12))):=by kernel_rfl
theorem bits13 : evP tab 40 39 [.c (.int .i64 13)]=some (.c (L (false,false) (bitsL 13))):=by kernel_rfl
theorem bits14 : evP tab 40 39 [.c (.int .i64 14)]=some (.c (L (false,false) (bitsL 14))):=by kernel_rfl
theorem bits15 : evP tab 40 39 [.c (.int .i64 15)]=some (.c (L (false,false) (bitsL 15))):=by kernel_rfl
theorem bits16 : evP tab 40 39 [.c (.int .i64 16)]=some (.c (L (false,false) (bitsL 16))):=by kernel_rfl
theorem bits17 : evP tab 40 39 [.c (.int .i64 17)]=some (.c (L (false,false) (bitsL 17))):=by kernel_rfl
theorem bits18 : evP tab 40 39 [.c (.int .i64 18)]=some (.c (L (false,false) (bitsL 18))):=by kernel_rfl
theorem bits19 : evP tab 40 39 [.c (.int .i64 19)]=some (.c (L (false,false) (bitsL 19))):=by kernel_rfl
theorem bits20 : evP tab 40 39 [.c (.int .i64 20)]=some (.c (L (false,false) (bitsL 20))):=by kernel_rfl
theorem bits21 : evP tab 40 39 [.c (.int .i64 21)]=some (.c (L (false,false) (bitsL 21))):=by kernel_rfl
theorem bits22 : evP tab 40 39 [.c (.int .i64 22)]=some (.c (L (false,false) (bitsL 22))):=by kernel_rfl
theorem bits23 : evP tab 40 39 [.c (.int .i64 23)]=some (.c (L (false,false) (bitsL 23))):=by kernel_rfl
theorem bits24 : evP tab 40 39 [.c (.int .i64 24)]=some (.c (L (false,false) (bitsL 24))):=by kernel_rfl
theorem bits25 : evP tab 40 39 [.c (.int .i64 25)]=some (.c (L (false,false) (bitsL 25))):=by kernel_rfl
theorem bits26 : evP tab 40 39 [.c (.int .i64 26)]=some (.c (L (false,false) (bitsL 26))):=by kernel_rfl
theorem bits27 : evP tab 40 39 [.c (.int .i64 27)]=some (.c (L (false,false) (bitsL 27))):=by kernel_rfl
theorem bits28 : evP tab 40 39 [.c (.int .i64 28)]=some (.c (L (false,false) (bitsL 28))):=by kernel_rfl
theorem bits29 : evP tab 40 39 [.c (.int .i64 29)]=some (.c (L (false,false) (bitsL 29))):=by kernel_rfl
theorem bits30 : evP tab 40 39 [.c (.int .i64 30)]=some (.c (L (false,false) (bitsL 30))):=by kernel_rfl
theorem bits31 : evP tab 40 39 [.c (.int .i64 31)]=some (.c (L (false,false) (bitsL 31))):=by kernel_rfl
theorem Val_of_evP {G:Nat→Option AFunc} {n k:Nat} {as:List V} {v:V} (h:evP G n k as=some v):Val G k as v:=by
  unfold evP at h
  cases he:ev G n (.p k as) with
  | none=>rw [he] at h;cases h
  | some z=>
    obtain ⟨v',h'⟩:=z
    rw [he] at h
    injection h with h
    simp only at h
    subst h
    have hh:h'=[]:=by
      cases n with
      | zero=>cases he
      | succ n=>
        simp only [ev,evBody] at he
        repeat' (split at he)
        all_goals first
          | (cases he;done)
          | (cases he;rfl)
    subst hh
    exact ⟨n,he⟩
theorem P88 {k:Nat} (hk:k<32) {Q:V→Prop}:CallP tab 39 [.c (.int .i64 (k:Int))] Q↔Q (.c (L (false,false) (bitsL k))):=CallP_of (by
  match k,hk with
  | 0,_=>exact Val_of_evP bits0
  | 1,_=>exact Val_of_evP bits1
  | 2,_=>exact Val_of_evP bits2
  | 3,_=>exact Val_of_evP bits3
  | 4,_=>exact Val_of_evP bits4
  | 5,_=>exact Val_of_evP bits5
  | 6,_=>exact Val_of_evP bits6
  | 7,_=>exact Val_of_evP bits7
  | 8,_=>exact Val_of_evP bits8
  | 9,_=>exact Val_of_evP bits9
  | 10,_=>exact Val_of_evP bits10
  | 11,_=>exact Val_of_evP bits11
  | 12,_=>exact Val_of_evP bits12
  | 13,_=>exact Val_of_evP bits13
  | 14,_=>exact Val_of_evP bits14
  | 15,_=>exact Val_of_evP bits15
  | 16,_=>exact Val_of_evP bits16
  | 17,_=>exact Val_of_evP bits17
  | 18,_=>exact Val_of_evP bits18
  | 19,_=>exact Val_of_evP bits19
  | 20,_=>exact Val_of_evP bits20
  | 21,_=>exact Val_of_evP bits21
  | 22,_=>exact Val_of_evP bits22
  | 23,_=>exact Val_of_evP bits23
  | 24,_=>exact Val_of_evP bits24
  | 25,_=>exact Val_of_evP bits25
  | 26,_=>exact Val_of_evP bits26
  | 27,_=>exact Val_of_evP bits27
  | 28,_=>exact Val_of_evP bits28
  | 29,_=>exact Val_of_evP bits29
  | 30,_=>exact Val_of_evP bits30
  | 31,_=>exact Val_of_evP bits31
  | k+32,h=>exact absurd h (by omega))
end Am.Mv
namespace Am.Mv
open Go Am Am.Tm
set_option maxRecDepth 100000
set_option maxHeartbeats 4000000
set_option linter.unusedSimpArgs false
set_option linter.unusedVariables false
variable {l:Land} {g1 g2:Bool × Bool}
def beforeL : List Int→List Int→Bool
  | [],b=>decide (0<b.length)
  | _::_,[]=>false
  | a::as,b::bs=>if a=b then beforeL as bs else decide (a<b)
def shorterL (a b:List Int):Bool:=decide (a.length<b.length)||(decide (a.length=b.length)&&beforeL a b)
def wthK (l:Land) (k:Nat):List (List Int):=((List.range k).map bitsL).filter fun b=>decide ((b.length:Int)≤l.bad)
theorem wthK_succ (l:Land) (k:Nat):wthK l (k+1)=wthK l k++if ((bitsL k).length:Int)≤l.bad then [bitsL k] else []:=by
  simp only [wthK,List.range_succ,List.map_append,List.filter_append,List.map_cons,List.map_nil]
  congr 1
  by_cases h:((bitsL k).length:Int)≤l.bad<;>simp [h]
def wthR (l:Land):List (List Int):=wthK l (2^(l.last+1).toNat)
theorem P70 (hv:l.Valid) {Q:V→Prop}:CallP tab 25 [landV g1 g2 l] Q↔Q (.c (L (false,false) (wthR l))):=CallP_of (by
  refine Val_X (fn:=f25) rfl ?_
  have l0:=hv.last0
  have l4:=hv.last4
  have hsh:∃n:Nat,n=2^(l.last+1).toNat∧n≤32:=⟨_,rfl,by
    have:(l.last+1).toNat≤5:=by omega
    exact Nat.le_trans (Nat.pow_le_pow_right (by decide) this) (by decide)⟩
  obtain ⟨n,hn,hn2⟩:=hsh
  have w1:IntKind.i64.wrap (l.last+1)=l.last+1:=wrapB (by omega) (by omega)
  have w2:IntKind.u64.wrap (l.last+1)=l.last+1:=by simp [IntKind.wrap,IntKind.bits,IntKind.signed];omega
  have w3:¬(l.last+1<0):=by omega
  have w4:IntKind.i64.wrap (1*2^min (l.last+1).toNat IntKind.i64.bits)=(n:Int):=by
    rw [Int.one_mul,Nat.min_eq_left (by simp [IntKind.bits];omega),hn]
    rw [wrapB]
    · rw [Int.natCast_pow];rfl
    · have:(0:Int)≤2^(l.last+1).toNat:=Int.pow_nonneg (by decide)
      omega
    · have:((2^(l.last+1).toNat:Nat):Int)≤32:=by omega
      rw [Int.natCast_pow] at this
      have h2:((2:Nat):Int)=2:=rfl
      rw [h2] at this
      omega
  simp only [go_sem,f25]
  refine RX_for n (fun k=>[(3,.c (.sl 1 (wthK l k).length 0 (wthK l k).length)),(4,.c (.int .i64 k))]) (fun k=>[.cells [.int .i64 l.last,.int .i64 l.home,.int .i64 l.purse,.int .i64 l.bad,.int .i64 l.rest,L g1 l.sites,L g2 l.roads],.arr false (wthK l k).length 1 ((wthK l k).map Row.row)]) (fun k=>True) trivial (by simp only [go_sem,wthK,List.range_zero,List.map_nil,List.filter_nil,List.length_nil]<;>rfl) ?_
  intro k hk _
  have hkl:(wthK l k).length≤k:=by
    have:=List.length_filter_le (fun b:List Int=>decide ((b.length:Int)≤l.bad)) ((List.range k).map bitsL)
    simpa [wthK] using this
  by_cases h1:k<n
  · have h2:k<32:=by omega
    have b7:((wthK l k).length+1)*24≤2^40:=by omega
    rw [wthK_succ]
    by_cases h3:((bitsL k).length:Int)≤l.bad
    · simp only [go_sem,w1,w2,w3,w4,h1,P88 h2,h3,wrap_succ (n:=1000) (show k<1000 by omega) (by decide),b7]
      simp only [List.map_append,List.map_cons,List.map_nil,go_sem]
    · simp only [go_sem,w1,w2,w3,w4,h1,P88 h2,h3,wrap_succ (n:=1000) (show k<1000 by omega) (by decide),List.append_nil]
  · have:k=n:=by omega
    subst this
    simp only [go_sem,w1,w2,w3,w4,h1,wthR,←hn])
theorem bitsL_len (k:Nat):(bitsL k).length≤5:=by
  simp only [bitsL,List.length_map]
  exact Nat.le_trans (List.length_filter_le _ _) (by simp)
theorem wthR_len {w:List Int} (h:w∈wthR l):w.length≤5:=by
  simp only [wthR,wthK,List.mem_filter,List.mem_map] at h
  obtain ⟨⟨k,_,rfl⟩,_⟩:=h
  exact bitsL_len k
theorem wthR_num (hv:l.Valid):(wthR l).length≤32:=by
  have h1:(wthR l).length≤2^(l.last+1).toNat:=by
    have:=List.length_filter_le (fun b:List Int=>decide ((b.length:Int)≤l.bad)) ((List.range (2^(l.last+1).toNat)).map bitsL)
    simpa [wthR,wthK] using this
  have:(l.last+1).toNat≤5:=by have:=hv.last4;omega
  exact Nat.le_trans h1 (Nat.le_trans (Nat.pow_le_pow_right (by decide) this) (by decide))
end Am.Mv
namespace Am.Mv
open Go Am Am.Tm
set_option maxRecDepth 100000
set_option maxHeartbeats 4000000
set_option linter.unusedSimpArgs false
set_option linter.unusedVariables false
variable {l:Land}
theorem atI_mem {α:Type} [Inhabited α] {a:List α} {i:Int} (h0:0≤i) (h1:i<a.length):atI a i∈a:=by
  unfold atI;rw [getD_lt _ _ _ (by omega)];exact List.getElem_mem _
theorem cost_val (hv:l.Valid) {a b:Int} (a0:0≤a) (a1:a<l.sites.length) (b0:0≤b) (b1:b<l.sites.length):costOf l.sites l.roads a b=roadAt l.roads a b+(atI l.sites b).rent∧0≤roadAt l.roads a b∧roadAt l.roads a b≤99∧0≤(atI l.sites b).rent∧(atI l.sites b).rent≤99:=by
  have hr:=hv.roads
  have h1:=(hv.road (atI l.roads a) (atI_mem a0 (by omega)))
  have h2:=h1.2 (atI (atI l.roads a) b) (atI_mem b0 (by rw [h1.1];exact b1))
  have h3:=hv.site (atI l.sites b) (atI_mem b0 b1)
  refine ⟨?_,h2.1,h2.2,h3.2.2.2.1,h3.2.2.2.2⟩
  unfold costOf
  have:roadAt l.roads a b=atI (atI l.roads a) b:=rfl
  rw [wrapB (by omega) (by omega)]
theorem crop_val (hv:l.Valid) {b:Int} (t:Int) (b0:0≤b) (b1:b<l.sites.length):0≤cropOf (atI l.sites b) t∧cropOf (atI l.sites b) t≤99∧cropB (atI l.sites b) t true=cropOf (atI l.sites b) t / 2∧cropB (atI l.sites b) t false=cropOf (atI l.sites b) t:=by
  have h3:=hv.site (atI l.sites b) (atI_mem b0 b1)
  have h4:0≤cropOf (atI l.sites b) t∧cropOf (atI l.sites b) t≤99:=by
    unfold cropOf
    split
    · omega
    · split<;>omega
  refine ⟨h4.1,h4.2,?_,rfl⟩
  show IntKind.i64.wrap ((cropOf (atI l.sites b) t).tdiv 2)=_
  rw [Int.tdiv_eq_ediv_of_nonneg h4.1,wrapB (by omega) (by omega)]
theorem cropB_val (hv:l.Valid) {b:Int} (t:Int) (c:Bool) (b0:0≤b) (b1:b<l.sites.length):0≤cropB (atI l.sites b) t c∧cropB (atI l.sites b) t c≤99:=by
  obtain ⟨h1,h2,h3,h4⟩:=crop_val hv t b0 b1
  cases c
  · rw [h4];exact ⟨h1,h2⟩
  · rw [h3];omega
theorem plan_at {plan:List Int} (hp:AreSites l plan) {k:Nat} (hk:k<plan.length):0≤plan.getD k default∧plan.getD k default<l.sites.length:=by
  rw [getD_lt _ _ _ hk];exact hp _ (List.getElem_mem _)
theorem money_next (hv:l.Valid) {ws plan:List Int} (hp:AreSites l plan) (hpl:plan.length≤100):∀k:Nat,k≤plan.length→(∀i,i<k→canAt l ws plan i=true)→0≤(stAt l ws plan k).money∧(stAt l ws plan k).money≤l.purse+99*k∧∀i,i<k→(stAt l ws plan (i+1)).money=(stAt l ws plan i).money-(yrAt l ws plan i).cost+(yrAt l ws plan i).crop∧0≤(yrAt l ws plan i).cost∧(yrAt l ws plan i).cost≤(stAt l ws plan i).money∧0≤(yrAt l ws plan i).crop∧(yrAt l ws plan i).crop≤99∧0≤(stAt l ws plan i).money
  | 0,_,_=>⟨hv.purse0,by show l.purse≤_;omega,fun i h=>absurd h (by omega)⟩
  | k+1,hk,hc=>by
    have p1:=hv.purse1
    obtain ⟨m0,m1,hi⟩:=money_next hv hp hpl k (by omega) (fun i h=>hc i (by omega))
    obtain ⟨s0,s1⟩:=stAt_site hv (bad:=ws) hp k (by omega)
    obtain ⟨b0,b1⟩:=plan_at hp (k:=k) (by omega)
    obtain ⟨c1,c2,c3,c4,c5⟩:=cost_val hv s0 s1 b0 b1
    obtain ⟨d0,d1⟩:=cropB_val hv ((stAt l ws plan k).so.taken (plan.getD k default)) (decide ((k:Int)∈ws)) b0 b1
    have hcan:costOf l.sites l.roads (stAt l ws plan k).site (plan.getD k default)≤(stAt l ws plan k).money:=of_decide_eq_true (hc k (by omega))
    have e1:(yrAt l ws plan k).cost=costOf l.sites l.roads (stAt l ws plan k).site (plan.getD k default):=rfl
    have e2:(yrAt l ws plan k).crop=cropB (atI l.sites (plan.getD k default)) ((stAt l ws plan k).so.taken (plan.getD k default)) (decide ((k:Int)∈ws)):=rfl
    have e3:(stAt l ws plan (k+1)).money=IntKind.i64.wrap (IntKind.i64.wrap ((stAt l ws plan k).money-(yrAt l ws plan k).cost)+(yrAt l ws plan k).crop):=rfl
    have hk':(k:Int)≤100:=by omega
    have e4:(stAt l ws plan (k+1)).money=(stAt l ws plan k).money-(yrAt l ws plan k).cost+(yrAt l ws plan k).crop:=by
      rw [e3,wrapB (n:=(stAt l ws plan k).money-(yrAt l ws plan k).cost) (by omega) (by omega),wrapB (by omega) (by omega)]
    refine ⟨by omega,by omega,fun i h=>?_⟩
    by_cases hik:i<k
    · exact hi i hik
    · have:i=k:=by omega
      subst this
      exact ⟨e4,by omega,by omega,by omega,by omega,m0⟩
def prof (l:Land) (plan ws:List Int):Int:=(stAt l ws plan plan.length).money-l.purse
theorem prof_val (hv:l.Valid) {ws plan:List Int} (hp:AreSites l plan) (hpl:plan.length≤100) (hf:failAt l ws plan=none):IntKind.i64.wrap ((stAt l ws plan plan.length).money-l.purse)=prof l plan ws ∧ -999≤prof l plan ws∧prof l plan ws≤9900:=by
  obtain ⟨m0,m1,_⟩:=money_next hv (ws:=ws) hp hpl plan.length (Nat.le_refl _) (failAt_none.1 hf)
  have p1:=hv.purse1
  have p0:=hv.purse0
  have e:prof l plan ws=(stAt l ws plan plan.length).money-l.purse:=rfl
  exact ⟨wrapB (by omega) (by omega),by omega,by omega⟩
def combW (last bad:Int):List (List Int):=(List.range (bad+1).toNat).flatMap fun m=>comb last m [] 0
def bitsW (last bad:Int):List (List Int):=((List.range (2^(last+1).toNat)).map bitsL).filter fun b=>decide ((b.length:Int)≤bad)
def sorted : List (List Int)→Bool
  | []=>true
  | a::l=>l.all (fun b=>shorterL a b && !shorterL b a)&&sorted l
def sameW (last bad:Int):Bool:=sorted (combW last bad)&&(combW last bad).all (fun w=>(bitsW last bad).contains w)&&(bitsW last bad).all (fun w=>(combW last bad).contains w)&&(combW last bad).contains []&&(bitsW last bad).contains []
theorem sameW_all : (List.range 5).all (fun last=>(List.range (last+2)).all fun bad=>sameW (last:Int) (bad:Int))=true:=by decide +kernel
theorem sameW_of (hv:l.Valid):sameW l.last l.bad=true:=by
  have h1:=(List.all_eq_true.1 sameW_all) l.last.toNat (by have:=hv.last4;have:=hv.last0;simp;omega)
  have h2:=(List.all_eq_true.1 h1) l.bad.toNat (by have:=hv.bad1;have:=hv.bad0;have:=hv.last0;simp;omega)
  rwa [show ((l.last.toNat:Nat):Int)=l.last by have:=hv.last0;omega,show ((l.bad.toNat:Nat):Int)=l.bad by have:=hv.bad0;omega] at h2
theorem wth_sorted (hv:l.Valid):sorted (weathersL l)=true:=by
  have:=sameW_of hv
  simp only [sameW,Bool.and_eq_true] at this
  exact this.1.1.1.1
theorem wth_mem (hv:l.Valid) (w:List Int):w∈weathersL l↔w∈wthR l:=by
  have:=sameW_of hv
  simp only [sameW,Bool.and_eq_true,List.all_eq_true,List.contains_iff_mem] at this
  exact ⟨this.1.1.1.2 w,this.1.1.2 w⟩
theorem wth_nil (hv:l.Valid):[]∈weathersL l:=by
  have:=sameW_of hv
  simp only [sameW,Bool.and_eq_true,List.all_eq_true,List.contains_iff_mem] at this
  exact this.1.2
theorem wth_any (hv:l.Valid) {a b:List Int} (ha:a∈weathersL l) (hb:b∈weathersL l):a=b∨(shorterL a b=true∧shorterL b a=false)∨(shorterL b a=true∧shorterL a b=false):=by
  have key:∀W:List (List Int),sorted W=true→a∈W→b∈W→a=b∨(shorterL a b=true∧shorterL b a=false)∨(shorterL b a=true∧shorterL a b=false):=by
    intro W
    induction W with
    | nil=>intro _ h;cases h
    | cons c W ih=>
      intro hs h1 h2
      simp only [sorted,Bool.and_eq_true,List.all_eq_true,Bool.not_eq_true'] at hs
      rcases List.mem_cons.1 h1 with rfl | h1'
      · rcases List.mem_cons.1 h2 with rfl | h2'
        · exact .inl rfl
        · exact .inr (.inl (hs.1 b h2'))
      · rcases List.mem_cons.1 h2 with rfl | h2'
        · exact .inr (.inr (hs.1 a h1'))
        · exact ih hs.2 h1' h2'
  exact key _ (wth_sorted hv) ha hb
structure IsSure (l:Land) (plan:List Int) (r:Int × List Int × Bool):Prop where
  no:r.2.2=false→∃w∈weathersL l,failAt l w plan≠none
  yes:r.2.2=true→(∀w∈weathersL l,failAt l w plan=none)∧r.2.1∈weathersL l∧r.1=prof l plan r.2.1∧∀w∈weathersL l,r.1<prof l plan w∨(r.1=prof l plan w∧shorterL w r.2.1=false)
theorem IsSure.same (hv:l.Valid) {plan:List Int} {r s:Int × List Int × Bool} (hr:IsSure l plan r) (hs:IsSure l plan s):r.2.2=s.2.2∧(r.2.2=true→r=s):=by
  obtain ⟨p,w,c⟩:=r
  obtain ⟨p',w',c'⟩:=s
  cases c with
  | false=>
    cases c' with
    | false=>exact ⟨rfl,fun h=>by cases h⟩
    | true=>
      obtain ⟨x,h1,h2⟩:=hr.no rfl
      exact absurd ((hs.yes rfl).1 x h1) h2
  | true=>
    cases c' with
    | false=>
      obtain ⟨x,h1,h2⟩:=hs.no rfl
      exact absurd ((hr.yes rfl).1 x h1) h2
    | true=>
      refine ⟨rfl,fun _=>?_⟩
      obtain ⟨_,a1,a2,a3⟩:=hr.yes rfl
      obtain ⟨_,b1,b2,b3⟩:=hs.yes rfl
      simp only at a1 a2 a3 b1 b2 b3
      have c1:=a3 w' b1
      have c2:=b3 w a1
      have hp:p=p':=by omega
      have d1:shorterL w' w=false:=by rcases c1 with h | h;omega;exact h.2
      have d2:shorterL w w'=false:=by rcases c2 with h | h;omega;exact h.2
      rcases wth_any hv a1 b1 with h | h | h
      · rw [hp,h]
      · rw [d2] at h;cases h.1
      · rw [d1] at h;cases h.1
end Am.Mv
namespace Am.Mv
open Go Am Am.Tm
set_option maxRecDepth 100000
set_option maxHeartbeats 4000000
set_option linter.unusedSimpArgs false
set_option linter.unusedVariables false
variable {l:Land}
theorem beforeL_irr : ∀a:List Int,beforeL a a=false
  | []=>rfl
  | x::a=>by simp [beforeL,beforeL_irr a]
theorem shorterL_irr (a:List Int):shorterL a a=false:=by simp [shorterL,beforeL_irr]
theorem sureStep_val (hv:l.Valid) {plan w:List Int} (hp:AreSites l plan) (hpl:plan.length≤100) (s:Int × List Int × Bool) :
    sureStep l plan s w=if failAt l w plan=none then (if s.2.2=false∨prof l plan w<s.1 then ((prof l plan w,w,true),true) else (s,true)) else ((s.1,s.2.1,false),false):=by
  unfold sureStep
  cases h:failAt l w plan with
  | some k=>rfl
  | none=>rw [if_pos rfl];simp only [(prof_val hv hp hpl h).1]
theorem sureL_go (hv:l.Valid) {plan:List Int} (hp:AreSites l plan) (hpl:plan.length≤100):∀(W:List (List Int)) (s:Int × List Int × Bool),sorted W=true →
    (s.2.2=true→∀w∈W,shorterL w s.2.1=false) →
    (((foldY (sureStep l plan) s W).1.2.2=false→(s.2.2=false∧W=[])∨∃w∈W,failAt l w plan≠none) ∧
    ((foldY (sureStep l plan) s W).1.2.2=true→(∀w∈W,failAt l w plan=none) ∧
      ((s.2.2=true∧(foldY (sureStep l plan) s W).1=s)∨((foldY (sureStep l plan) s W).1.2.1∈W∧(foldY (sureStep l plan) s W).1.1=prof l plan (foldY (sureStep l plan) s W).1.2.1∧(s.2.2=true→(foldY (sureStep l plan) s W).1.1<s.1))) ∧
      ∀w∈W,(foldY (sureStep l plan) s W).1.1<prof l plan w∨((foldY (sureStep l plan) s W).1.1=prof l plan w∧shorterL w (foldY (sureStep l plan) s W).1.2.1=false)))
  | [],s,_,_=>by
    simp only [foldY]
    exact ⟨fun h=>.inl ⟨h,trivial⟩,fun h=>⟨by simp,.inl ⟨h,trivial⟩,by simp⟩⟩
  | w::W,s,hs,hw=>by
    simp only [sorted,Bool.and_eq_true,List.all_eq_true,Bool.not_eq_true'] at hs
    have hirr:=shorterL_irr w
    simp only [foldY,sureStep_val hv hp hpl]
    by_cases hf:failAt l w plan=none
    · simp only [if_pos hf]
      by_cases hc:s.2.2=false∨prof l plan w<s.1
      · simp only [if_pos hc,if_true]
        obtain ⟨i1,i2⟩:=sureL_go hv hp hpl W (prof l plan w,w,true) hs.2 (fun _ x hx=>(hs.1 x hx).2)
        refine ⟨fun h=>?_,fun h=>?_⟩
        · rcases i1 h with ⟨h,_⟩ | ⟨x,h1,h2⟩
          · cases h
          · exact .inr ⟨x,List.mem_cons_of_mem _ h1,h2⟩
        · obtain ⟨j1,j2,j3⟩:=i2 h
          refine ⟨fun x hx=>?_,.inr ?_,fun x hx=>?_⟩
          · rcases List.mem_cons.1 hx with rfl | hx
            · exact hf
            · exact j1 x hx
          · rcases j2 with ⟨_,j2⟩ | ⟨j2,j4,j5⟩
            · rw [j2]
              exact ⟨List.mem_cons_self,rfl,fun h=>by rcases hc with hc | hc;rw [h] at hc;cases hc;exact hc⟩
            · exact ⟨List.mem_cons_of_mem _ j2,j4,fun h=>by rcases hc with hc | hc;rw [h] at hc;cases hc;have:=j5 rfl;simp only at this;omega⟩
          · rcases List.mem_cons.1 hx with rfl | hx
            · rcases j2 with ⟨_,j2⟩ | ⟨j2,j4,j5⟩
              · rw [j2];exact .inr ⟨rfl,hirr⟩
              · exact .inl (j5 rfl)
            · exact j3 x hx
      · simp only [if_neg hc,if_true]
        have hst:s.2.2=true:=by
          cases h:s.2.2 with
          | true=>rfl
          | false=>exact absurd (.inl h) hc
        have hge:s.1≤prof l plan w:=by
          by_cases h:prof l plan w<s.1
          · exact absurd (.inr h) hc
          · omega
        obtain ⟨i1,i2⟩:=sureL_go hv hp hpl W s hs.2 (fun h x hx=>hw h x (List.mem_cons_of_mem _ hx))
        refine ⟨fun h=>?_,fun h=>?_⟩
        · rcases i1 h with ⟨h,_⟩ | ⟨x,h1,h2⟩
          · rw [hst] at h;cases h
          · exact .inr ⟨x,List.mem_cons_of_mem _ h1,h2⟩
        · obtain ⟨j1,j2,j3⟩:=i2 h
          refine ⟨fun x hx=>?_,?_,fun x hx=>?_⟩
          · rcases List.mem_cons.1 hx with rfl | hx
            · exact hf
            · exact j1 x hx
          · rcases j2 with j2 | ⟨j2,j4,j5⟩
            · exact .inl j2
            · exact .inr ⟨List.mem_cons_of_mem _ j2,j4,j5⟩
          · rcases List.mem_cons.1 hx with rfl | hx
            · rcases j2 with ⟨_,j2⟩ | ⟨j2,j4,j5⟩
              · rw [j2]
                by_cases he:s.1=prof l plan x
                · exact .inr ⟨he,hw hst x List.mem_cons_self⟩
                · exact .inl (by omega)
              · exact .inl (by have:=j5 hst;omega)
            · exact j3 x hx
    · simp only [if_neg hf,Bool.false_eq_true,if_false]
      exact ⟨fun _=>.inr ⟨w,List.mem_cons_self,hf⟩,fun h=>by cases h⟩
theorem sureL_is (hv:l.Valid) {plan:List Int} (hp:AreSites l plan) (hpl:plan.length≤100):IsSure l plan (sureL l plan):=by
  obtain ⟨i1,i2⟩:=sureL_go hv hp hpl (weathersL l) (0,[],false) (wth_sorted hv) (fun h=>by cases h)
  refine ⟨fun h=>?_,fun h=>?_⟩
  · rcases i1 h with ⟨_,h⟩ | h
    · have:=wth_nil hv
      rw [h] at this;cases this
    · exact h
  · obtain ⟨j1,j2,j3⟩:=i2 h
    rcases j2 with ⟨j2,_⟩ | ⟨j2,j4,_⟩
    · cases j2
    · exact ⟨j1,j2,j4,j3⟩
end Am.Mv
namespace Am.Mv
open Go Am Am.Tm
set_option maxRecDepth 100000
set_option maxHeartbeats 4000000
set_option linter.unusedSimpArgs false
set_option linter.unusedVariables false
variable {l:Land} {g1 g2:Bool × Bool}
theorem P17 {Q:V→Prop}:CallP tab 5 [] Q↔Q (.c (.bool true)):=CallP_of awake_val
end Am.Mv
namespace Am.Mv
open Go Am Am.Tm
set_option maxRecDepth 100000
set_option maxHeartbeats 4000000
set_option linter.unusedSimpArgs false
set_option linter.unusedVariables false
variable {l:Land} {g1 g2:Bool × Bool}
def dig (S:Nat):Nat→Nat→List Int
  | 0,_=>[]
  | k+1,n=>((n / S^k % S:Nat):Int)::dig S k n
theorem dig_len (S k n:Nat):(dig S k n).length=k:=by
  induction k with
  | zero=>rfl
  | succ k ih=>simp [dig,ih]
theorem set_rep {d:List Int} {v:Int}:∀m:Nat,(List.replicate (m+1) (0:Int)++d).set m v=List.replicate m 0++v::d
  | 0=>rfl
  | m+1=>by
    have:=set_rep (d:=d) (v:=v) m
    rw [List.replicate_succ,List.cons_append,List.set_cons_succ,this]
    rfl
theorem rem_nat {a b:Nat}:(a:Int).tmod (b:Int)=((a % b:Nat):Int):=by
  rw [Int.tmod_eq_emod_of_nonneg (by omega)];rfl
theorem quo_nat {a b:Nat} (ha:a≤100000):IntKind.i64.wrap ((a:Int).tdiv (b:Int))=((a / b:Nat):Int):=by
  have h1:(a:Int).tdiv (b:Int)=((a / b:Nat):Int):=by
    rw [Int.tdiv_eq_ediv_of_nonneg (by omega)];rfl
  have:=Nat.div_le_self a b
  rw [h1]
  generalize a / b=c at *
  rw [wrapB (by omega) (by omega)]
def planN (l:Land) (n:Nat):List Int:=dig l.sites.length (l.last+1).toNat n
theorem P66 (hv:l.Valid) {n:Nat} (hn:n≤100000) {Q:V→Prop}:CallP tab 23 [landV g1 g2 l,.c (.int .i64 n)] Q↔Q (.c (L (false,false) (planN l n))):=CallP_of (by
  refine Val_X (fn:=f23) rfl ?_
  have l0:=hv.last0
  have l4:=hv.last4
  have n0:=hv.n0
  have n4:=hv.n4
  have hw:IntKind.i64.wrap (l.last+1)=l.last+1:=wrapB (by omega) (by omega)
  have a1:0≤l.last+1:=by omega
  have a2:(l.last+1)*8≤2^40:=by omega
  have hrep:List.replicate (l.last+1).toNat [D.int .i64 0]=(List.replicate (l.last+1).toNat (0:Int)).map Row.row:=by rw [List.map_replicate];rfl
  simp only [go_sem,f23,hw,a1,a2,hrep]
  refine RX_for (l.last+1).toNat (fun k=>[(1,.c (.int .i64 ((n / l.sites.length^k:Nat):Int))),(6,.c (.int .i64 (l.last-k)))]) (fun k=>[.cells [.int .i64 l.last,.int .i64 l.home,.int .i64 l.purse,.int .i64 l.bad,.int .i64 l.rest,L g1 l.sites,L g2 l.roads],.arr false 0 1 ((List.replicate ((l.last+1).toNat-k) 0++dig l.sites.length k n).map Row.row)]) (fun k=>True) trivial (by simp only [go_sem,dig,Nat.pow_zero,Nat.div_one,List.append_nil,Nat.sub_zero,Int.natCast_zero,Int.sub_zero,Int.cast_ofNat_Int]<;>rfl) ?_
  intro k hk _
  by_cases h1:k<(l.last+1).toNat
  · have h2:l.last-k≥0:=by omega
    have h3:¬(l.sites.length:Int)=0:=by omega
    have hle:n / l.sites.length^k≤100000:=Nat.le_trans (Nat.div_le_self _ _) hn
    have e1:n / l.sites.length^k / l.sites.length=n / l.sites.length^(k+1):=by rw [Nat.div_div_eq_div_mul,Nat.pow_succ]
    have e2:IntKind.i64.wrap (l.last-k-1)=l.last-((k+1:Nat):Int):=by rw [wrapB (by omega) (by omega)];omega
    have e3:l.last-(k:Int)=(((l.last+1).toNat-(k+1):Nat):Int):=by omega
    have e4:(l.last+1).toNat-k=((l.last+1).toNat-(k+1))+1:=by omega
    have e6:l.last-(k:Int)<((l.last+1).toNat:Int):=by omega
    have e7:(l.last-(k:Int)).toNat=(l.last+1).toNat-(k+1):=by omega
    have hd:dig l.sites.length (k+1) n=((n / l.sites.length^k % l.sites.length:Nat):Int)::dig l.sites.length k n:=rfl
    rw [hd,e4]
    have hlen:(l.last+1).toNat-(k+1)<(List.replicate ((l.last+1).toNat-(k+1)+1) (0:Int)++dig l.sites.length k n).length:=by simp;omega
    have hset:=set_rep (d:=dig l.sites.length k n) (v:=((n / l.sites.length^k % l.sites.length:Nat):Int)) ((l.last+1).toNat-(k+1))
    generalize List.replicate ((l.last+1).toNat-(k+1)+1) (0:Int)++dig l.sites.length k n=w at hset hlen ⊢
    generalize List.replicate ((l.last+1).toNat-(k+1)) (0:Int)++((n / l.sites.length^k % l.sites.length:Nat):Int)::dig l.sites.length k n=w2 at hset ⊢
    simp only [go_sem,h1,h2,h3,rem_nat,quo_nat hle,e1,e2,e6,e7,nth_row hlen,setNth_map,hset]
  · have:k=(l.last+1).toNat:=by omega
    subst this
    have h2:¬l.last-((l.last+1).toNat:Int)≥0:=by omega
    have hT:takeN (l.last+1).toNat ((dig l.sites.length (l.last+1).toNat n).map Row.row)=some ((dig l.sites.length (l.last+1).toNat n).map Row.row):=by
      have:=takeN_whole ((dig l.sites.length (l.last+1).toNat n).map Row.row)
      rwa [List.length_map,dig_len] at this
    simp only [go_sem,h1,h2,hT]
    rfl)
end Am.Mv
namespace Am.Mv
open Go Am Am.Tm
set_option maxRecDepth 100000
set_option maxHeartbeats 4000000
set_option linter.unusedSimpArgs false
set_option linter.unusedVariables false
variable {l:Land} {g1 g2:Bool × Bool}
theorem planN_ok (hv:l.Valid) (n:Nat):AreSites l (planN l n)∧(planN l n).length=(l.last+1).toNat∧(planN l n).length≤100:=by
  have l4:=hv.last4
  have h:(planN l n).length=(l.last+1).toNat:=dig_len _ _ _
  refine ⟨?_,h,by omega⟩
  have:∀k,AreSites l (dig l.sites.length k n):=by
    intro k
    induction k with
    | zero=>intro x hx;cases hx
    | succ k ih=>
      intro x hx
      rcases List.mem_cons.1 hx with rfl | hx
      · have:=Nat.mod_lt (n / l.sites.length^k) hv.n0
        omega
      · exact ih x hx
  exact this _
def plansN (l:Land):Nat:=l.sites.length^(l.last+1).toNat
theorem plansN_val (hv:l.Valid):powI l.sites.length (l.last+1).toNat=(plansN l:Int):=by
  have:∀k,powI l.sites.length k=((l.sites.length^k:Nat):Int):=by
    intro k
    induction k with
    | zero=>rfl
    | succ k ih=>rw [powI,ih,Nat.pow_succ];rfl
  exact this _
theorem plansN_le (hv:l.Valid):plansN l≤1024:=by
  have h1:l.sites.length^(l.last+1).toNat≤4^(l.last+1).toNat:=Nat.pow_le_pow_left hv.n4 _
  have h2:(l.last+1).toNat≤5:=by have:=hv.last4;omega
  exact Nat.le_trans h1 (Nat.pow_le_pow_right (by decide) h2)
def rbStep (l:Land) (but:Int) (s:List Int × Int × Int × Bool) (p:List Int):List Int × Int × Int × Bool:=
  if but∈p then s
  else if (sureL l p).2.2=false then s
  else if s.2.2.2=false∨s.2.1<(sureL l p).1 then (p,(sureL l p).1,moveL l p,true)
  else if (sureL l p).1=s.2.1 then (s.1,s.2.1,max s.2.2.1 (moveL l p),s.2.2.2)
  else s
def rbest (l:Land) (but:Int) (k:Nat):List Int × Int × Int × Bool:=((List.range k).map (planN l)).foldl (rbStep l but) ([],0,0,false)
end Am.Mv
