/-
  A part of the proof: the texts PX, QP, PY, L1, L4 of this seat, joined.
-/
import Derived.Test.YtphjbeffckignaaGreatWalkH
namespace Am.Vt
open Go Am
set_option maxRecDepth 100000
set_option maxHeartbeats 4000000
set_option linter.unusedSimpArgs false
set_option linter.unusedVariables false
variable {j:Job} {v:Vat} {plan:List Stp} {t:Truth} {s:Sh} {S:List Sh}
theorem ofB_mem {i:Nat}:∀{l:List Stp} {b:Nat},(∃s∈l,s.piece=i)→∀{z:Stp},ofB (l++[z]) i b=ofB l i b
  | [],_,⟨s,hs,_⟩,_=>by simp at hs
  | s::l,b,⟨x,hx,hxi⟩,z=>by
    rw [List.cons_append]
    by_cases hs:s.piece=i
    · simp only [ofB,hs,if_true]
    · simp only [ofB,hs,if_false]
      refine ofB_mem ?_
      rcases List.mem_cons.1 hx with rfl | hx
      · exact absurd hxi hs
      · exact ⟨x,hx,hxi⟩
theorem ofB_last {i:Nat} {z:Stp}:∀{l:List Stp} {b:Nat},(∀s∈l,s.piece≠i)→ofB (l++[z]) i b=if z.piece=i then (b+sumT l,z.dips.toNat) else (0,0)
  | [],b,_=>by simp only [List.nil_append,ofB,sumT,List.map_nil,List.sum_nil,Nat.add_zero]
  | s::l,b,h=>by
    rw [List.cons_append]
    simp only [ofB,h s (by simp),if_false]
    rw [ofB_last (l:=l) fun x hx=>h x (by simp [hx])]
    simp only [sumT,List.map_cons,List.sum_cons,Nat.add_assoc]
theorem ofK_dips {j:Job} {s:Sh} {plan:List Stp}:∀{k:Nat},k≤plan.length→(ofK j s plan k).2=sumT (plan.take k)
  | 0,_=>rfl
  | k+1,h=>by
    have:=ofK_dips (j:=j) (s:=s) (plan:=plan) (k:=k) (by omega)
    rw [take_getD (by omega:k<plan.length) default]
    show (ofK j s plan k).2+_=_
    rw [this];simp [sumT]
theorem ofK_at (ht:totalB j plan=true) {i:Nat} (hi:i<j.pieces.length):∀{k:Nat},k≤plan.length→(ofK j s plan k).1.getD i default=sumS s (ofB (plan.take k) i 0).1 (ofB (plan.take k) i 0).2
  | 0,_=>by
    have:(ofK j s plan 0).1=List.replicate j.pieces.length 0:=rfl
    rw [this,getD_lt _ _ _ (by simpa using hi)]
    simp [ofB,sumS,sumI]
  | k+1,h=>by
    have ih:=ofK_at ht hi (k:=k) (by omega)
    obtain ⟨p1,p2,p3,p4⟩:=total_parts ht
    have hk:k<plan.length:=by omega
    obtain ⟨q1,q2,q3,q4⟩:=step_at p2 hk
    have hl:=ofK_len (j:=j) (s:=s) (plan:=plan) (k:=k)
    obtain ⟨z,hz⟩:∃z,z=plan.getD k default:=⟨_,rfl⟩
    rw [←hz] at q1 q2
    have hset:(ofK j s plan (k+1)).1=(ofK j s plan k).1.set z.piece.toNat (sumS s (ofK j s plan k).2 z.dips.toNat):=by rw [hz];rfl
    rw [hset,take_getD hk default,←hz]
    have hfr:∀x∈plan.take k,x.piece≠z.piece:=by
      rw [distinctB,List.all_eq_true] at p3
      have:=p3 k (List.mem_range.2 hk)
      rw [freshB,Bool.not_eq_true',List.any_eq_false] at this
      intro x hx
      have:=this x hx
      simpa [hz] using this
    by_cases hzi:z.piece=i
    · have hn:∀x∈plan.take k,x.piece≠i:=fun x hx=>by rw [←hzi];exact hfr x hx
      rw [ofB_last hn,if_pos hzi,←ofK_dips (j:=j) (s:=s) (by omega),Nat.zero_add]
      have:z.piece.toNat=i:=by omega
      rw [this,getD_lt _ _ _ (by rw [List.length_set,hl];exact hi),List.getElem_set_self]
    · have hne:z.piece.toNat≠i:=by omega
      have hg:((ofK j s plan k).1.set z.piece.toNat (sumS s (ofK j s plan k).2 z.dips.toNat)).getD i default=(ofK j s plan k).1.getD i default:=by
        simp only [List.getD_eq_getElem?_getD,List.getElem?_set_ne hne]
      rw [hg,ih]
      by_cases hin:∃x∈plan.take k,x.piece=i
      · rw [ofB_mem hin]
      · have hn:∀x∈plan.take k,x.piece≠i:=fun x hx e=>hin ⟨x,hx,e⟩
        rw [ofB_last hn,if_neg hzi,ofB_none hn]
theorem ofS_at (ht:totalB j plan=true) {i:Nat} (hi:i<j.pieces.length):(ofS j s plan).getD i default=sumS s (ofB plan i 0).1 (ofB plan i 0).2:=by
  have:=ofK_at (s:=s) ht hi (Nat.le_refl _)
  rwa [List.take_length] at this
end Am.Vt
namespace Am.Vt
open Go Am
set_option maxRecDepth 100000
set_option maxHeartbeats 4000000
set_option linter.unusedSimpArgs false
set_option linter.unusedVariables false
variable {g1 g2 g3 g4 g5 g gt gd:Bool × Bool} {j:Job} {v:Vat} {plan:List Stp} {t:Truth} {s:Sh} {S:List Sh}
structure Wb where
  n:Nat
  h:n<256
instance : Inhabited Wb:=⟨⟨0,by decide⟩⟩
instance : Row Wb:=⟨1,fun s=>[.int .u8 s.n],fun _=>rfl⟩
instance : Scal Wb:=⟨fun _=>rfl⟩
@[go_sem] theorem sz_wb : Row.sz Wb=1:=rfl
@[go_sem] theorem row_wb {s:Wb}:Row.row s=[.int .u8 s.n]:=rfl
structure PlanOk (n:Nat) (l:List Stp) (left:Int):Prop where
  rng:∀s∈l,0≤s.piece∧s.piece<n∧0≤s.dips∧s.dips≤20
  dis:l.Pairwise fun a b=>a.piece≠b.piece
  sum:sumD l+left=20
  left:0≤left
theorem distinct_of {l:List Stp} (h:l.Pairwise fun a b=>a.piece≠b.piece):distinctB l=true:=by
  rw [distinctB,List.all_eq_true]
  intro k hk
  rw [List.mem_range] at hk
  rw [freshB,Bool.not_eq_true',List.any_eq_false]
  intro x hx
  obtain ⟨i,hi,rfl⟩:=List.mem_take_iff_getElem.1 hx
  rw [List.pairwise_iff_getElem] at h
  have:=h i k (by omega) hk (by omega)
  simpa [List.getD_eq_getElem?_getD,List.getElem?_eq_getElem hk] using this
end Am.Vt
namespace Am.Vt
open Go Am
set_option maxRecDepth 100000
set_option maxHeartbeats 4000000
set_option linter.unusedSimpArgs false
set_option linter.unusedVariables false
variable {j:Job} {v:Vat} {plan:List Stp} {t:Truth} {s:Sh} {S:List Sh}
theorem sumS_succ {b d:Nat} (h:b+d<20):sumS s b (d+1)=sumS s b d+s.l.getD (b+d) default:=by
  unfold sumS
  have hs:=s.h
  have hk':d<(s.l.drop b).length:=by rw [List.length_drop];omega
  have hi:b+d<s.l.length:=by omega
  rw [take_getD hk' default,sumI_snoc]
  congr 1
  rw [getD_lt _ _ _ hk',getD_lt _ _ _ hi,List.getElem_drop]
def Sh.Anti (s:Sh):Prop:=∀i,i+1<20→s.l.getD (i+1) default≤s.l.getD i default
theorem shade_anti {n m:Int} (h0:0≤m) (h1:m≤n) (h2:n≤1000000) {b:Bool}:shadeI m b≤shadeI n b:=by
  have e1:=(shade_bd h0 (by omega) b).2.2
  have e2:=(shade_bd (by omega:0≤n) h2 b).2.2
  rw [e1,e2,Int.tdiv_eq_ediv_of_nonneg h0,Int.tdiv_eq_ediv_of_nonneg (by omega)]
  cases b<;>simp<;>omega
theorem shadesT_anti (hj:j.Valid) {t:Truth} (h:IsT j.vat t):(shadesT j t).Anti:=by
  intro i hi
  have hb:=stBlue_bd hj.vat h (dayN hj).1
  have ht:=hj.vat.take.1
  have g:∀k,k<20→(shadesT j t).l.getD k default=shadeI (dipN j.vat.take k (stAt j.vat t (j.day.toNat+1)).blue) (ordB j.vat (stAt j.vat t (j.day.toNat+1)).bal):=fun k hk=>by
    rw [getD_lt _ _ _ (by rw [(shadesT j t).h];exact hk)];simp [shadesT,shadesL]
  rw [g _ hi,g _ (by omega)]
  have b1:=dipN_bd ht (n:=i) hb.1
  have b2:=dipN_bd ht (n:=i+1) hb.1
  have e:dipN j.vat.take (i+1) (stAt j.vat t (j.day.toNat+1)).blue=max 0 (dipN j.vat.take i (stAt j.vat t (j.day.toNat+1)).blue-j.vat.take):=rfl
  exact shade_anti b2.1 (by omega) (by omega)
theorem anti_le (ha:s.Anti) {i:Nat}:∀{k:Nat},i+k<20→s.l.getD (i+k) default≤s.l.getD i default
  | 0,_=>Int.le_refl _
  | k+1,h=>Int.le_trans (ha (i+k) (by omega)) (anti_le ha (by omega))
theorem sumS_later (ha:s.Anti) {a k:Nat}:∀{d:Nat},a+k+d≤20→sumS s (a+k) d≤sumS s a d
  | 0,_=>by simp [sumS,sumI]
  | d+1,h=>by
    have:=sumS_later ha (a:=a) (k:=k) (d:=d) (by omega)
    rw [sumS_succ (by omega),sumS_succ (by omega)]
    have:=anti_le ha (i:=a+d) (k:=k) (by omega)
    rw [show a+d+k=a+k+d by omega] at this
    omega
theorem sh_nonneg (hs:s.Ok) {i:Nat}:0≤s.l.getD i default:=by
  by_cases h:i<s.l.length
  · exact (hs _ (getD_mem h)).1
  · rw [List.getD_eq_getElem?_getD,List.getElem?_eq_none (by omega)];decide
theorem sumS_more (hs:s.Ok) {a d:Nat}:∀{k:Nat},a+d+k≤20→sumS s a d≤sumS s a (d+k)
  | 0,_=>Int.le_refl _
  | k+1,h=>by
    have:=sumS_more hs (a:=a) (d:=d) (k:=k) (by omega)
    rw [←Nat.add_assoc,sumS_succ (by omega)]
    have:=sh_nonneg hs (i:=a+(d+k))
    omega
abbrev two7 (a b:Nat) (i k:Nat):List Stp:=[⟨(i:Int),(a:Int)⟩,⟨(k:Int),(b:Int)⟩]
theorem two_total {a b i k:Nat} (h:a+b≤20) (hi:i<j.pieces.length) (hk:k<j.pieces.length) (hne:i≠k):totalB j (two7 a b i k)=true:=by
  have h1:(two7 a b i k).all (stepOk j)=true:=by
    simp only [List.all_cons,List.all_nil,stepOk,pieceOk,Bool.and_eq_true,inR_iff,and_true];omega
  have h2:distinctB (two7 a b i k)=true:=distinct_of (by simp;omega)
  have h3:(two7 a b i k).length≤j.pieces.length:=by simp;omega
  have h4:sumD (two7 a b i k)≤20:=by simp [sumD,sumI];omega
  rw [totalB,planOkB,h1,h2,decide_eq_true h3,decide_eq_true h4];rfl
theorem two_of {a b i k:Nat} (hne:i≠k):ofB (two7 a b i k) k 0=(a,b):=by
  have:¬(i:Int)=k:=by omega
  simp [ofB,this]
theorem two_at {a b i k:Nat} (h:a+b≤20) (hi:i<j.pieces.length) (hk:k<j.pieces.length) (hne:i≠k):(ofS j s (two7 a b i k)).getD k default=sumS s a b:=by
  rw [ofS_at (two_total h hi hk hne) hk,two_of hne]
theorem ref_isT (hj:j.Valid) {w:Nat}:IsT j.vat (pickT j w):=refTruths_isT hj.vat _ (pickT_mem hj)
theorem play_ref (h0:checkJob j=0) (ht:totalB j plan=true) {t:Truth} (hT:IsT j.vat t):PlayRP j plan t = .tup [.c (L (false,false) (ofS j (shadesT j t) plan)),.c (.int .i64 0)]:=by
  have hj:=jvalid_of h0
  have hd:dipOk j t=true:=by
    have:=hj.day
    have h1:inR j.day 0 j.vat.last=true:=by rw [inR_iff];omega
    rw [dipOk,hj.check,h1,listed_iff.2 hT];simp [inR]
  rw [PlayRP,if_neg (by rw [h0];simp),if_neg (by rw [ht,hd];decide),dip_ok hj hT]
end Am.Vt
namespace Am.Vt
open Go Am
set_option maxRecDepth 100000
set_option maxHeartbeats 4000000
set_option linter.unusedSimpArgs false
set_option linter.unusedVariables false
variable {g1 g2 g3 g4 g5 g gt gd:Bool × Bool} {j:Job} {v:Vat} {plan:List Stp} {t:Truth} {s:Sh} {S:List Sh}
end Am.Vt
namespace Am.Vt
open Go Am
set_option maxRecDepth 100000
set_option maxHeartbeats 4000000
set_option linter.unusedSimpArgs false
set_option linter.unusedVariables false
variable {g1 g2 g3 g4 g5 g gt gd:Bool × Bool} {j:Job} {v:Vat} {plan:List Stp} {t:Truth} {s:Sh} {S:List Sh}
theorem lst2p {t:Bool} {a b c d:Int}:C.lst t [[.int .i64 a,.int .i64 b],[.int .i64 c,.int .i64 d]]=L (false,t) [(⟨a,b⟩:Stp),⟨c,d⟩]:=rfl
theorem PieceLater_val {w a d k:Int} (hw0:0≤w) (hw1:w≤65535) (ha0:0≤a) (ha1:a≤255) (hd0:0≤d) (hd1:d≤255) (hk0:0≤k) (hk1:k≤255):Val tab 6 [jobV g1 g2 g3 g4 g5 j,.c (.int .u16 w),.c (.int .u8 a),.c (.int .u8 d),.c (.int .u8 k)] (.c (.bool true)):=by
  refine Val_X (fn:=f6) rfl ?_
  have kt:=fun {Q:V→Prop}=>mready (j:=j) (g1:=g1) (g2:=g2) (g3:=g3) (g4:=g4) (g5:=g5) (Q:=Q)
  simp only [jobV] at kt
  cases ht:readyJ j with
  | false=>simp only [go_sem,f6,kt,ht,lawake7,disj_nil]
  | true=>
  obtain ⟨hf,hs,h6,hj,h0⟩:=readyJ_of ht
  by_cases h2:(j.pieces.length:Int)<2
  · simp only [go_sem,f6,kt,ht,h2,lawake7,disj_nil]
  obtain ⟨w,rfl⟩:∃n:Nat,w=n:=⟨w.toNat,by omega⟩
  obtain ⟨a,rfl⟩:∃n:Nat,a=n:=⟨a.toNat,by omega⟩
  obtain ⟨d,rfl⟩:∃n:Nat,d=n:=⟨d.toNat,by omega⟩
  obtain ⟨k,rfl⟩:∃n:Nat,k=n:=⟨k.toNat,by omega⟩
  have wa:IntKind.i64.wrap (a:Int)=(a:Int):=wrapB (by omega) (by omega)
  have wd:IntKind.i64.wrap (d:Int)=(d:Int):=wrapB (by omega) (by omega)
  have wk:IntKind.i64.wrap (k:Int)=(k:Int):=wrapB (by omega) (by omega)
  obtain ⟨x,hx⟩:∃x,x=a % 6:=⟨_,rfl⟩
  obtain ⟨y,hy⟩:∃y,y=d % 6:=⟨_,rfl⟩
  obtain ⟨z,hz⟩:∃z,z=k % 6:=⟨_,rfl⟩
  have ma:(a:Int).tmod 6=(x:Int):=by rw [hx];rfl
  have md:(d:Int).tmod 6=(y:Int):=by rw [hy];rfl
  have mk:(k:Int).tmod 6=(z:Int):=by rw [hz];rfl
  have x6:x<6:=by omega
  have y6:y<6:=by omega
  have z6:z<6:=by omega
  have s1:IntKind.i64.wrap ((x:Int)+z)=((x+z:Nat):Int):=by rw [wrapB (by omega) (by omega)];omega
  have s2:IntKind.i64.wrap ((y:Int)+z)=((y+z:Nat):Int):=by rw [wrapB (by omega) (by omega)];omega
  have kJ:=fun {Q:V→Prop}=>mJob (j:=j) (g1:=g1) (g2:=g2) (g3:=g3) (g4:=g4) (g5:=g5) hs h6 (Q:=Q)
  have kP:=fun {Q:V→Prop}=>mpick (j:=j) (w:=w) (g1:=g1) (g2:=g2) (g3:=g3) (g4:=g4) (g5:=g5) hj (by omega) (Q:=Q)
  have hT:=ref_isT hj (w:=w)
  have hTl:=hT.dl
  have v1:=hj.vat.drift
  have v4:=hj.vat.last7
  have kT:=fun {gt:Bool × Bool} {Q:V→Prop}=>lTruth (gt:=gt) (t:=pickT j w) (by omega) (Q:=Q)
  have pl:=fun {a b:Nat} (h:a+b≤20)=>fun {g1 g2 g3 g4 g5 g gt:Bool × Bool} {Q:V→Prop}=>(pPlay (j:=j) (plan:=two7 a b 0 1) (t:=pickT j w) (g:=g) (gt:=gt) (g1:=g1) (g2:=g2) (g3:=g3) (g4:=g4) (g5:=g5) hf (big_of (by simp)) (Q:=Q)).trans (by rw [play_ref h0 (two_total h (by omega) (by omega) (by decide)) hT])
  have k1:=fun {g1 g2 g3 g4 g5 g gt:Bool × Bool} {Q:V→Prop}=>pl (a:=x) (b:=y) (by omega) (g1:=g1) (g2:=g2) (g3:=g3) (g4:=g4) (g5:=g5) (g:=g) (gt:=gt) (Q:=Q)
  have k2:=fun {g1 g2 g3 g4 g5 g gt:Bool × Bool} {Q:V→Prop}=>pl (a:=x+z) (b:=y) (by omega) (g1:=g1) (g2:=g2) (g3:=g3) (g4:=g4) (g5:=g5) (g:=g) (gt:=gt) (Q:=Q)
  have k3:=fun {g1 g2 g3 g4 g5 g gt:Bool × Bool} {Q:V→Prop}=>pl (a:=x) (b:=y+z) (by omega) (g1:=g1) (g2:=g2) (g3:=g3) (g4:=g4) (g5:=g5) (g:=g) (gt:=gt) (Q:=Q)
  clear pl
  simp only [jobV,truthG,two7,Int.natCast_zero,Int.natCast_one] at kJ kP kT k1 k2 k3
  have hok:=shadesT_ok hj hT
  have han:=shadesT_anti hj hT
  have c1:=two_at (j:=j) (s:=shadesT j (pickT j w)) (a:=x) (b:=y) (i:=0) (k:=1) (by omega) (by omega) (by omega) (by decide)
  have c2:=two_at (j:=j) (s:=shadesT j (pickT j w)) (a:=x+z) (b:=y) (i:=0) (k:=1) (by omega) (by omega) (by omega) (by decide)
  have c3:=two_at (j:=j) (s:=shadesT j (pickT j w)) (a:=x) (b:=y+z) (i:=0) (k:=1) (by omega) (by omega) (by omega) (by decide)
  have o1:=ofS_len (j:=j) (s:=shadesT j (pickT j w)) (plan:=two7 x y 0 1)
  have o2:=ofS_len (j:=j) (s:=shadesT j (pickT j w)) (plan:=two7 (x+z) y 0 1)
  have o3:=ofS_len (j:=j) (s:=shadesT j (pickT j w)) (plan:=two7 x (y+z) 0 1)
  have r1:=sumS_later han (a:=x) (k:=z) (d:=y) (by omega)
  have r2:=sumS_more hok (a:=x) (d:=y) (k:=z) (by omega)
  rw [←c1,←c2] at r1
  rw [←c1,←c3] at r2
  simp only [two7,Int.natCast_zero,Int.natCast_one] at o1 o2 o3 r1 r2
  generalize ofS j (shadesT j (pickT j w)) [⟨0,(x:Int)⟩,⟨1,(y:Int)⟩]=l1 at *
  generalize ofS j (shadesT j (pickT j w)) [⟨0,((x+z:Nat):Int)⟩,⟨1,(y:Int)⟩]=l2 at *
  generalize ofS j (shadesT j (pickT j w)) [⟨0,(x:Int)⟩,⟨1,((y+z:Nat):Int)⟩]=l3 at *
  have q1:(j.pieces.length:Int)>1:=by omega
  have q2:(1:Int)<j.pieces.length:=by omega
  have q3:atI l1 1=l1.getD 1 default:=rfl
  have q4:atI l2 1=l2.getD 1 default:=rfl
  have q5:atI l3 1=l3.getD 1 default:=rfl
  have q6:l3.getD 1 default≥l1.getD 1 default:=r2
  simp only [go_sem,f6,kt,ht,h2,kJ,kP,kT,wa,wd,wk,ma,md,mk,s1,s2,lst2p,k1,k2,k3,o1,o2,o3,q1,q2,q3,q4,q5,r1,q6,lawake7,disj_nil]
end Am.Vt
