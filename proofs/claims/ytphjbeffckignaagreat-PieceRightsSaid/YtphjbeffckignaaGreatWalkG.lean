/-
  A part of the proof: the texts Q1, Q2, Q3, Q4 of this seat, joined.
-/
import Derived.Test.YtphjbeffckignaaGreatWalkF
namespace Am.Vt
open Go Am
set_option maxRecDepth 100000
set_option maxHeartbeats 4000000
set_option linter.unusedSimpArgs false
set_option linter.unusedVariables false
variable {g1 g2 g3 g4 g5 g gt:Bool × Bool} {j:Job} {v:Vat} {plan:List Stp} {t:Truth} {s:Sh}
theorem qisShade {lo hi:Int} {Q:V→Prop}:CallP tab 117 [.agg [.int .i64 lo,.int .i64 hi]] Q↔Q (.c (.bool (rgOf lo hi 0 9999))):=CallP_of (by
  refine Val_X (fn:=f117) rfl ?_
  simp only [go_sem,f117,ge_iff_le]
  refine ⟨fun h=>⟨fun h'=>?_,fun h'=>?_⟩,fun h=>?_⟩<;>simp [rgOf, *])
theorem can_full (hv:v.Valid):canB v (2^v.looks.length-1)=posB v []:=by
  have h1:=can_iff hv (m:=2^v.looks.length-1) (by have:=Nat.one_le_two_pow (n:=v.looks.length);omega)
  rw [Bool.eq_iff_iff,h1,pos_iff hv]
  simp only [Nat.testBit_two_pow_sub_one,decide_eq_true_eq,List.not_mem_nil,false_or]
theorem qFault (hf:j.Fits) {Q:V→Prop}:CallP tab 67 [jobV g1 g2 g3 g4 g5 j] Q↔Q (.c (.int .i64 (checkJob j))):=CallP_of (by
  refine Val_X (fn:=f67) rfl ?_
  have k1:=fun {g1 g2 g3 g4:Bool × Bool} {Q:V→Prop}=>rFault (v:=j.vat) (g1:=g1) (g2:=g2) (g3:=g3) (g4:=g4) hf.vat (Q:=Q)
  simp only [vatV] at k1
  have hp:=hf.pieces
  by_cases h1:(j.pieces.length:Int)>4
  · simp only [go_sem,f67,h1,checkJob]
  by_cases h2:checkVat j.vat=0
  · have hv:=valid_of h2
    have l5:=hv.looks5
    have hlt:2^j.vat.looks.length-1<2^29:=by
      have:2^j.vat.looks.length≤2^5:=Nat.pow_le_pow_right (by decide) (by omega)
      omega
    have k2:=fun {g1 g2 g3 g4:Bool × Bool} {Q:V→Prop}=>rAll (v:=j.vat) (g1:=g1) (g2:=g2) (g3:=g3) (g4:=g4) hv (Q:=Q)
    have k3:=fun {g1 g2 g3 g4:Bool × Bool} {Q:V→Prop}=>rFull (v:=j.vat) (g1:=g1) (g2:=g2) (g3:=g3) (g4:=g4) (by omega) (Q:=Q)
    have k4:=fun {g:Bool × Bool} {Q:V→Prop}=>rCan (v:=j.vat) (g:=g) hv hlt (Q:=Q)
    simp only [vatV] at k2 k3
    have hcf:=can_full hv
    cases h3:posB j.vat [] with
    | false=>
      have ha:askE j.vat true=11:=by rw [askE,if_neg (by rw [h2];simp),if_neg (by decide),if_pos h3]
      rw [h3] at hcf
      simp only [go_sem,f67,h1,h2,k1,k2,k3,k4,hcf,checkJob,ha]
    | true=>
      have ha:askE j.vat true=0:=by rw [askE,if_neg (by rw [h2];simp),if_neg (by decide),if_neg (by rw [h3];decide)]
      rw [h3] at hcf
      have hC:checkJob j=if (inR j.day 0 j.vat.last&&(j.pieces.all shadeR&&(inR j.eye 0 9999&&shadeR j.old)))=true then 0 else 1:=by
        rw [checkJob,if_neg h1,if_neg (by rw [ha];simp)]
      rw [hC]
      cases h4:inR j.day 0 j.vat.last with
      | false=>simp only [go_sem,f67,h1,h2,k1,k2,k3,k4,hcf,rIn,h4]
      | true=>
      cases h5:inR j.eye 0 9999 with
      | false=>simp only [go_sem,f67,h1,h2,k1,k2,k3,k4,hcf,rIn,h4,h5]
      | true=>
      cases h6:rgOf j.old.lo j.old.hi 0 9999 with
      | false=>
        simp only [go_sem,f67,h1,h2,k1,k2,k3,k4,hcf,rIn,h4,h5,qisShade,h6,shadeR]
      | true=>
        simp only [go_sem,f67,h1,h2,k1,k2,k3,k4,hcf,rIn,h4,h5,qisShade,h6,shadeR]
        refine RX_forC j.pieces.length (fun k=>[(4,.c (.int .i64 k))]) (fun k=>∀i,i<k→shadeR (j.pieces.getD i default)=true) rfl (fun i h=>by omega) (by simp only [go_sem]<;>rfl) ?_
        intro k hk hP
        by_cases hlt:k<j.pieces.length
        · have e4:IntKind.i64.wrap ((k:Int)+1)=((k+1:Nat):Int):=wrap_succ (n:=5000) (by omega) (by decide)
          have k0:(0:Int)≤k:=by omega
          have k1:(k:Int)<j.pieces.length:=by omega
          cases h7:rgOf (j.pieces.getD k default).lo (j.pieces.getD k default).hi 0 9999 with
          | false=>
            have hall:j.pieces.all shadeR=false:=by
              rw [List.all_eq_false]
              exact ⟨_,getD_mem (d:=default) hlt,by rw [shadeR,h7];decide⟩
            have hall':(j.pieces.all fun r=>rgOf r.lo r.hi 0 9999)=false:=hall
            simp only [go_sem,k0,k1,qisShade,atI_nat,h7,hall,hall']
          | true=>
            simp only [go_sem,k0,k1,qisShade,atI_nat,h7,e4]
            refine ⟨hlt,fun i hi=>?_⟩
            by_cases hik:i=k
            · subst hik;exact h7
            · exact hP i (by omega)
        · have:k=j.pieces.length:=by omega
          subst this
          have hall:j.pieces.all shadeR=true:=by
            rw [List.all_eq_true]
            intro r hr
            obtain ⟨n,hn,rfl⟩:=List.getElem_of_mem hr
            have:=hP n hn
            rwa [getD_lt _ _ _ hn] at this
          have hall':(j.pieces.all fun r=>rgOf r.lo r.hi 0 9999)=true:=hall
          simp only [go_sem,hlt,hall,hall']
  · have ha:askE j.vat true=checkVat j.vat:=by rw [askE,if_pos h2]
    simp only [go_sem,f67,h1,h2,k1,checkJob,ha])
theorem doneL_lt {n:Nat}:∀{l:List Stp} {done:Nat},done<2^n→(∀s∈l,0≤s.piece∧s.piece<n)→doneL done l<2^n
  | [],_,h,_=>h
  | s::l,done,h,hl=>by
    have h0:=hl s (by simp)
    exact doneL_lt (l:=l) (Nat.or_lt_two_pow h (Nat.pow_lt_pow_right (by decide) (by omega))) fun x hx=>hl x (by simp [hx])
theorem doneL_snoc {l:List Stp} {s:Stp} {done:Nat}:doneL done (l++[s])=doneL done l ||| 2^s.piece.toNat:=by simp [doneL]
theorem fresh_bit {n:Nat} {k:Nat} (h:∀s∈plan.take k,0≤s.piece∧s.piece<n) (hz:0≤(plan.getD k default).piece):freshB plan k = !(doneL 0 (plan.take k)).testBit (plan.getD k default).piece.toNat:=by
  rw [freshB]
  congr 1
  rw [Bool.eq_iff_iff,doneL_bit,List.any_eq_true]
  simp only [Nat.zero_testBit,Bool.false_eq_true,false_or,decide_eq_true_eq]
  constructor
  · rintro ⟨x,hx,e⟩;exact ⟨x,hx,by rw [e]⟩
  · rintro ⟨x,hx,e⟩
    have:=h x hx
    exact ⟨x,hx,by omega⟩
theorem fresh_pairs (h:∀i,i<plan.length→freshB plan i=true):plan.Pairwise fun a b=>a.piece≠b.piece:=by
  rw [List.pairwise_iff_getElem]
  intro a b ha hb hab
  have:=h b hb
  rw [freshB,Bool.not_eq_true',List.any_eq_false] at this
  have:=this plan[a] (by rw [List.mem_take_iff_getElem];exact ⟨a,by omega,rfl⟩)
  simpa [List.getD_eq_getElem?_getD,List.getElem?_eq_getElem hb] using this
theorem plan_short (h1:plan.all (stepOk j)=true) (h2:∀i,i<plan.length→freshB plan i=true):plan.length≤j.pieces.length:=by
  have:=und_done (n:=j.pieces.length) (l:=plan) (done:=0) (fun s hs=>by
    rw [List.all_eq_true] at h1
    have:=h1 s hs
    simp only [stepOk,pieceOk,Bool.and_eq_true,inR_iff] at this
    exact ⟨by omega,by omega,by simp⟩) (fresh_pairs h2)
  rw [und_0] at this
  omega
theorem qTotal (h6:j.pieces.length≤20) (hp:plan.length≤1000) {Q:V→Prop}:CallP tab 23 [jobV g1 g2 g3 g4 g5 j,.c (L g plan)] Q↔Q (.tup [.c (.int .i64 (totalD j plan)),.c (.bool (totalB j plan))]):=CallP_of (by
  refine Val_X (fn:=f23) rfl ?_
  have e0:IntKind.i64.wrap ((j.pieces.length:Int)-1)=(j.pieces.length:Int)-1:=wrapB (by omega) (by omega)
  simp only [go_sem,f23]
  refine RX_whileU (α:=Nat × List Obj) (fun y=>[(6,.c (.int .i64 (sumD (plan.take y.1)))),(7,.c (.int .i64 (doneL 0 (plan.take y.1):Nat))),(8,.c (.int .i64 (y.1:Nat)))]) (fun y=>.cells (jobC g1 g2 g3 g4 g5 j)::y.2) (fun y=>y.1≤plan.length∧(∀i,i<y.1→stepOk j (plan.getD i default)=true)∧∀i,i<y.1→freshB plan i=true) (fun y=>plan.length-y.1) (0,[]) ⟨Nat.zero_le _,fun i h=>by simp at h,fun i h=>by simp at h⟩ (by simp only [go_sem]<;>exact ⟨rfl,rfl⟩) ?_
  rintro ⟨k,X⟩ ⟨hk,hS,hF⟩
  simp only at hk hS hF
  have htk:(plan.take k).all (stepOk j)=true:=by
    rw [List.all_eq_true]
    intro x hx
    obtain ⟨i,hi,rfl⟩:=List.mem_take_iff_getElem.1 hx
    have:=hS i (by omega)
    rwa [getD_lt _ _ _ (by omega)] at this
  have hin:∀s∈plan.take k,0≤s.piece∧s.piece<j.pieces.length:=fun s hs=>by
    rw [List.all_eq_true] at htk
    have:=htk s hs
    simp only [stepOk,pieceOk,Bool.and_eq_true,inR_iff] at this
    omega
  have bnot:∀i,i<plan.length→(stepOk j (plan.getD i default)=false∨freshB plan i=false)→totalD j plan=0∧totalB j plan=false:=by
    intro i hi h
    have:planOkB j plan=false:=by
      unfold planOkB
      rcases h with h | h
      · have:plan.all (stepOk j)=false:=by
          rw [List.all_eq_false];exact ⟨_,getD_mem (d:=default) hi,by rw [h];decide⟩
        rw [this,Bool.false_and,Bool.and_false]
      · have:distinctB plan=false:=by
          rw [distinctB,List.all_eq_false];exact ⟨i,List.mem_range.2 hi,by rw [h];decide⟩
        rw [this,Bool.and_false,Bool.and_false]
    exact ⟨by rw [totalD,this];rfl,by rw [totalB,this,Bool.false_and]⟩
  by_cases hlt:k<plan.length
  · have e4:IntKind.i64.wrap ((k:Int)+1)=((k+1:Nat):Int):=wrap_succ (n:=3000) (by omega) (by decide)
    have k0:(0:Int)≤k:=by omega
    have k1:(k:Int)<plan.length:=by omega
    obtain ⟨z,hz⟩:∃z,z=plan.getD k default:=⟨_,rfl⟩
    have hat:atI plan (k:Int)=z:=by rw [atI_nat,hz]
    have hb:=bnot k hlt
    rw [←hz] at hb
    cases h1:inR z.piece 0 ((j.pieces.length:Int)-1) with
    | false=>
      obtain ⟨b1,b2⟩:=hb (.inl (by simp [stepOk,pieceOk,h1]))
      simp only [go_sem,k0,k1,hat,rIn,e0,h1,b1,b2]
    | true=>
    cases h2:inR z.dips 0 20 with
    | false=>
      obtain ⟨b1,b2⟩:=hb (.inl (by simp [stepOk,pieceOk,h2]))
      simp only [go_sem,k0,k1,hat,rIn,e0,h1,h2,b1,b2]
    | true=>
      have h1':=inR_iff.1 h1
      have h2':=inR_iff.1 h2
      obtain ⟨p,hp'⟩:∃p:Nat,z.piece=p:=⟨z.piece.toNat,by omega⟩
      have hpn:p<j.pieces.length:=by omega
      obtain ⟨sn,hsn⟩:∃sn,sn=doneL 0 (plan.take k):=⟨_,rfl⟩
      have hlt':sn<2^j.pieces.length:=by rw [hsn];exact doneL_lt (Nat.two_pow_pos _) hin
      have hs20:sn<2^20:=Nat.lt_of_lt_of_le hlt' (Nat.pow_le_pow_right (by decide) h6)
      have hbit:=bit_rem (done:=sn) (i:=p)
      have hu:=u64W (k:=p) (by omega)
      have p0:¬(p:Int)<0:=by omega
      have hfr:=fresh_bit (plan:=plan) (k:=k) hin (by rw [←hz];omega)
      rw [←hz,←hsn,hp',Int.toNat_natCast] at hfr
      have hst:stepOk j z=true:=by simp [stepOk,pieceOk,h1,h2]
      rw [hp'] at h1
      rw [←hsn]
      cases hbt:sn.testBit p with
      | true=>
        rw [hbt] at hfr
        obtain ⟨b1,b2⟩:=hb (.inr hfr)
        have hb1:((sn:Int).fdiv (2^(min p IntKind.i64.bits))).tmod 2=1:=hbit.2 (.inl ⟨hbt,by omega⟩)
        simp only [go_sem,k0,k1,hat,rIn,e0,hp',h1,h2,b1,b2,hu,p0,hb1]
      | false=>
        rw [hbt] at hfr
        have hb1:¬((sn:Int).fdiv (2^(min p IntKind.i64.bits))).tmod 2=1:=fun h=>by
          rcases hbit.1 h with ⟨h,_⟩ | ⟨_,h⟩
          · rw [hbt] at h;cases h
          · omega
        have f1:IntKind.i64.wrap ((1:Int)*2^(min p IntKind.i64.bits))=((2^p:Nat):Int):=by
          have:=shlW (a:=1) (k:=p) (by omega) (by omega)
          simpa using this
        have hp2:2^p<2^29:=Nat.pow_lt_pow_right (by decide) (by omega)
        have f2:=orW (a:=sn) (b:=2^p) (Nat.lt_of_lt_of_le hs20 (by decide)) hp2
        have f3:((sn ||| 2^p:Nat):Int)=(doneL 0 (plan.take (k+1)):Nat):=by rw [take_getD hlt default,doneL_snoc,←hsn,←hz,hp',Int.toNat_natCast]
        have t1:=sumD_bd (j:=j) (plan:=plan.take k) htk
        have t2:(plan.take k).length≤1000:=by rw [List.length_take];omega
        have t3:sumD (plan.take (k+1))=sumD (plan.take k)+z.dips:=by
          unfold sumD
          rw [take_getD hlt default,List.map_append,←hz]
          exact sumI_snoc
        have e5:IntKind.i64.wrap (sumD (plan.take k)+z.dips)=sumD (plan.take (k+1)):=by rw [t3];exact wrapB (by omega) (by omega)
        simp only [go_sem,k0,k1,hat,rIn,e0,hp',h1,h2,hu,p0,hb1,f1,f2,f3,e4,e5]
        refine ⟨(k+1,_),⟨by simp only;omega,by simp only;omega,fun i hi=>?_,fun i hi=>?_⟩,⟨rfl,rfl,rfl⟩,rfl⟩
        · simp only at hi
          by_cases hik:i=k
          · rw [hik,←hz];exact hst
          · exact hS i (by omega)
        · simp only at hi
          by_cases hik:i=k
          · rw [hik];exact hfr
          · exact hF i (by omega)
  · have:k=plan.length:=by omega
    subst this
    rw [List.take_length] at htk
    have hok:planOkB j plan=true:=by
      have:distinctB plan=true:=by
        rw [distinctB,List.all_eq_true];exact fun i hi=>hF i (List.mem_range.1 hi)
      rw [planOkB,this,htk,decide_eq_true (plan_short htk hF)];rfl
    simp only [go_sem,hlt,List.take_length]
    exact ⟨by rw [totalD,hok];rfl,by rw [totalB,hok];rfl⟩)
end Am.Vt
namespace Am.Vt
open Go Am
set_option maxRecDepth 100000
set_option maxHeartbeats 4000000
set_option linter.unusedSimpArgs false
set_option linter.unusedVariables false
variable {g1 g2 g3 g4 g5 g gt gd:Bool × Bool} {j:Job} {v:Vat} {plan:List Stp} {t:Truth} {s:Sh} {S:List Sh}
abbrev dipD (S:List Sh):List (List Int):=S.map Sh.l
theorem qSum (hs:s.Ok) {g:Bool × Bool} {b d:Nat} {Q:V→Prop}:CallP tab 60 [.c (L g ((s.l.drop b).take d))] Q↔Q (.c (.int .i64 (sumS s b d))):=
  rSum (M:=5000) (by decide) (by rw [List.length_take,List.length_drop,s.h];omega) fun x hx=>by
    have:=hs x (List.mem_of_mem_drop (List.mem_of_mem_take hx))
    omega
theorem qVerdict {a b:Nat} {Q:V→Prop}:CallP tab 90 [.c (.int .i64 (a:Int)),.c (.int .i64 (b:Int))] Q↔Q (.c (.int .i64 (vd a b))):=CallP_of (by
  refine Val_X (fn:=f90) rfl ?_
  by_cases h:a=b
  · subst h
    simp only [go_sem,f90,vd]
  · by_cases h0:a=0
    · subst h0
      have h':¬(0:Int)=b:=by omega
      simp only [go_sem,f90,vd,h,h',Int.natCast_zero]
    · have h1:¬(a:Int)=b:=by omega
      have h2:¬(a:Int)=0:=by omega
      simp only [go_sem,f90,vd,h,h0,h1,h2])
theorem qNear (he:0≤j.eye∧j.eye≤9999) {a b:Int} (ha:0≤a∧a≤100000) (hb:0≤b∧b≤100000) {Q:V→Prop}:CallP tab 55 [jobV g1 g2 g3 g4 g5 j,.c (.int .i64 a),.c (.int .i64 b)] Q↔Q (.c (.bool (nearB j a b))):=CallP_of (by
  refine Val_X (fn:=f55) rfl ?_
  have e1:IntKind.i64.wrap (a-b)=a-b:=wrapB (by omega) (by omega)
  have e2:IntKind.i64.wrap (b-a)=b-a:=wrapB (by omega) (by omega)
  by_cases h1:a-b≤j.eye
  · by_cases h2:b-a≤j.eye
    · have:nearB j a b=true:=by rw [nearB,inR_iff];omega
      simp only [go_sem,f55,e1,e2,h1,h2,this]
    · have:nearB j a b=false:=by rw [←Bool.not_eq_true,nearB,inR_iff];omega
      simp only [go_sem,f55,e1,e2,h1,h2,this]
  · have:nearB j a b=false:=by rw [←Bool.not_eq_true,nearB,inR_iff];omega
    simp only [go_sem,f55,e1,e2,h1,this])
theorem qPlay (hs:s.Ok) (h4:j.pieces.length≤1000) (h:totalB j plan=true) {Q:V→Prop}:CallP tab 26 [jobV g1 g2 g3 g4 g5 j,.c (L g plan),.c (L gt s.l)] Q↔Q (.c (L (false,false) (ofS j s plan))):=CallP_of (by
  refine Val_X (fn:=f26) rfl ?_
  obtain ⟨p1,p2,p3,p4⟩:=total_parts h
  have b1:(j.pieces.length:Int)*8≤2^40:=by omega
  have b0:(0:Int)≤(j.pieces.length:Nat):=by omega
  have hrep:List.replicate j.pieces.length [D.int .i64 0]=(List.replicate j.pieces.length (0:Int)).map Row.row:=by rw [List.map_replicate];rfl
  have hLg:L gt s.l=L (false,gt.2) s.l:=by
    rcases L_cases gt s.l with ⟨_,h,_⟩ | h
    · have:=s.h;rw [h] at this;cases this
    · rw [h];rfl
  rw [hLg]
  simp only [go_sem,f26,b1,b0,hrep]
  refine RX_for plan.length (fun k=>[(8,.c (.int .i64 ((ofK j s plan k).2:Nat))),(9,.c (.int .i64 k))]) (fun k=>[.cells (jobC g1 g2 g3 g4 g5 j),.arr false 0 1 ((ofK j s plan k).1.map Row.row)]) (fun _=>True) trivial (by simp only [go_sem]<;>first | rfl | exact ⟨rfl,rfl⟩ | exact ⟨⟨rfl,rfl⟩,rfl⟩) ?_
  intro k hk _
  by_cases hlt:k<plan.length
  · have e4:IntKind.i64.wrap ((k:Int)+1)=((k+1:Nat):Int):=wrap_succ (n:=3000) (by omega) (by decide)
    obtain ⟨q1,q2,q3,q4⟩:=step_at p2 hlt
    have l1:=ofK_le (s:=s) h (k:=k+1) (by omega)
    obtain ⟨z,hz⟩:∃z,z=plan.getD k default:=⟨_,rfl⟩
    have ho1:(ofK j s plan (k+1)).1=(ofK j s plan k).1.set z.piece.toNat (sumS s (ofK j s plan k).2 z.dips.toNat):=by rw [hz];rfl
    have ho2:(ofK j s plan (k+1)).2=(ofK j s plan k).2+z.dips.toNat:=by rw [hz];rfl
    have hl:=ofK_len (j:=j) (s:=s) (plan:=plan) (k:=k)
    rw [←hz] at q1 q2 q3 q4
    rw [ho1,ho2]
    rw [ho2] at l1
    generalize (ofK j s plan k).1=w at *
    generalize (ofK j s plan k).2=b at *
    obtain ⟨dn,hdn⟩:∃dn:Nat,z.dips=dn:=⟨z.dips.toNat,by omega⟩
    obtain ⟨pn,hpn⟩:∃pn:Nat,z.piece=pn:=⟨z.piece.toNat,by omega⟩
    have e5:z.dips.toNat=dn:=by omega
    have e6:z.piece.toNat=pn:=by omega
    have hw:pn<w.length:=by omega
    have e7:IntKind.i64.wrap ((b:Int)+dn)=((b+dn:Nat):Int):=by rw [wrapB (by omega) (by omega)];omega
    have e8:(0:Int)≤(pn:Int):=by omega
    have e9:(pn:Int)<(j.pieces.length:Nat):=by omega
    have k0:(0:Int)≤k:=by omega
    have k1:(k:Int)<plan.length:=by omega
    have zl:=s.h
    have bd1:b≤b+dn∧b+dn≤20:=by omega
    have bd2:b+dn-b=dn:=by omega
    have bd3:b+dn≤s.l.length:=by rw [s.h];omega
    have b00:(0:Int)≤b:=by omega
    have hh:headLen 1 (s.l.map (Row.row (α:=Int)))=true:=headLen_map (sz:=1) rfl
    have hS1:=fun {g:Bool × Bool} {Q:V→Prop}=>qSum (s:=s) hs (g:=g) (b:=b) (d:=dn) (Q:=Q)
    simp only [go_sem,hlt,atI_nat,←hz,hdn,hpn,e5,e6,e7,e8,e9,k0,k1,zl,bd1,bd2,bd3,b00,hh,hS1,e4,nth_row hw,setNth_map]
  · have:k=plan.length:=by omega
    subst this
    have hl:=ofK_len (j:=j) (s:=s) (plan:=plan) (k:=plan.length)
    have hp:=part_map (l:=(ofK j s plan plan.length).1) (n:=j.pieces.length) hl
    simp only [part,dropN] at hp
    simp only [go_sem,hlt,ofS,hp])
end Am.Vt
namespace Am.Vt
open Go Am
set_option maxRecDepth 100000
set_option maxHeartbeats 4000000
set_option linter.unusedSimpArgs false
set_option linter.unusedVariables false
variable {g1 g2 g3 g4 g5 g gt gd:Bool × Bool} {j:Job} {v:Vat} {plan:List Stp} {t:Truth} {s:Sh} {S:List Sh}
theorem countP_takeS {p:Sh→Bool} {l:List Sh} {k:Nat} (h:k<l.length):(l.take (k+1)).countP p=(l.take k).countP p+b2n (p (l.getD k default)):=by
  rw [take_getD h default,List.countP_append]
  have:[l.getD k default].countP p=b2n (p (l.getD k default)):=by
    generalize l.getD k default=z
    cases hp:p z<;>simp [b2n,hp]
  rw [this]
theorem dipD_at {k:Nat} (hlt:k<S.length):atI (dipD S) (k:Int)=(S.getD k default).l:=by rw [atI_nat,getD_lt _ _ _ (by simpa using hlt),getD_lt _ _ _ hlt];simp
theorem qRight (hS:∀s∈S,s.Ok) (hl:S.length≤2000) (h4:j.pieces.length≤1000) (ht:totalB j plan=true) {i:Nat} (hi:i<j.pieces.length) {Q:V→Prop}:CallP tab 42 [jobV g1 g2 g3 g4 g5 j,.c (L gd (dipD S)),.c (L g plan),.c (.int .i64 i)] Q↔Q (.c (.int .i64 (vd (S.countP (rightP j plan i)) S.length))):=CallP_of (by
  refine Val_X (fn:=f42) rfl ?_
  have dl:(dipD S).length=S.length:=by simp
  simp only [go_sem,f42]
  refine RX_forC S.length (fun k=>[(9,.c (.int .i64 ((S.take k).countP (rightP j plan i):Nat))),(10,.c (.int .i64 k))]) (fun _=>True) rfl trivial (by simp only [go_sem]<;>rfl) ?_
  intro k hk _
  by_cases hlt:k<S.length
  · have e4:IntKind.i64.wrap ((k:Int)+1)=((k+1:Nat):Int):=wrap_succ (n:=5000) (by omega) (by decide)
    have k0:(0:Int)≤k:=by omega
    have k1:(k:Int)<S.length:=by omega
    have i0:(0:Int)≤i:=by omega
    have i1:(i:Int)<j.pieces.length:=by omega
    have hat:=dipD_at hlt
    have hct:=countP_takeS (p:=rightP j plan i) hlt
    obtain ⟨z,hz⟩:∃z,z=S.getD k default:=⟨_,rfl⟩
    have hzo:=hS z (by rw [hz];exact getD_mem hlt)
    rw [←hz] at hat hct
    have hP:=fun {gt:Bool × Bool} {Q:V→Prop}=>qPlay (j:=j) (s:=z) (plan:=plan) (g:=g) (gt:=gt) (g1:=g1) (g2:=g2) (g3:=g3) (g4:=g4) (g5:=g5) hzo h4 ht (Q:=Q)
    simp only [jobV] at hP
    have ol:=ofS_len (j:=j) (s:=z) (plan:=plan)
    have hcl:(S.take k).countP (rightP j plan i)≤2000:=Nat.le_trans List.countP_le_length (by rw [List.length_take];omega)
    have hr:rightP j plan i z=inR ((ofS j z plan).getD i default) (j.pieces.getD i default).lo (j.pieces.getD i default).hi:=rfl
    cases hb:inR ((ofS j z plan).getD i default) (j.pieces.getD i default).lo (j.pieces.getD i default).hi with
    | true=>
      rw [hr,hb] at hct
      have e5:IntKind.i64.wrap (((S.take k).countP (rightP j plan i):Int)+1)=(((S.take (k+1)).countP (rightP j plan i):Nat):Int):=by rw [hct,wrapB (by omega) (by omega)];rfl
      simp only [go_sem,dl,k0,k1,hat,hP,ol,i0,i1,rIn,atI_nat,hb,e4,e5,hlt]
    | false=>
      rw [hr,hb] at hct
      have e5:(S.take k).countP (rightP j plan i)=(S.take (k+1)).countP (rightP j plan i):=by rw [hct];rfl
      simp only [go_sem,dl,k0,k1,hat,hP,ol,i0,i1,rIn,atI_nat,hb,e4,e5,hlt]
  · have:k=S.length:=by omega
    subst this
    simp only [go_sem,dl,hlt,List.take_length,qVerdict])
theorem qMatch (he:0≤j.eye∧j.eye≤9999) (hS:∀s∈S,s.Ok) (hl:S.length≤2000) (h4:j.pieces.length≤1000) (ht:totalB j plan=true) {a b:Nat} (ha:a<j.pieces.length) (hb:b<j.pieces.length) {Q:V→Prop}:CallP tab 44 [jobV g1 g2 g3 g4 g5 j,.c (L gd (dipD S)),.c (L g plan),.c (.int .i64 a),.c (.int .i64 b)] Q↔Q (.c (.int .i64 (vd (S.countP (matchP j plan a b)) S.length))):=CallP_of (by
  refine Val_X (fn:=f44) rfl ?_
  have dl:(dipD S).length=S.length:=by simp
  simp only [go_sem,f44]
  refine RX_forC S.length (fun k=>[(11,.c (.int .i64 ((S.take k).countP (matchP j plan a b):Nat))),(12,.c (.int .i64 k))]) (fun _=>True) rfl trivial (by simp only [go_sem]<;>rfl) ?_
  intro k hk _
  by_cases hlt:k<S.length
  · have e4:IntKind.i64.wrap ((k:Int)+1)=((k+1:Nat):Int):=wrap_succ (n:=5000) (by omega) (by decide)
    have k0:(0:Int)≤k:=by omega
    have k1:(k:Int)<S.length:=by omega
    have a0:(0:Int)≤a:=by omega
    have a1:(a:Int)<j.pieces.length:=by omega
    have b0:(0:Int)≤b:=by omega
    have b1:(b:Int)<j.pieces.length:=by omega
    have hat:=dipD_at hlt
    have hct:=countP_takeS (p:=matchP j plan a b) hlt
    obtain ⟨z,hz⟩:∃z,z=S.getD k default:=⟨_,rfl⟩
    have hzo:=hS z (by rw [hz];exact getD_mem hlt)
    rw [←hz] at hat hct
    have hP:=fun {gt:Bool × Bool} {Q:V→Prop}=>qPlay (j:=j) (s:=z) (plan:=plan) (g:=g) (gt:=gt) (g1:=g1) (g2:=g2) (g3:=g3) (g4:=g4) (g5:=g5) hzo h4 ht (Q:=Q)
    have hN:=fun {Q:V→Prop}=>qNear (g1:=g1) (g2:=g2) (g3:=g3) (g4:=g4) (g5:=g5) he (ofS_bd (j:=j) (plan:=plan) hzo (k:=a)) (ofS_bd (j:=j) (plan:=plan) hzo (k:=b)) (Q:=Q)
    simp only [jobV] at hP hN
    have ol:=ofS_len (j:=j) (s:=z) (plan:=plan)
    have hcl:(S.take k).countP (matchP j plan a b)≤2000:=Nat.le_trans List.countP_le_length (by rw [List.length_take];omega)
    have hr:matchP j plan a b z=nearB j ((ofS j z plan).getD a default) ((ofS j z plan).getD b default):=rfl
    cases hb:nearB j ((ofS j z plan).getD a default) ((ofS j z plan).getD b default) with
    | true=>
      rw [hr,hb] at hct
      have e5:IntKind.i64.wrap (((S.take k).countP (matchP j plan a b):Int)+1)=(((S.take (k+1)).countP (matchP j plan a b):Nat):Int):=by rw [hct,wrapB (by omega) (by omega)];rfl
      simp only [go_sem,dl,k0,k1,hat,hP,ol,a0,a1,b0,b1,atI_nat,hN,hb,e4,e5,hlt]
    | false=>
      rw [hr,hb] at hct
      have e5:(S.take k).countP (matchP j plan a b)=(S.take (k+1)).countP (matchP j plan a b):=by rw [hct];rfl
      simp only [go_sem,dl,k0,k1,hat,hP,ol,a0,a1,b0,b1,atI_nat,hN,hb,e4,e5,hlt]
  · have:k=S.length:=by omega
    subst this
    simp only [go_sem,dl,hlt,List.take_length,qVerdict])
end Am.Vt
namespace Am.Vt
open Go Am
set_option maxRecDepth 100000
set_option maxHeartbeats 4000000
set_option linter.unusedSimpArgs false
set_option linter.unusedVariables false
variable {g1 g2 g3 g4 g5 g gt gd:Bool × Bool} {j:Job} {v:Vat} {plan:List Stp} {t:Truth} {s:Sh} {S:List Sh}
def oldY (j:Job) (plan:List Stp) (i:Nat) (s:Sh):Nat:=(upTo j.old.lo j.old.hi).countP (nearB j ((ofS j s plan).getD i default))
theorem upTo_len {a b:Int}:(upTo a b).length=(b+1-a).toNat:=by simp [upTo]
theorem upTo_get {a b:Int} {k:Nat} (h:k<(b+1-a).toNat):(upTo a b).getD k default=a+k:=by
  rw [getD_lt _ _ _ (by rw [upTo_len];exact h)];simp [upTo]
theorem qOld (hj:j.Valid) (h50:j.old.hi-j.old.lo<50) (hS:∀s∈S,s.Ok) (hl:S.length≤2000) (ht:totalB j plan=true) {i:Nat} (hi:i<j.pieces.length) {Q:V→Prop}:CallP tab 43 [jobV g1 g2 g3 g4 g5 j,.c (L gd (dipD S)),.c (L g plan),.c (.int .i64 i)] Q↔Q (.c (.int .i64 (vd (sumN (oldY j plan i) S) (sumN (fun _=>szN j.old) S)))):=CallP_of (by
  refine Val_X (fn:=f43) rfl ?_
  have dl:(dipD S).length=S.length:=by simp
  have h4:j.pieces.length≤1000:=by have:=hj.pieces4;omega
  have ho:=hj.old
  have hsz:szN j.old=(j.old.hi+1-j.old.lo).toNat:=rfl
  have hul:(upTo j.old.lo j.old.hi).length=szN j.old:=upTo_len
  have hsz':szN j.old≤50:=by omega
  simp only [go_sem,f43]
  refine RX_forC S.length (fun k=>[(9,.c (.int .i64 (sumN (oldY j plan i) (S.take k):Nat))),(10,.c (.int .i64 (sumN (fun _=>szN j.old) (S.take k):Nat))),(11,.c (.int .i64 k))]) (fun _=>True) rfl trivial (by simp only [go_sem]<;>exact ⟨rfl,rfl⟩) ?_
  intro k hk _
  by_cases hlt:k<S.length
  · have e4:IntKind.i64.wrap ((k:Int)+1)=((k+1:Nat):Int):=wrap_succ (n:=5000) (by omega) (by decide)
    have k0:(0:Int)≤k:=by omega
    have k1:(k:Int)<S.length:=by omega
    have i0:(0:Int)≤i:=by omega
    have i1:(i:Int)<j.pieces.length:=by omega
    have hat:=dipD_at hlt
    have s1:=sumN_take (f:=oldY j plan i) hlt
    have s2:=sumN_take (f:=fun _=>szN j.old) hlt
    obtain ⟨z,hz⟩:∃z,z=S.getD k default:=⟨_,rfl⟩
    have hzo:=hS z (by rw [hz];exact getD_mem hlt)
    rw [←hz] at hat s1
    have hP:=fun {gt:Bool × Bool} {Q:V→Prop}=>qPlay (j:=j) (s:=z) (plan:=plan) (g:=g) (gt:=gt) (g1:=g1) (g2:=g2) (g3:=g3) (g4:=g4) (g5:=g5) hzo h4 ht (Q:=Q)
    simp only [jobV] at hP
    have ol:=ofS_len (j:=j) (s:=z) (plan:=plan)
    have hx:=ofS_bd (j:=j) (plan:=plan) hzo (k:=i)
    have hy1:=sumN_le (f:=oldY j plan i) (M:=50) (l:=S.take k) fun s=>Nat.le_trans List.countP_le_length (by rw [hul];exact hsz')
    have hy2:=sumN_le (f:=fun _=>szN j.old) (M:=50) (l:=S.take k) fun s=>hsz'
    have htk:(S.take k).length≤2000:=by rw [List.length_take];omega
    have hoy:oldY j plan i z=(upTo j.old.lo j.old.hi).countP (nearB j ((ofS j z plan).getD i default)):=rfl
    obtain ⟨w,hw⟩:∃w,w=upTo j.old.lo j.old.hi:=⟨_,rfl⟩
    rw [←hw] at hul hoy
    obtain ⟨a,ha⟩:∃a,a=sumN (oldY j plan i) (S.take k):=⟨_,rfl⟩
    obtain ⟨b,hb⟩:∃b,b=sumN (fun _=>szN j.old) (S.take k):=⟨_,rfl⟩
    rw [←ha] at hy1 ⊢
    rw [←hb] at hy2 ⊢
    obtain ⟨x,hxe⟩:∃x,x=(ofS j z plan).getD i default:=⟨_,rfl⟩
    rw [←hxe] at hx hoy
    simp only [go_sem,dl,k0,k1,hat,hP,ol,i0,i1,atI_nat,←hxe]
    refine RX_forC (szN j.old) (fun m=>[(9,.c (.int .i64 (a+(w.take m).countP (nearB j x):Nat))),(10,.c (.int .i64 (b+m:Nat))),(13,.c (.int .i64 (j.old.lo+m)))]) (fun _=>True) rfl trivial (by simp only [go_sem]<;>exact ⟨rfl,by omega⟩) ?_
    intro m hm _
    by_cases hml:m<szN j.old
    · have hle:j.old.lo+(m:Int)≤j.old.hi:=by omega
      have hg:w.getD m default=j.old.lo+m:=by rw [hw,upTo_get (by omega)]
      have hct:=countP_take (p:=nearB j x) (l:=w) (k:=m) (by omega)
      rw [hg] at hct
      have hcl:(w.take m).countP (nearB j x)≤50:=Nat.le_trans List.countP_le_length (by rw [List.length_take];omega)
      have e6:IntKind.i64.wrap (j.old.lo+m+1)=j.old.lo+((m+1:Nat):Int):=by rw [wrapB (by omega) (by omega)];omega
      have e7:IntKind.i64.wrap (((b+m:Nat):Int)+1)=((b+(m+1):Nat):Int):=by rw [wrapB (by omega) (by omega)];omega
      have hN:=fun {Q:V→Prop}=>qNear (g1:=g1) (g2:=g2) (g3:=g3) (g4:=g4) (g5:=g5) hj.eye hx (b:=j.old.lo+m) (by omega) (Q:=Q)
      simp only [jobV] at hN
      cases hnb:nearB j x (j.old.lo+m) with
      | true=>
        rw [hnb] at hct
        have e5:IntKind.i64.wrap (((a+(w.take m).countP (nearB j x):Nat):Int)+1)=((a+(w.take (m+1)).countP (nearB j x):Nat):Int):=by
          rw [hct,wrapB (by omega) (by omega)];simp only [b2n,if_true];omega
        simp only [go_sem,hle,hN,hnb,e5,e6,e7,hml]
      | false=>
        rw [hnb] at hct
        have e5:(w.take m).countP (nearB j x)=(w.take (m+1)).countP (nearB j x):=by rw [hct];rfl
        simp only [go_sem,hle,hN,hnb,e5,e6,e7,hml]
    · have:m=szN j.old:=by omega
      subst this
      have hle:¬j.old.lo+(szN j.old:Int)≤j.old.hi:=by omega
      have ht2:w.take (szN j.old)=w:=List.take_of_length_le (by omega)
      simp only [go_sem,hle,ht2,e4,hlt]
      exact ⟨by rw [s1,←ha,hoy],by rw [s2,←hb]⟩
  · have:k=S.length:=by omega
    subst this
    simp only [go_sem,dl,hlt,List.take_length,qVerdict])
def dipL (j:Job) (ts:List Truth):List Sh:=ts.map (shadesT j)
theorem qDipped (hj:j.Valid) {ts:List Truth} (hl:ts.length≤2000) (hT:∀t∈ts,IsT j.vat t) {Q:V→Prop}:CallP tab 79 [jobV g1 g2 g3 g4 g5 j,.c (L g ts)] Q↔Q (.c (L (false,false) (dipD (dipL j ts)))):=CallP_of (by
  refine Val_X (fn:=f79) rfl ?_
  obtain ⟨dN,de⟩:=dayN hj
  have tl:=fun k=>(show (dipD (dipL j (ts.take k))).length=(ts.take k).length by simp [dipL])
  simp only [go_sem,f79]
  refine RX_whileU (α:=Nat × List Obj) (fun y=>[(5,.c (.sl 1 y.1 0 y.1)),(6,.c (.int .i64 (y.1:Nat)))]) (fun y=>.cells (jobC g1 g2 g3 g4 g5 j) :: .arr false y.1 1 ((dipD (dipL j (ts.take y.1))).map Row.row)::y.2) (fun y=>y.1≤ts.length) (fun y=>ts.length-y.1) (0,[]) (Nat.zero_le _) (by simp only [go_sem]<;>rfl) ?_
  rintro ⟨k,X⟩ hk
  simp only at hk
  by_cases hlt:k<ts.length
  · have e4:IntKind.i64.wrap ((k:Int)+1)=((k+1:Nat):Int):=wrap_succ (n:=5000) (by omega) (by decide)
    have k0:(0:Int)≤k:=by omega
    have k1:(k:Int)<ts.length:=by omega
    obtain ⟨z,hz⟩:∃z,z=ts.getD k default:=⟨_,rfl⟩
    have hzT:=hT z (by rw [hz];exact getD_mem hlt)
    have hat:atI ts (k:Int)=z:=by rw [atI_nat,hz]
    have hR:=fun {gt:Bool × Bool} {Q:V→Prop}=>rShades (g1:=g1) (g2:=g2) (g3:=g3) (g4:=g4) (gt:=gt) hj.vat hzT dN (m:=20) (by decide) (Q:=Q)
    simp only [vatV,truthG,de,Int.cast_ofNat_Int] at hR
    have hst:(dipD (dipL j (ts.take (k+1)))).map (Row.row (α:=List Int))=(dipD (dipL j (ts.take k))).map Row.row++[Row.row (shadesL j.vat (stAt j.vat z (j.day.toNat+1)) 20)]:=by
      rw [take_getD hlt default,←hz];simp [dipL,shadesT]
    have tk:(ts.take k).length=k:=by rw [List.length_take];omega
    have b5:(k+1)*24≤2^40:=by omega
    simp only [go_sem,k0,k1,hat,hR,e4,b5,tl,tk]
    exact ⟨(k+1,_),⟨by simp only;omega,by simp only;omega⟩,⟨rfl,rfl⟩,by rw [hst];rfl,rfl⟩
  · have:k=ts.length:=by omega
    subst this
    have hl2:(dipD (dipL j ts)).length=ts.length:=by simp [dipL]
    have hpt:=part_map (l:=dipD (dipL j ts)) (n:=ts.length) hl2
    simp only [part,dropN] at hpt
    simp only [go_sem,hlt,List.take_length,hpt])
end Am.Vt
