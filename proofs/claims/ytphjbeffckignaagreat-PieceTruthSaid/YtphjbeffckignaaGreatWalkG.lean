/-
  A part of the proof: the texts Q1, Q2, Q3, Q4 of this seat, joined.
-/
import Derived.Test.YtphjbeffckignaaGreatWalkF
namespace Am.Vt
open Go Am
set_option maxRecDepth 100000
set_option maxHeartbeats 4000000
set_option linter.unusedSimpArgs false
set_option linter.unusedVariables false
variable {g1 g2 g3 g4 g5 g gt:Bool × Bool} {j:Job} {v:Vat} {plan:List Stp} {t:Truth} {s:Sh}
theorem qisShade {lo hi:Int} {Q:V→Prop}:CallP tab 117 [.agg [.int .i64 lo,.int .i64 hi]] Q↔Q (.c (.bool (rgOf lo hi 0 9999))):=CallP_of (by
  refine Val_X (fn:=f117) rfl ?_
  simp only [go_sem,f117,ge_iff_le]
  refine ⟨fun h=>⟨fun h'=>?_,fun h'=>?_⟩,fun h=>?_⟩<;>simp [rgOf, *])
theorem can_full (hv:v.Valid):canB v (2^v.looks.length-1)=posB v []:=by
  have h1:=can_iff hv (m:=2^v.looks.length-1) (by have:=Nat.one_le_two_pow (n:=v.looks.length);omega)
  rw [Bool.eq_iff_iff,h1,pos_iff hv]
  simp only [Nat.testBit_two_pow_sub_one,decide_eq_true_eq,List.not_mem_nil,false_or]
theorem qFault (hf:j.Fits) {Q:V→Prop}:CallP tab 67 [jobV g1 g2 g3 g4 g5 j] Q↔Q (.c (.int .i64 (checkJob j))):=CallP_of (by
  refine Val_X (fn:=f67) rfl ?_
  have k1:=fun {g1 g2 g3 g4:Bool × Bool} {Q:V→Prop}=>rFault (v:=j.vat) (g1:=g1) (g2:=g2) (g3:=g3) (g4:=g4) hf.vat (Q:=Q)
  simp only [vatV] at k1
  have hp:=hf.pieces
  by_cases h1:(j.pieces.length:Int)>4
  · simp only [go_sem,f67,h1,checkJob]
  by_cases h2:checkVat j.vat=0
  · have hv:=valid_of h2
    have l5:=hv.looks5
    have hlt:2^j.vat.looks.length-1<2^29:=by
      have:2^j.vat.looks.length≤2^5:=Nat.pow_le_pow_right (by decide) (by omega)
      omega
    have k2:=fun {g1 g2 g3 g4:Bool × Bool} {Q:V→Prop}=>rAll (v:=j.vat) (g1:=g1) (g2:=g2) (g3:=g3) (g4:=g4) hv (Q:=Q)
    have k3:=fun {g1 g2 g3 g4:Bool × Bool} {Q:V→Prop}=>rFull (v:=j.vat) (g1:=g1) (g2:=g2) (g3:=g3) (g4:=g4) (by omega) (Q:=Q)
    have k4:=fun {g:Bool × Bool} {Q:V→Prop}=>rCan (v:=j.vat) (g:=g) hv hlt (Q:=Q)
    simp only [vatV] at k2 k3
    have hcf:=can_full hv
    cases h3:posB j.vat [] with
    | false=>
      have ha:askE j.vat true=11:=by rw [askE,if_neg (by rw [h2];simp),if_neg (by decide),if_pos h3]
      rw [h3] at hcf
      simp only [go_sem,f67,h1,h2,k1,k2,k3,k4,hcf,checkJob,ha]
    | true=>
      have ha:askE j.vat true=0:=by rw [askE,if_neg (by rw [h2];simp),if_neg (by decide),if_neg (by rw [h3];decide)]
      rw [h3] at hcf
      have hC:checkJob j=if (inR j.day 0 j.vat.last&&(j.pieces.all shadeR&&(inR j.eye 0 9999&&shadeR j.old)))=true then 0 else 1:=by
        rw [checkJob,if_neg h1,if_neg (by rw [ha];simp)]
      rw [hC]
      cases h4:inR j.day 0 j.vat.last with
      | false=>simp only [go_sem,f67,h1,h2,k1,k2,k3,k4,hcf,rIn,h4]
      | true=>
      cases h5:inR j.eye 0 9999 with
      | false=>simp only [go_sem,f67,h1,h2,k1,k2,k3,k4,hcf,rIn,h4,h5]
      | true=>
      cases h6:rgOf j.old.lo j.old.hi 0 9999 with
      | false=>
        simp only [go_sem,f67,h1,h2,k1,k2,k3,k4,hcf,rIn,h4,h5,qisShade,h6,shadeR]
      | true=>
        simp only [go_sem,f67,h1,h2,k1,k2,k3,k4,hcf,rIn,h4,h5,qisShade,h6,shadeR]
        refine RX_forC j.pieces.length (fun k=>[(4,.c (.int .i64 k))]) (fun k=>∀i,i<k→shadeR (j.pieces.getD i default)=true) rfl (fun i h=>by omega) (by simp only [go_sem]<;>rfl) ?_
        intro k hk hP
        by_cases hlt:k<j.pieces.length
        · have e4:IntKind.i64.wrap ((k:Int)+1)=((k+1:Nat):Int):=wrap_succ (n:=5000) (by omega) (by decide)
          have k0:(0:Int)≤k:=by omega
          have k1:(k:Int)<j.pieces.length:=by omega
          cases h7:rgOf (j.pieces.getD k default).lo (j.pieces.getD k default).hi 0 9999 with
          | false=>
            have hall:j.pieces.all shadeR=false:=by
              rw [List.all_eq_false]
              exact ⟨_,getD_mem (d:=default) hlt,by rw [shadeR,h7];decide⟩
            have hall':(j.pieces.all fun r=>rgOf r.lo r.hi 0 9999)=false:=hall
            simp only [go_sem,k0,k1,qisShade,atI_nat,h7,hall,hall']
          | true=>
            simp only [go_sem,k0,k1,qisShade,atI_nat,h7,e4]
            refine ⟨hlt,fun i hi=>?_⟩
            by_cases hik:i=k
            · subst hik;exact h7
            · exact hP i (by omega)
        · have:k=j.pieces.length:=by omega
          subst this
          have hall:j.pieces.all shadeR=true:=by
            rw [List.all_eq_true]
            intro r hr
            obtain ⟨n,hn,rfl⟩:=List.getElem_of_mem hr
            have:=hP n hn
            rwa [getD_lt _ _ _ hn] at this
          have hall':(j.pieces.all fun r=>rgOf r.lo r.hi 0 9999)=true:=hall
          simp only [go_sem,hlt,hall,hall']
  · have ha:askE j.vat true=checkVat j.vat:=by rw [askE,if_pos h2]
    simp only [go_sem,f67,h1,h2,k1,checkJob,ha])
theorem doneL_lt {n:Nat}:∀{l:List Stp} {done:Nat},done<2^n→(∀s∈l,0≤s.piece∧s.piece<n)→doneL done l<2^n
  | [],_,h,_=>h
  | s::l,done,h,hl=>by
    have h0:=hl s (by simp)
    exact doneL_lt (l:=l) (Nat.or_lt_two_pow h (Nat.pow_lt_pow_right (by decide) (by omega))) fun x hx=>hl x (by simp [hx])
theorem doneL_snoc {l:List Stp} {s:Stp} {done:Nat}:doneL done (l++[s])=doneL done l ||| 2^s.piece.toNat:=by simp [doneL]
theorem fresh_bit {n:Nat} {k:Nat} (h:∀s∈plan.take k,0≤s.piece∧s.piece<n) (hz:0≤(plan.getD k default).piece):freshB plan k = !(doneL 0 (plan.take k)).testBit (plan.getD k default).piece.toNat:=by
  rw [freshB]
  congr 1
  rw [Bool.eq_iff_iff,doneL_bit,List.any_eq_true]
  simp only [Nat.zero_testBit,Bool.false_eq_true,false_or,decide_eq_true_eq]
  constructor
  · rintro ⟨x,hx,e⟩;exact ⟨x,hx,by rw [e]⟩
  · rintro ⟨x,hx,e⟩
    have:=h x hx
    exact ⟨x,hx,by omega⟩
theorem fresh_pairs (h:∀i,i<plan.length→freshB plan i=true):plan.Pairwise fun a b=>a.piece≠b.piece:=by
  rw [List.pairwise_iff_getElem]
  intro a b ha hb hab
  have:=h b hb
  rw [freshB,Bool.not_eq_true',List.any_eq_false] at this
  have:=this plan[a] (by rw [List.mem_take_iff_getElem];exact ⟨a,by omega,rfl⟩)
  simpa [List.getD_eq_getElem?_getD,List.getElem?_eq_getElem hb] using this
theorem plan_short (h1:plan.all (stepOk j)=true) (h2:∀i,i<plan.length→freshB plan i=true):plan.length≤j.pieces.length:=by
  have:=und_done (n:=j.pieces.length) (l:=plan) (done:=0) (fun s hs=>by
    rw [List.all_eq_true] at h1
    have:=h1 s hs
    simp only [stepOk,pieceOk,Bool.and_eq_true,inR_iff] at this
    exact ⟨by omega,by omega,by simp⟩) (fresh_pairs h2)
  rw [und_0] at this
  omega
theorem qTotal (h6:j.pieces.length≤20) (hp:plan.length≤1000) {Q:V→Prop}:CallP tab 23 [jobV g1 g2 g3 g4 g5 j,.c (L g plan)] Q↔Q (.tup [.c (.int .i64 (totalD j plan)),.c (.bool (totalB j plan))]):=CallP_of (by
  refine Val_X (fn:=f23) rfl ?_
  have e0:IntKind.i64.wrap ((j.pieces.length:Int)-1)=(j.pieces.length:Int)-1:=wrapB (by omega) (by omega)
  simp only [go_sem,f23]
  refine RX_whileU (α:=Nat × List Obj) (fun y=>[(6,.c (.int .i64 (sumD (plan.take y.1)))),(7,.c (.int .i64 (doneL 0 (plan.take y.1):Nat))),(8,.c (.int .i64 (y.1:Nat)))]) (fun y=>.cells (jobC g1 g2 g3 g4 g5 j)::y.2) (fun y=>y.1≤plan.length∧(∀i,i<y.1→stepOk j (plan.getD i default)=true)∧∀i,i<y.1→freshB plan i=true) (fun y=>plan.length-y.1) (0,[]) ⟨Nat.zero_le _,fun i h=>by simp at h,fun i h=>by simp at h⟩ (by simp only [go_sem]<;>exact ⟨rfl,rfl⟩) ?_
  rintro ⟨k,X⟩ ⟨hk,hS,hF⟩
  simp only at hk hS hF
  have htk:(plan.take k).all (stepOk j)=true:=by
    rw [List.all_eq_true]
    intro x hx
    obtain ⟨i,hi,rfl⟩:=List.mem_take_iff_getElem.1 hx
    have:=hS i (by omega)
    rwa [getD_lt _ _ _ (by omega)] at this
  have hin:∀s∈plan.take k,0≤s.piece∧s.piece<j.pieces.length:=fun s hs=>by
    rw [List.all_eq_true] at htk
    have:=htk s hs
    simp only [stepOk,pieceOk,Bool.and_eq_true,inR_iff] at this
    omega
  have bnot:∀i,i<plan.length→(stepOk j (plan.getD i default)=false∨freshB plan i=false)→totalD j plan=0∧totalB j plan=false:=by
    intro i hi h
    have:planOkB j plan=false:=by
      unfold planOkB
      rcases h with h | h
      · have:plan.all (stepOk j)=false:=by
          rw [List.all_eq_false];exact ⟨_,getD_mem (d:=default) hi,by rw [h];decide⟩
        rw [this,Bool.false_and,Bool.and_false]
      · have:distinctB plan=false:=by
          rw [distinctB,List.all_eq_false];exact ⟨i,List.mem_range.2 hi,by rw [h];decide⟩
        rw [this,Bool.and_false,Bool.and_false]
    exact ⟨by rw [totalD,this];rfl,by rw [totalB,this,Bool.false_and]⟩
  by_cases hlt:k<plan.length
  · have e4:IntKind.i64.wrap ((k:Int)+1)=((k+1:Nat):Int):=wrap_succ (n:=3000) (by omega) (by decide)
    have k0:(0:Int)≤k:=by omega
    have k1:(k:Int)<plan.length:=by omega
    obtain ⟨z,hz⟩:∃z,z=plan.getD k default:=⟨_,rfl⟩
    have hat:atI plan (k:Int)=z:=by rw [atI_nat,hz]
    have hb:=bnot k hlt
    rw [←hz] at hb
    cases h1:inR z.piece 0 ((j.pieces.length:Int)-1) with
    | false=>
      obtain ⟨b1,b2⟩:=hb (.inl (by simp [stepOk,pieceOk,h1]))
      simp only [go_sem,k0,k1,hat,rIn,e0,h1,b1,b2]
    | true=>
    cases h2:inR z.dips 0 20 with
    | false=>
      obtain ⟨b1,b2⟩:=hb (.inl (by simp [stepOk,pieceOk,h2]))
      simp only [go_sem,k0,k1,hat,rIn,e0,h1,h2,b1,b2]
    | true=>
      have h1':=inR_iff.1 h1
      have h2':=inR_iff.1 h2
      obtain ⟨p,hp'⟩:∃p:Nat,z.piece=p:=⟨z.piece.toNat,by omega⟩
      have hpn:p<j.pieces.length:=by omega
      obtain ⟨sn,hsn⟩:∃sn,sn=doneL 0 (plan.take k):=⟨_,rfl⟩
      have hlt':sn<2^j.pieces.length:=by rw [hsn];exact doneL_lt (Nat.two_pow_pos _) hin
      have hs20:sn<2^20:=Nat.lt_of_lt_of_le hlt' (Nat.pow_le_pow_right (by decide) h6)
      have hbit:=bit_rem (done:=sn) (i:=p)
      have hu:=u64W (k:=p) (by omega)
      have p0:¬(p:Int)<0:=by omega
      have hfr:=fresh_bit (plan:=plan) (k:=k) hin (by rw [←hz];omega)
      rw [←hz,←hsn,hp',Int.toNat_natCast] at hfr
      have hst:stepOk j z=true:=by simp [stepOk,pieceOk,h1,h2]
      rw [hp'] at h1
      rw [←hsn]
      cases hbt:sn.testBit p with
      | true=>
        rw [hbt] at hfr
        obtain ⟨b1,b2⟩:=hb (.inr hfr)
        have hb1:((sn:Int).fdiv (2^(min p IntKind.i64.bits))).tmod 2=1:=hbit.2 (.inl ⟨hbt,by omega⟩)
        simp only [go_sem,k0,k1,hat,rIn,e0,hp',h1,h2,b1,b2,hu,p0,hb1]
      | false=>
        rw [hbt] at hfr
        have hb1:¬((sn:Int).fdiv (2^(min p IntKind.i64.bits))).tmod 2=1:=fun h=>by
          rcases hbit.1 h with ⟨h,_⟩ | ⟨_,h⟩
          · rw [hbt] at h;cases h
          · omega
        have f1:IntKind.i64.wrap ((1:Int)*2^(min p IntKind.i64.bits))=((2^p:Nat):Int):=by
          have:=shlW (a:=1) (k:=p) (by omega) (by omega)
          simpa using this
        have hp2:2^p<2^29:=Nat.pow_lt_pow_right (by decide) (by omega)
        have f2:=orW (a:=sn) (b:=2^p) (Nat.lt_of_lt_of_le hs20 (by decide)) hp2
        have f3:((sn ||| 2^p:Nat):Int)=(doneL 0 (plan.take (k+1)):Nat):=by rw [take_getD hlt default,doneL_snoc,←hsn,←hz,hp',Int.toNat_natCast]
        have t1:=sumD_bd (j:=j) (plan:=plan.take k) htk
        have t2:(plan.take k).length≤1000:=by rw [List.length_take];omega
        have t3:sumD (plan.take (k+1))=sumD (plan.take k)+z.dips:=by
          unfold sumD
          rw [take_getD hlt default,List.map_append,←hz]
          exact sumI_snoc
        have e5:IntKind.i64.wrap (sumD (plan.take k)+z.dips)=sumD (plan.take (k+1)):=by rw [t3];exact wrapB (by omega) (by omega)
        simp only [go_sem,k0,k1,hat,rIn,e0,hp',h1,h2,hu,p0,hb1,f1,f2,f3,e4,e5]
        refine ⟨(k+1,_),⟨by simp only;omega,by simp only;omega,fun i hi=>?_,fun i hi=>?_⟩,⟨rfl,rfl,rfl⟩,rfl⟩
        · simp only at hi
          by_cases hik:i=k
          · rw [hik,←hz];exact hst
          · exact hS i (by omega)
        · simp only at hi
          by_cases hik:i=k
          · rw [hik];exact hfr
          · exact hF i (by omega)
  · have:k=plan.length:=by omega
    subst this
    rw [List.take_length] at htk
    have hok:planOkB j plan=true:=by
      have:distinctB plan=true:=by
        rw [distinctB,List.all_eq_true];exact fun i hi=>hF i (List.mem_range.1 hi)
      rw [planOkB,this,htk,decide_eq_true (plan_short htk hF)];rfl
    simp only [go_sem,hlt,List.take_length]
    exact ⟨by rw [totalD,hok];rfl,by rw [totalB,hok];rfl⟩)
end Am.Vt
namespace Am.Vt
open Go Am
set_option maxRecDepth 100000
set_option maxHeartbeats 4000000
set_option linter.unusedSimpArgs false
set_option linter.unusedVariables false
variable {g1 g2 g3 g4 g5 g gt gd:Bool × Bool} {j:Job} {v:Vat} {plan:List Stp} {t:Truth} {s:Sh} {S:List Sh}
theorem qNear (he:0≤j.eye∧j.eye≤9999) {a b:Int} (ha:0≤a∧a≤100000) (hb:0≤b∧b≤100000) {Q:V→Prop}:CallP tab 55 [jobV g1 g2 g3 g4 g5 j,.c (.int .i64 a),.c (.int .i64 b)] Q↔Q (.c (.bool (nearB j a b))):=CallP_of (by
  refine Val_X (fn:=f55) rfl ?_
  have e1:IntKind.i64.wrap (a-b)=a-b:=wrapB (by omega) (by omega)
  have e2:IntKind.i64.wrap (b-a)=b-a:=wrapB (by omega) (by omega)
  by_cases h1:a-b≤j.eye
  · by_cases h2:b-a≤j.eye
    · have:nearB j a b=true:=by rw [nearB,inR_iff];omega
      simp only [go_sem,f55,e1,e2,h1,h2,this]
    · have:nearB j a b=false:=by rw [←Bool.not_eq_true,nearB,inR_iff];omega
      simp only [go_sem,f55,e1,e2,h1,h2,this]
  · have:nearB j a b=false:=by rw [←Bool.not_eq_true,nearB,inR_iff];omega
    simp only [go_sem,f55,e1,e2,h1,this])
end Am.Vt
namespace Am.Vt
open Go Am
set_option maxRecDepth 100000
set_option maxHeartbeats 4000000
set_option linter.unusedSimpArgs false
set_option linter.unusedVariables false
variable {g1 g2 g3 g4 g5 g gt gd:Bool × Bool} {j:Job} {v:Vat} {plan:List Stp} {t:Truth} {s:Sh} {S:List Sh}
end Am.Vt
namespace Am.Vt
open Go Am
set_option maxRecDepth 100000
set_option maxHeartbeats 4000000
set_option linter.unusedSimpArgs false
set_option linter.unusedVariables false
variable {g1 g2 g3 g4 g5 g gt gd:Bool × Bool} {j:Job} {v:Vat} {plan:List Stp} {t:Truth} {s:Sh} {S:List Sh}
end Am.Vt
