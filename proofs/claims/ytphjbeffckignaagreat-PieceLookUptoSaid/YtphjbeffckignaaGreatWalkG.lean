/-
  A part of the proof: the texts Q1, Q2, Q3, Q4 of this seat, joined.
-/
import Derived.Test.YtphjbeffckignaaGreatWalkF
namespace Am.Vt
open Go Am
set_option maxRecDepth 100000
set_option maxHeartbeats 4000000
set_option linter.unusedSimpArgs false
set_option linter.unusedVariables false
variable {g1 g2 g3 g4 g5 g gt:Bool × Bool} {j:Job} {v:Vat} {plan:List Stp} {t:Truth} {s:Sh}
theorem qisShade {lo hi:Int} {Q:V→Prop}:CallP tab 117 [.agg [.int .i64 lo,.int .i64 hi]] Q↔Q (.c (.bool (rgOf lo hi 0 9999))):=CallP_of (by
  refine Val_X (fn:=f117) rfl ?_
  simp only [go_sem,f117,ge_iff_le]
  refine ⟨fun h=>⟨fun h'=>?_,fun h'=>?_⟩,fun h=>?_⟩<;>simp [rgOf, *])
theorem can_full (hv:v.Valid):canB v (2^v.looks.length-1)=posB v []:=by
  have h1:=can_iff hv (m:=2^v.looks.length-1) (by have:=Nat.one_le_two_pow (n:=v.looks.length);omega)
  rw [Bool.eq_iff_iff,h1,pos_iff hv]
  simp only [Nat.testBit_two_pow_sub_one,decide_eq_true_eq,List.not_mem_nil,false_or]
theorem qFault (hf:j.Fits) {Q:V→Prop}:CallP tab 67 [jobV g1 g2 g3 g4 g5 j] Q↔Q (.c (.int .i64 (checkJob j))):=CallP_of (by
  refine Val_X (fn:=f67) rfl ?_
  have k1:=fun {g1 g2 g3 g4:Bool × Bool} {Q:V→Prop}=>rFault (v:=j.vat) (g1:=g1) (g2:=g2) (g3:=g3) (g4:=g4) hf.vat (Q:=Q)
  simp only [vatV] at k1
  have hp:=hf.pieces
  by_cases h1:(j.pieces.length:Int)>4
  · simp only [go_sem,f67,h1,checkJob]
  by_cases h2:checkVat j.vat=0
  · have hv:=valid_of h2
    have l5:=hv.looks5
    have hlt:2^j.vat.looks.length-1<2^29:=by
      have:2^j.vat.looks.length≤2^5:=Nat.pow_le_pow_right (by decide) (by omega)
      omega
    have k2:=fun {g1 g2 g3 g4:Bool × Bool} {Q:V→Prop}=>rAll (v:=j.vat) (g1:=g1) (g2:=g2) (g3:=g3) (g4:=g4) hv (Q:=Q)
    have k3:=fun {g1 g2 g3 g4:Bool × Bool} {Q:V→Prop}=>rFull (v:=j.vat) (g1:=g1) (g2:=g2) (g3:=g3) (g4:=g4) (by omega) (Q:=Q)
    have k4:=fun {g:Bool × Bool} {Q:V→Prop}=>rCan (v:=j.vat) (g:=g) hv hlt (Q:=Q)
    simp only [vatV] at k2 k3
    have hcf:=can_full hv
    cases h3:posB j.vat [] with
    | false=>
      have ha:askE j.vat true=11:=by rw [askE,if_neg (by rw [h2];simp),if_neg (by decide),if_pos h3]
      rw [h3] at hcf
      simp only [go_sem,f67,h1,h2,k1,k2,k3,k4,hcf,checkJob,ha]
    | true=>
      have ha:askE j.vat true=0:=by rw [askE,if_neg (by rw [h2];simp),if_neg (by decide),if_neg (by rw [h3];decide)]
      rw [h3] at hcf
      have hC:checkJob j=if (inR j.day 0 j.vat.last&&(j.pieces.all shadeR&&(inR j.eye 0 9999&&shadeR j.old)))=true then 0 else 1:=by
        rw [checkJob,if_neg h1,if_neg (by rw [ha];simp)]
      rw [hC]
      cases h4:inR j.day 0 j.vat.last with
      | false=>simp only [go_sem,f67,h1,h2,k1,k2,k3,k4,hcf,rIn,h4]
      | true=>
      cases h5:inR j.eye 0 9999 with
      | false=>simp only [go_sem,f67,h1,h2,k1,k2,k3,k4,hcf,rIn,h4,h5]
      | true=>
      cases h6:rgOf j.old.lo j.old.hi 0 9999 with
      | false=>
        simp only [go_sem,f67,h1,h2,k1,k2,k3,k4,hcf,rIn,h4,h5,qisShade,h6,shadeR]
      | true=>
        simp only [go_sem,f67,h1,h2,k1,k2,k3,k4,hcf,rIn,h4,h5,qisShade,h6,shadeR]
        refine RX_forC j.pieces.length (fun k=>[(4,.c (.int .i64 k))]) (fun k=>∀i,i<k→shadeR (j.pieces.getD i default)=true) rfl (fun i h=>by omega) (by simp only [go_sem]<;>rfl) ?_
        intro k hk hP
        by_cases hlt:k<j.pieces.length
        · have e4:IntKind.i64.wrap ((k:Int)+1)=((k+1:Nat):Int):=wrap_succ (n:=5000) (by omega) (by decide)
          have k0:(0:Int)≤k:=by omega
          have k1:(k:Int)<j.pieces.length:=by omega
          cases h7:rgOf (j.pieces.getD k default).lo (j.pieces.getD k default).hi 0 9999 with
          | false=>
            have hall:j.pieces.all shadeR=false:=by
              rw [List.all_eq_false]
              exact ⟨_,getD_mem (d:=default) hlt,by rw [shadeR,h7];decide⟩
            have hall':(j.pieces.all fun r=>rgOf r.lo r.hi 0 9999)=false:=hall
            simp only [go_sem,k0,k1,qisShade,atI_nat,h7,hall,hall']
          | true=>
            simp only [go_sem,k0,k1,qisShade,atI_nat,h7,e4]
            refine ⟨hlt,fun i hi=>?_⟩
            by_cases hik:i=k
            · subst hik;exact h7
            · exact hP i (by omega)
        · have:k=j.pieces.length:=by omega
          subst this
          have hall:j.pieces.all shadeR=true:=by
            rw [List.all_eq_true]
            intro r hr
            obtain ⟨n,hn,rfl⟩:=List.getElem_of_mem hr
            have:=hP n hn
            rwa [getD_lt _ _ _ hn] at this
          have hall':(j.pieces.all fun r=>rgOf r.lo r.hi 0 9999)=true:=hall
          simp only [go_sem,hlt,hall,hall']
  · have ha:askE j.vat true=checkVat j.vat:=by rw [askE,if_pos h2]
    simp only [go_sem,f67,h1,h2,k1,checkJob,ha])
theorem fresh_pairs (h:∀i,i<plan.length→freshB plan i=true):plan.Pairwise fun a b=>a.piece≠b.piece:=by
  rw [List.pairwise_iff_getElem]
  intro a b ha hb hab
  have:=h b hb
  rw [freshB,Bool.not_eq_true',List.any_eq_false] at this
  have:=this plan[a] (by rw [List.mem_take_iff_getElem];exact ⟨a,by omega,rfl⟩)
  simpa [List.getD_eq_getElem?_getD,List.getElem?_eq_getElem hb] using this
theorem plan_short (h1:plan.all (stepOk j)=true) (h2:∀i,i<plan.length→freshB plan i=true):plan.length≤j.pieces.length:=by
  have:=und_done (n:=j.pieces.length) (l:=plan) (done:=0) (fun s hs=>by
    rw [List.all_eq_true] at h1
    have:=h1 s hs
    simp only [stepOk,pieceOk,Bool.and_eq_true,inR_iff] at this
    exact ⟨by omega,by omega,by simp⟩) (fresh_pairs h2)
  rw [und_0] at this
  omega
end Am.Vt
namespace Am.Vt
open Go Am
set_option maxRecDepth 100000
set_option maxHeartbeats 4000000
set_option linter.unusedSimpArgs false
set_option linter.unusedVariables false
variable {g1 g2 g3 g4 g5 g gt gd:Bool × Bool} {j:Job} {v:Vat} {plan:List Stp} {t:Truth} {s:Sh} {S:List Sh}
end Am.Vt
namespace Am.Vt
open Go Am
set_option maxRecDepth 100000
set_option maxHeartbeats 4000000
set_option linter.unusedSimpArgs false
set_option linter.unusedVariables false
variable {g1 g2 g3 g4 g5 g gt gd:Bool × Bool} {j:Job} {v:Vat} {plan:List Stp} {t:Truth} {s:Sh} {S:List Sh}
end Am.Vt
namespace Am.Vt
open Go Am
set_option maxRecDepth 100000
set_option maxHeartbeats 4000000
set_option linter.unusedSimpArgs false
set_option linter.unusedVariables false
variable {g1 g2 g3 g4 g5 g gt gd:Bool × Bool} {j:Job} {v:Vat} {plan:List Stp} {t:Truth} {s:Sh} {S:List Sh}
end Am.Vt
