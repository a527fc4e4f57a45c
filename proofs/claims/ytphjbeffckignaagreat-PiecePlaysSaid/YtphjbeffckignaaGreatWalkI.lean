/-
  A part of the proof: the texts L1 of this seat, joined.
-/
import Derived.Test.YtphjbeffckignaaGreatWalkH
namespace Am.Vt
open Go Am
set_option maxRecDepth 100000
set_option maxHeartbeats 4000000
set_option linter.unusedSimpArgs false
set_option linter.unusedVariables false
variable {g1 g2 g3 g4 g5 g gt gd:Bool × Bool} {j:Job} {v:Vat} {plan:List Stp} {t:Truth} {s:Sh} {S:List Sh}
theorem rShJ (hj:j.Valid) (hT:IsT j.vat t) {Q:V→Prop}:CallP tab 27 [vatV g1 g2 g3 g4 j.vat,truthG gt t,.c (.int .i64 j.day),.c (.int .i64 20)] Q↔Q (.c (L (false,false) (shadesT j t).l)):=by
  obtain ⟨dN,de⟩:=dayN hj
  have:=rShades (g1:=g1) (g2:=g2) (g3:=g3) (g4:=g4) (gt:=gt) hj.vat hT dN (m:=20) (by decide) (Q:=Q)
  rw [de] at this
  exact this
theorem dipOk_eq (hj:j.Valid):dipOk j t=listedB j.vat t:=by
  have:=hj.day
  have h1:inR j.day 0 j.vat.last=true:=by rw [inR_iff];omega
  rw [dipOk,hj.check,h1];simp [inR]
theorem PiecePlays_val : Val tab 3 [jobV g1 g2 g3 g4 g5 j,.c (L g plan),truthG gt t] (.c (.bool true)):=by
  refine Val_X (fn:=f3) rfl ?_
  have kt:=fun {Q:V→Prop}=>mThin (j:=j) (g1:=g1) (g2:=g2) (g3:=g3) (g4:=g4) (g5:=g5) (Q:=Q)
  simp only [jobV] at kt
  cases ht:thinJ j with
  | false=>simp only [go_sem,f3,kt,ht,lawake7,disj_nil]
  | true=>
  obtain ⟨hf,hs,h6⟩:=thinJ_fits ht
  by_cases hp:(plan.length:Int)>6
  · simp only [go_sem,f3,kt,ht,hp,lawake7,disj_nil]
  by_cases hd:(t.drift.length:Int)>12
  · simp only [go_sem,f3,kt,ht,hp,hd,lawake7,disj_nil]
  have hpb:plan.length<Big:=big_of (by omega)
  have kJ:=fun {Q:V→Prop}=>mJob (j:=j) (g1:=g1) (g2:=g2) (g3:=g3) (g4:=g4) (g5:=g5) hs h6 (Q:=Q)
  have kS:=fun {Q:V→Prop}=>msteps (plan:=plan) (g:=g) (by omega) (Q:=Q)
  have kT:=fun {Q:V→Prop}=>lTruth (gt:=gt) (t:=t) (by omega) (Q:=Q)
  have k1:=fun {g1 g2 g3 g4 g5 g gt:Bool × Bool} {Q:V→Prop}=>pPlay (j:=j) (plan:=plan) (t:=t) (g:=g) (gt:=gt) (g1:=g1) (g2:=g2) (g3:=g3) (g4:=g4) (g5:=g5) hf hpb (Q:=Q)
  have k2:=fun {Q:V→Prop}=>mfault (j:=j) (g1:=g1) (g2:=g2) (g3:=g3) (g4:=g4) (g5:=g5) hf (Q:=Q)
  have k3:=fun {g1 g2 g3 g4 g5:Bool × Bool} {Q:V→Prop}=>pCheckJob (j:=j) (g1:=g1) (g2:=g2) (g3:=g3) (g4:=g4) (g5:=g5) hf (Q:=Q)
  have k4:=fun {Q:V→Prop}=>qTotal (j:=j) (plan:=plan) (g:=g) (g1:=g1) (g2:=g2) (g3:=g3) (g4:=g4) (g5:=g5) (by omega) (by omega) (Q:=Q)
  simp only [jobV,truthG] at kJ kT k1 k2 k3 k4
  by_cases h0:checkJob j=0
  · have hj:=jvalid_of h0
    have k5:=fun {Q:V→Prop}=>rIsListed (v:=j.vat) (t:=t) (gt:=gt) (g1:=g1) (g2:=g2) (g3:=g3) (g4:=g4) hj.vat (Q:=Q)
    simp only [vatV,truthG] at k5
    have hdo:=dipOk_eq (t:=t) hj
    cases hb:totalB j plan with
    | false=>
      have hR:PlayRP j plan t = .tup [.c .nils,.c (.int .i64 2)]:=by rw [PlayRP,if_neg (by rw [h0];simp),if_pos (by rw [hb];rfl)]
      rw [hR] at k1
      simp only [go_sem,f3,kt,ht,hp,hd,kJ,kS,kT,k1,k2,k3,k4,k5,h0,hb,lawake7,disj_nil]
    | true=>
      cases hl:listedB j.vat t with
      | false=>
        have hR:PlayRP j plan t = .tup [.c .nils,.c (.int .i64 2)]:=by rw [PlayRP,if_neg (by rw [h0];simp),if_pos (by rw [hb,hdo,hl];rfl)]
        rw [hR] at k1
        simp only [go_sem,f3,kt,ht,hp,hd,kJ,kS,kT,k1,k2,k3,k4,k5,h0,hb,hl,lawake7,disj_nil]
      | true=>
        have hT:=listed_iff.1 hl
        have hR:PlayRP j plan t = .tup [.c (L (false,false) (ofS j (shadesT j t) plan)),.c (.int .i64 0)]:=by rw [PlayRP,if_neg (by rw [h0];simp),if_neg (by rw [hb,hdo,hl];decide),dip_ok hj hT]
        rw [hR] at k1
        have k6:=fun {gt:Bool × Bool} {Q:V→Prop}=>rShJ (t:=t) (gt:=gt) (g1:=g1) (g2:=g2) (g3:=g3) (g4:=g4) hj hT (Q:=Q)
        have k7:=fun {gt:Bool × Bool} {Q:V→Prop}=>qPlay (s:=shadesT j t) (plan:=plan) (g:=g) (gt:=gt) (g1:=g1) (g2:=g2) (g3:=g3) (g4:=g4) (g5:=g5) (shadesT_ok hj hT) (by omega) hb (Q:=Q)
        have k8:=fun {g g':Bool × Bool} {b:List Int} {Q:V→Prop}=>msame (g:=g) (g':=g') (a:=ofS j (shadesT j t) plan) (b:=b) (big_of (by rw [ofS_len];omega)) (Q:=Q)
        simp only [jobV,vatV,truthG] at k6 k7
        simp only [go_sem,f3,kt,ht,hp,hd,kJ,kS,kT,k1,k2,k3,k4,k5,k6,k7,k8,h0,hb,hl,lawake7,disj_nil,decide_true]
  · have hR:PlayRP j plan t = .tup [.c .nils,.c (.int .i64 (checkJob j))]:=by rw [PlayRP,if_pos h0]
    rw [hR] at k1
    simp only [go_sem,f3,kt,ht,hp,hd,kJ,kS,kT,k1,k2,k3,k4,h0,lawake7,disj_nil]
end Am.Vt
