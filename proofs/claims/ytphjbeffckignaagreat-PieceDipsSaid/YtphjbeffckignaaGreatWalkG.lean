/-
  A part of the proof: the texts Q1, Q2, Q3, Q4 of this seat, joined.
-/
import Derived.Test.YtphjbeffckignaaGreatWalkF
namespace Am.Vt
open Go Am
set_option maxRecDepth 100000
set_option maxHeartbeats 4000000
set_option linter.unusedSimpArgs false
set_option linter.unusedVariables false
variable {g1 g2 g3 g4 g5 g gt:Bool × Bool} {j:Job} {v:Vat} {plan:List Stp} {t:Truth} {s:Sh}
theorem qisShade {lo hi:Int} {Q:V→Prop}:CallP tab 117 [.agg [.int .i64 lo,.int .i64 hi]] Q↔Q (.c (.bool (rgOf lo hi 0 9999))):=CallP_of (by
  refine Val_X (fn:=f117) rfl ?_
  simp only [go_sem,f117,ge_iff_le]
  refine ⟨fun h=>⟨fun h'=>?_,fun h'=>?_⟩,fun h=>?_⟩<;>simp [rgOf, *])
theorem can_full (hv:v.Valid):canB v (2^v.looks.length-1)=posB v []:=by
  have h1:=can_iff hv (m:=2^v.looks.length-1) (by have:=Nat.one_le_two_pow (n:=v.looks.length);omega)
  rw [Bool.eq_iff_iff,h1,pos_iff hv]
  simp only [Nat.testBit_two_pow_sub_one,decide_eq_true_eq,List.not_mem_nil,false_or]
theorem qFault (hf:j.Fits) {Q:V→Prop}:CallP tab 67 [jobV g1 g2 g3 g4 g5 j] Q↔Q (.c (.int .i64 (checkJob j))):=CallP_of (by
  refine Val_X (fn:=f67) rfl ?_
  have k1:=fun {g1 g2 g3 g4:Bool × Bool} {Q:V→Prop}=>rFault (v:=j.vat) (g1:=g1) (g2:=g2) (g3:=g3) (g4:=g4) hf.vat (Q:=Q)
  simp only [vatV] at k1
  have hp:=hf.pieces
  by_cases h1:(j.pieces.length:Int)>4
  · simp only [go_sem,f67,h1,checkJob]
  by_cases h2:checkVat j.vat=0
  · have hv:=valid_of h2
    have l5:=hv.looks5
    have hlt:2^j.vat.looks.length-1<2^29:=by
      have:2^j.vat.looks.length≤2^5:=Nat.pow_le_pow_right (by decide) (by omega)
      omega
    have k2:=fun {g1 g2 g3 g4:Bool × Bool} {Q:V→Prop}=>rAll (v:=j.vat) (g1:=g1) (g2:=g2) (g3:=g3) (g4:=g4) hv (Q:=Q)
    have k3:=fun {g1 g2 g3 g4:Bool × Bool} {Q:V→Prop}=>rFull (v:=j.vat) (g1:=g1) (g2:=g2) (g3:=g3) (g4:=g4) (by omega) (Q:=Q)
    have k4:=fun {g:Bool × Bool} {Q:V→Prop}=>rCan (v:=j.vat) (g:=g) hv hlt (Q:=Q)
    simp only [vatV] at k2 k3
    have hcf:=can_full hv
    cases h3:posB j.vat [] with
    | false=>
      have ha:askE j.vat true=11:=by rw [askE,if_neg (by rw [h2];simp),if_neg (by decide),if_pos h3]
      rw [h3] at hcf
      simp only [go_sem,f67,h1,h2,k1,k2,k3,k4,hcf,checkJob,ha]
    | true=>
      have ha:askE j.vat true=0:=by rw [askE,if_neg (by rw [h2];simp),if_neg (by decide),if_neg (by rw [h3];decide)]
      rw [h3] at hcf
      have hC:checkJob j=if (inR j.day 0 j.vat.last&&(j.pieces.all shadeR&&(inR j.eye 0 9999&&shadeR j.old)))=true then 0 else 1:=by
        rw [checkJob,if_neg h1,if_neg (by rw [ha];simp)]
      rw [hC]
      cases h4:inR j.day 0 j.vat.last with
      | false=>simp only [go_sem,f67,h1,h2,k1,k2,k3,k4,hcf,rIn,h4]
      | true=>
      cases h5:inR j.eye 0 9999 with
      | false=>simp only [go_sem,f67,h1,h2,k1,k2,k3,k4,hcf,rIn,h4,h5]
      | true=>
      cases h6:rgOf j.old.lo j.old.hi 0 9999 with
      | false=>
        simp only [go_sem,f67,h1,h2,k1,k2,k3,k4,hcf,rIn,h4,h5,qisShade,h6,shadeR]
      | true=>
        simp only [go_sem,f67,h1,h2,k1,k2,k3,k4,hcf,rIn,h4,h5,qisShade,h6,shadeR]
        refine RX_forC j.pieces.length (fun k=>[(4,.c (.int .i64 k))]) (fun k=>∀i,i<k→shadeR (j.pieces.getD i default)=true) rfl (fun i h=>by omega) (by simp only [go_sem]<;>rfl) ?_
        intro k hk hP
        by_cases hlt:k<j.pieces.length
        · have e4:IntKind.i64.wrap ((k:Int)+1)=((k+1:Nat):Int):=wrap_succ (n:=5000) (by omega) (by decide)
          have k0:(0:Int)≤k:=by omega
          have k1:(k:Int)<j.pieces.length:=by omega
          cases h7:rgOf (j.pieces.getD k default).lo (j.pieces.getD k default).hi 0 9999 with
          | false=>
            have hall:j.pieces.all shadeR=false:=by
              rw [List.all_eq_false]
              exact ⟨_,getD_mem (d:=default) hlt,by rw [shadeR,h7];decide⟩
            have hall':(j.pieces.all fun r=>rgOf r.lo r.hi 0 9999)=false:=hall
            simp only [go_sem,k0,k1,qisShade,atI_nat,h7,hall,hall']
          | true=>
            simp only [go_sem,k0,k1,qisShade,atI_nat,h7,e4]
            refine ⟨hlt,fun i hi=>?_⟩
            by_cases hik:i=k
            · subst hik;exact h7
            · exact hP i (by omega)
        · have:k=j.pieces.length:=by omega
          subst this
          have hall:j.pieces.all shadeR=true:=by
            rw [List.all_eq_true]
            intro r hr
            obtain ⟨n,hn,rfl⟩:=List.getElem_of_mem hr
            have:=hP n hn
            rwa [getD_lt _ _ _ hn] at this
          have hall':(j.pieces.all fun r=>rgOf r.lo r.hi 0 9999)=true:=hall
          simp only [go_sem,hlt,hall,hall']
  · have ha:askE j.vat true=checkVat j.vat:=by rw [askE,if_pos h2]
    simp only [go_sem,f67,h1,h2,k1,checkJob,ha])
end Am.Vt
namespace Am.Vt
open Go Am
set_option maxRecDepth 100000
set_option maxHeartbeats 4000000
set_option linter.unusedSimpArgs false
set_option linter.unusedVariables false
variable {g1 g2 g3 g4 g5 g gt gd:Bool × Bool} {j:Job} {v:Vat} {plan:List Stp} {t:Truth} {s:Sh} {S:List Sh}
abbrev dipD (S:List Sh):List (List Int):=S.map Sh.l
theorem qSum (hs:s.Ok) {g:Bool × Bool} {b d:Nat} {Q:V→Prop}:CallP tab 60 [.c (L g ((s.l.drop b).take d))] Q↔Q (.c (.int .i64 (sumS s b d))):=
  rSum (M:=5000) (by decide) (by rw [List.length_take,List.length_drop,s.h];omega) fun x hx=>by
    have:=hs x (List.mem_of_mem_drop (List.mem_of_mem_take hx))
    omega
def rightA (j:Job) (S:List Sh) (i b d:Nat):Bool:=decide (b+d≤20)&&S.all fun s=>rightS j s i b d
theorem qIsRight (hS:∀s∈S,s.Ok) (hl:S.length≤2000) {i b d:Nat} (hi:i<j.pieces.length) (hb:b≤1000) (hd:d≤1000) {Q:V→Prop}:CallP tab 78 [jobV g1 g2 g3 g4 g5 j,.c (L gd (dipD S)),.c (.int .i64 i),.c (.int .i64 b),.c (.int .i64 d)] Q↔Q (.c (.bool (rightA j S i b d))):=CallP_of (by
  refine Val_X (fn:=f78) rfl ?_
  have e1:IntKind.i64.wrap ((b:Int)+d)=((b+d:Nat):Int):=by rw [wrapB (by omega) (by omega)];omega
  by_cases h20:(20:Int)<((b+d:Nat):Int)
  · have h20':((b+d:Nat):Int)>20:=h20
    simp only [go_sem,f78,e1,h20']
    rw [rightA,decide_eq_false (by omega)];rfl
  · have h20':¬((b+d:Nat):Int)>20:=h20
    have hA:rightA j S i b d=S.all fun s=>rightS j s i b d:=by rw [rightA,decide_eq_true (by omega)];rfl
    rw [hA]
    have dl:(dipD S).length=S.length:=by simp
    simp only [go_sem,f78,e1,h20']
    refine RX_forC S.length (fun k=>[(11,.c (.int .i64 k))]) (fun k=>∀m,m<k→rightS j (S.getD m default) i b d=true) rfl (fun i h=>by omega) (by simp only [go_sem]<;>rfl) ?_
    intro k hk hP
    by_cases hlt:k<S.length
    · have e4:IntKind.i64.wrap ((k:Int)+1)=((k+1:Nat):Int):=wrap_succ (n:=5000) (by omega) (by decide)
      have k0:(0:Int)≤k:=by omega
      have k1:(k:Int)<S.length:=by omega
      have i0:(0:Int)≤i:=by omega
      have i1:(i:Int)<j.pieces.length:=by omega
      obtain ⟨z,hz⟩:∃z,z=S.getD k default:=⟨_,rfl⟩
      have hzo:=hS z (by rw [hz];exact getD_mem hlt)
      have hat:atI (dipD S) (k:Int)=z.l:=by rw [atI_nat,hz,getD_lt _ _ _ (by rw [dl];exact hlt),getD_lt _ _ _ hlt];simp
      have bd1:b≤b+d∧b+d≤20:=by omega
      have bd2:b+d-b=d:=by omega
      have bd3:b+d≤z.l.length:=by rw [z.h];omega
      have b0:(0:Int)≤b:=by omega
      have hh:headLen 1 (z.l.map (Row.row (α:=Int)))=true:=headLen_map (sz:=1) rfl
      have zl:=z.h
      have hS1:=fun {g:Bool × Bool} {Q:V→Prop}=>qSum (s:=z) hzo (g:=g) (b:=b) (d:=d) (Q:=Q)
      have hr:rightS j z i b d=inR (sumS z b d) (j.pieces.getD i default).lo (j.pieces.getD i default).hi:=rfl
      cases hb:inR (sumS z b d) (j.pieces.getD i default).lo (j.pieces.getD i default).hi with
      | false=>
        have hall:(S.all fun s=>rightS j s i b d)=false:=by
          rw [List.all_eq_false]
          exact ⟨z,by rw [hz];exact getD_mem hlt,by rw [hr,hb];decide⟩
        simp only [go_sem,dl,k0,k1,hat,hh,zl,hS1,i0,i1,e1,rIn,bd1,bd2,bd3,b0,atI_nat,hb,hall]
      | true=>
        simp only [go_sem,dl,k0,k1,hat,hh,zl,hS1,i0,i1,e1,rIn,bd1,bd2,bd3,b0,atI_nat,hb,e4]
        refine ⟨hlt,fun m hm=>?_⟩
        by_cases hmk:m=k
        · rw [hmk,←hz,hr,hb]
        · exact hP m (by omega)
    · have:k=S.length:=by omega
      subst this
      simp only [go_sem,dl,hlt]
      rw [List.all_eq_true]
      intro s hs
      obtain ⟨n,hn,rfl⟩:=List.getElem_of_mem hs
      have:=hP n hn
      rwa [getD_lt _ _ _ hn] at this)
def dipsA (j:Job) (S:List Sh) (i b:Nat):Int:=match (List.range (21-b)).find? fun d=>rightA j S i b d with
  | some d=>d
  | none=>-1
theorem qDips (hS:∀s∈S,s.Ok) (hl:S.length≤2000) {i b:Nat} (hi:i<j.pieces.length) (hb:b≤20) {Q:V→Prop}:CallP tab 31 [jobV g1 g2 g3 g4 g5 j,.c (L gd (dipD S)),.c (.int .i64 i),.c (.int .i64 b)] Q↔Q (.c (.int .i64 (dipsA j S i b))):=CallP_of (by
  refine Val_X (fn:=f31) rfl ?_
  simp only [go_sem,f31]
  refine RX_forC (21-b) (fun k=>[(9,.c (.int .i64 k))]) (fun k=>∀m,m<k→rightA j S i b m=false) rfl (fun i h=>by omega) (by simp only [go_sem]<;>rfl) ?_
  intro k hk hP
  have e1:IntKind.i64.wrap ((b:Int)+k)=((b+k:Nat):Int):=by rw [wrapB (by omega) (by omega)];omega
  by_cases hlt:k<21-b
  · have e4:IntKind.i64.wrap ((k:Int)+1)=((k+1:Nat):Int):=wrap_succ (n:=5000) (by omega) (by decide)
    have h1:((b+k:Nat):Int)≤20:=by omega
    have hR:=fun {Q:V→Prop}=>qIsRight (j:=j) (S:=S) (g1:=g1) (g2:=g2) (g3:=g3) (g4:=g4) (g5:=g5) (gd:=gd) hS hl hi (b:=b) (d:=k) (by omega) (by omega) (Q:=Q)
    simp only [jobV] at hR
    cases hr:rightA j S i b k with
    | true=>
      have hf:dipsA j S i b=k:=by rw [dipsA,find_range hlt hP hr]
      simp only [go_sem,e1,h1,hR,hr,hf]
    | false=>
      simp only [go_sem,e1,h1,hR,hr,e4]
      refine ⟨hlt,fun m hm=>?_⟩
      by_cases hmk:m=k
      · rw [hmk];exact hr
      · exact hP m (by omega)
  · have:k=21-b:=by omega
    subst this
    have h1:¬((b+(21-b):Nat):Int)≤20:=by omega
    have hf:dipsA j S i b = -1:=by
      rw [dipsA,List.find?_eq_none.2]
      intro d hd
      rw [hP d (List.mem_range.1 hd)];decide
    simp only [go_sem,e1,h1,hf])
end Am.Vt
namespace Am.Vt
open Go Am
set_option maxRecDepth 100000
set_option maxHeartbeats 4000000
set_option linter.unusedSimpArgs false
set_option linter.unusedVariables false
variable {g1 g2 g3 g4 g5 g gt gd:Bool × Bool} {j:Job} {v:Vat} {plan:List Stp} {t:Truth} {s:Sh} {S:List Sh}
end Am.Vt
namespace Am.Vt
open Go Am
set_option maxRecDepth 100000
set_option maxHeartbeats 4000000
set_option linter.unusedSimpArgs false
set_option linter.unusedVariables false
variable {g1 g2 g3 g4 g5 g gt gd:Bool × Bool} {j:Job} {v:Vat} {plan:List Stp} {t:Truth} {s:Sh} {S:List Sh}
def dipL (j:Job) (ts:List Truth):List Sh:=ts.map (shadesT j)
theorem qDipped (hj:j.Valid) {ts:List Truth} (hl:ts.length≤2000) (hT:∀t∈ts,IsT j.vat t) {Q:V→Prop}:CallP tab 79 [jobV g1 g2 g3 g4 g5 j,.c (L g ts)] Q↔Q (.c (L (false,false) (dipD (dipL j ts)))):=CallP_of (by
  refine Val_X (fn:=f79) rfl ?_
  obtain ⟨dN,de⟩:=dayN hj
  have tl:=fun k=>(show (dipD (dipL j (ts.take k))).length=(ts.take k).length by simp [dipL])
  simp only [go_sem,f79]
  refine RX_whileU (α:=Nat × List Obj) (fun y=>[(5,.c (.sl 1 y.1 0 y.1)),(6,.c (.int .i64 (y.1:Nat)))]) (fun y=>.cells (jobC g1 g2 g3 g4 g5 j) :: .arr false y.1 1 ((dipD (dipL j (ts.take y.1))).map Row.row)::y.2) (fun y=>y.1≤ts.length) (fun y=>ts.length-y.1) (0,[]) (Nat.zero_le _) (by simp only [go_sem]<;>rfl) ?_
  rintro ⟨k,X⟩ hk
  simp only at hk
  by_cases hlt:k<ts.length
  · have e4:IntKind.i64.wrap ((k:Int)+1)=((k+1:Nat):Int):=wrap_succ (n:=5000) (by omega) (by decide)
    have k0:(0:Int)≤k:=by omega
    have k1:(k:Int)<ts.length:=by omega
    obtain ⟨z,hz⟩:∃z,z=ts.getD k default:=⟨_,rfl⟩
    have hzT:=hT z (by rw [hz];exact getD_mem hlt)
    have hat:atI ts (k:Int)=z:=by rw [atI_nat,hz]
    have hR:=fun {gt:Bool × Bool} {Q:V→Prop}=>rShades (g1:=g1) (g2:=g2) (g3:=g3) (g4:=g4) (gt:=gt) hj.vat hzT dN (m:=20) (by decide) (Q:=Q)
    simp only [vatV,truthG,de,Int.cast_ofNat_Int] at hR
    have hst:(dipD (dipL j (ts.take (k+1)))).map (Row.row (α:=List Int))=(dipD (dipL j (ts.take k))).map Row.row++[Row.row (shadesL j.vat (stAt j.vat z (j.day.toNat+1)) 20)]:=by
      rw [take_getD hlt default,←hz];simp [dipL,shadesT]
    have tk:(ts.take k).length=k:=by rw [List.length_take];omega
    have b5:(k+1)*24≤2^40:=by omega
    simp only [go_sem,k0,k1,hat,hR,e4,b5,tl,tk]
    exact ⟨(k+1,_),⟨by simp only;omega,by simp only;omega⟩,⟨rfl,rfl⟩,by rw [hst];rfl,rfl⟩
  · have:k=ts.length:=by omega
    subst this
    have hl2:(dipD (dipL j ts)).length=ts.length:=by simp [dipL]
    have hpt:=part_map (l:=dipD (dipL j ts)) (n:=ts.length) hl2
    simp only [part,dropN] at hpt
    simp only [go_sem,hlt,List.take_length,hpt])
end Am.Vt
