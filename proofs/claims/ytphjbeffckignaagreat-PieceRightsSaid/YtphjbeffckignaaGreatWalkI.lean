/-
  A part of the proof: the texts L1, PX, L2, L3 of this seat, joined.
-/
import Derived.Test.YtphjbeffckignaaGreatWalkH
namespace Am.Vt
open Go Am
set_option maxRecDepth 100000
set_option maxHeartbeats 4000000
set_option linter.unusedSimpArgs false
set_option linter.unusedVariables false
variable {g1 g2 g3 g4 g5 g gt gd:Bool × Bool} {j:Job} {v:Vat} {plan:List Stp} {t:Truth} {s:Sh} {S:List Sh}
end Am.Vt
namespace Am.Vt
open Go Am
set_option maxRecDepth 100000
set_option maxHeartbeats 4000000
set_option linter.unusedSimpArgs false
set_option linter.unusedVariables false
variable {j:Job} {v:Vat} {plan:List Stp} {t:Truth} {s:Sh} {S:List Sh}
abbrev dipR (j:Job):List Sh:=dipL j (refTruths j.vat)
theorem same_sets (hj:j.Valid) {s:Sh}:s∈dipR j↔s∈workL j:=by
  rw [mem_workL hj]
  simp only [dipR,dipL,List.mem_map,mem_refTruths hj.vat]
  constructor
  · rintro ⟨t,h,rfl⟩;exact ⟨t,h,rfl⟩
  · rintro ⟨t,h,rfl⟩;exact ⟨t,h,rfl⟩
theorem dipR_len (hj:j.Valid):(dipR j).length≤2000:=by simp only [dipR,dipL,List.length_map];exact refTruths_len hj.vat
theorem dipR_ok (hj:j.Valid):∀s∈dipR j,s.Ok:=fun s hs=>workL_ok hj s ((same_sets hj).1 hs)
theorem sumN_b2n {p:Sh→Bool}:∀{l:List Sh},sumN (fun s=>b2n (p s)) l=l.countP p
  | []=>rfl
  | s::l=>by
    have:=sumN_b2n (p:=p) (l:=l)
    unfold sumN at *
    rw [List.map_cons,List.sum_cons,this,List.countP_cons]
    cases h:p s<;>simp [b2n,h];omega
theorem sumN_const {n:Nat}:∀{l:List Sh},sumN (fun _=>n) l=l.length*n
  | []=>by simp [sumN]
  | s::l=>by
    have:=sumN_const (n:=n) (l:=l)
    unfold sumN at *
    rw [List.map_cons,List.sum_cons,this,List.length_cons,Nat.succ_mul];omega
theorem sumN_le2 {ys ms:Sh→Nat} (h:∀s,ys s≤ms s):∀{l:List Sh},sumN ys l≤sumN ms l
  | []=>Nat.le_refl _
  | s::l=>by
    have:=sumN_le2 h (l:=l)
    have:=h s
    unfold sumN at *
    simp only [List.map_cons,List.sum_cons];omega
theorem sumN_all {ys ms:Sh→Nat} (h:∀s,ys s≤ms s):∀{l:List Sh},sumN ys l=sumN ms l↔∀s∈l,ys s=ms s
  | []=>by simp [sumN]
  | s::l=>by
    have ih:=sumN_all h (l:=l)
    have h1:=h s
    have h2:=sumN_le2 h (l:=l)
    have e1:sumN ys (s::l)=ys s+sumN ys l:=by simp [sumN]
    have e2:sumN ms (s::l)=ms s+sumN ms l:=by simp [sumN]
    rw [e1,e2]
    constructor
    · intro e x hx
      rcases List.mem_cons.1 hx with rfl | hx
      · omega
      · exact ih.1 (by omega) x hx
    · intro e
      have:=e s (by simp)
      have:=ih.2 fun x hx=>e x (by simp [hx])
      omega
theorem sumN_none {ys:Sh→Nat}:∀{l:List Sh},sumN ys l=0↔∀s∈l,ys s=0
  | []=>by simp [sumN]
  | s::l=>by
    have ih:=sumN_none (ys:=ys) (l:=l)
    have e1:sumN ys (s::l)=ys s+sumN ys l:=by simp [sumN]
    rw [e1]
    constructor
    · intro e x hx
      rcases List.mem_cons.1 hx with rfl | hx
      · omega
      · exact ih.1 (by omega) x hx
    · intro e
      have:=e s (by simp)
      have:=ih.2 fun x hx=>e x (by simp [hx])
      omega
theorem vd_iff {a b a' b':Nat} (h1:a=b↔a'=b') (h2:a=0↔a'=0):vd a b=vd a' b':=by
  unfold vd
  by_cases h:a=b
  · rw [if_pos h,if_pos (h1.1 h)]
  · rw [if_neg h,if_neg (fun h'=>h (h1.2 h'))]
    by_cases h0:a=0
    · rw [if_pos h0,if_pos (h2.1 h0)]
    · rw [if_neg h0,if_neg (fun h'=>h0 (h2.2 h'))]
theorem vd_sets {W D:List Sh} (hWD:∀s,s∈D↔s∈W) {ys ms ys' ms':Sh→Nat} (h1:∀s,ys s≤ms s) (h2:∀s,ys' s≤ms' s) (ha:∀s∈W,(ys s=ms s↔ys' s=ms' s)∧(ys s=0↔ys' s=0)):vd (sumN ys W) (sumN ms W)=vd (sumN ys' D) (sumN ms' D):=by
  refine vd_iff ?_ ?_
  · rw [sumN_all h1,sumN_all h2]
    exact ⟨fun h s hs=>(ha s ((hWD s).1 hs)).1.1 (h s ((hWD s).1 hs)),fun h s hs=>(ha s hs).1.2 (h s ((hWD s).2 hs))⟩
  · rw [sumN_none,sumN_none]
    exact ⟨fun h s hs=>(ha s ((hWD s).1 hs)).2.1 (h s ((hWD s).1 hs)),fun h s hs=>(ha s hs).2.2 (h s ((hWD s).2 hs))⟩
theorem b2n_le1 {b:Bool}:b2n b≤1:=by cases b<;>decide
theorem vd_right (hj:j.Valid) {p:Sh→Bool}:vd (sumN (fun s=>b2n (p s)) (workL j)) (sumN (fun _=>1) (workL j))=vd ((dipR j).countP p) (dipR j).length:=by
  rw [vd_sets (fun s=>same_sets hj) (ys':=fun s=>b2n (p s)) (ms':=fun _=>1) (fun s=>b2n_le1) (fun s=>b2n_le1) (fun s _=>⟨Iff.rfl,Iff.rfl⟩),sumN_b2n,sumN_const,Nat.mul_one]
theorem near_iff {a b:Int}:nearB j a b=true ↔ -j.eye≤a-b∧a-b≤j.eye:=by rw [nearB,inR_iff]
theorem mem_upTo {a b x:Int}:x∈upTo a b↔a≤x∧x≤b:=by
  simp only [upTo,List.mem_map,List.mem_range]
  constructor
  · rintro ⟨k,hk,rfl⟩;omega
  · rintro ⟨h1,h2⟩;exact ⟨(x-a).toNat,by omega,by omega⟩
theorem old_all (hj:j.Valid) {x:Int}:(∀y∈oldC j x,nearB j x y=true)↔∀y∈upTo j.old.lo j.old.hi,nearB j x y=true:=by
  have ho:=hj.old
  simp only [oldC,List.mem_cons,List.not_mem_nil,or_false,mem_upTo,near_iff]
  constructor
  · intro h y hy
    have h1:=h _ (.inl rfl)
    have h2:=h _ (.inr (.inl rfl))
    omega
  · intro h y hy
    exact h y (by omega)
theorem old_none (hj:j.Valid) {x:Int}:(∀y∈oldC j x,¬nearB j x y=true)↔∀y∈upTo j.old.lo j.old.hi,¬nearB j x y=true:=by
  have ho:=hj.old
  have he:=hj.eye
  simp only [oldC,List.mem_cons,List.not_mem_nil,or_false,mem_upTo,near_iff]
  constructor
  · intro h y hy
    have h3:=h _ (.inr (.inr rfl))
    omega
  · intro h y hy
    exact h y (by omega)
theorem vd_old (hj:j.Valid) {i:Nat}:vd (sumN (oldN j plan i) (workL j)) (sumN (fun _=>3) (workL j))=vd (sumN (oldY j plan i) (dipR j)) (sumN (fun _=>szN j.old) (dipR j)):=by
  refine vd_sets (fun s=>same_sets hj) (fun s=>oldN_le) (fun s=>?_) fun s _=>?_
  · have:(upTo j.old.lo j.old.hi).length=szN j.old:=upTo_len
    rw [←this];exact List.countP_le_length
  · have e1:oldN j plan i s=(oldC j ((ofS j s plan).getD i default)).countP (nearB j ((ofS j s plan).getD i default)):=rfl
    have e2:(3:Nat)=(oldC j ((ofS j s plan).getD i default)).length:=rfl
    have e3:szN j.old=(upTo j.old.lo j.old.hi).length:=upTo_len.symm
    have e4:oldY j plan i s=(upTo j.old.lo j.old.hi).countP (nearB j ((ofS j s plan).getD i default)):=rfl
    rw [e1,e2,e3,e4]
    simp only [List.countP_eq_length,List.countP_eq_zero]
    exact ⟨old_all hj,old_none hj⟩
end Am.Vt
namespace Am.Vt
open Go Am
set_option maxRecDepth 100000
set_option maxHeartbeats 4000000
set_option linter.unusedSimpArgs false
set_option linter.unusedVariables false
variable {g1 g2 g3 g4 g5 g gt gd:Bool × Bool} {j:Job} {v:Vat} {plan:List Stp} {t:Truth} {s:Sh} {S:List Sh}
def judgedB (j:Job) (plan:List Stp) (fine:Bool) (v e due:Int):Bool:=
  if checkJob j≠0 then decide (e=checkJob j)&&decide (v=0) else if (totalB j plan&&fine)=false then decide (e=2)&&decide (v=0) else decide (e=0)&&decide (v=due)
theorem mjudged (hf:j.Fits) (h6:j.pieces.length≤6) (hp:plan.length≤6) {fine:Bool} {v e due:Int} {Q:V→Prop}:CallP tab 45 [jobV g1 g2 g3 g4 g5 j,.c (L g plan),.c (.bool fine),.c (.int .i64 v),.c (.int .i64 e),.c (.int .i64 due)] Q↔Q (.c (.bool (judgedB j plan fine v e due))):=CallP_of (by
  refine Val_X (fn:=f45) rfl ?_
  have k2:=fun {Q:V→Prop}=>mfault (j:=j) (g1:=g1) (g2:=g2) (g3:=g3) (g4:=g4) (g5:=g5) hf (Q:=Q)
  have k4:=fun {Q:V→Prop}=>qTotal (j:=j) (plan:=plan) (g:=g) (g1:=g1) (g2:=g2) (g3:=g3) (g4:=g4) (g5:=g5) (by omega) (by omega) (Q:=Q)
  simp only [jobV] at k2 k4
  have pk:∀(a b:Int) (p:Bool),(V.c (.bool (decide (a=b)&&p)))=V.c (.bool (decide (a=b)&&p)):=fun _ _ _=>rfl
  by_cases h0:checkJob j=0
  · cases hb:totalB j plan with
    | false=>
      have hR:judgedB j plan fine v e due=(decide (e=2)&&decide (v=0)):=by rw [judgedB,if_neg (by rw [h0];simp),if_pos (by rw [hb];rfl)]
      rw [hR]
      by_cases he:e=2
      · simp only [go_sem,f45,k2,k4,h0,hb,he]
      · simp only [go_sem,f45,k2,k4,h0,hb,he]
    | true=>
      cases fine with
      | false=>
        have hR:judgedB j plan false v e due=(decide (e=2)&&decide (v=0)):=by rw [judgedB,if_neg (by rw [h0];simp),if_pos (by rw [hb];rfl)]
        rw [hR]
        by_cases he:e=2
        · simp only [go_sem,f45,k2,k4,h0,hb,he]
        · simp only [go_sem,f45,k2,k4,h0,hb,he]
      | true=>
        have hR:judgedB j plan true v e due=(decide (e=0)&&decide (v=due)):=by rw [judgedB,if_neg (by rw [h0];simp),if_neg (by rw [hb];decide)]
        rw [hR]
        by_cases he:e=0
        · simp only [go_sem,f45,k2,k4,h0,hb,he]
        · simp only [go_sem,f45,k2,k4,h0,hb,he]
  · have hR:judgedB j plan fine v e due=(decide (e=checkJob j)&&decide (v=0)):=by rw [judgedB,if_pos h0]
    rw [hR]
    by_cases he:e=checkJob j
    · simp only [go_sem,f45,k2,k4,h0,he]
    · simp only [go_sem,f45,k2,k4,h0,he])
end Am.Vt
namespace Am.Vt
open Go Am
set_option maxRecDepth 100000
set_option maxHeartbeats 4000000
set_option linter.unusedSimpArgs false
set_option linter.unusedVariables false
variable {g1 g2 g3 g4 g5 g gt gd:Bool × Bool} {j:Job} {v:Vat} {plan:List Stp} {t:Truth} {s:Sh} {S:List Sh}
def jv (j:Job) (plan:List Stp) (l:List Int) (ys ms:Sh→Nat):Int:=if askJ j (judgeOk j plan l)≠0 then 0 else vd (sumN ys (workL j)) (sumN ms (workL j))
theorem JudgeR_eq {l:List Int} {ys ms:Sh→Nat}:JudgeR j plan l ys ms = .tup [.c (.int .i64 (jv j plan l ys ms)),.c (.int .i64 (askJ j (judgeOk j plan l)))]:=by
  unfold JudgeR jv
  by_cases h:askJ j (judgeOk j plan l)=0
  · rw [if_neg (by rw [h];simp),if_neg (by rw [h];simp),h]
  · rw [if_pos h,if_pos h]
theorem judged_ok {l:List Int} {ys ms:Sh→Nat} {due:Int} (hd:checkJob j=0→judgeOk j plan l=true→due=vd (sumN ys (workL j)) (sumN ms (workL j))):judgedB j plan (l.all (pieceOk j)) (jv j plan l ys ms) (askJ j (judgeOk j plan l)) due=true:=by
  by_cases h0:checkJob j=0
  · cases hb:judgeOk j plan l with
    | false=>
      have:(totalB j plan&&l.all (pieceOk j))=false:=hb
      simp [judgedB,jv,askJ,h0,hb,this]
    | true=>
      have:(totalB j plan&&l.all (pieceOk j))=true:=hb
      have hd:=hd h0 hb
      simp [judgedB,jv,askJ,h0,hb,this,hd]
  · simp [judgedB,jv,askJ,h0]
theorem PieceRights_val {a b:Int}:Val tab 8 [jobV g1 g2 g3 g4 g5 j,.c (L g plan),.c (.int .i64 a),.c (.int .i64 b)] (.c (.bool true)):=by
  refine Val_X (fn:=f8) rfl ?_
  have kt:=fun {Q:V→Prop}=>mThin (j:=j) (g1:=g1) (g2:=g2) (g3:=g3) (g4:=g4) (g5:=g5) (Q:=Q)
  simp only [jobV] at kt
  cases ht:thinJ j with
  | false=>simp only [go_sem,f8,kt,ht,lawake7,disj_nil]
  | true=>
  obtain ⟨hf,hs,h6⟩:=thinJ_fits ht
  by_cases hp:(plan.length:Int)>6
  · simp only [go_sem,f8,kt,ht,hp,lawake7,disj_nil]
  have hpb:plan.length<Big:=big_of (by omega)
  have kJ:=fun {Q:V→Prop}=>mJob (j:=j) (g1:=g1) (g2:=g2) (g3:=g3) (g4:=g4) (g5:=g5) hs h6 (Q:=Q)
  have kS:=fun {Q:V→Prop}=>msteps (plan:=plan) (g:=g) (by omega) (Q:=Q)
  have k1:=fun {g1 g2 g3 g4 g5 g:Bool × Bool} {Q:V→Prop}=>pRight (j:=j) (plan:=plan) (i:=a) (g:=g) (g1:=g1) (g2:=g2) (g3:=g3) (g4:=g4) (g5:=g5) hf hpb (Q:=Q)
  have k2:=fun {g1 g2 g3 g4 g5 g:Bool × Bool} {Q:V→Prop}=>pMatch (j:=j) (plan:=plan) (a:=a) (b:=b) (g:=g) (g1:=g1) (g2:=g2) (g3:=g3) (g4:=g4) (g5:=g5) hf hpb (Q:=Q)
  have k3:=fun {g1 g2 g3 g4 g5 g:Bool × Bool} {Q:V→Prop}=>pOld (j:=j) (plan:=plan) (i:=a) (g:=g) (g1:=g1) (g2:=g2) (g3:=g3) (g4:=g4) (g5:=g5) hf hpb (Q:=Q)
  have k4:=fun {Q:V→Prop}=>qTotal (j:=j) (plan:=plan) (g:=g) (g1:=g1) (g2:=g2) (g3:=g3) (g4:=g4) (g5:=g5) (by omega) (by omega) (Q:=Q)
  have k5:=fun {Q:V→Prop}=>mfault (j:=j) (g1:=g1) (g2:=g2) (g3:=g3) (g4:=g4) (g5:=g5) hf (Q:=Q)
  have k6:=fun {n:Int} {Q:V→Prop}=>misPiece (j:=j) (n:=n) (g1:=g1) (g2:=g2) (g3:=g3) (g4:=g4) (g5:=g5) (by omega) (Q:=Q)
  have k7:=fun {fine:Bool} {v e due:Int} {Q:V→Prop}=>mjudged (j:=j) (plan:=plan) (g:=g) (g1:=g1) (g2:=g2) (g3:=g3) (g4:=g4) (g5:=g5) hf h6 (by omega) (fine:=fine) (v:=v) (e:=e) (due:=due) (Q:=Q)
  rw [JudgeR_eq] at k1 k2 k3
  simp only [jobV] at kJ k1 k2 k3 k4 k5 k6 k7
  have a1:([a]:List Int).all (pieceOk j)=pieceOk j a:=by simp
  have a2:([a,b]:List Int).all (pieceOk j)=(pieceOk j a&&pieceOk j b):=by simp
  have u1:=fun {due:Int}=>judged_ok (j:=j) (plan:=plan) (l:=[a]) (ys:=fun s=>b2n (rightP j plan a s)) (ms:=fun _=>1) (due:=due)
  have u2:=fun {due:Int}=>judged_ok (j:=j) (plan:=plan) (l:=[a,b]) (ys:=fun s=>b2n (matchP j plan a b s)) (ms:=fun _=>1) (due:=due)
  have u3:=fun {due:Int}=>judged_ok (j:=j) (plan:=plan) (l:=[a]) (ys:=oldN j plan a) (ms:=fun _=>3) (due:=due)
  rw [a1] at u1 u3
  rw [a2] at u2
  generalize hv1:jv j plan [a] (fun s=>b2n (rightP j plan a s)) (fun _=>1)=v1 at *
  generalize hv2:jv j plan [a,b] (fun s=>b2n (matchP j plan a b s)) (fun _=>1)=v2 at *
  generalize hv3:jv j plan [a] (oldN j plan a) (fun _=>3)=v3 at *
  have nok:∀l:List Int,totalB j plan=false→judgeOk j plan l=false:=fun l h=>by rw [judgeOk,h];rfl
  by_cases h0:checkJob j=0
  · have hj:=jvalid_of h0
    have ho:=hj.old
    have hw:IntKind.i64.wrap (j.old.hi-j.old.lo)=j.old.hi-j.old.lo:=wrapB (by omega) (by omega)
    by_cases h50:j.old.hi-j.old.lo≥50
    · simp only [go_sem,f8,kt,ht,hp,k5,h0,hw,h50,lawake7,disj_nil]
    cases hb:totalB j plan with
    | false=>
      have c1:=u1 (due:=0) (fun _ h=>by rw [nok _ hb] at h;cases h)
      have c2:=u2 (due:=0) (fun _ h=>by rw [nok _ hb] at h;cases h)
      have c3:=u3 (due:=0) (fun _ h=>by rw [nok _ hb] at h;cases h)
      generalize askJ j (judgeOk j plan [a])=e1 at *
      generalize askJ j (judgeOk j plan [a,b])=e2 at *
      cases hpa:pieceOk j a with
      | false=>
        rw [hpa] at c1 c2 c3
        simp only [Bool.false_and] at c2
        simp only [go_sem,f8,kt,ht,hp,kJ,kS,k1,k2,k3,k4,k5,k6,k7,h0,hw,h50,hb,hpa,c1,c2,c3,lawake7,disj_nil]
      | true=>
        rw [hpa] at c1 c2 c3
        simp only [Bool.true_and] at c2
        simp only [go_sem,f8,kt,ht,hp,kJ,kS,k1,k2,k3,k4,k5,k6,k7,h0,hw,h50,hb,hpa,c1,c2,c3,lawake7,disj_nil]
    | true=>
      have h4:j.pieces.length≤1000:=by omega
      have k8:=fun {Q:V→Prop}=>mall (g1:=g1) (g2:=g2) (g3:=g3) (g4:=g4) (g5:=g5) hj (Q:=Q)
      simp only [jobV] at k8
      cases hpa:pieceOk j a with
      | false=>
        have n1:judgeOk j plan [a]=false:=by rw [judgeOk,a1,hpa,Bool.and_false]
        have n2:judgeOk j plan [a,b]=false:=by rw [judgeOk,a2,hpa,Bool.false_and,Bool.and_false]
        have c1:=u1 (due:=0) (fun _ h=>by rw [n1] at h;cases h)
        have c2:=u2 (due:=0) (fun _ h=>by rw [n2] at h;cases h)
        have c3:=u3 (due:=0) (fun _ h=>by rw [n1] at h;cases h)
        generalize askJ j (judgeOk j plan [a])=e1 at *
        generalize askJ j (judgeOk j plan [a,b])=e2 at *
        rw [hpa] at c1 c2 c3
        simp only [Bool.false_and] at c2
        simp only [go_sem,f8,kt,ht,hp,kJ,kS,k1,k2,k3,k4,k5,k6,k7,h0,hw,h50,hb,hpa,c1,c2,c3,lawake7,disj_nil]
      | true=>
        have hpa':=hpa
        rw [pieceOk,inR_iff] at hpa'
        obtain ⟨n,rfl⟩:∃n:Nat,a=n:=⟨a.toNat,by omega⟩
        have hn:n<j.pieces.length:=by omega
        have k9:=fun {gd:Bool × Bool} {Q:V→Prop}=>qRight (j:=j) (gd:=gd) (g:=g) (S:=dipR j) (plan:=plan) (g1:=g1) (g2:=g2) (g3:=g3) (g4:=g4) (g5:=g5) (dipR_ok hj) (dipR_len hj) h4 hb hn (Q:=Q)
        have k10:=fun {gd:Bool × Bool} {Q:V→Prop}=>qOld (j:=j) (gd:=gd) (g:=g) (S:=dipR j) (plan:=plan) (g1:=g1) (g2:=g2) (g3:=g3) (g4:=g4) (g5:=g5) hj (by omega) (dipR_ok hj) (dipR_len hj) hb hn (Q:=Q)
        simp only [jobV] at k9 k10
        have c1:=u1 (due:=_) (fun _ _=>(vd_right hj).symm)
        have c3:=u3 (due:=_) (fun _ _=>(vd_old hj (i:=n)).symm)
        have hR:rightP j plan (n:Int)=rightP j plan n:=rfl
        rw [hpa] at c1 c3
        generalize vd ((dipR j).countP (rightP j plan n)) (dipR j).length=r1 at *
        generalize vd (sumN (oldY j plan n) (dipR j)) (sumN (fun _=>szN j.old) (dipR j))=r3 at *
        cases hpb':pieceOk j b with
        | false=>
          have n2:judgeOk j plan [(n:Int),b]=false:=by rw [judgeOk,a2,hpb',Bool.and_false,Bool.and_false]
          have c2:=u2 (due:=0) (fun _ h=>by rw [n2] at h;cases h)
          rw [hpa,hpb'] at c2
          generalize askJ j (judgeOk j plan [(n:Int)])=e1 at *
          generalize askJ j (judgeOk j plan [(n:Int),b])=e2 at *
          simp only [Bool.true_and] at c2
          simp only [go_sem,f8,kt,ht,hp,kJ,kS,k1,k2,k3,k4,k5,k6,k7,k8,k9,k10,h0,hw,h50,hb,hpa,hpb',c1,c2,c3,lawake7,disj_nil]
        | true=>
          have hpb2:=hpb'
          rw [pieceOk,inR_iff] at hpb2
          obtain ⟨m,rfl⟩:∃n:Nat,b=n:=⟨b.toNat,by omega⟩
          have k11:=fun {gd:Bool × Bool} {Q:V→Prop}=>qMatch (j:=j) (gd:=gd) (g:=g) (S:=dipR j) (plan:=plan) (g1:=g1) (g2:=g2) (g3:=g3) (g4:=g4) (g5:=g5) hj.eye (dipR_ok hj) (dipR_len hj) h4 hb hn (b:=m) (by omega) (Q:=Q)
          simp only [jobV] at k11
          have c2:=u2 (due:=_) (fun _ _=>(vd_right hj).symm)
          rw [hpa,hpb'] at c2
          generalize vd ((dipR j).countP (matchP j plan n m)) (dipR j).length=r2 at *
          generalize askJ j (judgeOk j plan [(n:Int)])=e1 at *
          generalize askJ j (judgeOk j plan [(n:Int),(m:Int)])=e2 at *
          simp only [Bool.true_and] at c2
          simp only [go_sem,f8,kt,ht,hp,kJ,kS,k1,k2,k3,k4,k5,k6,k7,k8,k9,k10,k11,h0,hw,h50,hb,hpa,hpb',c1,c2,c3,lawake7,disj_nil]
  · have c1:=u1 (due:=0) (fun h _=>absurd h h0)
    have c2:=u2 (due:=0) (fun h _=>absurd h h0)
    have c3:=u3 (due:=0) (fun h _=>absurd h h0)
    generalize askJ j (judgeOk j plan [a])=e1 at *
    generalize askJ j (judgeOk j plan [a,b])=e2 at *
    cases hpa:pieceOk j a with
    | false=>
      rw [hpa] at c1 c2 c3
      simp only [Bool.false_and] at c2
      cases hb:totalB j plan<;>by_cases h50:IntKind.i64.wrap (j.old.hi-j.old.lo)≥50<;>simp only [go_sem,f8,kt,ht,hp,kJ,kS,k1,k2,k3,k4,k5,k6,k7,h0,h50,hb,hpa,c1,c2,c3,lawake7,disj_nil]
    | true=>
      rw [hpa] at c1 c2 c3
      simp only [Bool.true_and] at c2
      cases hb:totalB j plan<;>by_cases h50:IntKind.i64.wrap (j.old.hi-j.old.lo)≥50<;>simp only [go_sem,f8,kt,ht,hp,kJ,kS,k1,k2,k3,k4,k5,k6,k7,h0,h50,hb,hpa,c1,c2,c3,lawake7,disj_nil]
end Am.Vt
