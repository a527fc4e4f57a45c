/-
  A part of the proof: the texts PtTruth of this seat, joined.
-/
import Derived.Test.YtphjbeffckignaaGreatJoin
import Derived.Test.YtphjbeffckignaaGreatJoinW
import Derived.Test.YtphjbeffckignaaGreatWalkI
import Derived.Test.YtphjbeffckignaaGreatRows
namespace Go.Proofs.YtphjbeffckignaaGreat
open Go.ChangeShapes Go.WideShapes Go.ChangeAt Go.RowKit Am
set_option linter.unusedVariables false
set_option maxRecDepth 1000000
theorem same_of {W W':World} (hs:∀b,b<W.heap.size→W'.heap[b]?=W.heap[b]?) {p:MemPlace} (hp:p.block<W.heap.size):W.sameAt W' p:=by
  cases p with
  | cell b o=>exact World.cell?_of_block (w:=W) (hs b hp)
  | map b=>exact hs b hp
theorem u16_range {n:Int} (h:(Lit.int .u16 n).wf=true):0≤n∧n≤65535:=by
  simp [Lit.wf,IntKind.min,IntKind.max,IntKind.bits,IntKind.signed] at h
  omega
theorem truth_lifted (os:Os) (started:os.Started) (H:Type) (enc:TypeId × Value→H) :
    ReturnsInHanded {} Tryz.checked os 10 .any (Rows.pieceTruthSpec.pre6 enc Tryz.prog Tryz.f10 Rows.pieceTruthRow.domain false) (Rows.pieceTruthSpec.post enc Tryz.prog Tryz.f10 false true false false):=by
  refine returnsInHanded_of_change (C:=Tryz.checked) Vt.own started (by kernel_rfl) Tryz.func10
    (ChangeSpec.witness6 (enc:=enc) (C:=Tryz.checked) false ⟨#[],#[.agg #[.int .i64 0,.int .i64 0,.int .i64 0,.int .i64 0,.int .i64 0,.int .i64 0,.int .i64 0,.int .i64 0,.slice none 0 0,.slice none 0 0,.slice none 0 0,.slice none 0 0,.int .i64 0,.slice none 0 0,.int .i64 0,.int .i64 0,.int .i64 0],.int .u16 0,.slice none 0 0],[]⟩ 8 (by kernel_rfl) (by kernel_rfl) (by kernel_rfl) (by kernel_rfl)) ?_
  intro W base args ds gs before hval0 hW hcnd _
  have hval:∀(j:Nat) t v,Tryz.f10.params[j]?=some t→args[j]?=some v→Value.okWide Tryz.prog W .any base t v:=hval0
  have hW':=hW
  obtain ⟨p,q,hA0,hV,rfl,hfz,hnd⟩:=hW
  have hA:DataW.TrodAll enc Tryz.prog W 0 (fun _=>true) true Tryz.f10.params.toList args.toList ds p:=hA0
  rw [Tryz.params10] at hA hval
  have hst:=hA
  obtain ⟨v0,vs0,d0,ds0,p0,q0,hargs,rfl,rfl,h0,r0⟩:=trodAll_cons hA
  obtain ⟨v1,vs1,d1,ds1,p1,q1,rfl,rfl,rfl,h1,r1⟩:=trodAll_cons r0
  obtain ⟨v2,vs2,d2,ds2,p2,q2,rfl,rfl,rfl,h2,r2⟩:=trodAll_cons r1
  obtain ⟨rfl,rfl,rfl⟩:=trodAll_nil r2
  obtain rfl:args=#[v0,v1,v2]:=by cases args;simp_all
  obtain ⟨rfl,rfl⟩:=trodVars_none hV
  obtain ⟨x0,a0⟩:=Vt.arg_job (hval 0 33 v0 rfl rfl) h0
  obtain ⟨x1,wf1,a1⟩:=arg_int Tryz.underlying78 (hval 1 78 v1 rfl rfl) h1
  obtain ⟨x2,a2⟩:=Vt.arg_words (hval 2 83 v2 rfl rfl) h2
  clear hA0 hval0
  simp only [List.append_nil] at hW'
  have hrv:RVs (argE (fun _=>False) W) [Vt.jobW0 x0,.c (.int .u16 x1),.c (L (false,false) x2)] #[v0,v1,v2]:=by
    refine RVs_of (vs:=[v0,v1,v2]) rfl ?_
    intro i x v hx hv
    match i,hx,hv with
    | 0,hx,hv=>cases hx;cases hv;exact a0
    | 1,hx,hv=>cases hx;cases hv;exact a1
    | 2,hx,hv=>cases hx;cases hv;exact a2
  have hlt:=hst.lt
  refine (calls_true_same (fun k fn h=>fnOk_of Vt.hclones Vt.mixed (Vt.hG k fn h)) Vt.hclones Vt.mixed (Vt.PieceTruth_val (u16_range wf1).1 (u16_range wf1).2) hrv).mono fun e W' ⟨he,hg,hs⟩=>?_
  subst he
  exact ⟨_,rfl,post_of_same (pa:=_) (pv:=[]) hW' (fun _ _ _=>(trodAll_mk1 (shut_bool Tryz.underlying4 _))) (fun sp hsp=>trodAll_stays Vt.laidOut (by
      intro t ht
      have:t=33∨t=78∨t=83:=by (first | simpa using ht | (simp at ht;rcases ht with h | h | h | h | h | h<;>simp [h]) | (simp at ht;rcases ht with h | h | h | h<;>simp [h]) | (simp at ht;rcases ht with h | h | h<;>simp [h]))
      rcases this with rfl | rfl | rfl
      · exact ⟨by kernel_rfl,of_decide_eq_true (by kernel_rfl)⟩
      · exact ⟨by kernel_rfl,of_decide_eq_true (by kernel_rfl)⟩
      · exact ⟨by kernel_rfl,of_decide_eq_true (by kernel_rfl)⟩) hst (fun x hx=>same_of hs (hlt x hx)) (fun x hx=>hsp x (by simpa using hx))) (fun _ _=>rfl) (by simp)
    (hg.frame _) hg.2.1 (ok_one (by kernel_rfl) rfl (okWide_bool_mk Tryz.underlying4 _))⟩
theorem truth_holds : Rows.PieceTruthSaid:=
  OpenClaim.holds_of_wide 10 Tryz.f10 rfl rfl rfl rfl rfl rfl rfl ⟨rfl,rfl,rfl,rfl,rfl⟩ rfl rfl rfl rfl rfl (by kernel_rfl) Tryz.func10 (by kernel_rfl)
    (of_decide_eq_true (by kernel_rfl)) (by unfold Func.isWrapper;first | (rw [if_pos (by decide +kernel)];kernel_rfl) | (rw [if_neg (by decide +kernel)];exact ⟨rfl,rfl⟩))
    (fun os started H enc _=>truth_lifted os started H enc)
end Go.Proofs.YtphjbeffckignaaGreat
