/-
  A part of the proof: the texts MvRest of this seat, joined.
-/
import Derived.Test.YtninmcgiegmonaaJoin
import Derived.Test.YtninmcgiegmonaaWalkR
import Derived.Test.YtninmcgiegmonaaRows
namespace Go.Proofs.Ytninmcgiegmonaa
open Go.ChangeShapes Go.WideShapes Go.ChangeAt Go.RowKit Am
set_option linter.unusedVariables false
set_option maxRecDepth 1000000
theorem same_of {W W':World} (hs:∀b,b<W.heap.size→W'.heap[b]?=W.heap[b]?) {p:MemPlace} (hp:p.block<W.heap.size):W.sameAt W' p:=by
  cases p with
  | cell b o=>exact World.cell?_of_block (w:=W) (hs b hp)
  | map b=>exact hs b hp
theorem u16_range {n:Int} (h:(Lit.int .u16 n).wf=true):0≤n∧n≤65535:=by
  simp [Lit.wf,IntKind.min,IntKind.max,IntKind.bits,IntKind.signed] at h
  omega
theorem u8_range {n:Int} (h:(Lit.int .u8 n).wf=true):0≤n∧n≤255:=by
  simp [Lit.wf,IntKind.min,IntKind.max,IntKind.bits,IntKind.signed] at h
  omega
theorem rest_lifted (os:Os) (started:os.Started) (H:Type) (enc:TypeId × Value→H) :
    ReturnsInHanded {} Try.checked os 3 .any (Rows.moveRestSpec.pre6 enc Try.prog Try.f3 Rows.moveRestRow.domain false) (Rows.moveRestSpec.post enc Try.prog Try.f3 false true false false):=by
  refine returnsInHanded_of_change (C:=Try.checked) Mv.own started (by kernel_rfl) Try.func3
    (ChangeSpec.witness6 (enc:=enc) (C:=Try.checked) false ⟨#[],#[.agg #[.int .i64 0,.int .i64 0,.int .i64 0,.int .i64 0,.int .i64 0,.slice none 0 0,.slice none 0 0],.int .u16 0,.int .u8 0,.int .u8 0],[]⟩ 8 (by kernel_rfl) (by kernel_rfl) (by kernel_rfl) (by kernel_rfl)) ?_
  intro W base args ds gs before hval0 hW hcnd _
  have hval:∀(j:Nat) t v,Try.f3.params[j]?=some t→args[j]?=some v→Value.okWide Try.prog W .any base t v:=hval0
  have hW':=hW
  obtain ⟨p,q,hA0,hV,rfl,hfz,hnd⟩:=hW
  have hA:DataW.TrodAll enc Try.prog W 0 (fun _=>true) true Try.f3.params.toList args.toList ds p:=hA0
  rw [Try.params3] at hA hval
  have hst:=hA
  obtain ⟨v0,vs0,d0,ds0,p0,q0,hargs,rfl,rfl,h0,r0⟩:=trodAll_cons hA
  obtain ⟨v1,vs1,d1,ds1,p1,q1,rfl,rfl,rfl,h1,r1⟩:=trodAll_cons r0
  obtain ⟨v2,vs2,d2,ds2,p2,q2,rfl,rfl,rfl,h2,r2⟩:=trodAll_cons r1
  obtain ⟨v3,vs3,d3,ds3,p3,q3,rfl,rfl,rfl,h3,r3⟩:=trodAll_cons r2
  obtain ⟨rfl,rfl,rfl⟩:=trodAll_nil r3
  obtain rfl:args=#[v0,v1,v2,v3]:=by cases args;simp_all
  obtain ⟨rfl,rfl⟩:=trodVars_none hV
  obtain ⟨x0,a0⟩:=Mv.arg_land (hval 0 25 v0 rfl rfl) h0
  obtain ⟨x1,wf1,a1⟩:=arg_int Try.underlying26 (hval 1 26 v1 rfl rfl) h1
  obtain ⟨x2,wf2,a2⟩:=arg_int Try.underlying5 (hval 2 5 v2 rfl rfl) h2
  obtain ⟨x3,wf3,a3⟩:=arg_int Try.underlying5 (hval 3 5 v3 rfl rfl) h3
  clear hA0 hval0
  simp only [List.append_nil] at hW'
  have hrv:RVs (argE (fun _=>False) W) [Mv.landV (false,false) (false,false) x0,.c (.int .u16 x1),.c (.int .u8 x2),.c (.int .u8 x3)] #[v0,v1,v2,v3]:=by
    refine RVs_of (vs:=[v0,v1,v2,v3]) rfl ?_
    intro i x v hx hv
    match i,hx,hv with
    | 0,hx,hv=>cases hx;cases hv;exact a0
    | 1,hx,hv=>cases hx;cases hv;exact a1
    | 2,hx,hv=>cases hx;cases hv;exact a2
    | 3,hx,hv=>cases hx;cases hv;exact a3
  have hlt:=hst.lt
  refine (calls_true_same (fun k fn h=>fnOk_of Mv.hclones Tm.mixed (Tm.hG k fn h)) Mv.hclones Tm.mixed (Mv.MoveRest_val (u16_range wf1).1 (u16_range wf1).2 (u8_range wf2).1 (u8_range wf2).2 (u8_range wf3).1 (u8_range wf3).2) hrv).mono fun e W' ⟨he,hg,hs⟩=>?_
  subst he
  exact ⟨_,rfl,post_of_same (pa:=_) (pv:=[]) hW' (fun _ _ _=>(trodAll_mk1 (shut_bool Try.underlying4 _))) (fun sp hsp=>trodAll_stays Mv.laidOut (by
      intro t ht
      have:t=25∨t=26∨t=5:=by (first | simpa using ht | (simp at ht;rcases ht with h | h | h | h | h | h<;>simp [h]) | (simp at ht;rcases ht with h | h | h | h<;>simp [h]) | (simp at ht;rcases ht with h | h | h<;>simp [h]))
      rcases this with rfl | rfl | rfl
      · exact ⟨by kernel_rfl,of_decide_eq_true (by kernel_rfl)⟩
      · exact ⟨by kernel_rfl,of_decide_eq_true (by kernel_rfl)⟩
      · exact ⟨by kernel_rfl,of_decide_eq_true (by kernel_rfl)⟩) hst (fun x hx=>same_of hs (hlt x hx)) (fun x hx=>hsp x (by simpa using hx))) (fun _ _=>rfl) (by simp)
    (hg.frame _) hg.2.1 (ok_one (by kernel_rfl) rfl (okWide_bool_mk Try.underlying4 _))⟩
theorem rest_holds : Rows.MoveRestSaid:=
  OpenClaim.holds_of_wide 3 Try.f3 rfl rfl rfl rfl rfl rfl rfl ⟨rfl,rfl,rfl,rfl,rfl⟩ rfl rfl rfl rfl rfl (by kernel_rfl) Try.func3 (by kernel_rfl)
    (of_decide_eq_true (by kernel_rfl)) (by unfold Func.isWrapper;first | (rw [if_pos (by decide +kernel)];kernel_rfl) | (rw [if_neg (by decide +kernel)];exact ⟨rfl,rfl⟩))
    (fun os started H enc _=>rest_lifted os started H enc)
end Go.Proofs.Ytninmcgiegmonaa
