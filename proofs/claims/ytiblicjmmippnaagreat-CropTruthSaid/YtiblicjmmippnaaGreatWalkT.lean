/-
  A part of the proof: the texts F15 of this seat, joined.
-/
import Derived.Test.YtiblicjmmippnaaGreatWalkS
namespace Am.Cr
open Go Am
set_option maxRecDepth 100000
set_option maxHeartbeats 4000000
set_option linter.unusedSimpArgs false
set_option linter.unusedVariables false
variable {f : Field}
theorem lin {n lo hi : Int} (h1 : lo ≤ n) (h2 : n ≤ hi) {Q : V → Prop} : CallP tab 46 [.c (.int .i64 n), .agg [.int .i64 lo, .int .i64 hi]] Q ↔ Q (.c (.bool true)) := CallP_of (by
  refine Val_X (fn := f46) rfl ?_
  simp only [go_sem, f46, ge_iff_le, h1, h2])
/-- the field of CropTruth, and what holds of it -/
theorem looked_facts (hv : f.Valid) (h0 : checkField f = 0) {n : Nat} {ws : List Wd} : checkField (lookedF f (nthT f n) ws) = 0 ∧ nthT f n ∈ truthsL (lookedF f (nthT f n) ws) [] := by
  have hT := tok_of hv (nthT_isT hv (n := n))
  have hk : wordN ws 0 % 6 ≤ 5 := by have := Nat.mod_lt (wordN ws 0) (by decide : 0 < 6); omega
  have hc := looked_check hv h0 hT (ws := ws) hk
  refine ⟨hc, ?_⟩
  have hvx := valid_of hc
  have hI := nthT_isT hv (n := n)
  rw [lookedF, truth_iff hvx, isTruthB, Bool.and_eq_true]
  refine ⟨listed_isT hvx ⟨hI.1, hI.2, hI.3, hI.4⟩, ?_⟩
  rw [List.all_eq_true]
  intro k hkm
  have hkm : k ∈ lookedK f (nthT f n) ws (wordN ws 0 % 6) := hkm
  simp only [lookedK, List.mem_map, List.mem_range] at hkm
  obtain ⟨i, _, rfl⟩ := hkm
  have := lookAt_ok hv hT (ws := ws) (i := i)
  rw [inR_iff]
  exact ⟨this.2.2.1, this.2.2.2.1⟩
theorem leave_nil (hv : f.Valid) (h : truthsL f [] ≠ []) : leaveS f = [] := by
  have hp : posB f [] = true := by
    unfold posB
    cases ht : truthsL f [] with
    | nil => exact absurd ht h
    | cons t ts => rfl
  have hm : ([] : List Int) ∈ setsL f.looks.length := setsL_mem.2 ⟨by simp, by simp, by simp⟩
  rcases (leave_ok hv).2.2 [] hm hp with e | e
  · exact e.symm
  · rw [sh_iff] at e
    rcases e with e | e
    · simp at e
    · exact List.length_eq_zero_iff.1 e.1
theorem first_none (hv : f.Valid) {t : Truth} (ht : t ∈ truthsL f []) : firstO f = none := by
  rw [first_ref hv, List.find?_eq_none]
  intro i hi
  rw [List.mem_range] at hi
  have h1 : 1 ≤ 2 ^ (i + 1) := Nat.pow_pos (by omega)
  have h2 : 2 ^ (i + 1) ≤ 2 ^ f.looks.length := Nat.pow_le_pow_right (by omega) (by omega)
  rw [truthsL, List.mem_filter, mem_listsA hv, rightL_iff] at ht
  have : canB f (2 ^ (i + 1) - 1) = true := (can_iff hv (by omega)).2 ⟨t, ht.1, fun j hj => by
    rw [Nat.testBit_two_pow_sub_one] at hj
    rcases ht.2 j (by have := of_decide_eq_true hj; omega) with h | h
    · cases h
    · exact h⟩
  rw [this]; simp
theorem CropTruth_val {b1 b2 b3 b4 b5 : Bool} {g : Bool × Bool} {ws : List Wd} {which bits : Int} (hw0 : 0 ≤ which) (hw1 : which ≤ 65535) (hb0 : 0 ≤ bits) (hb1 : bits ≤ 65535) : Val tab 9 [fieldV (b1, false) (b2, false) (b3, false) (b4, false) (b5, false) f, .c (.int .u16 which), .c (L g ws), .c (.int .u16 bits)] (.c (.bool true)) := by
  obtain ⟨wn, rfl⟩ : ∃ n : Nat, which = n := ⟨which.toNat, by omega⟩
  obtain ⟨bn, rfl⟩ : ∃ n : Nat, bits = n := ⟨bits.toNat, by omega⟩
  refine Val_X (fn := f9) rfl ?_
  cases hr : readyB f with
  | false => simp only [go_sem, f9, lready, hr, lawake]
  | true =>
    obtain ⟨hs, hv, h0, h100⟩ := ready_of hr
    have v9 := hv.last9
    have v3 := hv.last0
    have v1 := hv.growth
    have v5 := hv.base3
    have kL := fun {g : Bool × Bool} {Q : V → Prop} => lLooked hv (b1 := b1) (b2 := b2) (b3 := b3) (b4 := b4) (b5 := b5) (g := g) (wn := wn) (by omega) (ws := ws) (Q := Q)
    obtain ⟨n, hn⟩ : ∃ n, n = wn % prodF f := ⟨_, rfl⟩
    rw [← hn] at kL
    obtain ⟨c0, c1⟩ := looked_facts hv h0 (n := n) (ws := ws)
    have hT := tok_of hv (nthT_isT hv (n := n))
    obtain ⟨t, ht⟩ : ∃ t, t = nthT f n := ⟨_, rfl⟩
    rw [← ht] at kL c0 c1 hT
    have xl : (lookedF f t ws).looks.length ≤ 5 := (valid_of c0).looks5
    have hsx : (lookedF f t ws).Small := ⟨hs.growth, hs.wet, hs.base, hs.crops, by omega⟩
    have x1 : (lookedF f t ws).last = f.last := rfl
    have x2 : (lookedF f t ws).crops = f.crops := rfl
    have x3 : (lookedF f t ws).base = f.base := rfl
    have x4 : (lookedF f t ws).growth = f.growth := rfl
    obtain ⟨x, hx⟩ : ∃ x, x = lookedF f t ws := ⟨_, rfl⟩
    rw [← hx] at kL c0 c1 hsx x1 x2 x3 x4
    clear xl hx
    have hvx := valid_of c0
    have hW := hsx.fits
    have hne : truthsL x [] ≠ [] := fun e => by rw [e] at c1; cases c1
    have h3 : refTruths x ≠ [] := fun e => hne ((refTruths_nil hvx).1 e)
    have hTx : TOk x t := refTruths_tok hvx t ((mem_refTruths hvx).2 c1)
    obtain ⟨p, hp0⟩ : ∃ p, p = plannedL f bn := ⟨_, rfl⟩
    have hpo : planOk f.last f.base p = true := by rw [hp0]; exact planned_ok hv
    have hPl := fun {Q : V → Prop} => lplanned (g1 := (b1, false)) (g2 := (b2, false)) (g3 := (b3, false)) (g4 := (b4, false)) (g5 := (b5, false)) hv (bits := bn) (by omega) (Q := Q)
    rw [← hp0] at hPl
    rw [← x1, ← x3] at hpo
    have hP := pok_of hvx hpo
    have hpl := plan_le hpo
    rw [x3] at hpl
    have hask : askE x (planOk x.last x.base p) = 0 := by rw [hpo, askE_ref hvx c0]; simp [h3]
    have hTg := hTx.gl
    have hTw := hTx.wl
    have hT10 := hTx.l10
    have hc := (truth_iff hvx).1 c1
    have hlt' : listedB x t = true := by rw [isTruthB, Bool.and_eq_true] at hc; exact hc.1
    have k1 := fun {Q : V → Prop} => cPlay (f := x) (g1 := (false, false)) (g2 := (false, false)) (g3 := (false, false)) (g4 := (false, false)) (g5 := (false, false)) (b6 := false) (b7 := false) (g := (false, false)) (t := t) (plan := p) hW (big_of (by omega)) (Q := Q)
    rw [play_ok c0 hlt' hpo] at k1
    have k2 := fun {Q : V → Prop} => cBounds (f := x) (g1 := (false, false)) (g2 := (false, false)) (g3 := (false, false)) (g4 := (false, false)) (g5 := (false, false)) (g := (false, false)) (plan := p) hW (big_of (by omega)) (Q := Q)
    have hR2 : BoundsR false x p = .tup [.c (L (false, false) (boundsL x p)), .c (.int .i64 0)] := by rw [BoundsR, if_pos hask]
    rw [hR2] at k2
    have k3 := fun {Q : V → Prop} => cWorth (f := x) (g1 := (false, false)) (g2 := (false, false)) (g3 := (false, false)) (g4 := (false, false)) (g5 := (false, false)) (g := (false, false)) (plan := p) hW (big_of (by omega)) (Q := Q)
    have hR3 : WorthR x p = .tup [.agg [.int .i64 (worthRg x p).lo, .int .i64 (worthRg x p).hi], .c (.int .i64 0)] := by rw [WorthR, if_pos hask]
    rw [hR3] at k3
    obtain ⟨b, hlv⟩ := vLeave (f := x) (g1 := (false, false)) (g2 := (false, false)) (g3 := (false, false)) (g4 := (false, false)) (g5 := (false, false)) hW
    have k4 := fun {Q : V → Prop} => CallP_of (Q := Q) hlv
    have hR4 : LeaveR b x = .tup [.c (L (b, false) ([] : List Int)), .c (.int .i64 0)] := by rw [LeaveR, if_neg (by rw [c0]; simp), leave_nil hvx hne]
    rw [hR4] at k4
    have k5 := fun {Q : V → Prop} => cFirst (f := x) (g1 := (false, false)) (g2 := (false, false)) (g3 := (false, false)) (g4 := (false, false)) (g5 := (false, false)) hW (Q := Q)
    have hR5 : FirstR x = .tup [.c (.int .i64 0), .c (.int .i64 7)] := by rw [FirstR, if_neg (by rw [c0]; simp), first_none hvx c1]
    rw [hR5] at k5
    have k6 := fun {b6 b7 : Bool} {Q : V → Prop} => cProveTruth (f := x) (g1 := (false, false)) (g2 := (false, false)) (g3 := (false, false)) (g4 := (false, false)) (g5 := (false, false)) (b6 := b6) (b7 := b7) (t := t) hW (Q := Q)
    have hpt : provesTruth x t = true := by
      have : provesTruth x t = (decide (checkField x = 0) && isTruthB x t) := rfl
      rw [this, c0, hc]; rfl
    rw [hpt] at k6
    have k7 := fun {Q : V → Prop} => cProveWorth (f := x) (g1 := (false, false)) (g2 := (false, false)) (g3 := (false, false)) (g4 := (false, false)) (g5 := (false, false)) (g := (false, false)) (plan := p) (worth := (worthRg x p).lo) hW (big_of (by omega)) (Q := Q)
    have hpw : provesWorth x p (worthRg x p).lo = true := by simp [provesWorth, hask]
    rw [hpw] at k7
    have k8 := fun {g : Bool × Bool} {Q : V → Prop} => llist (g := g) (a := p) (by omega) (Q := Q)
    have k9 := fun {b6 b7 : Bool × Bool} {Q : V → Prop} => lTruth (b6 := b6) (b7 := b7) (t := t) (by omega) (by omega) (Q := Q)
    have hcl := cropsL_len (f := x) (t := t) (plan := p)
    have hbl : (boundsL x p).length = p.length := by simp [boundsL]
    simp (maxSteps := 1000000) only [go_sem, f9, lready, hr, kL, hPl, lField hsx, k1, k2, k3, k4, k5, k6, k7, k8, k9, hcl, hbl, List.length_nil]
    refine RX_forC p.length (fun k => [(22, .c (.int .i64 (totK x t p k))), (23, .c (.int .i64 k))]) (fun _ => True) rfl trivial (by simp only [go_sem] <;> first | rfl | exact ⟨rfl, rfl⟩) ?_
    intro k hk _
    by_cases hlt : k < p.length
    · have e7 : IntKind.i64.wrap ((k : Int) + 1) = ((k + 1 : Nat) : Int) := wrap_succ (n := 3000) (by omega) (by decide)
      have hcr := crops_getD (f := x) (t := t) hlt
      have hb : (boundsL x p).getD k default = boundAt x p k := by
        rw [getD_lt _ _ _ (by omega)]; simp [boundsL]
      have i1 : k < (cropsL x t p).length := by omega
      have i2 : k < (boundsL x p).length := by omega
      have hB1 := (bdL_IsRg (val := fun t => (cropAt x t p k).weight) hne).2.2 t c1
      have hB2 := (bdL_IsRg (val := fun t => (cropAt x t p k).worth) hne).2.2 t c1
      have l1 := fun {Q : V → Prop} => lin (n := (cropAt x t p k).weight) (lo := (boundAt x p k).weight.lo) (hi := (boundAt x p k).weight.hi) hB1.1 hB1.2 (Q := Q)
      have l2 := fun {Q : V → Prop} => lin (n := (cropAt x t p k).worth) (lo := (boundAt x p k).worth.lo) (hi := (boundAt x p k).worth.hi) hB2.1 hB2.2 (Q := Q)
      have hst : IntKind.i64.wrap (totK x t p k + (cropAt x t p k).worth) = totK x t p (k + 1) := rfl
      have hs1 : (cropAt x t p k).strength = (boundAt x p k).strength := rfl
      have hs2 : IntKind.i64.wrap ((cropAt x t p k).weight * (boundAt x p k).strength) = (cropAt x t p k).worth := rfl
      simp (maxSteps := 1000000) only [go_sem, hlt, i1, i2, hcl, hbl, atI_nat, hcr, hb, l1, l2, hs1, hs2, hst, e7]
    · have hke : k = p.length := by omega
      subst hke
      simp only [go_sem, hlt, hcl]
      have hsum : totK x t p p.length = worthI x t p := worthI_tot.symm
      have hwr := (bdL_IsRg (val := fun t => worthI x t p) hne).2.2 t c1
      have l3 := fun {Q : V → Prop} => lin (n := worthI x t p) (lo := (worthRg x p).lo) (hi := (worthRg x p).hi) hwr.1 hwr.2 (Q := Q)
      have hCr := pok_of hvx hvx.crops
      rw [hsum]
      refine RX_for (f.last + 1).toNat (fun k => [(24, .c (.int .i64 k))]) (fun k => [.cells (fieldC (b1, false) (b2, false) (b3, false) (b4, false) (b5, false) f.last f.growth f.wet f.base f.crops f.ripe f.late f.trod f.looks), .cells (fieldC (b1, false) (b2, false) (b3, false) (b4, false) (false, false) x.last x.growth x.wet x.base x.crops x.ripe x.late x.trod x.looks), .cells [L (false, false) t.growth, L (false, false) t.wet], .cells [.int .i64 (worthRg x p).lo, .int .i64 (worthRg x p).hi]]) (fun _ => True) trivial (by simp only [go_sem] <;> first | rfl | exact ⟨rfl, rfl⟩) ?_
      intro w hw _
      by_cases hlw : (w : Int) ≤ f.last
      · have e7 : IntKind.i64.wrap ((w : Int) + 1) = ((w + 1 : Nat) : Int) := wrap_succ (n := 3000) (by omega) (by decide)
        have hlw' : w < (f.last + 1).toNat := by omega
        have hask2 : askE x (inR (w : Int) 0 x.last) = 0 := by
          rw [inR_iff.2 ⟨by omega, by omega⟩, askE_ref hvx c0]; simp [h3]
        have k10 := fun {Q : V → Prop} => cStanding (f := x) (g1 := (false, false)) (g2 := (false, false)) (g3 := (false, false)) (g4 := (false, false)) (g5 := (false, false)) (week := (w : Int)) hW (Q := Q)
        have hR6 : StandR x (w : Int) = .tup [.agg [.int .i64 (standRg x w).lo, .int .i64 (standRg x w).hi], .c (.int .i64 0)] := by rw [StandR, if_pos hask2]
        rw [hR6] at k10
        have hS := fun {b6 b7 g : Bool × Bool} {wt : List Int} {Q : V → Prop} => rStanding (g6 := b6) (g7 := b7) (g := g) (gr := t.growth) (wt := wt) (plan := f.crops) (week := (w : Int)) (by omega) (by rw [hTg, x4]; omega) (by omega) (by have := hCr.len hT10; rw [x2] at this; omega) (fun p h => ⟨(hCr.m p (by rw [x2]; exact h)).1, by have := (hCr.m p (by rw [x2]; exact h)).2; omega⟩) (Q := Q)
        have hE := standing_eq (g := t.growth) (plan := f.crops) (by rw [← x2]; exact hCr.s) (fun p h => (hCr.m p (by rw [x2]; exact h)).1) (week := (w : Int)) (by omega) (by rw [hTg, x4]; omega) (by omega)
        have hws := (bdL_IsRg (val := fun t => atI (standing t.growth x.crops) (w : Int)) hne).2.2 t c1
        rw [x2] at hws
        have hsr : standRg x w = bdL (fun t => atI (standing t.growth f.crops) (w : Int)) (truthsL x []) := by rw [standRg, x2]
        rw [← hsr] at hws
        have l4 := fun {Q : V → Prop} => lin (n := atI (standing t.growth f.crops) (w : Int)) (lo := (standRg x w).lo) (hi := (standRg x w).hi) hws.1 hws.2 (Q := Q)
        simp only [go_sem, hlw, hlw', lField hsx, k10, hS, hE, l4, e7]
      · simp only [go_sem, hlw, l3, lawake]
end Am.Cr
