/-
  A part of the proof: the texts Y4, Y5 of this seat, joined.
-/
import Derived.Test.YtblekjhhceknaaaGreatWalkG
namespace Am.Vt
open Go Am
set_option maxRecDepth 100000
set_option maxHeartbeats 4000000
set_option linter.unusedSimpArgs false
set_option linter.unusedVariables false
variable {g1 g2 g3 g4 gt : Bool × Bool} {v : Vat} {t : Truth}
theorem ask_f (h0 : checkVat v = 0) : askE v false = 2 := by simp [askE, h0]
theorem ask_t (h0 : checkVat v = 0) (hp : posB v [] = true) : askE v true = 0 := by simp [askE, h0, hp]
theorem ask_n (h0 : checkVat v = 0) (hp : posB v [] = false) : askE v true = 11 := by simp [askE, h0, hp]
theorem pos_ref (hv : v.Valid) : posB v [] = false ↔ refTruths v = [] := by
  rw [refTruths_nil hv, posB]
  cases truthsL v [] <;> simp
theorem sure_bad (h0 : ¬ checkVat v = 0) : SureR v = .tup [.c .nils, .c (.int .i64 (checkVat v))] := if_pos h0
theorem sure_no (h0 : checkVat v = 0) (hp : posB v [] = false) : SureR v = .tup [.c .nils, .c (.int .i64 11)] := by
  rw [SureR, if_neg (by rw [h0]; simp), if_pos ((pos_ref (valid_of h0)).1 hp)]
theorem sure_yes (h0 : checkVat v = 0) (hp : posB v [] = true) : SureR v = .tup [.c (L (false, false) (refTruths v)), .c (.int .i64 0)] := by
  rw [SureR, if_neg (by rw [h0]; simp), if_neg (fun h => by have := (pos_ref (valid_of h0)).2 h; rw [hp] at this; cases this)]
end Am.Vt

namespace Am.Vt
open Go Am
set_option maxRecDepth 100000
set_option maxHeartbeats 4000000
set_option linter.unusedSimpArgs false
set_option linter.unusedVariables false
variable {g1 g2 g3 g4 gt : Bool × Bool} {v : Vat} {t : Truth}
theorem or_fold {d : Nat} : ∀ {ts : List Truth} {a b : Bool}, (foldY (orStep v d) (a, b) ts).1 = (a || ts.any (fun t => ordB v (balD v d t)), b || ts.any (fun t => !ordB v (balD v d t)))
  | [], a, b => by simp [foldY]
  | t :: ts, a, b => by
    have : orStep v d (a, b) t = ((a || ordB v (balD v d t), b || !ordB v (balD v d t)), true) := rfl
    rw [foldY, this, if_pos rfl, or_fold, List.any_cons, List.any_cons, Bool.or_assoc, Bool.or_assoc]
theorem any_mem {ts ts' : List Truth} (h : ∀ t, t ∈ ts ↔ t ∈ ts') {p : Truth → Bool} : ts.any p = ts'.any p := by
  rw [Bool.eq_iff_iff, List.any_eq_true, List.any_eq_true]
  exact ⟨fun ⟨t, a, b⟩ => ⟨t, (h t).1 a, b⟩, fun ⟨t, a, b⟩ => ⟨t, (h t).2 a, b⟩⟩
theorem ord_eq (hv : v.Valid) {d : Nat} : ordRef v d (refTruths v) = ordI v d := by
  have hm := fun t => mem_refTruths hv (t := t)
  have hA : ordAll v d = ((refTruths v).any (fun t => ordB v (balD v d t)), (refTruths v).any (fun t => !ordB v (balD v d t))) := by
    rw [ordAll, or_fold, Bool.false_or, Bool.false_or, any_mem hm, any_mem hm]
  rw [ordI, hA, ordRef, cntO]
  generalize refTruths v = ts
  have h1 : (ts.filter fun t => ordB v (balD v d t)).length = ts.length ↔ (ts.any fun t => !ordB v (balD v d t)) = false := by
    rw [List.length_filter_eq_length_iff, List.any_eq_false]
    simp
  have h2 : (ts.filter fun t => ordB v (balD v d t)).length = 0 ↔ (ts.any fun t => ordB v (balD v d t)) = false := by
    rw [List.length_eq_zero_iff, List.filter_eq_nil_iff, List.any_eq_false]
  simp only [h1, h2]
theorem bound_eq (hv : v.Valid) (hp : posB v [] = true) {d : Nat} (hd : d < v.drift.length) : wdL (balD v d) (refTruths v) = (bdAt v d).bal ∧ wdL (blueD v d) (refTruths v) = (bdAt v d).blue := by
  have hne : refTruths v ≠ [] := fun h => by have := (pos_ref hv).2 h; rw [hp] at this; cases this
  have v1 := hv.drift
  have v4 := hv.last7
  constructor
  · refine wd_bd hv hne fun t ht => ?_
    have := stAt_bd hv (refTruths_isT hv t ht) (d := d + 1) (by omega)
    simp only [balD]; omega
  · refine wd_bd hv hne fun t ht => ?_
    have := stAt_bd hv (refTruths_isT hv t ht) (d := d + 1) (by omega)
    simp only [blueD]; omega
theorem VatBounds_val {day : Int} : Val tab 5 [vatV g1 g2 g3 g4 v, .c (.int .i64 day)] (.c (.bool true)) := by
  refine Val_X (fn := f5) rfl ?_
  cases ht : thinB v with
  | false => simp only [go_sem, f5, lThin, ht, lawake, disj_nil]
  | true =>
  have hs := thin_small ht
  have hf := hs.fits
  have kV := fun {Q : V → Prop} => lVat (g1 := g1) (g2 := g2) (g3 := g3) (g4 := g4) hs (Q := Q)
  have k1 := fun {g1 g2 g3 g4 : Bool × Bool} {Q : V → Prop} => cBounds (g1 := g1) (g2 := g2) (g3 := g3) (g4 := g4) hf (Q := Q)
  have k2 := fun {g1 g2 g3 g4 : Bool × Bool} {Q : V → Prop} => cOrder (g1 := g1) (g2 := g2) (g3 := g3) (g4 := g4) (day := day) hf (Q := Q)
  have k3 := fun {g1 g2 g3 g4 : Bool × Bool} {Q : V → Prop} => lsure (g1 := g1) (g2 := g2) (g3 := g3) (g4 := g4) hf (Q := Q)
  have k4 := fun {g1 g2 g3 g4 : Bool × Bool} {Q : V → Prop} => lfault (g1 := g1) (g2 := g2) (g3 := g3) (g4 := g4) hf (Q := Q)
  simp only [vatV] at kV k1 k2 k3 k4
  by_cases h0 : ¬ checkVat v = 0
  · have hR1 : BoundsR v = .tup [.c .nils, .c (.int .i64 (checkVat v))] := by rw [BoundsR, askE_bad h0, if_neg h0]
    have hR2 : OrderR v day = .tup [.c (.int .i64 0), .c (.int .i64 (checkVat v))] := by rw [OrderR, askE_bad h0, if_neg h0]
    rw [hR1] at k1
    rw [hR2] at k2
    rw [sure_bad h0] at k3
    simp only [go_sem, f5, lThin, ht, kV, k1, k2, k3, k4, h0, lawake, disj_nil]
  have h0 := Decidable.not_not.1 h0
  have hv := valid_of h0
  have v1 := hv.drift
  have v4 := hv.last7
  have v0 := hv.last0
  have w1 : IntKind.i64.wrap (v.last + 1) = (v.drift.length : Nat) := by rw [wrapB (by omega) (by omega), v1]
  cases hp : posB v [] with
  | false =>
    have hR1 : BoundsR v = .tup [.c .nils, .c (.int .i64 11)] := by rw [BoundsR, ask_n h0 hp, if_neg (by decide)]
    rw [hR1] at k1
    rw [sure_no h0 hp] at k3
    cases hd : inR day 0 v.last with
    | false =>
      have hR2 : OrderR v day = .tup [.c (.int .i64 0), .c (.int .i64 2)] := by rw [OrderR, hd, ask_f h0, if_neg (by decide)]
      rw [hR2] at k2
      simp only [go_sem, f5, lThin, ht, kV, k1, k2, k3, k4, rIn, hd, h0, lawake, disj_nil]
    | true =>
      have hR2 : OrderR v day = .tup [.c (.int .i64 0), .c (.int .i64 11)] := by rw [OrderR, hd, ask_n h0 hp, if_neg (by decide)]
      rw [hR2] at k2
      simp only [go_sem, f5, lThin, ht, kV, k1, k2, k3, k4, rIn, hd, h0, lawake, disj_nil]
  | true =>
    have hR1 : BoundsR v = .tup [.c (L (false, false) (boundsL v)), .c (.int .i64 0)] := by rw [BoundsR, if_pos (ask_t h0 hp)]
    rw [hR1] at k1
    rw [sure_yes h0 hp] at k3
    have bl := boundsL_len (v := v)
    have rl := refTruths_len hv
    have kB := fun {d : Nat} (hd : d < v.drift.length) {g1 g2 g3 g4 g : Bool × Bool} {Q : V → Prop} => rBounds (g1 := g1) (g2 := g2) (g3 := g3) (g4 := g4) (g := g) hv (refTruths_isT hv) (by omega) hd (Q := Q)
    simp only [vatV] at kB
    cases hd : inR day 0 v.last with
    | false =>
      have hR2 : OrderR v day = .tup [.c (.int .i64 0), .c (.int .i64 2)] := by rw [OrderR, hd, ask_f h0, if_neg (by decide)]
      rw [hR2] at k2
      simp only [go_sem, f5, lThin, ht, kV, k1, k2, k3, k4, rIn, hd, h0, w1, bl, lawake, disj_nil]
      refine RX_for v.drift.length (fun k => [(12, .c (.int .i64 k))]) (fun _ => [.cells (vatC g1 g2 g3 g4 v)]) (fun _ => True) trivial (by simp only [go_sem] <;> rfl) ?_
      intro k hk _
      by_cases hlt : k < v.drift.length
      · have e4 : IntKind.i64.wrap ((k : Int) + 1) = ((k + 1 : Nat) : Int) := wrap_succ (n := 3000) (by omega) (by decide)
        obtain ⟨b1, b2⟩ := bound_eq hv hp hlt
        have kk := fun {g1 g2 g3 g4 g : Bool × Bool} {Q : V → Prop} => kB hlt (g1 := g1) (g2 := g2) (g3 := g3) (g4 := g4) (g := g) (Q := Q)
        rw [b1, b2] at kk
        have hg : (boundsL v).getD k default = bdAt v k := by rw [getD_lt _ _ _ (by omega)]; simp [boundsL]
        simp only [go_sem, hlt, bl, atI_nat, hg, kk, lto, e4, disj_nil]
      · have : k = v.drift.length := by omega
        subst this
        simp only [go_sem, hlt, bl, lawake]
    | true =>
      have hd' := inR_iff.1 hd
      obtain ⟨d, rfl⟩ : ∃ d : Nat, day = d := ⟨day.toNat, by omega⟩
      have hR2 : OrderR v d = .tup [.c (.int .i64 (ordI v d)), .c (.int .i64 0)] := by rw [OrderR, hd, if_pos (ask_t h0 hp)]; rfl
      rw [hR2] at k2
      have kO := fun {g1 g2 g3 g4 g : Bool × Bool} {Q : V → Prop} => rOrder (g1 := g1) (g2 := g2) (g3 := g3) (g4 := g4) (g := g) hv (refTruths_isT hv) (by omega) (d := d) (by omega) (Q := Q)
      rw [ord_eq hv] at kO
      simp only [vatV] at kO
      simp only [go_sem, f5, lThin, ht, kV, k1, k2, k3, k4, kO, rIn, hd, h0, w1, bl, lawake, disj_nil]
      refine RX_for v.drift.length (fun k => [(12, .c (.int .i64 k))]) (fun _ => [.cells (vatC g1 g2 g3 g4 v)]) (fun _ => True) trivial (by simp only [go_sem] <;> rfl) ?_
      intro k hk _
      by_cases hlt : k < v.drift.length
      · have e4 : IntKind.i64.wrap ((k : Int) + 1) = ((k + 1 : Nat) : Int) := wrap_succ (n := 3000) (by omega) (by decide)
        obtain ⟨b1, b2⟩ := bound_eq hv hp hlt
        have kk := fun {g1 g2 g3 g4 g : Bool × Bool} {Q : V → Prop} => kB hlt (g1 := g1) (g2 := g2) (g3 := g3) (g4 := g4) (g := g) (Q := Q)
        rw [b1, b2] at kk
        have hg : (boundsL v).getD k default = bdAt v k := by rw [getD_lt _ _ _ (by omega)]; simp [boundsL]
        simp only [go_sem, hlt, bl, atI_nat, hg, kk, lto, e4, disj_nil]
      · have : k = v.drift.length := by omega
        subst this
        simp only [go_sem, hlt, bl, lawake]
end Am.Vt

