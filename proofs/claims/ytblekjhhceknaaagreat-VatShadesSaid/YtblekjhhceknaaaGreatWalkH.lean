/-
  A part of the proof: the texts Y4 of this seat, joined.
-/
import Derived.Test.YtblekjhhceknaaaGreatWalkG
namespace Am.Vt
open Go Am
set_option maxRecDepth 100000
set_option maxHeartbeats 4000000
set_option linter.unusedSimpArgs false
set_option linter.unusedVariables false
variable {g1 g2 g3 g4 gt : Bool × Bool} {v : Vat} {t : Truth}
theorem ask_f (h0 : checkVat v = 0) : askE v false = 2 := by simp [askE, h0]
theorem ask_t (h0 : checkVat v = 0) (hp : posB v [] = true) : askE v true = 0 := by simp [askE, h0, hp]
theorem ask_n (h0 : checkVat v = 0) (hp : posB v [] = false) : askE v true = 11 := by simp [askE, h0, hp]
theorem pos_ref (hv : v.Valid) : posB v [] = false ↔ refTruths v = [] := by
  rw [refTruths_nil hv, posB]
  cases truthsL v [] <;> simp
theorem sure_bad (h0 : ¬ checkVat v = 0) : SureR v = .tup [.c .nils, .c (.int .i64 (checkVat v))] := if_pos h0
theorem sure_no (h0 : checkVat v = 0) (hp : posB v [] = false) : SureR v = .tup [.c .nils, .c (.int .i64 11)] := by
  rw [SureR, if_neg (by rw [h0]; simp), if_pos ((pos_ref (valid_of h0)).1 hp)]
theorem sure_yes (h0 : checkVat v = 0) (hp : posB v [] = true) : SureR v = .tup [.c (L (false, false) (refTruths v)), .c (.int .i64 0)] := by
  rw [SureR, if_neg (by rw [h0]; simp), if_neg (fun h => by have := (pos_ref (valid_of h0)).2 h; rw [hp] at this; cases this)]
theorem shade_eq (hv : v.Valid) (hp : posB v [] = true) {d m : Nat} (hd : d < v.drift.length) (hm : m ≤ 20) : wdL (shadeD v d m) (refTruths v) = shadeRg v d m := by
  refine wd_bd hv (fun h => by have := (pos_ref hv).2 h; rw [hp] at this; cases this) fun t ht => ?_
  have hIs := refTruths_isT hv t ht
  have bb := stBlue_bd hv hIs hd
  have bs := shadesL_bd hv (s := stAt v t (d + 1)) (n := m) (by omega)
  have sl := shadesL_len (v := v) (s := stAt v t (d + 1)) (n := m)
  have := sumI_bd (M := 5000) (l := shadesL v (stAt v t (d + 1)) m) fun x hx => by have := bs x hx; omega
  simp only [shadeD]
  omega
theorem VatShades_val {day dips : Int} : Val tab 4 [vatV g1 g2 g3 g4 v, truthG gt t, .c (.int .i64 day), .c (.int .i64 dips)] (.c (.bool true)) := by
  refine Val_X (fn := f4) rfl ?_
  cases ht : thinB v with
  | false => simp only [go_sem, f4, lThin, ht, lawake, disj_nil]
  | true =>
  have hs := thin_small ht
  by_cases hb : ¬ t.drift.length ≤ 12
  · simp only [go_sem, f4, lThin, ht, lbrief, hb, lawake, disj_nil]
  have hb := Decidable.not_not.1 hb
  have hf := hs.fits
  have kV := fun {Q : V → Prop} => lVat (g1 := g1) (g2 := g2) (g3 := g3) (g4 := g4) hs (Q := Q)
  have kT := fun {Q : V → Prop} => lTruth (gt := gt) (t := t) (by omega) (Q := Q)
  have k1 := fun {g1 g2 g3 g4 gt : Bool × Bool} {Q : V → Prop} => cShades (g1 := g1) (g2 := g2) (g3 := g3) (g4 := g4) (gt := gt) (t := t) (day := day) (many := dips) hf (Q := Q)
  have k2 := fun {g1 g2 g3 g4 : Bool × Bool} {Q : V → Prop} => cShade (g1 := g1) (g2 := g2) (g3 := g3) (g4 := g4) (day := day) (many := dips) hf (Q := Q)
  have k3 := fun {g1 g2 g3 g4 : Bool × Bool} {Q : V → Prop} => lsure (g1 := g1) (g2 := g2) (g3 := g3) (g4 := g4) hf (Q := Q)
  have k4 := fun {g1 g2 g3 g4 : Bool × Bool} {Q : V → Prop} => lfault (g1 := g1) (g2 := g2) (g3 := g3) (g4 := g4) hf (Q := Q)
  simp only [vatV, truthG] at kV kT k1 k2 k3 k4
  by_cases h0 : ¬ checkVat v = 0
  · have hR1 : ShadesR v t day dips = .tup [.c .nils, .c (.int .i64 (checkVat v))] := if_pos h0
    have hR2 : ShadeR v day dips = .tup [.agg [.int .i64 0, .int .i64 0], .c (.int .i64 (checkVat v))] := by rw [ShadeR, askE_bad h0, if_neg h0]
    rw [hR1] at k1
    rw [hR2] at k2
    rw [sure_bad h0] at k3
    simp only [go_sem, f4, lThin, ht, lbrief, hb, kV, kT, k1, k2, k3, k4, h0, lawake, disj_nil]
  have h0 := Decidable.not_not.1 h0
  have hv := valid_of h0
  have k6 := fun {g1 g2 g3 g4 gt : Bool × Bool} {Q : V → Prop} => rIsListed (g1 := g1) (g2 := g2) (g3 := g3) (g4 := g4) (gt := gt) (t := t) hv (Q := Q)
  simp only [vatV, truthG] at k6
  have v1 := hv.drift
  have v4 := hv.last7
  cases hd : inR day 0 v.last with
  | false =>
    have hR1 : ShadesR v t day dips = .tup [.c .nils, .c (.int .i64 2)] := by rw [ShadesR, if_neg (by rw [h0]; simp), if_pos (by rw [hd]; simp)]
    have hR2 : ShadeR v day dips = .tup [.agg [.int .i64 0, .int .i64 0], .c (.int .i64 2)] := by rw [ShadeR, hd, Bool.false_and, ask_f h0, if_neg (by decide)]
    rw [hR1] at k1
    rw [hR2] at k2
    cases hp : posB v [] with
    | false =>
      rw [sure_no h0 hp] at k3
      cases hl : listedB v t <;> simp only [go_sem, f4, lThin, ht, lbrief, hb, kV, kT, k1, k2, k3, k4, k6, rIn, hd, hl, h0, lawake, disj_nil]
    | true =>
      rw [sure_yes h0 hp] at k3
      cases hl : listedB v t <;> simp only [go_sem, f4, lThin, ht, lbrief, hb, kV, kT, k1, k2, k3, k4, k6, rIn, hd, hl, h0, lawake, disj_nil]
  | true =>
  cases hm : inR dips 0 20 with
  | false =>
    have hR1 : ShadesR v t day dips = .tup [.c .nils, .c (.int .i64 2)] := by rw [ShadesR, if_neg (by rw [h0]; simp), if_pos (by rw [hm]; simp)]
    have hR2 : ShadeR v day dips = .tup [.agg [.int .i64 0, .int .i64 0], .c (.int .i64 2)] := by rw [ShadeR, hm, Bool.and_false, ask_f h0, if_neg (by decide)]
    rw [hR1] at k1
    rw [hR2] at k2
    cases hp : posB v [] with
    | false =>
      rw [sure_no h0 hp] at k3
      cases hl : listedB v t <;> simp only [go_sem, f4, lThin, ht, lbrief, hb, kV, kT, k1, k2, k3, k4, k6, rIn, hd, hm, hl, h0, lawake, disj_nil]
    | true =>
      rw [sure_yes h0 hp] at k3
      cases hl : listedB v t <;> simp only [go_sem, f4, lThin, ht, lbrief, hb, kV, kT, k1, k2, k3, k4, k6, rIn, hd, hm, hl, h0, lawake, disj_nil]
  | true =>
  have hd' := inR_iff.1 hd
  have hm' := inR_iff.1 hm
  obtain ⟨d, rfl⟩ : ∃ d : Nat, day = d := ⟨day.toNat, by omega⟩
  obtain ⟨m, rfl⟩ : ∃ m : Nat, dips = m := ⟨dips.toNat, by omega⟩
  have hR1 : ∀ b, listedB v t = b → ShadesR v t d m = if b = false then .tup [.c .nils, .c (.int .i64 2)] else .tup [.c (L (false, false) (shadesL v (stAt v t (d + 1)) m)), .c (.int .i64 0)] := fun b hb => by
    rw [ShadesR, if_neg (by rw [h0]; simp), hb, hd, hm]; cases b <;> rfl
  have k5 := fun {g1 g2 g3 g4 g : Bool × Bool} {Q : V → Prop} => rShade (g1 := g1) (g2 := g2) (g3 := g3) (g4 := g4) (g := g) hv (refTruths_isT hv) (by have := refTruths_len hv; omega) (d := d) (m := m) (by omega) (by omega) (Q := Q)
  simp only [vatV] at k5
  cases hp : posB v [] with
  | false =>
    have hR2 : ShadeR v d m = .tup [.agg [.int .i64 0, .int .i64 0], .c (.int .i64 11)] := by rw [ShadeR, hd, hm, Bool.and_self, ask_n h0 hp, if_neg (by decide)]
    rw [hR2] at k2
    rw [sure_no h0 hp] at k3
    cases hl : listedB v t with
    | false =>
      rw [hR1 _ hl] at k1
      simp only [go_sem, f4, lThin, ht, lbrief, hb, kV, kT, k1, k2, k3, k4, k6, rIn, hd, hm, hl, h0, lawake, disj_nil]
    | true =>
      rw [hR1 _ hl] at k1
      have k7 := fun {g1 g2 g3 g4 gt : Bool × Bool} {Q : V → Prop} => rShades (g1 := g1) (g2 := g2) (g3 := g3) (g4 := g4) (gt := gt) (t := t) hv (listed_iff.1 hl) (d := d) (m := m) (by omega) (by omega) (Q := Q)
      simp only [vatV, truthG] at k7
      have sl := shadesL_len (v := v) (s := stAt v t (d + 1)) (n := m)
      have kI := fun {g g' : Bool × Bool} {Q : V → Prop} => lints (g := g) (g' := g') (a := shadesL v (stAt v t (d + 1)) m) (b := shadesL v (stAt v t (d + 1)) m) (big_of (by omega)) (Q := Q)
      simp only [go_sem, f4, lThin, ht, lbrief, hb, kV, kT, k1, k2, k3, k4, k6, k7, kI, rIn, hd, hm, hl, h0, lawake, disj_nil]
  | true =>
    have hR2 : ShadeR v d m = .tup [.agg [.int .i64 (shadeRg v d m).lo, .int .i64 (shadeRg v d m).hi], .c (.int .i64 0)] := by rw [ShadeR, hd, hm, Bool.and_self, if_pos (ask_t h0 hp)]; rfl
    rw [hR2] at k2
    rw [sure_yes h0 hp] at k3
    rw [shade_eq hv hp (by omega) (by omega)] at k5
    cases hl : listedB v t with
    | false =>
      rw [hR1 _ hl] at k1
      simp only [go_sem, f4, lThin, ht, lbrief, hb, kV, kT, k1, k2, k3, k4, k5, k6, rIn, lto, hd, hm, hl, h0, lawake, disj_nil]
    | true =>
      rw [hR1 _ hl] at k1
      have k7 := fun {g1 g2 g3 g4 gt : Bool × Bool} {Q : V → Prop} => rShades (g1 := g1) (g2 := g2) (g3 := g3) (g4 := g4) (gt := gt) (t := t) hv (listed_iff.1 hl) (d := d) (m := m) (by omega) (by omega) (Q := Q)
      simp only [vatV, truthG] at k7
      have sl := shadesL_len (v := v) (s := stAt v t (d + 1)) (n := m)
      have kI := fun {g g' : Bool × Bool} {Q : V → Prop} => lints (g := g) (g' := g') (a := shadesL v (stAt v t (d + 1)) m) (b := shadesL v (stAt v t (d + 1)) m) (big_of (by omega)) (Q := Q)
      simp only [go_sem, f4, lThin, ht, lbrief, hb, kV, kT, k1, k2, k3, k4, k5, k6, k7, kI, rIn, lto, hd, hm, hl, h0, lawake, disj_nil]
end Am.Vt

