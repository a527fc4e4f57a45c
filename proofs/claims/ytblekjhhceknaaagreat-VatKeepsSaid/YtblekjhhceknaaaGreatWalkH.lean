/-
  A part of the proof: the texts Y4, Y6 of this seat, joined.
-/
import Derived.Test.YtblekjhhceknaaaGreatWalkG
namespace Am.Vt
open Go Am
set_option maxRecDepth 100000
set_option maxHeartbeats 4000000
set_option linter.unusedSimpArgs false
set_option linter.unusedVariables false
variable {g1 g2 g3 g4 gt : Bool × Bool} {v : Vat} {t : Truth}
theorem ask_f (h0 : checkVat v = 0) : askE v false = 2 := by simp [askE, h0]
theorem ask_t (h0 : checkVat v = 0) (hp : posB v [] = true) : askE v true = 0 := by simp [askE, h0, hp]
theorem ask_n (h0 : checkVat v = 0) (hp : posB v [] = false) : askE v true = 11 := by simp [askE, h0, hp]
theorem pos_ref (hv : v.Valid) : posB v [] = false ↔ refTruths v = [] := by
  rw [refTruths_nil hv, posB]
  cases truthsL v [] <;> simp
theorem sure_bad (h0 : ¬ checkVat v = 0) : SureR v = .tup [.c .nils, .c (.int .i64 (checkVat v))] := if_pos h0
theorem sure_no (h0 : checkVat v = 0) (hp : posB v [] = false) : SureR v = .tup [.c .nils, .c (.int .i64 11)] := by
  rw [SureR, if_neg (by rw [h0]; simp), if_pos ((pos_ref (valid_of h0)).1 hp)]
theorem sure_yes (h0 : checkVat v = 0) (hp : posB v [] = true) : SureR v = .tup [.c (L (false, false) (refTruths v)), .c (.int .i64 0)] := by
  rw [SureR, if_neg (by rw [h0]; simp), if_neg (fun h => by have := (pos_ref (valid_of h0)).2 h; rw [hp] at this; cases this)]
end Am.Vt

namespace Am.Vt
open Go Am
set_option maxRecDepth 100000
set_option maxHeartbeats 4000000
set_option linter.unusedSimpArgs false
set_option linter.unusedVariables false
variable {g1 g2 g3 g4 gt g : Bool × Bool} {v : Vat} {t : Truth} {l : List Int}
theorem pk_bad (h : posB v [] = false ∨ ¬ checkVat v = 0) : provesKeep v l = false := by
  have : ¬ askE v (keepAsk v l) = 0 := fun e => by
    have := ask_ok e
    rcases h with h | h
    · rw [this.2.2] at h; cases h
    · exact h this.1
  rw [provesKeep, decide_eq_false this, Bool.false_and]
theorem pk_eq (h0 : checkVat v = 0) (hp : posB v [] = true) : provesKeep v l = (keepAsk v l && keepsB v l) := by
  rw [provesKeep]
  cases keepAsk v l with
  | true => rw [ask_t h0 hp]; rfl
  | false => rw [ask_f h0]; rfl
theorem refs_mem (hv : v.Valid) : ∀ t, t ∈ refTruths v ↔ t ∈ truthsL v [] := fun t => mem_refTruths hv
theorem VatKeeps_val : Val tab 6 [vatV g1 g2 g3 g4 v, .c (L g l)] (.c (.bool true)) := by
  refine Val_X (fn := f6) rfl ?_
  cases ht : thinB v with
  | false => simp only [go_sem, f6, lThin, ht, lawake, disj_nil]
  | true =>
  have hs := thin_small ht
  by_cases hb : (l.length : Int) > 12
  · simp only [go_sem, f6, lThin, ht, hb, lawake, disj_nil]
  have hf := hs.fits
  have kV := fun {Q : V → Prop} => lVat (g1 := g1) (g2 := g2) (g3 := g3) (g4 := g4) hs (Q := Q)
  have kl := fun {g : Bool × Bool} {Q : V → Prop} => llist (g := g) (a := l) (by omega) (Q := Q)
  have k1 := fun {g1 g2 g3 g4 : Bool × Bool} {Q : V → Prop} => cKeep (g1 := g1) (g2 := g2) (g3 := g3) (g4 := g4) hf (Q := Q)
  have k2 := fun {g1 g2 g3 g4 g : Bool × Bool} {Q : V → Prop} => cProveKeep (g1 := g1) (g2 := g2) (g3 := g3) (g4 := g4) (gt := g) (l := l) hf (big_of (by omega)) (Q := Q)
  have k3 := fun {g1 g2 g3 g4 : Bool × Bool} {Q : V → Prop} => lsure (g1 := g1) (g2 := g2) (g3 := g3) (g4 := g4) hf (Q := Q)
  simp only [vatV] at kV k1 k2 k3
  by_cases h0 : ¬ checkVat v = 0
  · have hR1 : KeepR v = .tup [.c .nils, .c (.int .i64 (checkVat v))] := by rw [KeepR, askE_bad h0, if_neg h0]
    rw [hR1] at k1
    rw [pk_bad (.inr h0)] at k2
    rw [sure_bad h0] at k3
    simp only [go_sem, f6, lThin, ht, hb, kV, kl, k1, k2, k3, h0, lawake, disj_nil]
  have h0 := Decidable.not_not.1 h0
  have hv := valid_of h0
  cases hp : posB v [] with
  | false =>
    have hR1 : KeepR v = .tup [.c .nils, .c (.int .i64 11)] := by rw [KeepR, ask_n h0 hp, if_neg (by decide)]
    rw [hR1] at k1
    rw [pk_bad (.inl hp)] at k2
    rw [sure_no h0 hp] at k3
    simp only [go_sem, f6, lThin, ht, hb, kV, kl, k1, k2, k3, h0, lawake, disj_nil]
  | true =>
    have hR1 : KeepR v = .tup [.c (L (false, false) (keepL v)), .c (.int .i64 0)] := by rw [KeepR, if_pos (ask_t h0 hp)]
    rw [hR1] at k1
    rw [pk_eq h0 hp] at k2
    rw [sure_yes h0 hp] at k3
    have rl := refTruths_len hv
    have rm := refs_mem hv
    have kF := fun {g1 g2 g3 g4 g : Bool × Bool} {Q : V → Prop} => rIsFeeding (g1 := g1) (g2 := g2) (g3 := g3) (g4 := g4) (g := g) (l := l) hv (by omega) (Q := Q)
    have hka := keep_ask (v := v)
    have hkk := keep_keeps (v := v)
    have hkl := keepL_len (v := v)
    have hle := reachL_len (v := v)
    have v1 := hv.drift
    have v4 := hv.last7
    have kF2 := fun {g1 g2 g3 g4 g : Bool × Bool} {Q : V → Prop} => rIsFeeding (g1 := g1) (g2 := g2) (g3 := g3) (g4 := g4) (g := g) (l := keepL v) hv (by omega) (Q := Q)
    have kK2 := fun {g1 g2 g3 g4 g g' : Bool × Bool} {Q : V → Prop} => rKeeps (g1 := g1) (g2 := g2) (g3 := g3) (g4 := g4) (g := g) (g' := g') (l := keepL v) hv (refTruths_isT hv) (by omega) hka (Q := Q)
    rw [keeps_eq hv rm hp (by omega), hkk] at kK2
    rw [hka] at kF2
    have kM := fun {g1 g2 g3 g4 g : Bool × Bool} {Q : V → Prop} => rMost (g1 := g1) (g2 := g2) (g3 := g3) (g4 := g4) (g := g) hv (refTruths_isT hv) (by omega) (Q := Q)
    rw [most_eq hv rm hp, ← hkl] at kM
    simp only [vatV] at kF kF2 kK2 kM
    generalize keepL v = kp at *
    cases hk : keepAsk v l with
    | false =>
      simp only [go_sem, f6, lThin, ht, hb, kV, kl, k1, k2, k3, kF, kF2, kK2, kM, hk, h0, lawake, disj_nil]
    | true =>
      have kK := fun {g1 g2 g3 g4 g g' : Bool × Bool} {Q : V → Prop} => rKeeps (g1 := g1) (g2 := g2) (g3 := g3) (g4 := g4) (g := g) (g' := g') (l := l) hv (refTruths_isT hv) (by omega) hk (Q := Q)
      rw [keeps_eq hv rm hp (by simp only [keepAsk, Bool.and_eq_true, decide_eq_true_eq] at hk; exact hk.1)] at kK
      simp only [vatV] at kK
      cases hkb : keepsB v l <;> simp only [go_sem, f6, lThin, ht, hb, kV, kl, k1, k2, k3, kF, kF2, kK, kK2, kM, hk, hkb, h0, lawake, disj_nil]
end Am.Vt

