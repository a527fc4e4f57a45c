/-
  A part of the proof: the texts Y4, Y6, Y7 of this seat, joined.
-/
import Derived.Test.YtblekjhhceknaaaGreatWalkG
namespace Am.Vt
open Go Am
set_option maxRecDepth 100000
set_option maxHeartbeats 4000000
set_option linter.unusedSimpArgs false
set_option linter.unusedVariables false
variable {g1 g2 g3 g4 gt : Bool × Bool} {v : Vat} {t : Truth}
theorem ask_t (h0 : checkVat v = 0) (hp : posB v [] = true) : askE v true = 0 := by simp [askE, h0, hp]
theorem ask_n (h0 : checkVat v = 0) (hp : posB v [] = false) : askE v true = 11 := by simp [askE, h0, hp]
theorem pos_ref (hv : v.Valid) : posB v [] = false ↔ refTruths v = [] := by
  rw [refTruths_nil hv, posB]
  cases truthsL v [] <;> simp
theorem sure_bad (h0 : ¬ checkVat v = 0) : SureR v = .tup [.c .nils, .c (.int .i64 (checkVat v))] := if_pos h0
theorem sure_no (h0 : checkVat v = 0) (hp : posB v [] = false) : SureR v = .tup [.c .nils, .c (.int .i64 11)] := by
  rw [SureR, if_neg (by rw [h0]; simp), if_pos ((pos_ref (valid_of h0)).1 hp)]
theorem sure_yes (h0 : checkVat v = 0) (hp : posB v [] = true) : SureR v = .tup [.c (L (false, false) (refTruths v)), .c (.int .i64 0)] := by
  rw [SureR, if_neg (by rw [h0]; simp), if_neg (fun h => by have := (pos_ref (valid_of h0)).2 h; rw [hp] at this; cases this)]
end Am.Vt

namespace Am.Vt
open Go Am
set_option maxRecDepth 100000
set_option maxHeartbeats 4000000
set_option linter.unusedSimpArgs false
set_option linter.unusedVariables false
variable {g1 g2 g3 g4 gt g : Bool × Bool} {v : Vat} {t : Truth} {l : List Int}
theorem refs_mem (hv : v.Valid) : ∀ t, t ∈ refTruths v ↔ t ∈ truthsL v [] := fun t => mem_refTruths hv
end Am.Vt

namespace Am.Vt
open Go Am
set_option maxRecDepth 100000
set_option maxHeartbeats 4000000
set_option linter.unusedSimpArgs false
set_option linter.unusedVariables false
variable {g1 g2 g3 g4 gt g ga gb : Bool × Bool} {v : Vat} {t : Truth} {l : List Int} {p : Prf}
theorem lback (h1 : t.drift.length ≤ 1000) {Q : V → Prop} : CallP tab 112 [truthG gt t] Q ↔ Q (truthG (false, false) t) := CallP_of (by
  refine Val_X (fn := f112) rfl ?_
  simp only [go_sem, f112, llist h1, disj_nil])
theorem lProof (h1 : p.most.drift.length ≤ 1000) (h2 : p.least.drift.length ≤ 1000) {Q : V → Prop} : CallP tab 46 [proofG ga gb p] Q ↔ Q (proofG (false, false) (false, false) p) := CallP_of (by
  refine Val_X (fn := f46) rfl ?_
  have k1 := fun {gt : Bool × Bool} {Q : V → Prop} => lTruth (gt := gt) (t := p.most) h1 (Q := Q)
  have k2 := fun {gt : Bool × Bool} {Q : V → Prop} => lTruth (gt := gt) (t := p.least) h2 (Q := Q)
  simp only [truthG] at k1 k2
  simp only [go_sem, f46, k1, k2, disj_nil])
theorem lproof (h1 : p.most.drift.length ≤ 1000) (h2 : p.least.drift.length ≤ 1000) {Q : V → Prop} : CallP tab 49 [proofG ga gb p] Q ↔ Q (proofG (false, false) (false, false) p) := CallP_of (by
  refine Val_X (fn := f49) rfl ?_
  have k1 := fun {gt : Bool × Bool} {Q : V → Prop} => lback (gt := gt) (t := p.most) h1 (Q := Q)
  have k2 := fun {gt : Bool × Bool} {Q : V → Prop} => lback (gt := gt) (t := p.least) h2 (Q := Q)
  simp only [truthG] at k1 k2
  simp only [go_sem, f49, k1, k2, disj_nil])
theorem lnone0 {Q : V → Prop} : CallP tab 47 [.agg [.int .i64 0, .int .i64 0, .int .i64 0, .int .i64 0, .nils, .int .i64 0, .int .i64 0, .nils]] Q ↔ Q (.c (.bool true)) := CallP_of (by
  refine Val_X (fn := f47) rfl ?_
  simp only [go_sem, f47, disj_nil])
theorem ps_bad (h0 : ¬ checkVat v = 0) : provesShow v p = false := by
  have : ∀ t, provesTruth v t = false := fun t => by rw [provesTruth, decide_eq_false h0, Bool.false_and]
  rw [provesShow, this, Bool.false_and, Bool.and_false]
theorem ps_eq (h0 : checkVat v = 0) : provesShow v p = refShows v p := by
  rw [provesShow, refShows, provesTruth_eq h0, provesTruth_eq h0]
  congr 2
  rw [Bool.eq_iff_iff]
  simp
  omega
theorem shows_found (hv : v.Valid) (hp : posB v [] = true) (h : (reachL v).length < v.drift.length) : RShowsR v (showP v) = .tup [.c (.bool true), .c (.int .i64 ((reachL v).length : Nat))] := by
  obtain ⟨a, b, c, d, e⟩ := showP_ok hv hp h
  have t1 := (isTruth_iff hv).2 c
  have t2 := (isTruth_iff hv).2 d
  have o1 := inR_iff.2 b.o
  have o2 := inR_iff.2 b.u
  have hn : (decide ((showP v).over < 0) && decide ((showP v).under < 0)) = false := by
    rw [Bool.and_eq_false_iff, decide_eq_false_iff_not, decide_eq_false_iff_not]; omega
  rw [RShowsR, refShows, t1, t2, o1, o2, hn, a]
  simp only [Bool.and_self, Bool.not_false, if_true, e]
theorem VatShows_val : Val tab 7 [vatV g1 g2 g3 g4 v, proofG ga gb p] (.c (.bool true)) := by
  refine Val_X (fn := f7) rfl ?_
  cases ht : thinB v with
  | false => simp only [go_sem, f7, lThin, ht, lawake, disj_nil]
  | true =>
  have hs := thin_small ht
  have kb := fun {gt : Bool × Bool} {t : Truth} {Q : V → Prop} => lbrief (gt := gt) (t := t) (Q := Q)
  simp only [truthG] at kb
  by_cases hb1 : ¬ p.most.drift.length ≤ 12
  · simp only [go_sem, f7, lThin, ht, kb, hb1, lawake, disj_nil]
  have hb1 := Decidable.not_not.1 hb1
  by_cases hb2 : ¬ p.least.drift.length ≤ 12
  · simp only [go_sem, f7, lThin, ht, kb, hb1, hb2, lawake, disj_nil]
  have hb2 := Decidable.not_not.1 hb2
  have hf := hs.fits
  have kV := fun {Q : V → Prop} => lVat (g1 := g1) (g2 := g2) (g3 := g3) (g4 := g4) hs (Q := Q)
  have kP := fun {Q : V → Prop} => lProof (ga := ga) (gb := gb) (p := p) (by omega) (by omega) (Q := Q)
  have k1 := fun {g1 g2 g3 g4 : Bool × Bool} {Q : V → Prop} => cShow (g1 := g1) (g2 := g2) (g3 := g3) (g4 := g4) hf (Q := Q)
  have k2 := fun {g1 g2 g3 g4 ga gb : Bool × Bool} {Q : V → Prop} => cProveShow (g1 := g1) (g2 := g2) (g3 := g3) (g4 := g4) (ga := ga) (gb := gb) (p := p) hf (Q := Q)
  have k3 := fun {g1 g2 g3 g4 : Bool × Bool} {Q : V → Prop} => lsure (g1 := g1) (g2 := g2) (g3 := g3) (g4 := g4) hf (Q := Q)
  have k4 := fun {g1 g2 g3 g4 : Bool × Bool} {Q : V → Prop} => lfault (g1 := g1) (g2 := g2) (g3 := g3) (g4 := g4) hf (Q := Q)
  have kN := fun {Q : V → Prop} => lnone0 (Q := Q)
  simp only [vatV, proofG] at kV kP k1 k2 k3 k4 kN
  by_cases h0 : ¬ checkVat v = 0
  · have hR1 : ShowR v = .tup [proofG (true, false) (true, false) ⟨0, 0, T0, T0⟩, .c (.int .i64 (checkVat v))] := by rw [ShowR, askE_bad h0, if_neg h0]
    rw [hR1] at k1
    rw [ps_bad h0] at k2
    rw [sure_bad h0] at k3
    simp only [go_sem, f7, lThin, ht, kb, hb1, hb2, kV, kP, k1, k2, k3, k4, kN, h0, lawake, disj_nil]
  have h0 := Decidable.not_not.1 h0
  have hv := valid_of h0
  have kS := fun {g1 g2 g3 g4 ga gb : Bool × Bool} {Q : V → Prop} => rShows (g1 := g1) (g2 := g2) (g3 := g3) (g4 := g4) (ga := ga) (gb := gb) (p := p) hv (Q := Q)
  simp only [vatV, proofG, RShowsR] at kS
  rw [ps_eq h0] at k2
  have v1 := hv.drift
  have v4 := hv.last7
  have v0 := hv.last0
  have w1 : IntKind.i64.wrap (v.last + 1) = (v.drift.length : Nat) := by rw [wrapB (by omega) (by omega), v1]
  cases hp : posB v [] with
  | false =>
    have hR1 : ShowR v = .tup [proofG (true, false) (true, false) ⟨0, 0, T0, T0⟩, .c (.int .i64 11)] := by rw [ShowR, ask_n h0 hp, if_neg (by decide)]
    rw [hR1] at k1
    rw [sure_no h0 hp] at k3
    cases hr : refShows v p <;> (rw [hr] at kS; simp only [go_sem, f7, lThin, ht, kb, hb1, hb2, kV, kP, k1, k2, k3, k4, kN, kS, hr, h0, lawake, disj_nil])
  | true =>
    rw [sure_yes h0 hp] at k3
    have rl := refTruths_len hv
    have rm := refs_mem hv
    have hle := reachL_len (v := v)
    have kM := fun {g1 g2 g3 g4 g : Bool × Bool} {Q : V → Prop} => rMost (g1 := g1) (g2 := g2) (g3 := g3) (g4 := g4) (g := g) hv (refTruths_isT hv) (by omega) (Q := Q)
    rw [most_eq hv rm hp] at kM
    simp only [vatV] at kM
    by_cases hn : (reachL v).length = v.drift.length
    · have hR1 : ShowR v = .tup [proofG (true, false) (true, false) ⟨0, 0, T0, T0⟩, .c (.int .i64 7)] := by rw [ShowR, if_pos (ask_t h0 hp), if_pos hn]
      rw [hR1] at k1
      rw [hn] at kM
      cases hr : refShows v p <;> (rw [hr] at kS; simp only [go_sem, f7, lThin, ht, kb, hb1, hb2, kV, kP, k1, k2, k3, k4, kN, kS, kM, w1, hr, h0, lawake, disj_nil])
    · have hR1 : ShowR v = .tup [proofG (false, false) (false, false) (showP v), .c (.int .i64 0)] := by rw [ShowR, if_pos (ask_t h0 hp), if_neg hn]
      rw [hR1] at k1
      have hlt : (reachL v).length < v.drift.length := by omega
      obtain ⟨_, pok, _⟩ := showP_ok hv hp hlt
      have d1 := pok.m.dl
      have d2 := pok.l.dl
      have kS2 := fun {g1 g2 g3 g4 ga gb : Bool × Bool} {Q : V → Prop} => rShows (g1 := g1) (g2 := g2) (g3 := g3) (g4 := g4) (ga := ga) (gb := gb) (p := showP v) hv (Q := Q)
      rw [shows_found hv hp hlt] at kS2
      have kq := fun {ga gb : Bool × Bool} {Q : V → Prop} => lproof (ga := ga) (gb := gb) (p := showP v) (by omega) (by omega) (Q := Q)
      simp only [vatV, proofG] at kS2 kq k1
      have hn' : ¬ ((reachL v).length : Int) = (v.drift.length : Nat) := by omega
      have c1 : ¬ ((showP v).most.drift.length : Int) > 12 := by omega
      have c2 : ¬ ((showP v).least.drift.length : Int) > 12 := by omega
      generalize showP v = q at *
      generalize (reachL v).length = n at *
      cases hr : refShows v p <;> (rw [hr] at kS; simp only [go_sem, f7, lThin, ht, kb, hb1, hb2, kV, kP, k1, k2, k3, k4, kN, kS, kS2, kq, kM, w1, hr, h0, hn', c1, c2, lawake, disj_nil])
end Am.Vt

