/-
  A part of the proof: the texts Y4, Y5, Y10, Z1 of this seat, joined.
-/
import Derived.Test.YtblekjhhceknaaaWalkG
import Derived.Test.YtblekjhhceknaaaWalkF
namespace Am.Vt
open Go Am
set_option maxRecDepth 100000
set_option maxHeartbeats 4000000
set_option linter.unusedSimpArgs false
set_option linter.unusedVariables false
variable {g1 g2 g3 g4 gt : Bool × Bool} {v : Vat} {t : Truth}
theorem ask_t (h0 : checkVat v = 0) (hp : posB v [] = true) : askE v true = 0 := by simp [askE, h0, hp]
theorem ask_n (h0 : checkVat v = 0) (hp : posB v [] = false) : askE v true = 11 := by simp [askE, h0, hp]
end Am.Vt

namespace Am.Vt
open Go Am
set_option maxRecDepth 100000
set_option maxHeartbeats 4000000
set_option linter.unusedSimpArgs false
set_option linter.unusedVariables false
variable {g1 g2 g3 g4 gt : Bool × Bool} {v : Vat} {t : Truth}
theorem or_fold {d : Nat} : ∀ {ts : List Truth} {a b : Bool}, (foldY (orStep v d) (a, b) ts).1 = (a || ts.any (fun t => ordB v (balD v d t)), b || ts.any (fun t => !ordB v (balD v d t)))
  | [], a, b => by simp [foldY]
  | t :: ts, a, b => by
    have : orStep v d (a, b) t = ((a || ordB v (balD v d t), b || !ordB v (balD v d t)), true) := rfl
    rw [foldY, this, if_pos rfl, or_fold, List.any_cons, List.any_cons, Bool.or_assoc, Bool.or_assoc]
end Am.Vt

namespace Am.Vt
open Go Am
set_option maxRecDepth 100000
set_option maxHeartbeats 4000000
set_option linter.unusedSimpArgs false
set_option linter.unusedVariables false
variable {g1 g2 g3 g4 gt : Bool × Bool} {v : Vat} {t : Truth}
end Am.Vt

namespace Am.Vt
open Go Am
set_option maxRecDepth 100000
set_option maxHeartbeats 4000000
set_option linter.unusedSimpArgs false
set_option linter.unusedVariables false
variable {g1 g2 g3 g4 gt : Bool × Bool} {v x : Vat} {t : Truth}
/-- of fewer truths, with a greater band, more days can be reached -/
theorem reach_sub (hv : v.Valid) (hx : x.Valid) (hp : posB v [] = true) (hpx : posB x [] = true) (hd : x.drift.length = v.drift.length) (h : ∀ t ∈ truthsL x [], t ∈ truthsL v []) (hb : v.band ≤ x.band) : (reachL v).length ≤ (reachL x).length := by
  have hkl := keepL_len (v := v)
  have hle := reachL_len (v := v)
  have hka := keep_ask (v := v)
  have hkk := keep_keeps (v := v)
  rw [← keeps_eq hv (ts := truthsL v []) (fun t => Iff.rfl) hp (by omega), keepsR, List.all_eq_true] at hkk
  have ha : keepAsk x (keepL v) = true := by rw [keepAsk, hd]; exact hka
  have hk : keepsB x (keepL v) = true := by
    rw [← keeps_eq hx (ts := truthsL x []) (fun t => Iff.rfl) hpx (by omega), keepsR, List.all_eq_true]
    intro d hd
    have := hkk d hd
    rw [keptB, List.all_eq_true] at this ⊢
    intro t ht
    have := this t (h t ht)
    rw [inR_iff] at this ⊢
    omega
  have := feed_le ha hk
  omega
/-- a vat with another band -/
def withB (v : Vat) (b : Int) : Vat := { v with band := b }
theorem stAt_withB {b : Int} : ∀ {d : Nat}, stAt (withB v b) t d = stAt v t d
  | 0 => rfl
  | d + 1 => by simp only [stAt, stAt_withB (d := d)]; rfl
theorem playL_withB {b : Int} : playL (withB v b) t = playL v t := by
  unfold playL; simp only [stAt_withB]; rfl
theorem truths_withB {b : Int} : truthsL (withB v b) [] = truthsL v [] := by
  unfold truthsL
  simp only [playL_withB]
  rfl
theorem pos_withB {b : Int} : posB (withB v b) [] = posB v [] := by rw [posB, truths_withB, posB]
theorem check_withB (h0 : checkVat v = 0) {b : Int} (hb : 0 ≤ b ∧ b ≤ 20) : checkVat (withB v b) = 0 := by
  have hv := valid_of h0
  have v5 := hv.looks5
  have v7 := hv.last7
  have hg := check_eq (v := v) (by omega) (by omega)
  rw [h0] at hg
  by_cases hc : goodB v = false
  · rw [if_pos hc] at hg; cases hg
  rw [if_neg hc] at hg
  have hc : goodB v = true := by simpa using hc
  have hn := check_eq (v := withB v b) (show ¬ v.last > 7 by omega) (show ¬ (v.looks.length : Int) > 5 by omega)
  have hb' : goodB (withB v b) = true := by
    simp only [goodB, numbersOk, Bool.and_eq_true] at hc ⊢
    exact ⟨⟨hc.1.1, inR_iff.2 hb, hc.1.2.2⟩, hc.2⟩
  rw [hn, if_neg (by rw [hb']; simp)]
  exact hg.symm
theorem ordAll_eq {d : Nat} : ordAll v d = ((truthsL v []).any (fun t => ordB v (balD v d t)), (truthsL v []).any (fun t => !ordB v (balD v d t))) := by
  rw [ordAll, or_fold, Bool.false_or, Bool.false_or]
theorem ordI_1 {d : Nat} : ordI v d = 1 ↔ ∀ t ∈ truthsL v [], ordB v (balD v d t) = true := by
  rw [ordI, ordAll_eq]
  simp only
  constructor
  · intro h
    cases ha : (truthsL v []).any (fun t => !ordB v (balD v d t)) with
    | false => intro t ht; simpa using List.any_eq_false.1 ha t ht
    | true =>
      rw [ha, if_neg (by decide)] at h
      split at h <;> cases h
  · intro h
    rw [if_pos (List.any_eq_false.2 fun t ht => by simp [h t ht])]
theorem ordI_2 {d : Nat} (hne : truthsL v [] ≠ []) : ordI v d = 2 ↔ ∀ t ∈ truthsL v [], ordB v (balD v d t) = false := by
  rw [ordI, ordAll_eq]
  simp only
  constructor
  · intro h
    split at h
    · cases h
    · split at h
      · rename_i ha
        intro t ht
        simpa using List.any_eq_false.1 ha t ht
      · cases h
  · intro h
    have h2 : ((truthsL v []).any (fun t => ordB v (balD v d t))) = false := List.any_eq_false.2 fun t ht => by simp [h t ht]
    have h1 : ((truthsL v []).any (fun t => !ordB v (balD v d t))) = true := by
      obtain ⟨t, ht⟩ := List.exists_mem_of_ne_nil _ hne
      exact List.any_eq_true.2 ⟨t, ht, by simp [h t ht]⟩
    rw [h1, h2]; rfl
theorem pos_truths : posB v [] = true ↔ truthsL v [] ≠ [] := by
  unfold posB
  cases truthsL v [] <;> simp
theorem VatBand_val {more day : Int} (m0 : 0 ≤ more) (m1 : more ≤ 255) (d0 : 0 ≤ day) (d1 : day ≤ 255) : Val tab 5 [vatV g1 g2 g3 g4 v, .c (.int .u8 more), .c (.int .u8 day)] (.c (.bool true)) := by
  obtain ⟨mn, rfl⟩ : ∃ n : Nat, more = n := ⟨more.toNat, by omega⟩
  obtain ⟨dn, rfl⟩ : ∃ n : Nat, day = n := ⟨day.toNat, by omega⟩
  refine Val_X (fn := f5) rfl ?_
  cases hr : readyB v with
  | false => simp only [go_sem, f5, lready, hr, lawake]
  | true =>
    obtain ⟨hs, hv, h0, h150⟩ := ready_of hr
    have hf := hs.fits
    have v1 := hv.drift
    have v4 := hv.last7
    have v0 := hv.last0
    have vb := hv.band
    have w1 : IntKind.i64.wrap (v.last + 1) = (v.drift.length : Nat) := by rw [wrapB (by omega) (by omega), v1]
    have w2 : IntKind.i64.wrap (dn : Int) = (dn : Int) := wrapB (by omega) (by omega)
    have w3 : IntKind.i64.wrap (mn : Int) = (mn : Int) := wrapB (by omega) (by omega)
    have w4 : ¬ ((v.drift.length : Nat) : Int) = 0 := by omega
    have w5 : (dn : Int).tmod (v.drift.length : Nat) = ((dn % v.drift.length : Nat) : Int) := rfl
    have w6 : (mn : Int).tmod 5 = ((mn % 5 : Nat) : Int) := rfl
    have hd : dn % v.drift.length < v.drift.length := Nat.mod_lt _ (by omega)
    obtain ⟨d, hd0⟩ : ∃ d, d = dn % v.drift.length := ⟨_, rfl⟩
    rw [← hd0] at hd w5
    have w7 : IntKind.i64.wrap (v.band + ((mn % 5 : Nat) : Int)) = v.band + ((mn % 5 : Nat) : Int) := wrapB (by omega) (by omega)
    obtain ⟨b, hb⟩ : ∃ b : Int, b = min 20 (v.band + ((mn % 5 : Nat) : Int)) := ⟨_, rfl⟩
    have hbb : v.band ≤ b ∧ b ≤ 20 := by omega
    have h0x := check_withB h0 (b := b) (by omega)
    have hsx : (withB v b).Small := ⟨hs.drift, hs.feeds, hs.dips, hs.looks⟩
    have hvx := valid_of h0x
    have hfx := hsx.fits
    have kV := fun {Q : V → Prop} => lVat (g1 := g1) (g2 := g2) (g3 := g3) (g4 := g4) hs (Q := Q)
    have kX := fun {Q : V → Prop} => lVat (g1 := g1) (g2 := g2) (g3 := g3) (g4 := g4) hsx (Q := Q)
    have k1 := fun {g1 g2 g3 g4 : Bool × Bool} {Q : V → Prop} => cKeep (g1 := g1) (g2 := g2) (g3 := g3) (g4 := g4) hf (Q := Q)
    have k2 := fun {g1 g2 g3 g4 : Bool × Bool} {Q : V → Prop} => cKeep (g1 := g1) (g2 := g2) (g3 := g3) (g4 := g4) hfx (Q := Q)
    have k3 := fun {g1 g2 g3 g4 : Bool × Bool} {Q : V → Prop} => cOrder (g1 := g1) (g2 := g2) (g3 := g3) (g4 := g4) (day := (d : Int)) hf (Q := Q)
    have k4 := fun {g1 g2 g3 g4 : Bool × Bool} {Q : V → Prop} => cOrder (g1 := g1) (g2 := g2) (g3 := g3) (g4 := g4) (day := (d : Int)) hfx (Q := Q)
    have hdi : inR d 0 v.last = true := inR_iff.2 (by omega)
    have hdx : inR d 0 (withB v b).last = true := hdi
    have px := pos_withB (v := v) (b := b)
    cases hp : posB v [] with
    | false =>
      rw [hp] at px
      have hR1 : KeepR v = .tup [.c .nils, .c (.int .i64 11)] := by rw [KeepR, ask_n h0 hp, if_neg (by decide)]
      have hR2 : KeepR (withB v b) = .tup [.c .nils, .c (.int .i64 11)] := by rw [KeepR, ask_n h0x px, if_neg (by decide)]
      have hR3 : OrderR v d = .tup [.c (.int .i64 0), .c (.int .i64 11)] := by rw [OrderR, hdi, ask_n h0 hp, if_neg (by decide)]
      have hR4 : OrderR (withB v b) d = .tup [.c (.int .i64 0), .c (.int .i64 11)] := by rw [OrderR, hdx, ask_n h0x px, if_neg (by decide)]
      rw [hR1] at k1
      rw [hR2] at k2
      rw [hR3] at k3
      rw [hR4] at k4
      simp only [vatV, withB] at kV kX k1 k2 k3 k4
      simp only [go_sem, f5, lready, hr, w1, w2, w3, w4, w5, w6, w7, ← hb, kV, kX, k1, k2, k3, k4, lawake, disj_nil]
    | true =>
      rw [hp] at px
      have hR1 : KeepR v = .tup [.c (L (false, false) (keepL v)), .c (.int .i64 0)] := by rw [KeepR, if_pos (ask_t h0 hp)]
      have hR2 : KeepR (withB v b) = .tup [.c (L (false, false) (keepL (withB v b))), .c (.int .i64 0)] := by rw [KeepR, if_pos (ask_t h0x px)]
      have hR3 : OrderR v d = .tup [.c (.int .i64 (ordI v d)), .c (.int .i64 0)] := by rw [OrderR, hdi, if_pos (ask_t h0 hp)]; rfl
      have hR4 : OrderR (withB v b) d = .tup [.c (.int .i64 (ordI (withB v b) d)), .c (.int .i64 0)] := by rw [OrderR, hdx, if_pos (ask_t h0x px)]; rfl
      rw [hR1] at k1
      rw [hR2] at k2
      rw [hR3] at k3
      rw [hR4] at k4
      have hO : ∀ t, ordB v (balD v d t) = true → ordB (withB v b) (balD (withB v b) d t) = true := fun t h => by
        have e : balD (withB v b) d t = balD v d t := by simp only [balD, stAt_withB]
        rw [e]
        unfold ordB at h ⊢
        rw [inR_iff] at h ⊢
        show -b ≤ _ ∧ _ ≤ b
        omega
      have o1 : ordI v d = 1 → ordI (withB v b) d = 1 := fun h => ordI_1.2 fun t ht => by
        rw [truths_withB] at ht
        exact hO t (ordI_1.1 h t ht)
      have hne := pos_truths.1 hp
      have hnx := pos_truths.1 px
      have o2 : ordI (withB v b) d = 2 → ordI v d = 2 := fun h => (ordI_2 hne).2 fun t ht => by
        have := (ordI_2 hnx).1 h t (by rw [truths_withB]; exact ht)
        cases hh : ordB v (balD v d t) with
        | false => rfl
        | true => rw [hO t hh] at this; cases this
      have hre := reach_sub hv hvx hp px rfl (fun t ht => by rwa [truths_withB] at ht) hbb.1
      rw [← keepL_len, ← keepL_len] at hre
      obtain ⟨o, ho⟩ : ∃ o, o = ordI v d := ⟨_, rfl⟩
      obtain ⟨u, hu⟩ : ∃ u, u = ordI (withB v b) d := ⟨_, rfl⟩
      rw [← ho] at o1 o2 k3
      rw [← hu] at o1 o2 k4
      have hre' : (((keepL (withB v b)).length : Nat) : Int) ≥ ((keepL v).length : Nat) := by omega
      generalize keepL (withB v b) = kx at *
      simp only [vatV, withB] at kV kX k1 k2 k3 k4
      by_cases c1 : o = 1
      · have c2 := o1 c1
        have c3 : ¬ u = 2 := by omega
        simp only [go_sem, f5, lready, hr, w1, w2, w3, w4, w5, w6, w7, ← hb, kV, kX, k1, k2, k3, k4, hre', c1, c2, lawake, disj_nil]
      · by_cases c2 : u = 2
        · have c3 := o2 c2
          simp only [go_sem, f5, lready, hr, w1, w2, w3, w4, w5, w6, w7, ← hb, kV, kX, k1, k2, k3, k4, hre', c2, c3, lawake, disj_nil]
        · simp only [go_sem, f5, lready, hr, w1, w2, w3, w4, w5, w6, w7, ← hb, kV, kX, k1, k2, k3, k4, hre', c1, c2, lawake, disj_nil]
end Am.Vt

