/-
  A part of the proof: the texts Y4, Y5, Z3 of this seat, joined.
-/
import Derived.Test.YtblekjhhceknaaaWalkG
import Derived.Test.YtblekjhhceknaaaWalkF
namespace Am.Vt
open Go Am
set_option maxRecDepth 100000
set_option maxHeartbeats 4000000
set_option linter.unusedSimpArgs false
set_option linter.unusedVariables false
variable {g1 g2 g3 g4 gt : Bool × Bool} {v : Vat} {t : Truth}
end Am.Vt

namespace Am.Vt
open Go Am
set_option maxRecDepth 100000
set_option maxHeartbeats 4000000
set_option linter.unusedSimpArgs false
set_option linter.unusedVariables false
variable {g1 g2 g3 g4 gt : Bool × Bool} {v : Vat} {t : Truth}
end Am.Vt

namespace Am.Vt
open Go Am
set_option maxRecDepth 100000
set_option maxHeartbeats 4000000
set_option linter.unusedSimpArgs false
set_option linter.unusedVariables false
variable {g1 g2 g3 g4 gt : Bool × Bool} {v x : Vat} {t : Truth}
/-- a truth with another blue -/
def withU (t : Truth) (b : Int) : Truth := { t with blue := b }
theorem dipN_mono {take b c : Int} (h : b ≤ c) : ∀ {n : Nat}, dipN take n b ≤ dipN take n c
  | 0 => h
  | n + 1 => by have := dipN_mono h (take := take) (n := n); simp only [dipN]; omega
theorem stAt_withU {b : Int} (h : t.blue ≤ b) : ∀ {d : Nat}, (stAt v (withU t b) d).bal = (stAt v t d).bal ∧ (stAt v t d).blue ≤ (stAt v (withU t b) d).blue
  | 0 => ⟨rfl, h⟩
  | d + 1 => by
    obtain ⟨h1, h2⟩ := stAt_withU h (d := d)
    simp only [stAt]
    rw [h1]
    exact ⟨rfl, dipN_mono (by omega)⟩
theorem isT_withU {b : Int} (h : IsT v t) (hb : t.blue ≤ b ∧ b ≤ v.blue.hi) : IsT v (withU t b) := ⟨h.st, ⟨by have := h.bl.1; show v.blue.lo ≤ b; omega, hb.2⟩, h.dl, h.dr⟩
theorem blue_step (hv : v.Valid) (h : IsT v t) {d : Nat} (hd : d < v.drift.length) : (stAt v t (d + 1)).blue ≤ (stAt v t d).blue + (feedAt v d).madder * v.gain := by
  have hb := stAt_bd hv h (d := d) (by omega)
  have f := hv.feedAt hd
  have m := mul_bd f.2.2 hv.gain
  exact (dipN_bd hv.take.1 (n := dipAt v d) (by omega)).2
theorem shade_mono {n m : Int} (h0 : 0 ≤ n) (h : n ≤ m) (h1 : m ≤ 1000000) (b : Bool) : shadeI n b ≤ shadeI m b := by
  rw [(shade_bd h0 (by omega) b).2.2, (shade_bd (by omega) h1 b).2.2, Int.tdiv_eq_ediv_of_nonneg h0, Int.tdiv_eq_ediv_of_nonneg (by omega)]
  cases b <;> simp <;> omega
theorem shades_get {s : St} {n i : Nat} (h : i < n) : (shadesL v s n).getD i default = shadeI (dipN v.take i s.blue) (ordB v s.bal) := by
  rw [getD_lt _ _ _ (by rw [shadesL_len]; exact h)]
  simp [shadesL]
theorem shade_step (hv : v.Valid) {b : Int} (h0 : 0 ≤ b) (h1 : b ≤ 1000000) {i : Nat} (o : Bool) : 0 ≤ shadeI (dipN v.take i b) o ∧ shadeI (dipN v.take i b) o ≤ (if i = 0 then b.tdiv 10 else shadeI (dipN v.take (i - 1) b) o) := by
  have hb := dipN_bd hv.take.1 (n := i) h0
  refine ⟨(shade_bd hb.1 (by omega) o).1, ?_⟩
  cases i with
  | zero =>
    show shadeI b o ≤ _
    rw [if_pos rfl, (shade_bd h0 h1 o).2.2, Int.tdiv_eq_ediv_of_nonneg h0, Int.tdiv_eq_ediv_of_nonneg h0]
    cases o <;> simp <;> omega
  | succ i =>
    rw [if_neg (by omega), Nat.add_sub_cancel]
    have hc := dipN_bd hv.take.1 (n := i) h0
    exact shade_mono hb.1 (by simp only [dipN]; have := hv.take.1; omega) (by omega) o
theorem VatBlue_val {which more day dips : Int} (hw0 : 0 ≤ which) (hw1 : which ≤ 65535) (m0 : 0 ≤ more) (m1 : more ≤ 255) (d0 : 0 ≤ day) (d1 : day ≤ 255) (n0 : 0 ≤ dips) (n1 : dips ≤ 255) : Val tab 4 [vatV g1 g2 g3 g4 v, .c (.int .u16 which), .c (.int .u8 more), .c (.int .u8 day), .c (.int .u8 dips)] (.c (.bool true)) := by
  obtain ⟨wn, rfl⟩ : ∃ n : Nat, which = n := ⟨which.toNat, by omega⟩
  obtain ⟨on, rfl⟩ : ∃ n : Nat, more = n := ⟨more.toNat, by omega⟩
  obtain ⟨dn, rfl⟩ : ∃ n : Nat, day = n := ⟨day.toNat, by omega⟩
  obtain ⟨mn, rfl⟩ : ∃ n : Nat, dips = n := ⟨dips.toNat, by omega⟩
  refine Val_X (fn := f4) rfl ?_
  cases hr : readyB v with
  | false => simp only [go_sem, f4, lready, hr, lawake]
  | true =>
    obtain ⟨hs, hv, h0, h150⟩ := ready_of hr
    have hf := hs.fits
    have v1 := hv.drift
    have v4 := hv.last7
    have v0 := hv.last0
    have vbl := hv.blue
    have vf := hv.feeds
    have hmy := many_eq hv
    have hpr := hv.prod.1
    have hpp := prod_pos hv
    obtain ⟨n, hn⟩ : ∃ n, n = wn % prodN (rangesL v) := ⟨_, rfl⟩
    have hnl : n < prodN (rangesL v) := by rw [hn]; exact Nat.mod_lt _ hpp
    have e1 : IntKind.i64.wrap (wn : Int) = (wn : Int) := wrapB (by omega) (by omega)
    have e2 : (wn : Int).tmod ((prodN (rangesL v) : Nat) : Int) = (n : Int) := by rw [hn]; rfl
    have e3 : ¬ ((prodN (rangesL v) : Nat) : Int) = 0 := by omega
    have hM := fun {Q : V → Prop} => rManyV (g1 := g1) (g2 := g2) (g3 := g3) (g4 := g4) hv (Q := Q)
    rw [hmy] at hM
    have hN := fun {Q : V → Prop} => rNth (g1 := g1) (g2 := g2) (g3 := g3) (g4 := g4) hv (n := n) (by omega) (Q := Q)
    have hT := nthT_isT hv (n := n)
    obtain ⟨t, ht⟩ : ∃ t, t = nthT v n := ⟨_, rfl⟩
    rw [← ht] at hN hT
    have hTb := hT.bl
    have hTd := hT.dl
    have w1 : IntKind.i64.wrap (v.last + 1) = (v.drift.length : Nat) := by rw [wrapB (by omega) (by omega), v1]
    have w2 : IntKind.i64.wrap (dn : Int) = (dn : Int) := wrapB (by omega) (by omega)
    have w3 : IntKind.i64.wrap (mn : Int) = (mn : Int) := wrapB (by omega) (by omega)
    have w8 : IntKind.i64.wrap (on : Int) = (on : Int) := wrapB (by omega) (by omega)
    have w4 : ¬ ((v.drift.length : Nat) : Int) = 0 := by omega
    have w5 : (dn : Int).tmod (v.drift.length : Nat) = ((dn % v.drift.length : Nat) : Int) := rfl
    have w6 : (mn : Int).tmod 21 = ((mn % 21 : Nat) : Int) := rfl
    have hd : dn % v.drift.length < v.drift.length := Nat.mod_lt _ (by omega)
    have hm : mn % 21 ≤ 20 := by omega
    obtain ⟨d, hd0⟩ : ∃ d, d = dn % v.drift.length := ⟨_, rfl⟩
    obtain ⟨m, hm0⟩ : ∃ m, m = mn % 21 := ⟨_, rfl⟩
    rw [← hd0] at hd w5
    rw [← hm0] at hm w6
    have w7 : IntKind.i64.wrap (t.blue + (on : Int)) = t.blue + (on : Int) := wrapB (by omega) (by omega)
    obtain ⟨b, hb⟩ : ∃ b : Int, b = min v.blue.hi (t.blue + (on : Int)) := ⟨_, rfl⟩
    have hU := isT_withU hT (b := b) (by omega)
    have hst := fun d => stAt_withU (v := v) (t := t) (b := b) (by omega) (d := d)
    have kV := fun {Q : V → Prop} => lVat (g1 := g1) (g2 := g2) (g3 := g3) (g4 := g4) hs (Q := Q)
    have kT := fun {gt : Bool × Bool} {Q : V → Prop} => lTruth (gt := gt) (t := t) (by omega) (Q := Q)
    have kU := fun {gt : Bool × Bool} {Q : V → Prop} => lTruth (gt := gt) (t := withU t b) (by show t.drift.length ≤ _; omega) (Q := Q)
    have hL : listedB v t = true := listed_iff.2 hT
    have hLU : listedB v (withU t b) = true := listed_iff.2 hU
    have k1 := fun {g1 g2 g3 g4 gt : Bool × Bool} {Q : V → Prop} => cPlay (g1 := g1) (g2 := g2) (g3 := g3) (g4 := g4) (gt := gt) (t := t) hf (Q := Q)
    have k2 := fun {g1 g2 g3 g4 gt : Bool × Bool} {Q : V → Prop} => cPlay (g1 := g1) (g2 := g2) (g3 := g3) (g4 := g4) (gt := gt) (t := withU t b) hf (Q := Q)
    have hR1 : ∀ t, listedB v t = true → PlayR v t = .tup [.c (L (false, false) (playL v t)), .c (.int .i64 0)] := fun t hL => by rw [PlayR, if_neg (by rw [h0]; simp), if_neg (by rw [hL]; simp)]
    rw [hR1 _ hL] at k1
    rw [hR1 _ hLU] at k2
    have hdi : inR d 0 v.last = true := inR_iff.2 (by omega)
    have hmi : inR m 0 20 = true := inR_iff.2 (by omega)
    have hS2 : ∀ t, listedB v t = true → ShadesR v t d m = .tup [.c (L (false, false) (shadesL v (stAt v t (d + 1)) m)), .c (.int .i64 0)] := fun t hL => by
      rw [ShadesR, if_neg (by rw [h0]; simp), hL, hdi, hmi]; rfl
    have k3 := fun {g1 g2 g3 g4 gt : Bool × Bool} {Q : V → Prop} => cShades (g1 := g1) (g2 := g2) (g3 := g3) (g4 := g4) (gt := gt) (t := t) (day := (d : Int)) (many := (m : Int)) hf (Q := Q)
    have k4 := fun {g1 g2 g3 g4 gt : Bool × Bool} {Q : V → Prop} => cShades (g1 := g1) (g2 := g2) (g3 := g3) (g4 := g4) (gt := gt) (t := withU t b) (day := (d : Int)) (many := (m : Int)) hf (Q := Q)
    rw [hS2 _ hL] at k3
    rw [hS2 _ hLU] at k4
    have pl := playL_len (v := v) (t := t)
    have pu := playL_len (v := v) (t := withU t b)
    have sl := shadesL_len (v := v) (s := stAt v t (d + 1)) (n := m)
    have su := shadesL_len (v := v) (s := stAt v (withU t b) (d + 1)) (n := m)
    simp only [vatV, truthG] at hM hN kV kT kU k1 k2 k3 k4
    simp only [withU] at kU k2 k4 pu su hst
    generalize hug : ({ start := t.start, blue := b, drift := t.drift } : Truth) = u at kU k2 k4 pu su hst
    simp (maxSteps := 1000000) only [go_sem, f4, lready, hr, hM, hN, e1, e2, e3, w1, w2, w3, w4, w5, w6, w7, w8, ← hb, kV, kT, kU, k1, k2, k3, k4, pl, pu, sl, su, disj_nil]
    refine RX_forC v.drift.length (fun k => [(22, .c (.int .i64 (stAt v t k).blue)), (23, .c (.int .i64 k))]) (fun _ => True) rfl trivial (by simp only [go_sem] <;> first | rfl | exact ⟨rfl, rfl⟩) ?_
    intro k hk _
    by_cases hlt : k < v.drift.length
    · have e7 : IntKind.i64.wrap ((k : Int) + 1) = ((k + 1 : Nat) : Int) := wrap_succ (n := 3000) (by omega) (by decide)
      have a1 : (playL v t).getD k default = stAt v t (k + 1) := playL_get hlt default
      have a2 : (playL v u).getD k default = stAt v u (k + 1) := playL_get hlt default
      obtain ⟨h1, h2⟩ := hst (k + 1)
      have hbd := stAt_bd hv hT (d := k) (by omega)
      have hb1 := stBlue_bd hv hT hlt
      have hsp := blue_step hv hT hlt
      have hfd := hv.feedAt hlt
      have hmu := mul_bd hfd.2.2 hv.gain
      have i1 : k < (playL v t).length := by omega
      have i2 : k < (playL v u).length := by omega
      have i3 : k < v.feeds.length := by omega
      have hfe : v.feeds.getD k default = feedAt v k := rfl
      have x1 : IntKind.i64.wrap ((feedAt v k).madder * v.gain) = (feedAt v k).madder * v.gain := wrapB (by omega) (by omega)
      have x2 : IntKind.i64.wrap ((stAt v t k).blue + (feedAt v k).madder * v.gain) = (stAt v t k).blue + (feedAt v k).madder * v.gain := wrapB (by omega) (by omega)
      have x3 : ¬ (stAt v t (k + 1)).blue < 0 := by omega
      have x4 : ¬ (stAt v t (k + 1)).blue > (stAt v t k).blue + (feedAt v k).madder * v.gain := by omega
      have x5 : ¬ (stAt v u (k + 1)).blue < (stAt v t (k + 1)).blue := by omega
      simp (maxSteps := 1000000) only [go_sem, hlt, pl, pu, i1, i2, i3, atI_nat, a1, a2, h1, hfe, x1, x2, x3, x4, x5, e7, disj_nil]
    · have hke : k = v.drift.length := by omega
      subst hke
      have hb1 := stBlue_bd hv hT hd
      have hu1 := stBlue_bd hv hU hd
      obtain ⟨h1, h2⟩ := hst (d + 1)
      have hug2 : withU t b = u := hug
      rw [hug2] at hu1
      have a1 : (playL v t).getD d default = stAt v t (d + 1) := playL_get hd default
      have i1 : d < (playL v t).length := by omega
      have y1 : IntKind.i64.wrap ((stAt v t (d + 1)).blue.tdiv 10) = (stAt v t (d + 1)).blue.tdiv 10 := by
        rw [Int.tdiv_eq_ediv_of_nonneg hb1.1]; exact wrapB (by omega) (by omega)
      have ha0 : atI (playL v t) (d : Int) = stAt v t (d + 1) := by rw [atI_nat, a1]
      simp only [go_sem, hlt, pl, i1, ha0, hd, y1]
      refine RX_forC m (fun k => [(24, .c (.int .i64 (if k = 0 then (stAt v t (d + 1)).blue.tdiv 10 else shadeI (dipN v.take (k - 1) (stAt v t (d + 1)).blue) (ordB v (stAt v t (d + 1)).bal)))), (25, .c (.int .i64 k))]) (fun _ => True) rfl trivial (by simp only [go_sem] <;> first | rfl | exact ⟨rfl, rfl⟩) ?_
      intro k hk _
      by_cases hlk : k < m
      · have e7 : IntKind.i64.wrap ((k : Int) + 1) = ((k + 1 : Nat) : Int) := wrap_succ (n := 3000) (by omega) (by decide)
        obtain ⟨s1, s2⟩ := shade_step hv hb1.1 (by omega) (i := k) (ordB v (stAt v t (d + 1)).bal)
        have g1 := shades_get (v := v) (s := stAt v t (d + 1)) hlk
        have g2 := shades_get (v := v) (s := stAt v u (d + 1)) hlk
        have dm := dipN_mono h2 (take := v.take) (n := k)
        have db := dipN_bd hv.take.1 (n := k) hb1.1
        have du := dipN_bd hv.take.1 (n := k) hu1.1
        have s3 := shade_mono db.1 dm (by omega) (ordB v (stAt v t (d + 1)).bal)
        rw [h1] at g2
        have i1 : k < (shadesL v (stAt v t (d + 1)) m).length := by omega
        have i2 : k < (shadesL v (stAt v u (d + 1)) m).length := by rw [shadesL_len]; exact hlk
        have x1 : ¬ shadeI (dipN v.take k (stAt v t (d + 1)).blue) (ordB v (stAt v t (d + 1)).bal) < 0 := by omega
        have x2 : ¬ shadeI (dipN v.take k (stAt v u (d + 1)).blue) (ordB v (stAt v t (d + 1)).bal) < shadeI (dipN v.take k (stAt v t (d + 1)).blue) (ordB v (stAt v t (d + 1)).bal) := by omega
        have ek : ¬ k + 1 = 0 := by omega
        generalize hmo : (if k = 0 then (stAt v t (d + 1)).blue.tdiv 10 else shadeI (dipN v.take (k - 1) (stAt v t (d + 1)).blue) (ordB v (stAt v t (d + 1)).bal)) = mo at s2 ⊢
        have x3 : ¬ shadeI (dipN v.take k (stAt v t (d + 1)).blue) (ordB v (stAt v t (d + 1)).bal) > mo := by omega
        simp (maxSteps := 1000000) only [go_sem, hlk, sl, su, i1, i2, atI_nat, g1, g2, x1, x2, x3, ek, e7, Nat.add_sub_cancel, disj_nil]
      · have hke : k = m := by omega
        subst hke
        simp only [go_sem, hlk, sl, lawake]
end Am.Vt

