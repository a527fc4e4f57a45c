/-
  A part of the proof: the texts Y4, Y5, Y9 of this seat, joined.
-/
import Derived.Test.YtblekjhhceknaaaGreatWalkG
namespace Am.Vt
open Go Am
set_option maxRecDepth 100000
set_option maxHeartbeats 4000000
set_option linter.unusedSimpArgs false
set_option linter.unusedVariables false
variable {g1 g2 g3 g4 gt : Bool × Bool} {v : Vat} {t : Truth}
theorem ask_t (h0 : checkVat v = 0) (hp : posB v [] = true) : askE v true = 0 := by simp [askE, h0, hp]
theorem ask_n (h0 : checkVat v = 0) (hp : posB v [] = false) : askE v true = 11 := by simp [askE, h0, hp]
theorem pos_ref (hv : v.Valid) : posB v [] = false ↔ refTruths v = [] := by
  rw [refTruths_nil hv, posB]
  cases truthsL v [] <;> simp
theorem shade_eq (hv : v.Valid) (hp : posB v [] = true) {d m : Nat} (hd : d < v.drift.length) (hm : m ≤ 20) : wdL (shadeD v d m) (refTruths v) = shadeRg v d m := by
  refine wd_bd hv (fun h => by have := (pos_ref hv).2 h; rw [hp] at this; cases this) fun t ht => ?_
  have hIs := refTruths_isT hv t ht
  have bb := stBlue_bd hv hIs hd
  have bs := shadesL_bd hv (s := stAt v t (d + 1)) (n := m) (by omega)
  have sl := shadesL_len (v := v) (s := stAt v t (d + 1)) (n := m)
  have := sumI_bd (M := 5000) (l := shadesL v (stAt v t (d + 1)) m) fun x hx => by have := bs x hx; omega
  simp only [shadeD]
  omega
end Am.Vt

namespace Am.Vt
open Go Am
set_option maxRecDepth 100000
set_option maxHeartbeats 4000000
set_option linter.unusedSimpArgs false
set_option linter.unusedVariables false
variable {g1 g2 g3 g4 gt : Bool × Bool} {v : Vat} {t : Truth}
theorem bound_eq (hv : v.Valid) (hp : posB v [] = true) {d : Nat} (hd : d < v.drift.length) : wdL (balD v d) (refTruths v) = (bdAt v d).bal ∧ wdL (blueD v d) (refTruths v) = (bdAt v d).blue := by
  have hne : refTruths v ≠ [] := fun h => by have := (pos_ref hv).2 h; rw [hp] at this; cases this
  have v1 := hv.drift
  have v4 := hv.last7
  constructor
  · refine wd_bd hv hne fun t ht => ?_
    have := stAt_bd hv (refTruths_isT hv t ht) (d := d + 1) (by omega)
    simp only [balD]; omega
  · refine wd_bd hv hne fun t ht => ?_
    have := stAt_bd hv (refTruths_isT hv t ht) (d := d + 1) (by omega)
    simp only [blueD]; omega
end Am.Vt

namespace Am.Vt
open Go Am
set_option maxRecDepth 100000
set_option maxHeartbeats 4000000
set_option linter.unusedSimpArgs false
set_option linter.unusedVariables false
variable {g1 g2 g3 g4 gt g : Bool × Bool} {v : Vat} {t : Truth} {l : List Int} {d m : Nat}
/-- which ends a truth reaches -/
def endsLV (v : Vat) (d m : Nat) (t : Truth) : List Bool :=
  [decide (balD v d t = (bdAt v d).bal.lo), decide (balD v d t = (bdAt v d).bal.hi), decide (blueD v d t = (bdAt v d).blue.lo), decide (blueD v d t = (bdAt v d).blue.hi), decide (shadeD v d m t = (shadeRg v d m).lo), decide (shadeD v d m t = (shadeRg v d m).hi)]
def endB (v : Vat) (d m : Nat) (t : Truth) (k : Nat) : Bool := (endsLV v d m t).getD k false
def metN (v : Vat) (d m : Nat) (ts : List Truth) : Nat := maskN (fun k => ts.any fun t => endB v d m t k) 6
theorem metN_snoc {ts : List Truth} {t : Truth} : metN v d m (ts ++ [t]) = metN v d m ts ||| maskN (endB v d m t) 6 := by
  refine Nat.eq_of_testBit_eq fun i => ?_
  rw [Nat.testBit_or]
  unfold metN
  rw [maskN_bit, maskN_bit, maskN_bit]
  simp only [List.any_append, List.any_cons, List.any_nil, Bool.or_false]
  cases decide (i < 6) <;> simp
theorem metN_nil : metN v d m [] = 0 := by
  refine Nat.eq_of_testBit_eq fun i => ?_
  unfold metN
  rw [maskN_bit]; simp
theorem pos_ne (hv : v.Valid) (hp : posB v [] = true) : refTruths v ≠ [] := fun h => by have := (pos_ref hv).2 h; rw [hp] at this; cases this
theorem metN_all (hv : v.Valid) (hp : posB v [] = true) (hd : d < v.drift.length) (hm : m ≤ 20) : metN v d m (refTruths v) = 63 := by
  have e : (63 : Nat) = 2 ^ 6 - 1 := rfl
  rw [e, metN, maskN_full, List.all_eq_true]
  intro k hk
  rw [List.mem_range] at hk
  rw [List.any_eq_true]
  have hne := pos_ne hv hp
  have v1 := hv.drift
  have v4 := hv.last7
  obtain ⟨b1, b2⟩ := bound_eq hv hp hd
  have b3 := shade_eq hv hp hd hm
  have hB1 := wdL_IsRg (val := balD v d) hne fun t ht => by have := stAt_bd hv (refTruths_isT hv t ht) (d := d + 1) (by omega); simp only [balD]; omega
  have hB2 := wdL_IsRg (val := blueD v d) hne fun t ht => by have := stAt_bd hv (refTruths_isT hv t ht) (d := d + 1) (by omega); simp only [blueD]; omega
  have hS := wdL_IsRg (val := shadeD v d m) hne fun t ht => by
    have bb := stBlue_bd hv (refTruths_isT hv t ht) hd
    have bs := shadesL_bd hv (s := stAt v t (d + 1)) (n := m) (by omega)
    have sl := shadesL_len (v := v) (s := stAt v t (d + 1)) (n := m)
    have := sumI_bd (M := 5000) (l := shadesL v (stAt v t (d + 1)) m) fun x hx => by have := bs x hx; omega
    simp only [shadeD]; omega
  rw [b1] at hB1
  rw [b2] at hB2
  rw [b3] at hS
  rcases (by omega : k = 0 ∨ k = 1 ∨ k = 2 ∨ k = 3 ∨ k = 4 ∨ k = 5) with rfl | rfl | rfl | rfl | rfl | rfl
  · obtain ⟨t, ht, e⟩ := hB1.1
    exact ⟨t, ht, by simpa [endB, endsLV] using e⟩
  · obtain ⟨t, ht, e⟩ := hB1.2.1
    exact ⟨t, ht, by simpa [endB, endsLV] using e⟩
  · obtain ⟨t, ht, e⟩ := hB2.1
    exact ⟨t, ht, by simpa [endB, endsLV] using e⟩
  · obtain ⟨t, ht, e⟩ := hB2.2.1
    exact ⟨t, ht, by simpa [endB, endsLV] using e⟩
  · obtain ⟨t, ht, e⟩ := hS.1
    exact ⟨t, ht, by simpa [endB, endsLV] using e⟩
  · obtain ⟨t, ht, e⟩ := hS.2.1
    exact ⟨t, ht, by simpa [endB, endsLV] using e⟩
theorem met0 {m : Nat} {b : Nat → Bool} : m ||| maskN b 0 = m := Nat.or_zero m
theorem met_step {m : Nat} {b : Nat → Bool} {i : Nat} (hm : m < 2 ^ 6) (hi : i < 6) : (b i = true → IntKind.i64.wrap ((BitVec.ofInt IntKind.i64.bits ((m ||| maskN b i : Nat) : Int) ||| BitVec.ofInt IntKind.i64.bits ((2 ^ i : Nat) : Int)).toNat : Int) = ((m ||| maskN b (i + 1) : Nat) : Int)) ∧ (¬ b i = true → m ||| maskN b (i + 1) = m ||| maskN b i) := by
  have h1 := maskN_lt (p := b) (n := i)
  have h2 : 2 ^ i ≤ 2 ^ 6 := Nat.pow_le_pow_right (by omega) (by omega)
  have h3 : m ||| maskN b i < 2 ^ 29 := Nat.or_lt_two_pow (by omega) (by omega)
  constructor
  · intro h
    rw [orW h3 (by omega), Nat.or_assoc, show maskN b (i + 1) = maskN b i ||| 2 ^ i from if_pos h]
  · intro h
    rw [show maskN b (i + 1) = maskN b i from if_neg h]
theorem VatEnds_val {day dips : Int} (d0 : 0 ≤ day) (d1 : day ≤ 255) (n0 : 0 ≤ dips) (n1 : dips ≤ 255) : Val tab 10 [vatV g1 g2 g3 g4 v, .c (.int .u8 day), .c (.int .u8 dips)] (.c (.bool true)) := by
  obtain ⟨dn, rfl⟩ : ∃ n : Nat, day = n := ⟨day.toNat, by omega⟩
  obtain ⟨mn, rfl⟩ : ∃ n : Nat, dips = n := ⟨dips.toNat, by omega⟩
  refine Val_X (fn := f10) rfl ?_
  cases hr : readyB v with
  | false => simp only [go_sem, f10, lready, hr, lawake]
  | true =>
    obtain ⟨hs, hv, h0, h150⟩ := ready_of hr
    have hf := hs.fits
    have v1 := hv.drift
    have v4 := hv.last7
    have v0 := hv.last0
    have w1 : IntKind.i64.wrap (v.last + 1) = (v.drift.length : Nat) := by rw [wrapB (by omega) (by omega), v1]
    have w2 : IntKind.i64.wrap (dn : Int) = (dn : Int) := wrapB (by omega) (by omega)
    have w3 : IntKind.i64.wrap (mn : Int) = (mn : Int) := wrapB (by omega) (by omega)
    have w4 : ¬ ((v.drift.length : Nat) : Int) = 0 := by omega
    have w5 : (dn : Int).tmod (v.drift.length : Nat) = ((dn % v.drift.length : Nat) : Int) := rfl
    have w6 : (mn : Int).tmod 21 = ((mn % 21 : Nat) : Int) := rfl
    have hd : dn % v.drift.length < v.drift.length := Nat.mod_lt _ (by omega)
    have hm : mn % 21 ≤ 20 := by omega
    obtain ⟨d, hd0⟩ : ∃ d, d = dn % v.drift.length := ⟨_, rfl⟩
    obtain ⟨m, hm0⟩ : ∃ m, m = mn % 21 := ⟨_, rfl⟩
    rw [← hd0] at hd w5
    rw [← hm0] at hm w6
    have kV := fun {Q : V → Prop} => lVat (g1 := g1) (g2 := g2) (g3 := g3) (g4 := g4) hs (Q := Q)
    have k1 := fun {g1 g2 g3 g4 : Bool × Bool} {Q : V → Prop} => cBounds (g1 := g1) (g2 := g2) (g3 := g3) (g4 := g4) hf (Q := Q)
    have k2 := fun {g1 g2 g3 g4 : Bool × Bool} {Q : V → Prop} => cShade (g1 := g1) (g2 := g2) (g3 := g3) (g4 := g4) (day := d) (many := m) hf (Q := Q)
    have k3 := fun {g1 g2 g3 g4 : Bool × Bool} {Q : V → Prop} => rTruths (g1 := g1) (g2 := g2) (g3 := g3) (g4 := g4) hv (Q := Q)
    simp only [vatV] at kV k1 k2 k3
    have hdi : inR d 0 v.last = true := inR_iff.2 (by omega)
    have hmi : inR m 0 20 = true := inR_iff.2 (by omega)
    cases hp : posB v [] with
    | false =>
      have hR1 : BoundsR v = .tup [.c .nils, .c (.int .i64 11)] := by rw [BoundsR, ask_n h0 hp, if_neg (by decide)]
      have hR2 : ShadeR v d m = .tup [.agg [.int .i64 0, .int .i64 0], .c (.int .i64 11)] := by rw [ShadeR, hdi, hmi, Bool.and_self, ask_n h0 hp, if_neg (by decide)]
      rw [hR1] at k1
      rw [hR2] at k2
      have hz : (((refTruths v).length : Nat) : Int) = 0 := by rw [(pos_ref hv).1 hp]; rfl
      simp only [go_sem, f10, lready, hr, w1, w2, w3, w4, w5, w6, kV, k1, k2, k3, hz, lawake, disj_nil]
    | true =>
      have hR1 : BoundsR v = .tup [.c (L (false, false) (boundsL v)), .c (.int .i64 0)] := by rw [BoundsR, if_pos (ask_t h0 hp)]
      have hR2 : ShadeR v d m = .tup [.agg [.int .i64 (shadeRg v d m).lo, .int .i64 (shadeRg v d m).hi], .c (.int .i64 0)] := by rw [ShadeR, hdi, hmi, Bool.and_self, if_pos (ask_t h0 hp)]; rfl
      rw [hR1] at k1
      rw [hR2] at k2
      have bl := boundsL_len (v := v)
      simp only [go_sem, f10, lready, hr, w1, w2, w3, w4, w5, w6, kV, k1, k2, k3, bl, disj_nil]
      obtain ⟨ts, hts⟩ : ∃ ts, ts = refTruths v := ⟨_, rfl⟩
      have htok := refTruths_isT hv
      have hlen := refTruths_len hv
      have hall := metN_all hv hp hd hm
      rw [← hts] at htok hlen hall ⊢
      refine RX_for ts.length (fun k => [(14, .c (.int .i64 (metN v d m (ts.take k)))), (15, .c (.int .i64 k))]) (fun k => [.cells (vatC g1 g2 g3 g4 v), .cells [.int .i64 (shadeRg v d m).lo, .int .i64 (shadeRg v d m).hi]]) (fun _ => True) trivial (by simp only [go_sem, List.take_zero, metN_nil] <;> first | rfl | exact ⟨rfl, rfl⟩) ?_
      intro k hk _
      by_cases hlt : k < ts.length
      · have e4 : IntKind.i64.wrap ((k : Int) + 1) = ((k + 1 : Nat) : Int) := wrap_succ (n := 3000) (by omega) (by decide)
        obtain ⟨t, ht⟩ : ∃ t, t = ts.getD k default := ⟨_, rfl⟩
        have hT := htok t (by rw [ht]; exact getD_mem hlt)
        have hsn : metN v d m (ts.take (k + 1)) = metN v d m (ts.take k) ||| maskN (endB v d m t) 6 := by rw [take_getD hlt default, ht, metN_snoc]
        have hmlt : metN v d m (ts.take k) < 2 ^ 6 := maskN_lt
        obtain ⟨me, hme⟩ : ∃ me, me = metN v d m (ts.take k) := ⟨_, rfl⟩
        rw [← hme] at hmlt hsn ⊢
        have k5 := fun {g : Bool × Bool} {Q : V → Prop} => rPlay (g1 := g1) (g2 := g2) (g3 := g3) (g4 := g4) (gt := g) hv hT (Q := Q)
        have k6 := fun {g : Bool × Bool} {Q : V → Prop} => rShades (g1 := g1) (g2 := g2) (g3 := g3) (g4 := g4) (gt := g) hv hT (d := d) (m := m) hd (by omega) (Q := Q)
        simp only [vatV, truthG] at k5 k6
        have bb := stBlue_bd hv hT hd
        have bs := shadesL_bd hv (s := stAt v t (d + 1)) (n := m) (by omega)
        have sl := shadesL_len (v := v) (s := stAt v t (d + 1)) (n := m)
        have k7 := fun {g : Bool × Bool} {Q : V → Prop} => rSum (g := g) (l := shadesL v (stAt v t (d + 1)) m) (M := 5000) (by omega) (by omega) (fun x hx => by have := bs x hx; omega) (Q := Q)
        have pl := playL_len (v := v) (t := t)
        have p1 : d < (playL v t).length := by omega
        have p2 : (playL v t).getD d default = stAt v t (d + 1) := playL_get hd default
        have i1 : d < (boundsL v).length := by omega
        have hbg : (boundsL v).getD d default = bdAt v d := by rw [getD_lt _ _ _ i1]; simp [boundsL]
        have x1 : (stAt v t (d + 1)).bal = balD v d t := rfl
        have x2 : (stAt v t (d + 1)).blue = blueD v d t := rfl
        have x3 : sumI (shadesL v (stAt v t (d + 1)) m) = shadeD v d m t := rfl
        simp only [go_sem, hlt, atI_nat, ← ht, k5, k6, k7, p1, p2, i1, bl, hd, hbg, x1, x2, x3, disj_nil]
        have hel : endsLV v d m t = [decide (balD v d t = (bdAt v d).bal.lo), decide (balD v d t = (bdAt v d).bal.hi), decide (blueD v d t = (bdAt v d).blue.lo), decide (blueD v d t = (bdAt v d).blue.hi), decide (shadeD v d m t = (shadeRg v d m).lo), decide (shadeD v d m t = (shadeRg v d m).hi)] := rfl
        obtain ⟨q1, hq1⟩ : ∃ q, q = decide (balD v d t = (bdAt v d).bal.lo) := ⟨_, rfl⟩
        obtain ⟨q2, hq2⟩ : ∃ q, q = decide (balD v d t = (bdAt v d).bal.hi) := ⟨_, rfl⟩
        obtain ⟨q3, hq3⟩ : ∃ q, q = decide (blueD v d t = (bdAt v d).blue.lo) := ⟨_, rfl⟩
        obtain ⟨q4, hq4⟩ : ∃ q, q = decide (blueD v d t = (bdAt v d).blue.hi) := ⟨_, rfl⟩
        obtain ⟨q5, hq5⟩ : ∃ q, q = decide (shadeD v d m t = (shadeRg v d m).lo) := ⟨_, rfl⟩
        obtain ⟨q6, hq6⟩ : ∃ q, q = decide (shadeD v d m t = (shadeRg v d m).hi) := ⟨_, rfl⟩
        have hel : endsLV v d m t = [q1, q2, q3, q4, q5, q6] := by rw [hel, hq1, hq2, hq3, hq4, hq5, hq6]
        simp only [← hq1, ← hq2, ← hq3, ← hq4, ← hq5, ← hq6]
        have u0 : IntKind.u64.wrap 0 = 0 := u64W (k := 0) (by omega)
        have u1 : IntKind.u64.wrap 1 = 1 := u64W (k := 1) (by omega)
        have u2 : IntKind.u64.wrap 2 = 2 := u64W (k := 2) (by omega)
        have u3 : IntKind.u64.wrap 3 = 3 := u64W (k := 3) (by omega)
        have u4 : IntKind.u64.wrap 4 = 4 := u64W (k := 4) (by omega)
        have u5 : IntKind.u64.wrap 5 = 5 := u64W (k := 5) (by omega)
        refine RX_for 6 (fun i => [(14, .c (.int .i64 ((me ||| maskN (endB v d m t) i : Nat)))), (19, .c (.int .i64 i))]) (fun i => [.cells (vatC g1 g2 g3 g4 v), .cells [.int .i64 (shadeRg v d m).lo, .int .i64 (shadeRg v d m).hi], .cells [.int .i64 (balD v d t), .int .i64 (blueD v d t)], .cells [.bool q1, .bool q2, .bool q3, .bool q4, .bool q5, .bool q6]]) (fun _ => True) trivial (by simp only [go_sem, met0, hq1, hq2, hq3, hq4, hq5, hq6] <;> first | rfl | exact ⟨rfl, rfl⟩) ?_
        intro i hi _
        by_cases hlt2 : i < 6
        · have hb : [q1, q2, q3, q4, q5, q6].getD i false = endB v d m t i := by rw [endB, hel]
          obtain ⟨s1, s2⟩ := met_step (b := endB v d m t) hmlt hlt2
          rcases (by omega : i = 0 ∨ i = 1 ∨ i = 2 ∨ i = 3 ∨ i = 4 ∨ i = 5) with rfl | rfl | rfl | rfl | rfl | rfl
          · have v0 : IntKind.i64.wrap (1 * 2 ^ min 0 IntKind.i64.bits) = ((2 ^ 0 : Nat) : Int) := rfl
            cases q1 with
            | true =>
              have s3 := s1 hb.symm
              simp only [go_sem, u0, v0, s3]
            | false =>
              have s3 := s2 (by rw [← hb]; simp)
              simp only [go_sem, s3]
          · have v0 : IntKind.i64.wrap (1 * 2 ^ min 1 IntKind.i64.bits) = ((2 ^ 1 : Nat) : Int) := rfl
            cases q2 with
            | true =>
              have s3 := s1 hb.symm
              simp only [go_sem, u1, v0, s3]
            | false =>
              have s3 := s2 (by rw [← hb]; simp)
              simp only [go_sem, s3]
          · have v0 : IntKind.i64.wrap (1 * 2 ^ min 2 IntKind.i64.bits) = ((2 ^ 2 : Nat) : Int) := rfl
            cases q3 with
            | true =>
              have s3 := s1 hb.symm
              simp only [go_sem, u2, v0, s3]
            | false =>
              have s3 := s2 (by rw [← hb]; simp)
              simp only [go_sem, s3]
          · have v0 : IntKind.i64.wrap (1 * 2 ^ min 3 IntKind.i64.bits) = ((2 ^ 3 : Nat) : Int) := rfl
            cases q4 with
            | true =>
              have s3 := s1 hb.symm
              simp only [go_sem, u3, v0, s3]
            | false =>
              have s3 := s2 (by rw [← hb]; simp)
              simp only [go_sem, s3]
          · have v0 : IntKind.i64.wrap (1 * 2 ^ min 4 IntKind.i64.bits) = ((2 ^ 4 : Nat) : Int) := rfl
            cases q5 with
            | true =>
              have s3 := s1 hb.symm
              simp only [go_sem, u4, v0, s3]
            | false =>
              have s3 := s2 (by rw [← hb]; simp)
              simp only [go_sem, s3]
          · have v0 : IntKind.i64.wrap (1 * 2 ^ min 5 IntKind.i64.bits) = ((2 ^ 5 : Nat) : Int) := rfl
            cases q6 with
            | true =>
              have s3 := s1 hb.symm
              simp only [go_sem, u5, v0, s3]
            | false =>
              have s3 := s2 (by rw [← hb]; simp)
              simp only [go_sem, s3]
        · have : i = 6 := by omega
          subst this
          rw [hsn]
          simp only [go_sem, e4]
      · have : k = ts.length := by omega
        subst this
        simp only [go_sem, hlt, List.take_length, hall, lawake]
end Am.Vt

