/-
  A part of the proof: the texts F8 of this seat, joined.
-/
import Derived.Test.YtiblicjmmippnaaGreatWalkJ
namespace Am.Cr
open Go Am
set_option maxRecDepth 100000
set_option maxHeartbeats 4000000
set_option linter.unusedSimpArgs false
set_option linter.unusedVariables false
variable {g1 g2 g3 g4 g5 : Bool × Bool} {f : Field}
/-- which ends a truth reaches -/
def endsL (f : Field) (p : List Int) (t : Truth) : List Bool :=
  [decide (worthI f t p = (worthRg f p).lo), decide (worthI f t p = (worthRg f p).hi),
   if p = [] then true else decide ((cropAt f t p (p.length - 1)).weight = (boundAt f p (p.length - 1)).weight.lo),
   if p = [] then true else decide ((cropAt f t p (p.length - 1)).weight = (boundAt f p (p.length - 1)).weight.hi)]
def endB (f : Field) (p : List Int) (t : Truth) (k : Nat) : Bool := (endsL f p t).getD k false
def metN (f : Field) (p : List Int) (ts : List Truth) : Nat := maskN (fun k => ts.any fun t => endB f p t k) 4
theorem metN_snoc {p : List Int} {ts : List Truth} {t : Truth} : metN f p (ts ++ [t]) = metN f p ts ||| maskN (endB f p t) 4 := by
  refine Nat.eq_of_testBit_eq fun i => ?_
  rw [Nat.testBit_or]
  unfold metN
  rw [maskN_bit, maskN_bit, maskN_bit]
  simp only [List.any_append, List.any_cons, List.any_nil, Bool.or_false]
  cases decide (i < 4) <;> simp
theorem metN_nil {p : List Int} : metN f p [] = 0 := by
  refine Nat.eq_of_testBit_eq fun i => ?_
  unfold metN
  rw [maskN_bit]; simp
theorem metN_all (hv : f.Valid) {p : List Int} (hp : POk f p) (h : refTruths f ≠ []) : metN f p (refTruths f) = 15 := by
  have e : (15 : Nat) = 2 ^ 4 - 1 := rfl
  rw [e, metN, maskN_full, List.all_eq_true]
  intro k hk
  rw [List.mem_range] at hk
  rw [List.any_eq_true]
  have hE := wdL_IsRg (val := fun t => worthI f t p) h fun t ht => by have := worth_bound hv (refTruths_tok hv t ht) hp; omega
  rw [worthRg_ref hv hp h] at hE
  have hL : p ≠ [] → IsRg (fun t => (cropAt f t p (p.length - 1)).weight) (refTruths f) (boundAt f p (p.length - 1)).weight := fun h0 => by
    have hl : p.length - 1 < p.length := by have := List.length_pos_iff.2 h0; omega
    have := wdL_IsRg (val := fun t => (cropAt f t p (p.length - 1)).weight) h fun t ht => by have := crop_bound hv (refTruths_tok hv t ht) hp hl; omega
    rwa [(boundAt_ref hv hp h hl).1] at this
  obtain ⟨t0, ht0⟩ := List.exists_mem_of_ne_nil _ h
  rcases (by omega : k = 0 ∨ k = 1 ∨ k = 2 ∨ k = 3) with rfl | rfl | rfl | rfl
  · obtain ⟨t, ht, e⟩ := hE.1
    exact ⟨t, ht, by simpa [endB, endsL] using e⟩
  · obtain ⟨t, ht, e⟩ := hE.2.1
    exact ⟨t, ht, by simpa [endB, endsL] using e⟩
  · by_cases h0 : p = []
    · exact ⟨t0, ht0, by simp [endB, endsL, h0]⟩
    · obtain ⟨t, ht, e⟩ := (hL h0).1
      exact ⟨t, ht, by simpa [endB, endsL, h0] using e⟩
  · by_cases h0 : p = []
    · exact ⟨t0, ht0, by simp [endB, endsL, h0]⟩
    · obtain ⟨t, ht, e⟩ := (hL h0).2.1
      exact ⟨t, ht, by simpa [endB, endsL, h0] using e⟩
theorem met0 {m : Nat} {b : Nat → Bool} : m ||| maskN b 0 = m := Nat.or_zero m
theorem met_step {m : Nat} {b : Nat → Bool} {i : Nat} (hm : m < 2 ^ 4) (hi : i < 4) : (b i = true → IntKind.i64.wrap ((BitVec.ofInt IntKind.i64.bits ((m ||| maskN b i : Nat) : Int) ||| BitVec.ofInt IntKind.i64.bits ((2 ^ i : Nat) : Int)).toNat : Int) = ((m ||| maskN b (i + 1) : Nat) : Int)) ∧ (¬ b i = true → m ||| maskN b (i + 1) = m ||| maskN b i) := by
  have h1 := maskN_lt (p := b) (n := i)
  have h2 : 2 ^ i ≤ 2 ^ 4 := Nat.pow_le_pow_right (by omega) (by omega)
  have h3 : m ||| maskN b i < 2 ^ 29 := Nat.or_lt_two_pow (by omega) (by omega)
  constructor
  · intro h
    rw [orW h3 (by omega), Nat.or_assoc, show maskN b (i + 1) = maskN b i ||| 2 ^ i from if_pos h]
  · intro h
    rw [show maskN b (i + 1) = maskN b i from if_neg h]
theorem CropEnds_val {bits : Int} (hb0 : 0 ≤ bits) (hb1 : bits ≤ 65535) : Val tab 7 [fieldV g1 g2 g3 g4 g5 f, .c (.int .u16 bits)] (.c (.bool true)) := by
  obtain ⟨bn, rfl⟩ : ∃ n : Nat, bits = n := ⟨bits.toNat, by omega⟩
  refine Val_X (fn := f7) rfl ?_
  cases hr : readyB f with
  | false => simp only [go_sem, f7, lready, hr, lawake]
  | true =>
    obtain ⟨hs, hv, h0, h100⟩ := ready_of hr
    have hW := hs.fits
    obtain ⟨p, hp0⟩ : ∃ p, p = plannedL f bn := ⟨_, rfl⟩
    have hpo : planOk f.last f.base p = true := by rw [hp0]; exact planned_ok hv
    have hPl := fun {Q : V → Prop} => lplanned (g1 := g1) (g2 := g2) (g3 := g3) (g4 := g4) (g5 := g5) hv (bits := bn) (by omega) (Q := Q)
    rw [← hp0] at hPl
    have hP := pok_of hv hpo
    have v9 := hv.last9
    have v1 := hv.growth
    have hpl := hP.len (by omega)
    have hpb := hP.l
    have c3 : p.length ≤ 1000 := by omega
    have k1 := fun {Q : V → Prop} => cBounds (f := f) (g1 := (false, false)) (g2 := (false, false)) (g3 := (false, false)) (g4 := (false, false)) (g5 := (false, false)) (g := (false, false)) (plan := p) hW (big_of c3) (Q := Q)
    have k3 := fun {Q : V → Prop} => cWorth (f := f) (g1 := (false, false)) (g2 := (false, false)) (g3 := (false, false)) (g4 := (false, false)) (g5 := (false, false)) (g := (false, false)) (plan := p) hW (big_of c3) (Q := Q)
    have k4 := fun {g : Bool × Bool} {Q : V → Prop} => llist (g := g) (a := p) c3 (Q := Q)
    rcases askE_val hv h0 (planOk f.last f.base p) with ⟨e1, e2⟩ | ⟨e1, e2, e3⟩ | ⟨e1, e2, e3⟩
    · rw [hpo] at e2; cases e2
    · have hR : BoundsR false f p = .tup [.c .nils, .c (.int .i64 11)] := by rw [BoundsR, if_neg (by rw [e1]; simp), e1]
      have hR2 : WorthR f p = .tup [.agg [.int .i64 0, .int .i64 0], .c (.int .i64 11)] := by rw [WorthR, if_neg (by rw [e1]; simp), e1]
      rw [hR] at k1
      rw [hR2] at k3
      have hz : (((refTruths f).length : Nat) : Int) = 0 := by rw [e3]; rfl
      simp only [go_sem, f7, lready, hr, hPl, lField hs, k1, k3, k4, rTruths hv, hz, lawake]
    · have hR : BoundsR false f p = .tup [.c (L (false, false) (boundsL f p)), .c (.int .i64 0)] := by rw [BoundsR, if_pos e1]
      have hR2 : WorthR f p = .tup [.agg [.int .i64 (worthRg f p).lo, .int .i64 (worthRg f p).hi], .c (.int .i64 0)] := by rw [WorthR, if_pos e1]
      rw [hR] at k1
      rw [hR2] at k3
      have hlen := refTruths_len hv
      have hbl : (boundsL f p).length = p.length := by simp [boundsL]
      simp only [go_sem, f7, lready, hr, hPl, lField hs, k1, k3, k4, rTruths hv, hbl]
      obtain ⟨ts, hts⟩ : ∃ ts, ts = refTruths f := ⟨_, rfl⟩
      have htok := refTruths_tok hv
      have hall := metN_all hv hP e3
      rw [← hts] at htok hlen hall ⊢
      refine RX_for ts.length (fun k => [(11, .c (.int .i64 (metN f p (ts.take k)))), (12, .c (.int .i64 k))]) (fun k => [.cells (fieldC g1 g2 g3 g4 g5 f.last f.growth f.wet f.base f.crops f.ripe f.late f.trod f.looks), .cells [.int .i64 (worthRg f p).lo, .int .i64 (worthRg f p).hi]]) (fun _ => True) trivial (by simp only [go_sem, List.take_zero, metN_nil] <;> first | rfl | exact ⟨rfl, rfl⟩) ?_
      intro k hk _
      by_cases hlt : k < ts.length
      · have e4 : IntKind.i64.wrap ((k : Int) + 1) = ((k + 1 : Nat) : Int) := wrap_succ (n := 3000) (by omega) (by decide)
        obtain ⟨t, ht⟩ : ∃ t, t = ts.getD k default := ⟨_, rfl⟩
        have hT := htok t (by rw [ht, getD_lt _ _ _ hlt]; exact List.getElem_mem hlt)
        have hsn : metN f p (ts.take (k + 1)) = metN f p (ts.take k) ||| maskN (endB f p t) 4 := by rw [take_getD hlt default, ht, metN_snoc]
        have hmlt : metN f p (ts.take k) < 2 ^ 4 := maskN_lt
        obtain ⟨m, hm⟩ : ∃ m, m = metN f p (ts.take k) := ⟨_, rfl⟩
        rw [← hm] at hmlt hsn ⊢
        have k5 := fun {b6 b7 g : Bool × Bool} {Q : V → Prop} => rTotal (f := f) (g1 := g1) (g2 := g2) (g3 := g3) (g4 := g4) (g5 := g5) (b6 := b6) (b7 := b7) (g := g) hT hP (Q := Q)
        obtain ⟨ends, hends⟩ : ∃ e, e = endsL f p t := ⟨_, rfl⟩
        have fin : ∀ (q1 q2 q3 q4 : Bool) (i : Nat), endsL f p t = [q1, q2, q3, q4] → i < 4 → [q1, q2, q3, q4].getD i false = endB f p t i := fun q1 q2 q3 q4 i h _ => by rw [endB, h]
        have w0 : IntKind.u64.wrap 0 = 0 := u64W (k := 0) (by omega)
        have w1 : IntKind.u64.wrap 1 = 1 := u64W (k := 1) (by omega)
        have w2 : IntKind.u64.wrap 2 = 2 := u64W (k := 2) (by omega)
        have w3 : IntKind.u64.wrap 3 = 3 := u64W (k := 3) (by omega)
        by_cases hp00 : p.length = 0
        · have hpe : p = [] := List.length_eq_zero_iff.1 hp00
          have e5 : IntKind.i64.wrap ((p.length : Int) - 1) = -1 := by rw [hp00]; rfl
          have hel : endsL f p t = [decide (worthI f t p = (worthRg f p).lo), decide (worthI f t p = (worthRg f p).hi), true, true] := by simp [endsL, hpe]
          simp only [go_sem, hlt, atI_nat, ← ht, k5, e5]
          obtain ⟨q1, hq1⟩ : ∃ q, q = decide (worthI f t p = (worthRg f p).lo) := ⟨_, rfl⟩
          obtain ⟨q2, hq2⟩ : ∃ q, q = decide (worthI f t p = (worthRg f p).hi) := ⟨_, rfl⟩
          obtain ⟨q3, hq3⟩ : ∃ q, q = true := ⟨_, rfl⟩
          obtain ⟨q4, hq4⟩ : ∃ q, q = true := ⟨_, rfl⟩
          have hel : endsL f p t = [q1, q2, q3, q4] := by rw [hel, hq1, hq2, hq3, hq4]
          simp only [← hq1, ← hq2]
          refine RX_for 4 (fun i => [(11, .c (.int .i64 ((m ||| maskN (endB f p t) i : Nat)))), (17, .c (.int .i64 i))]) (fun i => [.cells (fieldC g1 g2 g3 g4 g5 f.last f.growth f.wet f.base f.crops f.ripe f.late f.trod f.looks), .cells [.int .i64 (worthRg f p).lo, .int .i64 (worthRg f p).hi], .cells [.bool q1, .bool q2, .bool q3, .bool q4]]) (fun _ => True) trivial (by simp only [go_sem, met0, hq3, hq4] <;> first | rfl | exact ⟨rfl, rfl⟩) ?_
          intro i hi _
          by_cases hlt2 : i < 4
          · have hb := fin q1 q2 q3 q4 i hel hlt2
            obtain ⟨s1, s2⟩ := met_step (b := endB f p t) hmlt hlt2
            rcases (by omega : i = 0 ∨ i = 1 ∨ i = 2 ∨ i = 3) with rfl | rfl | rfl | rfl
            · have v0 : IntKind.i64.wrap (1 * 2 ^ min 0 IntKind.i64.bits) = ((2 ^ 0 : Nat) : Int) := rfl
              cases q1 with
              | true =>
                have s3 := s1 hb.symm
                simp only [go_sem, w0, v0, s3]
              | false =>
                have s3 := s2 (by rw [← hb]; simp)
                simp only [go_sem, s3]
            · have v0 : IntKind.i64.wrap (1 * 2 ^ min 1 IntKind.i64.bits) = ((2 ^ 1 : Nat) : Int) := rfl
              cases q2 with
              | true =>
                have s3 := s1 hb.symm
                simp only [go_sem, w1, v0, s3]
              | false =>
                have s3 := s2 (by rw [← hb]; simp)
                simp only [go_sem, s3]
            · have v0 : IntKind.i64.wrap (1 * 2 ^ min 2 IntKind.i64.bits) = ((2 ^ 2 : Nat) : Int) := rfl
              cases q3 with
              | true =>
                have s3 := s1 hb.symm
                simp only [go_sem, w2, v0, s3]
              | false =>
                have s3 := s2 (by rw [← hb]; simp)
                simp only [go_sem, s3]
            · have v0 : IntKind.i64.wrap (1 * 2 ^ min 3 IntKind.i64.bits) = ((2 ^ 3 : Nat) : Int) := rfl
              cases q4 with
              | true =>
                have s3 := s1 hb.symm
                simp only [go_sem, w3, v0, s3]
              | false =>
                have s3 := s2 (by rw [← hb]; simp)
                simp only [go_sem, s3]
          · have : i = 4 := by omega
            subst this
            rw [hsn]
            simp only [go_sem, e4]
        · have hpe : ¬ p = [] := fun h => hp00 (by rw [h]; rfl)
          have hl1 : p.length - 1 < p.length := by omega
          have e5 : IntKind.i64.wrap ((p.length : Int) - 1) = ((p.length - 1 : Nat) : Int) := by rw [wrapB (by omega) (by omega)]; omega
          have e6 : ((p.length - 1 : Nat) : Int) ≥ 0 := by omega
          have i1 : p.length - 1 < (boundsL f p).length := by omega
          have hbg : (boundsL f p).getD (p.length - 1) default = boundAt f p (p.length - 1) := by
            rw [getD_lt _ _ _ i1]; simp [boundsL]
          have k6 := fun {b6 b7 g : Bool × Bool} {Q : V → Prop} => rCropped (g1 := g1) (g2 := g2) (g3 := g3) (g4 := g4) (g5 := g5) (b6 := b6) (b7 := b7) (g := g) hT hP hl1 (Q := Q)
          have hel : endsL f p t = [decide (worthI f t p = (worthRg f p).lo), decide (worthI f t p = (worthRg f p).hi), decide ((cropAt f t p (p.length - 1)).weight = (boundAt f p (p.length - 1)).weight.lo), decide ((cropAt f t p (p.length - 1)).weight = (boundAt f p (p.length - 1)).weight.hi)] := by simp [endsL, hpe]
          simp only [go_sem, hlt, atI_nat, ← ht, k5, e5, e6, i1, hl1, hbl, hbg, k6, cropV]
          obtain ⟨q1, hq1⟩ : ∃ q, q = decide (worthI f t p = (worthRg f p).lo) := ⟨_, rfl⟩
          obtain ⟨q2, hq2⟩ : ∃ q, q = decide (worthI f t p = (worthRg f p).hi) := ⟨_, rfl⟩
          obtain ⟨q3, hq3⟩ : ∃ q, q = decide ((cropAt f t p (p.length - 1)).weight = (boundAt f p (p.length - 1)).weight.lo) := ⟨_, rfl⟩
          obtain ⟨q4, hq4⟩ : ∃ q, q = decide ((cropAt f t p (p.length - 1)).weight = (boundAt f p (p.length - 1)).weight.hi) := ⟨_, rfl⟩
          have hel : endsL f p t = [q1, q2, q3, q4] := by rw [hel, hq1, hq2, hq3, hq4]
          simp only [← hq1, ← hq2, ← hq3, ← hq4]
          refine RX_for 4 (fun i => [(11, .c (.int .i64 ((m ||| maskN (endB f p t) i : Nat)))), (17, .c (.int .i64 i))]) (fun i => [.cells (fieldC g1 g2 g3 g4 g5 f.last f.growth f.wet f.base f.crops f.ripe f.late f.trod f.looks), .cells [.int .i64 (worthRg f p).lo, .int .i64 (worthRg f p).hi], .cells [.bool q1, .bool q2, .bool q3, .bool q4]]) (fun _ => True) trivial (by simp only [go_sem, met0, hq1, hq2, hq3, hq4] <;> first | rfl | exact ⟨rfl, rfl⟩) ?_
          intro i hi _
          by_cases hlt2 : i < 4
          · have hb := fin q1 q2 q3 q4 i hel hlt2
            obtain ⟨s1, s2⟩ := met_step (b := endB f p t) hmlt hlt2
            rcases (by omega : i = 0 ∨ i = 1 ∨ i = 2 ∨ i = 3) with rfl | rfl | rfl | rfl
            · have v0 : IntKind.i64.wrap (1 * 2 ^ min 0 IntKind.i64.bits) = ((2 ^ 0 : Nat) : Int) := rfl
              cases q1 with
              | true =>
                have s3 := s1 hb.symm
                simp only [go_sem, w0, v0, s3]
              | false =>
                have s3 := s2 (by rw [← hb]; simp)
                simp only [go_sem, s3]
            · have v0 : IntKind.i64.wrap (1 * 2 ^ min 1 IntKind.i64.bits) = ((2 ^ 1 : Nat) : Int) := rfl
              cases q2 with
              | true =>
                have s3 := s1 hb.symm
                simp only [go_sem, w1, v0, s3]
              | false =>
                have s3 := s2 (by rw [← hb]; simp)
                simp only [go_sem, s3]
            · have v0 : IntKind.i64.wrap (1 * 2 ^ min 2 IntKind.i64.bits) = ((2 ^ 2 : Nat) : Int) := rfl
              cases q3 with
              | true =>
                have s3 := s1 hb.symm
                simp only [go_sem, w2, v0, s3]
              | false =>
                have s3 := s2 (by rw [← hb]; simp)
                simp only [go_sem, s3]
            · have v0 : IntKind.i64.wrap (1 * 2 ^ min 3 IntKind.i64.bits) = ((2 ^ 3 : Nat) : Int) := rfl
              cases q4 with
              | true =>
                have s3 := s1 hb.symm
                simp only [go_sem, w3, v0, s3]
              | false =>
                have s3 := s2 (by rw [← hb]; simp)
                simp only [go_sem, s3]
          · have : i = 4 := by omega
            subst this
            rw [hsn]
            simp only [go_sem, e4]
      · have : k = ts.length := by omega
        subst this
        simp only [go_sem, hlt, List.take_length, hall, lawake]
end Am.Cr
