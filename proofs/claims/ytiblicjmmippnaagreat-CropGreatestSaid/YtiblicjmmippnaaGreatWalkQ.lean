/-
  A part of the proof: the texts F12 of this seat, joined.
-/
import Derived.Test.YtiblicjmmippnaaGreatWalkN
import Derived.Test.YtiblicjmmippnaaGreatWalkP
import Derived.Test.YtiblicjmmippnaaGreatWalkI
namespace Am.Cr
open Go Am
set_option maxRecDepth 100000
set_option maxHeartbeats 4000000
set_option linter.unusedSimpArgs false
set_option linter.unusedVariables false
variable {g1 g2 g3 g4 g5 : Bool × Bool} {f : Field}
theorem worthRg_ref' (hv : f.Valid) {plan : List Int} (hp : POk f plan) (h : refTruths f ≠ []) : (wdL (fun t => worthI f t plan) (refTruths f)).lo = sureW f plan := by
  rw [sureW, wd_bd hv h fun t ht => ?_]
  have := worth_bound hv (refTruths_tok hv t ht) hp
  omega
theorem L_ne {l : List Int} {b : Bool} (h : l ≠ []) : L (false, b) l = L (true, b) l := by
  cases l with
  | nil => exact absurd rfl h
  | cons x l => rfl
theorem bits_ne {b : Nat} (h0 : 0 < b) (h : b < 2 ^ 60) : bitsF b ≠ [] := fun e => by
  have : b = 0 := by
    refine Nat.eq_of_testBit_eq fun i => ?_
    cases hb : b.testBit i with
    | false => simp
    | true =>
      have hi := lt_of_bit h hb
      have : (i : Int) ∈ bitsF b := bitsF_mem.2 ⟨by omega, hb⟩
      rw [e] at this; cases this
  omega
theorem rBest (hv : f.Valid) (h : refTruths f ≠ []) {g : Bool × Bool} {Q : V → Prop} : CallP tab 27 [fieldV g1 g2 g3 g4 g5 f, .c (L g (refTruths f))] Q ↔ Q (.tup [.c (L (true, false) (bestS f).plan), .c (.int .i64 (bestS f).worth)]) := CallP_of (by
  refine Val_X (fn := f27) rfl ?_
  have v3 := hv.last0
  have v4 := hv.last9
  have v5 := hv.base3
  have v1 := hv.growth
  obtain ⟨a, ha⟩ : ∃ a : Nat, f.last = a := ⟨f.last.toNat, by omega⟩
  have hk : (f.last + 1).toNat = a + 1 := by omega
  have ha9 : a ≤ 9 := by omega
  have e1 := u64W (k := a) (by omega)
  have e2 := shlW (a := 2) (k := a) (by omega) (by omega)
  have hpw : 2 * 2 ^ a = 2 ^ (a + 1) := by rw [Nat.pow_succ, Nat.mul_comm]
  rw [hpw, show ((2 : Nat) : Int) = 2 from rfl] at e2
  have p1 : 1 ≤ 2 ^ (a + 1) := Nat.pow_pos (by omega)
  have p2 : 2 ^ (a + 1) ≤ 2 ^ 10 := Nat.pow_le_pow_right (by omega) (by omega)
  have a0 : ¬ (a : Int) < 0 := by omega
  have hbr := best_ref hv fun e => h ((refTruths_nil hv).2 e)
  rw [hk] at hbr
  have hlen := refTruths_len hv
  have hWk := fun {g1 g2 g3 g4 g5 g g' : Bool × Bool} {plan : List Int} (hp : planOk f.last f.base plan = true) {Q : V → Prop} => rWorth (f := f) (g1 := g1) (g2 := g2) (g3 := g3) (g4 := g4) (g5 := g5) (g := g) (g' := g') (ts := refTruths f) (plan := plan) (refTruths_tok hv) (by omega) (pok_of hv hp) (Q := Q)
  have hnil : planOk f.last f.base [] = true := planOk_of hv.last9 (by simp) (by simp) (by simp)
  have hN := fun {g1 g2 g3 g4 g5 g : Bool × Bool} {Q : V → Prop} => hWk (g1 := g1) (g2 := g2) (g3 := g3) (g4 := g4) (g5 := g5) (g := g) (g' := (true, false)) hnil (Q := Q)
  have hn0 : (L (true, false) ([] : List Int)) = .nils := rfl
  rw [hn0, worthRg_ref' hv (pok_of hv hnil) h] at hN
  have e2' : IntKind.i64.wrap (2 * 2 ^ min f.last.toNat IntKind.i64.bits) = ((2 ^ (a + 1) : Nat) : Int) := by rw [ha]; exact e2
  rw [← ha] at e1 a0
  simp only [go_sem, f27, hN]
  refine RX_for (2 ^ (a + 1) - 1) (fun k => [(6, .c (L (true, false) (rbK f k).1)), (7, .c (.int .i64 (rbK f k).2)), (8, .c (.int .i64 (k + 1 : Nat)))]) (fun k => [.cells (fieldC g1 g2 g3 g4 g5 f.last f.growth f.wet f.base f.crops f.ripe f.late f.trod f.looks)]) (fun _ => True) trivial (by simp only [go_sem, rbK] <;> first | rfl | exact ⟨rfl, rfl⟩) ?_
  intro k hk' _
  by_cases h3 : k < 2 ^ (a + 1) - 1
  · have e4 : IntKind.i64.wrap (((k + 1 : Nat) : Int) + 1) = ((k + 1 + 1 : Nat) : Int) := wrap_succ (n := 3000) (by omega) (by decide)
    have c1 : ((k + 1 : Nat) : Int) < ((2 ^ (a + 1) : Nat) : Int) := by omega
    have hBk := fun {Q : V → Prop} => rBits (n := k + 1) (by omega) (Q := Q)
    have hl1 : (bitsF (k + 1)).length ≤ 62 := bitsP_len
    have hst : rbK f (k + 1) = if (bitsF (k + 1)).length ≤ f.base.length ∧ ((rbK f k).2 < sureW f (bitsF (k + 1)) ∨ (sureW f (bitsF (k + 1)) = (rbK f k).2 ∧ lexB (bitsF (k + 1)) (rbK f k).1 = true)) then (bitsF (k + 1), sureW f (bitsF (k + 1))) else rbK f k := rfl
    obtain ⟨q1, q2, q3⟩ := rbK_ok hv (k := k) (by rw [hk]; omega)
    by_cases hbl : f.base.length < (bitsF (k + 1)).length
    · have hs2 : rbK f (k + 1) = rbK f k := by rw [hst, if_neg (fun h => by omega)]
      simp only [go_sem, e1, a0, e2', c1, hBk, gt_iff_lt, hbl, e4, h3, hs2]
    · have hpo : planOk f.last f.base (bitsF (k + 1)) = true := bits_plan hv (by rw [hk]; omega) (by omega)
      have hW := fun {g1 g2 g3 g4 g5 g g' : Bool × Bool} {Q : V → Prop} => hWk (g1 := g1) (g2 := g2) (g3 := g3) (g4 := g4) (g5 := g5) (g := g) (g' := g') hpo (Q := Q)
      rw [worthRg_ref' hv (pok_of hv hpo) h] at hW
      have hB := fun {g g' : Bool × Bool} {Q : V → Prop} => rBefore (g := g) (g' := g') (a := bitsF (k + 1)) (b := (rbK f k).1) (by omega) (by have := plan_le q1; omega) (Q := Q)
      have hLn := L_ne (b := false) (bits_ne (b := k + 1) (by omega) (by omega))
      by_cases hg : (rbK f k).2 < sureW f (bitsF (k + 1))
      · have hs2 : rbK f (k + 1) = (bitsF (k + 1), sureW f (bitsF (k + 1))) := by rw [hst, if_pos ⟨by omega, .inl hg⟩]
        simp only [go_sem, e1, a0, e2', c1, hBk, gt_iff_lt, hbl, hW, hg, e4, h3, hs2, hLn]
      · by_cases he : sureW f (bitsF (k + 1)) = (rbK f k).2
        · have hg' : ¬ (rbK f k).2 < (rbK f k).2 := by omega
          cases hlx : lexB (bitsF (k + 1)) (rbK f k).1 with
          | true =>
            have hs2 : rbK f (k + 1) = (bitsF (k + 1), sureW f (bitsF (k + 1))) := by rw [hst, if_pos ⟨by omega, .inr ⟨he, hlx⟩⟩]
            simp only [go_sem, e1, a0, e2', c1, hBk, gt_iff_lt, hbl, hW, hg', he, hB, hlx, e4, h3, hs2, hLn]
          | false =>
            have hs2 : rbK f (k + 1) = rbK f k := by rw [hst, if_neg (fun h => by rw [hlx] at h; rcases h.2 with h | h; exact hg h; exact absurd h.2 (by decide))]
            simp only [go_sem, e1, a0, e2', c1, hBk, gt_iff_lt, hbl, hW, hg', he, hB, hlx, e4, h3, hs2]
        · have hs2 : rbK f (k + 1) = rbK f k := by rw [hst, if_neg (fun h => by rcases h.2 with h | h; exact hg h; exact he h.1)]
          simp only [go_sem, e1, a0, e2', c1, hBk, gt_iff_lt, hbl, hW, hg, he, e4, h3, hs2]
  · have hke : k = 2 ^ (a + 1) - 1 := by omega
    have c1 : ¬ ((2 ^ (a + 1) - 1 + 1 : Nat) : Int) < ((2 ^ (a + 1) : Nat) : Int) := by omega
    rw [hke]
    simp only [go_sem, e1, a0, e2', c1, hbr])
end Am.Cr
