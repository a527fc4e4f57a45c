/-
  A part of the proof: the texts Y4, Y5, Y10, Y11, Y14, Y15 of this seat, joined.
-/
import Derived.Test.YtblekjhhceknaaaGreatWalkG
namespace Am.Vt
open Go Am
set_option maxRecDepth 100000
set_option maxHeartbeats 4000000
set_option linter.unusedSimpArgs false
set_option linter.unusedVariables false
variable {g1 g2 g3 g4 gt : Bool × Bool} {v : Vat} {t : Truth}
theorem ask_t (h0 : checkVat v = 0) (hp : posB v [] = true) : askE v true = 0 := by simp [askE, h0, hp]
end Am.Vt

namespace Am.Vt
open Go Am
set_option maxRecDepth 100000
set_option maxHeartbeats 4000000
set_option linter.unusedSimpArgs false
set_option linter.unusedVariables false
variable {g1 g2 g3 g4 gt : Bool × Bool} {v : Vat} {t : Truth}
theorem or_fold {d : Nat} : ∀ {ts : List Truth} {a b : Bool}, (foldY (orStep v d) (a, b) ts).1 = (a || ts.any (fun t => ordB v (balD v d t)), b || ts.any (fun t => !ordB v (balD v d t)))
  | [], a, b => by simp [foldY]
  | t :: ts, a, b => by
    have : orStep v d (a, b) t = ((a || ordB v (balD v d t), b || !ordB v (balD v d t)), true) := rfl
    rw [foldY, this, if_pos rfl, or_fold, List.any_cons, List.any_cons, Bool.or_assoc, Bool.or_assoc]
end Am.Vt

namespace Am.Vt
open Go Am
set_option maxRecDepth 100000
set_option maxHeartbeats 4000000
set_option linter.unusedSimpArgs false
set_option linter.unusedVariables false
variable {g1 g2 g3 g4 gt : Bool × Bool} {v : Vat} {t : Truth}
/-- a vat with other valid looks is valid -/
theorem check_with (h0 : checkVat v = 0) {l : List Lk} (h1 : l.length ≤ 5) (h2 : ∀ k ∈ l, lookOk v.last k = true) : checkVat (withL v l) = 0 := by
  have hv := valid_of h0
  have v5 := hv.looks5
  have v7 := hv.last7
  have hg := check_eq (v := v) (by omega) (by omega)
  rw [h0] at hg
  by_cases hb : goodB v = false
  · rw [if_pos hb] at hg; cases hg
  rw [if_neg hb] at hg
  have hb : goodB v = true := by simpa using hb
  have hn := check_eq (v := withL v l) (show ¬ v.last > 7 by omega) (show ¬ (l.length : Int) > 5 by omega)
  have hb' : goodB (withL v l) = true := by
    simp only [goodB, Bool.and_eq_true] at hb ⊢
    exact ⟨hb.1, hb.2.1, hb.2.2.1, hb.2.2.2.1, hb.2.2.2.2.1, hb.2.2.2.2.2.1, hb.2.2.2.2.2.2.1, List.all_eq_true.2 h2⟩
  rw [hn, if_neg (by rw [hb']; simp)]
  exact hg.symm
end Am.Vt

namespace Am.Vt
open Go Am
set_option maxRecDepth 100000
set_option maxHeartbeats 4000000
set_option linter.unusedSimpArgs false
set_option linter.unusedVariables false
variable {g1 g2 g3 g4 gt : Bool × Bool} {v : Vat} {t : Truth}
/-- a number of 16 bits -/
structure Wd where
  n : Nat
  h : n < 65536
instance : Inhabited Wd := ⟨⟨0, by decide⟩⟩
instance : Row Wd := ⟨1, fun s => [.int .u16 s.n], fun _ => rfl⟩
instance : Scal Wd := ⟨fun _ => rfl⟩
@[go_sem] theorem sz_wd : Row.sz Wd = 1 := rfl
@[go_sem] theorem row_wd {s : Wd} : Row.row s = [.int .u16 s.n] := rfl
def wordN (ws : List Wd) (a : Nat) : Nat := if ws = [] then 0 else (ws.getD (a % ws.length) default).n
theorem wordN_lt {ws : List Wd} {a : Nat} : wordN ws a < 65536 := by
  unfold wordN
  split
  · decide
  · exact (ws.getD (a % ws.length) default).h
theorem lword {g : Bool × Bool} {ws : List Wd} {a : Nat} (ha : a ≤ 1000) {Q : V → Prop} : CallP tab 118 [.c (L g ws), .c (.int .i64 a)] Q ↔ Q (.c (.int .i64 (wordN ws a : Nat))) := CallP_of (by
  refine Val_X (fn := f118) rfl ?_
  by_cases h : ws = []
  · subst h
    simp only [go_sem, f118, wordN, List.length_nil]
  · have hl := List.length_pos_iff.2 h
    have hz : ¬ ((ws.length : Nat) : Int) = 0 := by omega
    obtain ⟨m, hm⟩ : ∃ m, m = a % ws.length := ⟨_, rfl⟩
    have hml : m < ws.length := by rw [hm]; exact Nat.mod_lt _ hl
    have e1 : (a : Int).tmod ((ws.length : Nat) : Int) = (m : Int) := by rw [hm]; rfl
    have hw : wordN ws a = (ws.getD m default).n := by rw [wordN, if_neg h, hm]
    have hb := (ws.getD m default).h
    have e2 : IntKind.i64.wrap ((ws.getD m default).n : Int) = ((ws.getD m default).n : Int) := wrapB (by omega) (by omega)
    simp only [go_sem, f118, hz, e1, hml, atI_nat, hw, e2])
end Am.Vt

namespace Am.Vt
open Go Am
set_option maxRecDepth 100000
set_option maxHeartbeats 4000000
set_option linter.unusedSimpArgs false
set_option linter.unusedVariables false
variable {g1 g2 g3 g4 gt : Bool × Bool} {v : Vat} {t : Truth}
/-- a look that is right -/
def lookAt (v : Vat) (t : Truth) (ws : List Wd) (i : Nat) : Lk :=
  let w := wordN ws (i + 1)
  let s := stAt v t (w % v.drift.length + 1)
  let n := if decide (w / 8 % 2 = 1) = true then s.bal else s.blue
  ⟨((w % v.drift.length : Nat) : Int), decide (w / 8 % 2 = 1), ⟨n - ((w / 16 % 4 : Nat) : Int), n + ((w / 64 % 4 : Nat) : Int)⟩⟩
def lookedK (v : Vat) (t : Truth) (ws : List Wd) (k : Nat) : List Lk := (List.range k).map (lookAt v t ws)
def lookedV (v : Vat) (t : Truth) (ws : List Wd) : Vat := withL v (lookedK v t ws (wordN ws 0 % 6))
theorem lookAt_ok (hv : v.Valid) (hT : IsT v t) {ws : List Wd} {i : Nat} : lookOk v.last (lookAt v t ws i) = true ∧ rightK (lookAt v t ws i) (playL v t) = true := by
  have v1 := hv.drift
  have v0 := hv.last0
  have v7 := hv.last7
  obtain ⟨w, hw⟩ : ∃ w, w = wordN ws (i + 1) := ⟨_, rfl⟩
  obtain ⟨d, hd⟩ : ∃ d, d = w % v.drift.length := ⟨_, rfl⟩
  have hdl : d < v.drift.length := by rw [hd]; exact Nat.mod_lt _ (by omega)
  have hb := stAt_bd hv hT (d := d + 1) (by omega)
  obtain ⟨b, hbb⟩ : ∃ b, b = decide (w / 8 % 2 = 1) := ⟨_, rfl⟩
  obtain ⟨n, hn⟩ : ∃ n, n = if b = true then (stAt v t (d + 1)).bal else (stAt v t (d + 1)).blue := ⟨_, rfl⟩
  have e : lookAt v t ws i = ⟨(d : Int), b, ⟨n - ((w / 16 % 4 : Nat) : Int), n + ((w / 64 % 4 : Nat) : Int)⟩⟩ := by
    rw [hn, hbb, hd, hw]; rfl
  have hnb : -4000 ≤ n ∧ n ≤ 4990 := by
    rw [hn]; split <;> omega
  rw [e]
  constructor
  · simp only [lookOk, rgOf, inR_iff, Bool.and_eq_true, decide_eq_true_eq]; omega
  · simp only [rightK, atI_nat, playL_get hdl, ← hn, inR_iff]; omega
theorem looked_check (hv : v.Valid) (h0 : checkVat v = 0) (hT : IsT v t) {ws : List Wd} {k : Nat} (hk : k ≤ 5) : checkVat (withL v (lookedK v t ws k)) = 0 := by
  refine check_with h0 (by simp [lookedK]; omega) fun x hx => ?_
  simp only [lookedK, List.mem_map, List.mem_range] at hx
  obtain ⟨i, _, rfl⟩ := hx
  exact (lookAt_ok hv hT).1
theorem lLooked (hv : v.Valid) {b1 b2 b3 b4 : Bool} {g : Bool × Bool} {wn : Nat} (hwn : wn < 65536) {ws : List Wd} {Q : V → Prop} : CallP tab 56 [vatV (b1, false) (b2, false) (b3, false) (b4, false) v, .c (.int .u16 wn), .c (L g ws)] Q ↔ Q (.tup [vatV (b1, false) (b2, false) (b3, false) (false, false) (lookedV v (nthT v (wn % prodN (rangesL v))) ws), truthG (false, false) (nthT v (wn % prodN (rangesL v)))]) := CallP_of (by
  refine Val_X (fn := f56) rfl ?_
  have v1 := hv.drift
  have v0 := hv.last0
  have v7 := hv.last7
  have hp := hv.prod.1
  have hmy := many_eq hv
  obtain ⟨n, hn⟩ : ∃ n, n = wn % prodN (rangesL v) := ⟨_, rfl⟩
  have hpp := prod_pos hv
  have hnl : n < prodN (rangesL v) := by rw [hn]; exact Nat.mod_lt _ hpp
  have e1 : IntKind.i64.wrap (wn : Int) = (wn : Int) := wrapB (by omega) (by omega)
  have e2 : (wn : Int).tmod ((prodN (rangesL v) : Nat) : Int) = (n : Int) := by rw [hn]; rfl
  have e3 : ¬ ((prodN (rangesL v) : Nat) : Int) = 0 := by omega
  have hM := fun {Q : V → Prop} => rManyV (g1 := (b1, false)) (g2 := (b2, false)) (g3 := (b3, false)) (g4 := (b4, false)) hv (Q := Q)
  rw [hmy] at hM
  have hN := fun {Q : V → Prop} => rNth (g1 := (b1, false)) (g2 := (b2, false)) (g3 := (b3, false)) (g4 := (b4, false)) hv (n := n) (by omega) (Q := Q)
  rw [← hn]
  have hT := nthT_isT hv (n := n)
  obtain ⟨t, ht⟩ : ∃ t, t = nthT v n := ⟨_, rfl⟩
  rw [← ht] at hN hT ⊢
  have hP := fun {Q : V → Prop} => rPlay (g1 := (b1, false)) (g2 := (b2, false)) (g3 := (b3, false)) (g4 := (b4, false)) (gt := (false, false)) hv hT (Q := Q)
  have pl := playL_len (v := v) (t := t)
  obtain ⟨m, hm⟩ : ∃ m, m = wordN ws 0 % 6 := ⟨_, rfl⟩
  have hm6 : m < 6 := by rw [hm]; exact Nat.mod_lt _ (by decide)
  have hw0 := fun {g : Bool × Bool} {Q : V → Prop} => lword (g := g) (ws := ws) (a := 0) (by omega) (Q := Q)
  rw [show ((0 : Nat) : Int) = 0 from rfl] at hw0
  have e4 : ((wordN ws 0 : Nat) : Int).tmod 6 = (m : Int) := by rw [hm]; rfl
  simp only [vatV, truthG] at hM hN hP
  simp only [go_sem, f56, hM, e1, e2, e3, hN, hP, disj_nil]
  refine RX_for m (fun k => [(11, .c (.int .i64 k))]) (fun k => [.cells (vatC (b1, false) (b2, false) (b3, false) (b4, false) v), .cells [.int .i64 0, .int .i64 0, .int .i64 0, .int .i64 0, .int .i64 0, .int .i64 0, .int .i64 0, .int .i64 0, .nils, .nils, .nils, .nils], .cells [.int .i64 0, .int .i64 0, .nils], .cells [.int .i64 t.start, .int .i64 t.blue, L (false, false) t.drift], .cells [.int .i64 v.last, .int .i64 v.band, .int .i64 v.start.lo, .int .i64 v.start.hi, .int .i64 v.blue.lo, .int .i64 v.blue.hi, .int .i64 v.gain, .int .i64 v.take, L (b1, false) v.drift, L (b2, false) v.feeds, L (b3, false) v.dips, .sl 5 k 0 k], .arr false k 4 ((lookedK v t ws k).map Row.row)]) (fun _ => True) trivial (by simp only [go_sem] <;> first | rfl | exact ⟨rfl, rfl⟩) ?_
  intro k hk _
  by_cases hlt : k < m
  · have e5 : IntKind.i64.wrap ((k : Int) + 1) = ((k + 1 : Nat) : Int) := wrap_succ (n := 3000) (by omega) (by decide)
    have hwk := fun {g : Bool × Bool} {Q : V → Prop} => lword (g := g) (ws := ws) (a := k + 1) (by omega) (Q := Q)
    obtain ⟨w, hw⟩ : ∃ w, w = wordN ws (k + 1) := ⟨_, rfl⟩
    have hwb : w < 65536 := by rw [hw]; exact wordN_lt
    rw [← hw] at hwk
    obtain ⟨d, hd⟩ : ∃ d, d = w % v.drift.length := ⟨_, rfl⟩
    have hdl : d < v.drift.length := by rw [hd]; exact Nat.mod_lt _ (by omega)
    have f2 : ¬ ((v.drift.length : Nat) : Int) = 0 := by omega
    have f3 : (w : Int).tmod ((v.drift.length : Nat) : Int) = (d : Int) := by rw [hd]; rfl
    have f4 : (w : Int).tdiv 8 = ((w / 8 : Nat) : Int) := rfl
    have f5 : ((w / 8 : Nat) : Int).tmod 2 = ((w / 8 % 2 : Nat) : Int) := rfl
    have f6 : IntKind.i64.wrap ((w / 8 : Nat) : Int) = ((w / 8 : Nat) : Int) := wrapB (by omega) (by omega)
    have hb := stAt_bd hv hT (d := d + 1) (by omega)
    have hat : (playL v t).getD d default = stAt v t (d + 1) := playL_get hdl default
    obtain ⟨s, hs⟩ : ∃ s, s = stAt v t (d + 1) := ⟨_, rfl⟩
    rw [← hs] at hat hb
    have g1' : (w : Int).tdiv 16 = ((w / 16 : Nat) : Int) := rfl
    have g2' : ((w / 16 : Nat) : Int).tmod 4 = ((w / 16 % 4 : Nat) : Int) := rfl
    have g3' : (w : Int).tdiv 64 = ((w / 64 : Nat) : Int) := rfl
    have g4' : ((w / 64 : Nat) : Int).tmod 4 = ((w / 64 % 4 : Nat) : Int) := rfl
    have g5' : IntKind.i64.wrap ((w / 16 : Nat) : Int) = ((w / 16 : Nat) : Int) := wrapB (by omega) (by omega)
    have g6' : IntKind.i64.wrap ((w / 64 : Nat) : Int) = ((w / 64 : Nat) : Int) := wrapB (by omega) (by omega)
    have hst : lookedK v t ws (k + 1) = lookedK v t ws k ++ [lookAt v t ws k] := by unfold lookedK; rw [List.range_succ, List.map_append]; rfl
    have hll : (lookedK v t ws k).length = k := by simp [lookedK]
    have q1 : (k + 1) * 32 ≤ 2 ^ 40 := by omega
    by_cases hc : w / 8 % 2 = 1
    · have hc' : ((w / 8 % 2 : Nat) : Int) = 1 := by omega
      have hlk : lookAt v t ws k = ⟨(d : Int), true, ⟨s.bal - ((w / 16 % 4 : Nat) : Int), s.bal + ((w / 64 % 4 : Nat) : Int)⟩⟩ := by
        simp only [lookAt, ← hw, ← hd, ← hs, hc, decide_true, if_true]
      have g7' : IntKind.i64.wrap (s.bal - ((w / 16 % 4 : Nat) : Int)) = s.bal - ((w / 16 % 4 : Nat) : Int) := wrapB (by omega) (by omega)
      have g8' : IntKind.i64.wrap (s.bal + ((w / 64 % 4 : Nat) : Int)) = s.bal + ((w / 64 % 4 : Nat) : Int) := wrapB (by omega) (by omega)
      simp only [go_sem, hw0, e4, hlt, hwk, e5, f2, f3, f4, f5, f6, hc', pl, hdl, atI_nat, hat, g1', g2', g3', g4', g5', g6', g7', g8', hll, q1, hst, hlk, List.map_append, disj_nil]
    · have hc' : ¬ ((w / 8 % 2 : Nat) : Int) = 1 := by omega
      have hlk : lookAt v t ws k = ⟨(d : Int), false, ⟨s.blue - ((w / 16 % 4 : Nat) : Int), s.blue + ((w / 64 % 4 : Nat) : Int)⟩⟩ := by
        simp only [lookAt, ← hw, ← hd, ← hs, hc, decide_false, if_false, Bool.false_eq_true]
      have g7' : IntKind.i64.wrap (s.blue - ((w / 16 % 4 : Nat) : Int)) = s.blue - ((w / 16 % 4 : Nat) : Int) := wrapB (by omega) (by omega)
      have g8' : IntKind.i64.wrap (s.blue + ((w / 64 % 4 : Nat) : Int)) = s.blue + ((w / 64 % 4 : Nat) : Int) := wrapB (by omega) (by omega)
      simp only [go_sem, hw0, e4, hlt, hwk, e5, f2, f3, f4, f5, f6, hc', pl, hdl, atI_nat, hat, g1', g2', g3', g4', g5', g6', g7', g8', hll, q1, hst, hlk, List.map_append, disj_nil]
  · have hke : k = m := by omega
    subst hke
    have hll : (lookedK v t ws k).length = k := by simp [lookedK]
    have hF : lookedV v t ws = withL v (lookedK v t ws k) := by rw [lookedV, ← hm]
    simp only [go_sem, hw0, e4, hlt, hF, withL, hll, disj_nil])
theorem lin {n lo hi : Int} (h1 : lo ≤ n) (h2 : n ≤ hi) {Q : V → Prop} : CallP tab 57 [.c (.int .i64 n), .agg [.int .i64 lo, .int .i64 hi]] Q ↔ Q (.c (.bool true)) := CallP_of (by
  refine Val_X (fn := f57) rfl ?_
  simp only [go_sem, f57, ge_iff_le, h1, h2])
/-- the vat of VatTruth, and what holds of it -/
theorem looked_facts (hv : v.Valid) (h0 : checkVat v = 0) (hT : IsT v t) {ws : List Wd} : checkVat (lookedV v t ws) = 0 ∧ t ∈ truthsL (lookedV v t ws) [] := by
  have hk : wordN ws 0 % 6 ≤ 5 := by have := Nat.mod_lt (wordN ws 0) (by decide : 0 < 6); omega
  have hc := looked_check hv h0 hT (ws := ws) hk
  refine ⟨hc, ?_⟩
  have hvx := valid_of hc
  rw [lookedV, ← isTruth_iff hvx, isTruthB, Bool.and_eq_true, listed_iff]
  refine ⟨isT_withL.2 hT, ?_⟩
  rw [List.all_eq_true]
  intro k hkm
  have hkm : k ∈ lookedK v t ws (wordN ws 0 % 6) := hkm
  simp only [lookedK, List.mem_map, List.mem_range] at hkm
  obtain ⟨i, _, rfl⟩ := hkm
  rw [playL_withL]
  exact (lookAt_ok hv hT).2
theorem leave_nil (hv : v.Valid) (h : truthsL v [] ≠ []) : leaveS v = [] := by
  have hp : posB v [] = true := by
    unfold posB
    cases ht : truthsL v [] with
    | nil => exact absurd ht h
    | cons t ts => rfl
  have hm : ([] : List Int) ∈ setsL v.looks.length := setsL_mem.2 ⟨by simp, by simp, by simp⟩
  rcases (leave_ok hv).2.2 [] hm hp with e | e
  · exact e.symm
  · rw [sh_iff] at e
    rcases e with e | e
    · simp at e
    · exact List.length_eq_zero_iff.1 e.1
theorem first_none (hv : v.Valid) (ht : t ∈ truthsL v []) : firstO v = none := by
  rw [first_ref hv, List.find?_eq_none]
  intro i hi
  rw [List.mem_range] at hi
  have h1 : 1 ≤ 2 ^ (i + 1) := Nat.pow_pos (by omega)
  have h2 : 2 ^ (i + 1) ≤ 2 ^ v.looks.length := Nat.pow_le_pow_right (by omega) (by omega)
  rw [mem_truths hv, rightL_iff] at ht
  have : canB v (2 ^ (i + 1) - 1) = true := (can_iff hv (by omega)).2 ⟨t, ht.1, fun j hj => by
    rw [Nat.testBit_two_pow_sub_one] at hj
    rcases ht.2 j (by have := of_decide_eq_true hj; omega) with h | h
    · cases h
    · exact h⟩
  rw [this]; simp
end Am.Vt

namespace Am.Vt
open Go Am
set_option maxRecDepth 100000
set_option maxHeartbeats 4000000
set_option linter.unusedSimpArgs false
set_option linter.unusedVariables false
variable {g1 g2 g3 g4 gt : Bool × Bool} {v : Vat} {t : Truth}
theorem mem_pos (h : t ∈ truthsL v []) : posB v [] = true := pos_mem.2 ⟨t, h⟩
theorem ord_facts {d : Nat} (h : t ∈ truthsL v []) : (ordI v d = 1 → ordB v (stAt v t (d + 1)).bal = true) ∧ (ordI v d = 2 → ordB v (stAt v t (d + 1)).bal = false) ∧ 1 ≤ ordI v d ∧ ordI v d ≤ 3 := by
  have hA : ordAll v d = ((truthsL v []).any (fun t => ordB v (balD v d t)), (truthsL v []).any (fun t => !ordB v (balD v d t))) := by
    rw [ordAll, or_fold, Bool.false_or, Bool.false_or]
  rw [ordI, hA]
  simp only
  cases ha : (truthsL v []).any (fun t => !ordB v (balD v d t)) with
  | false =>
    rw [if_pos rfl]
    refine ⟨fun _ => ?_, fun h => absurd h (by decide), by decide, by decide⟩
    have := List.any_eq_false.1 ha t h
    simpa [balD] using this
  | true =>
    rw [if_neg (by decide)]
    cases hb : (truthsL v []).any (fun t => ordB v (balD v d t)) with
    | false =>
      rw [if_pos rfl]
      refine ⟨fun h => absurd h (by decide), fun _ => ?_, by decide, by decide⟩
      have := List.any_eq_false.1 hb t h
      simpa [balD] using this
    | true =>
      rw [if_neg (by decide)]
      exact ⟨fun h => absurd h (by decide), fun h => absurd h (by decide), by decide, by decide⟩
theorem VatTruth_val {b1 b2 b3 b4 : Bool} {g : Bool × Bool} {ws : List Wd} {which dips : Int} (hw0 : 0 ≤ which) (hw1 : which ≤ 65535) (n0 : 0 ≤ dips) (n1 : dips ≤ 255) : Val tab 9 [vatV (b1, false) (b2, false) (b3, false) (b4, false) v, .c (.int .u16 which), .c (L g ws), .c (.int .u8 dips)] (.c (.bool true)) := by
  obtain ⟨wn, rfl⟩ : ∃ n : Nat, which = n := ⟨which.toNat, by omega⟩
  obtain ⟨mn, rfl⟩ : ∃ n : Nat, dips = n := ⟨dips.toNat, by omega⟩
  refine Val_X (fn := f9) rfl ?_
  cases hr : readyB v with
  | false => simp only [go_sem, f9, lready, hr, lawake]
  | true =>
    obtain ⟨hs, hv, h0, h150⟩ := ready_of hr
    have v1 := hv.drift
    have v0 := hv.last0
    have v7 := hv.last7
    have vb := hv.band
    have kL := fun {g : Bool × Bool} {Q : V → Prop} => lLooked hv (b1 := b1) (b2 := b2) (b3 := b3) (b4 := b4) (g := g) (wn := wn) (by omega) (ws := ws) (Q := Q)
    have hT := nthT_isT hv (n := wn % prodN (rangesL v))
    obtain ⟨t, ht⟩ : ∃ t, t = nthT v (wn % prodN (rangesL v)) := ⟨_, rfl⟩
    rw [← ht] at kL hT
    obtain ⟨c0, c1⟩ := looked_facts hv h0 hT (ws := ws)
    have x1 : (lookedV v t ws).last = v.last := rfl
    have x2 : (lookedV v t ws).band = v.band := rfl
    have x3 : (lookedV v t ws).drift = v.drift := rfl
    have x4 : (lookedV v t ws).feeds = v.feeds := rfl
    have x5 : (lookedV v t ws).dips = v.dips := rfl
    have xl : (lookedV v t ws).looks.length ≤ 5 := (valid_of c0).looks5
    have hsx : (lookedV v t ws).Small := ⟨hs.drift, hs.feeds, hs.dips, by omega⟩
    have hTx : IsT (lookedV v t ws) t := isT_withL.2 hT
    obtain ⟨x, hx⟩ : ∃ x, x = lookedV v t ws := ⟨_, rfl⟩
    rw [← hx] at kL c0 c1 hsx x1 x2 x3 x4 x5 hTx
    clear xl hx
    have hvx := valid_of c0
    have hW := hsx.fits
    have hp := mem_pos c1
    have hne : truthsL x [] ≠ [] := fun e => by rw [e] at c1; cases c1
    have hTl : t.drift.length ≤ 12 := by have := hTx.dl; have := hsx.drift; omega
    have kV := fun {g1 g2 g3 g4 : Bool × Bool} {Q : V → Prop} => lVat (g1 := g1) (g2 := g2) (g3 := g3) (g4 := g4) hsx (Q := Q)
    have kT := fun {gt : Bool × Bool} {Q : V → Prop} => lTruth (gt := gt) (t := t) (by omega) (Q := Q)
    have hL : listedB x t = true := listed_iff.2 hTx
    have k1 := fun {g1 g2 g3 g4 gt : Bool × Bool} {Q : V → Prop} => cPlay (g1 := g1) (g2 := g2) (g3 := g3) (g4 := g4) (gt := gt) (t := t) hW (Q := Q)
    have hR1 : PlayR x t = .tup [.c (L (false, false) (playL x t)), .c (.int .i64 0)] := by rw [PlayR, if_neg (by rw [c0]; simp), if_neg (by rw [hL]; simp)]
    rw [hR1] at k1
    have k2 := fun {g1 g2 g3 g4 : Bool × Bool} {Q : V → Prop} => cBounds (g1 := g1) (g2 := g2) (g3 := g3) (g4 := g4) hW (Q := Q)
    have hR2 : BoundsR x = .tup [.c (L (false, false) (boundsL x)), .c (.int .i64 0)] := by rw [BoundsR, if_pos (ask_t c0 hp)]
    rw [hR2] at k2
    obtain ⟨b, hlv⟩ := vLeave (v := x) (g1 := (false, false)) (g2 := (false, false)) (g3 := (false, false)) (g4 := (false, false)) hW
    have k4 := fun {Q : V → Prop} => CallP_of (Q := Q) hlv
    have hR4 : LeaveR b x = .tup [.c (L (b, false) ([] : List Int)), .c (.int .i64 0)] := by rw [LeaveR, if_neg (by rw [c0]; simp), leave_nil hvx hne]
    rw [hR4] at k4
    have k5 := fun {g1 g2 g3 g4 : Bool × Bool} {Q : V → Prop} => cFirst (g1 := g1) (g2 := g2) (g3 := g3) (g4 := g4) hW (Q := Q)
    have hR5 : FirstR x = .tup [.c (.int .i64 0), .c (.int .i64 7)] := by rw [FirstR, if_neg (by rw [c0]; simp), first_none hvx c1]
    rw [hR5] at k5
    have k6 := fun {g1 g2 g3 g4 gt : Bool × Bool} {Q : V → Prop} => cProveTruth (g1 := g1) (g2 := g2) (g3 := g3) (g4 := g4) (gt := gt) (t := t) hW (Q := Q)
    rw [provesTruth_eq c0, (isTruth_iff hvx).2 c1] at k6
    have w1 : IntKind.i64.wrap (v.last + 1) = (v.drift.length : Nat) := by rw [wrapB (by omega) (by omega), v1]
    have w3 : IntKind.i64.wrap (mn : Int) = (mn : Int) := wrapB (by omega) (by omega)
    have w6 : (mn : Int).tmod 21 = ((mn % 21 : Nat) : Int) := rfl
    have hm : mn % 21 ≤ 20 := by omega
    obtain ⟨m, hm0⟩ : ∃ m, m = mn % 21 := ⟨_, rfl⟩
    rw [← hm0] at hm w6
    have pl := playL_len (v := x) (t := t)
    have bl := boundsL_len (v := x)
    rw [x3] at pl bl
    have wn0 : IntKind.i64.wrap (0 - v.band) = -v.band := by rw [wrapB (by omega) (by omega)]; omega
    simp only [vatV, truthG] at kL kV kT k1 k2 k4 k5 k6
    simp (maxSteps := 1000000) only [go_sem, f9, lready, hr, kL, kV, kT, k1, k2, k4, k5, k6, w1, pl, bl, List.length_nil, disj_nil]
    refine RX_forC v.drift.length (fun k => [(19, .c (.int .i64 k))]) (fun _ => True) rfl trivial (by simp only [go_sem] <;> first | rfl | exact ⟨rfl, rfl⟩) ?_
    intro d hd _
    by_cases hlt : d < v.drift.length
    · have e7 : IntKind.i64.wrap ((d : Int) + 1) = ((d + 1 : Nat) : Int) := wrap_succ (n := 3000) (by omega) (by decide)
      have hdx : d < x.drift.length := by rw [x3]; exact hlt
      have hdi : inR d 0 x.last = true := inR_iff.2 (by omega)
      have hmi : inR m 0 20 = true := inR_iff.2 (by omega)
      have j1 := fun {g1 g2 g3 g4 : Bool × Bool} {Q : V → Prop} => cOrder (g1 := g1) (g2 := g2) (g3 := g3) (g4 := g4) (day := (d : Int)) hW (Q := Q)
      have hS1 : OrderR x d = .tup [.c (.int .i64 (ordI x d)), .c (.int .i64 0)] := by rw [OrderR, hdi, if_pos (ask_t c0 hp)]; rfl
      rw [hS1] at j1
      have j2 := fun {g1 g2 g3 g4 gt : Bool × Bool} {Q : V → Prop} => cShades (g1 := g1) (g2 := g2) (g3 := g3) (g4 := g4) (gt := gt) (t := t) (day := (d : Int)) (many := (m : Int)) hW (Q := Q)
      have hS2 : ShadesR x t d m = .tup [.c (L (false, false) (shadesL x (stAt x t (d + 1)) m)), .c (.int .i64 0)] := by
        rw [ShadesR, if_neg (by rw [c0]; simp), hL, hdi, hmi]; rfl
      rw [hS2] at j2
      have j3 := fun {g1 g2 g3 g4 : Bool × Bool} {Q : V → Prop} => cShade (g1 := g1) (g2 := g2) (g3 := g3) (g4 := g4) (day := (d : Int)) (many := (m : Int)) hW (Q := Q)
      have hS3 : ShadeR x d m = .tup [.agg [.int .i64 (shadeRg x d m).lo, .int .i64 (shadeRg x d m).hi], .c (.int .i64 0)] := by rw [ShadeR, hdi, hmi, Bool.and_self, if_pos (ask_t c0 hp)]; rfl
      rw [hS3] at j3
      have bb := stBlue_bd hvx hTx hdx
      have bs := shadesL_bd hvx (s := stAt x t (d + 1)) (n := m) (by omega)
      have sl := shadesL_len (v := x) (s := stAt x t (d + 1)) (n := m)
      have j4 := fun {g : Bool × Bool} {Q : V → Prop} => rSum (g := g) (l := shadesL x (stAt x t (d + 1)) m) (M := 5000) (by omega) (by omega) (fun y hy => by have := bs y hy; omega) (Q := Q)
      have hB1 := (bdL_IsRg (val := fun t => (stAt x t (d + 1)).bal) hne).2.2 t c1
      have hB2 := (bdL_IsRg (val := fun t => (stAt x t (d + 1)).blue) hne).2.2 t c1
      have hB3 := (bdL_IsRg (val := fun t => sumI (shadesL x (stAt x t (d + 1)) m)) hne).2.2 t c1
      have l1 := fun {Q : V → Prop} => lin (n := (stAt x t (d + 1)).bal) (lo := (bdAt x d).bal.lo) (hi := (bdAt x d).bal.hi) hB1.1 hB1.2 (Q := Q)
      have l2 := fun {Q : V → Prop} => lin (n := (stAt x t (d + 1)).blue) (lo := (bdAt x d).blue.lo) (hi := (bdAt x d).blue.hi) hB2.1 hB2.2 (Q := Q)
      have l3 := fun {Q : V → Prop} => lin (n := sumI (shadesL x (stAt x t (d + 1)) m)) (lo := (shadeRg x d m).lo) (hi := (shadeRg x d m).hi) hB3.1 hB3.2 (Q := Q)
      have i1 : d < (playL x t).length := by omega
      have i2 : d < (boundsL x).length := by omega
      have hat : (playL x t).getD d default = stAt x t (d + 1) := playL_get hdx default
      have hbg : (boundsL x).getD d default = bdAt x d := by rw [getD_lt _ _ _ i2]; simp [boundsL]
      obtain ⟨o1, o2, o3, o4⟩ := ord_facts (v := x) (d := d) c1
      have hO : ordB x (stAt x t (d + 1)).bal = inR (stAt x t (d + 1)).bal (-v.band) v.band := by rw [ordB, x2]
      have hoi : inR (ordI x d) 1 3 = true := inR_iff.2 ⟨o3, o4⟩
      obtain ⟨o, ho⟩ : ∃ o, o = ordI x d := ⟨_, rfl⟩
      rw [← ho] at o1 o2 hoi j1
      simp only [vatV, truthG] at j1 j2 j3
      cases hb : inR (stAt x t (d + 1)).bal (-v.band) v.band with
      | true =>
        rw [hO, hb] at o1 o2
        have o2' : ¬ o = 2 := fun h => by have := o2 h; cases this
        simp (maxSteps := 1000000) only [go_sem, hlt, kV, kT, j1, j2, j3, j4, sl, w3, w6, wn0, rIn, hb, i1, i2, pl, bl, atI_nat, hat, hbg, l1, l2, l3, o2', hoi, e7, disj_nil]
      | false =>
        rw [hO, hb] at o1 o2
        have o1' : ¬ o = 1 := fun h => by have := o1 h; cases this
        simp (maxSteps := 1000000) only [go_sem, hlt, kV, kT, j1, j2, j3, j4, sl, w3, w6, wn0, rIn, hb, i1, i2, pl, bl, atI_nat, hat, hbg, l1, l2, l3, o1', hoi, e7, disj_nil]
    · have hke : d = v.drift.length := by omega
      subst hke
      simp only [go_sem, hlt, pl, lawake]
end Am.Vt

