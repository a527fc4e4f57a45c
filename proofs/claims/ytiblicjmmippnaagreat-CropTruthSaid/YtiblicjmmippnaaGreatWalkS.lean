/-
  A part of the proof: the texts F14 of this seat, joined.
-/
import Derived.Test.YtiblicjmmippnaaGreatWalkL
import Derived.Test.YtiblicjmmippnaaGreatWalkM
import Derived.Test.YtiblicjmmippnaaGreatWalkG
namespace Am.Cr
open Go Am
set_option maxRecDepth 100000
set_option maxHeartbeats 4000000
set_option linter.unusedSimpArgs false
set_option linter.unusedVariables false
variable {g1 g2 g3 g4 g5 : Bool × Bool} {f : Field}
/-- a field with other valid looks is valid -/
theorem check_with (h0 : checkField f = 0) {l : List Lk} (h1 : l.length ≤ 5) (h2 : ∀ k ∈ l, lookOk f.last k = true) : checkField (withL f l) = 0 := by
  have e : checkField (withL f l) = (if f.last > 9 then 3 else if (f.base.length : Int) > 3 then 3 else if (l.length : Int) > 5 then 3
    else if numbersOk f.last f.ripe f.late f.trod = false then 1
    else if ¬ (f.growth.length : Int) = IntKind.i64.wrap (f.last + 1) then 1 else if ¬ (f.wet.length : Int) = IntKind.i64.wrap (f.last + 1) then 1
    else if baseOk f.base = false then 1 else if planOk f.last f.base f.crops = false then 1
    else if f.growth.all (fun r => rgOf r.lo r.hi 50) = false then 1 else if f.wet.all (fun n => inR n 0 2) = false then 1
    else if l.all (lookOk f.last) = false then 1
    else if manyL (rangesL f.growth f.wet) > 2000 then 3 else 0) := rfl
  rw [e]
  unfold checkField at h0
  by_cases a0 : f.last > 9
  · rw [if_pos a0] at h0; exact absurd h0 (by decide)
  rw [if_neg a0] at h0 ⊢
  by_cases a1 : (f.base.length : Int) > 3
  · rw [if_pos a1] at h0; exact absurd h0 (by decide)
  rw [if_neg a1] at h0 ⊢
  by_cases a2 : (f.looks.length : Int) > 5
  · rw [if_pos a2] at h0; exact absurd h0 (by decide)
  rw [if_neg a2] at h0
  rw [if_neg (by omega)]
  by_cases a3 : numbersOk f.last f.ripe f.late f.trod = false
  · rw [if_pos a3] at h0; exact absurd h0 (by decide)
  rw [if_neg a3] at h0 ⊢
  by_cases a4 : ¬ (f.growth.length : Int) = IntKind.i64.wrap (f.last + 1)
  · rw [if_pos a4] at h0; exact absurd h0 (by decide)
  rw [if_neg a4] at h0 ⊢
  by_cases a5 : ¬ (f.wet.length : Int) = IntKind.i64.wrap (f.last + 1)
  · rw [if_pos a5] at h0; exact absurd h0 (by decide)
  rw [if_neg a5] at h0 ⊢
  by_cases a6 : baseOk f.base = false
  · rw [if_pos a6] at h0; exact absurd h0 (by decide)
  rw [if_neg a6] at h0 ⊢
  by_cases a7 : planOk f.last f.base f.crops = false
  · rw [if_pos a7] at h0; exact absurd h0 (by decide)
  rw [if_neg a7] at h0 ⊢
  by_cases a8 : f.growth.all (fun r => rgOf r.lo r.hi 50) = false
  · rw [if_pos a8] at h0; exact absurd h0 (by decide)
  rw [if_neg a8] at h0 ⊢
  by_cases a9 : f.wet.all (fun n => inR n 0 2) = false
  · rw [if_pos a9] at h0; exact absurd h0 (by decide)
  rw [if_neg a9] at h0 ⊢
  by_cases aL : f.looks.all (lookOk f.last) = false
  · rw [if_pos aL] at h0; exact absurd h0 (by decide)
  rw [if_neg aL] at h0
  rw [if_neg (by rw [List.all_eq_true.2 h2]; decide)]
  exact h0
/-- a number of 16 bits -/
structure Wd where
  n : Nat
  h : n < 65536
instance : Inhabited Wd := ⟨⟨0, by decide⟩⟩
instance : Row Wd := ⟨1, fun s => [.int .u16 s.n], fun _ => rfl⟩
instance : Scal Wd := ⟨fun _ => rfl⟩
@[go_sem] theorem sz_wd : Row.sz Wd = 1 := rfl
@[go_sem] theorem row_wd {s : Wd} : Row.row s = [.int .u16 s.n] := rfl
def wordN (ws : List Wd) (a : Nat) : Nat := if ws = [] then 0 else (ws.getD (a % ws.length) default).n
theorem wordN_lt {ws : List Wd} {a : Nat} : wordN ws a < 65536 := by
  unfold wordN
  split
  · decide
  · exact (ws.getD (a % ws.length) default).h
theorem lword {g : Bool × Bool} {ws : List Wd} {a : Nat} (ha : a ≤ 1000) {Q : V → Prop} : CallP tab 85 [.c (L g ws), .c (.int .i64 a)] Q ↔ Q (.c (.int .i64 (wordN ws a : Nat))) := CallP_of (by
  refine Val_X (fn := f85) rfl ?_
  by_cases h : ws = []
  · subst h
    simp only [go_sem, f85, wordN, List.length_nil]
  · have hl := List.length_pos_iff.2 h
    have hz : ¬ ((ws.length : Nat) : Int) = 0 := by omega
    obtain ⟨m, hm⟩ : ∃ m, m = a % ws.length := ⟨_, rfl⟩
    have hml : m < ws.length := by rw [hm]; exact Nat.mod_lt _ hl
    have e1 : (a : Int).tmod ((ws.length : Nat) : Int) = (m : Int) := by rw [hm]; rfl
    have hw : wordN ws a = (ws.getD m default).n := by rw [wordN, if_neg h, hm]
    have hb := (ws.getD m default).h
    have e2 : IntKind.i64.wrap ((ws.getD m default).n : Int) = ((ws.getD m default).n : Int) := wrapB (by omega) (by omega)
    simp only [go_sem, f85, hz, e1, hml, atI_nat, hw, e2])
/-- a look that is right -/
def lookAt (f : Field) (t : Truth) (ws : List Wd) (i : Nat) : Lk :=
  let w := wordN ws (i + 1)
  let week : Int := ((w % (f.last + 1).toNat : Nat) : Int)
  let n := atI (standing t.growth f.crops) week
  ⟨week, ⟨max 0 (n - ((w / 16 % 4 : Nat) : Int)), min 1000 (n + ((w / 64 % 4 : Nat) : Int))⟩⟩
def lookedK (f : Field) (t : Truth) (ws : List Wd) (k : Nat) : List Lk := (List.range k).map (lookAt f t ws)
def lookedF (f : Field) (t : Truth) (ws : List Wd) : Field := withL f (lookedK f t ws (wordN ws 0 % 6))
theorem lookAt_ok (hv : f.Valid) {t : Truth} (hT : TOk f t) {ws : List Wd} {i : Nat} : (0 ≤ (lookAt f t ws i).week ∧ (lookAt f t ws i).week ≤ f.last) ∧ (0 ≤ (lookAt f t ws i).w.lo ∧ (lookAt f t ws i).w.lo ≤ atI (standing t.growth f.crops) (lookAt f t ws i).week ∧ atI (standing t.growth f.crops) (lookAt f t ws i).week ≤ (lookAt f t ws i).w.hi ∧ (lookAt f t ws i).w.hi ≤ 1000) := by
  have v3 := hv.last0
  have v1 := hv.growth
  have hm : wordN ws (i + 1) % (f.last + 1).toNat < (f.last + 1).toNat := Nat.mod_lt _ (by omega)
  have hb := stand_bound (plan := f.crops) hT (pok_of hv hv.crops) (week := ((wordN ws (i + 1) % (f.last + 1).toNat : Nat) : Int)) (by omega) (by omega)
  unfold lookAt
  simp only
  generalize wordN ws (i + 1) % (f.last + 1).toNat = m at hm hb
  generalize atI (standing t.growth f.crops) (m : Int) = z at hb
  omega
theorem looked_check (hv : f.Valid) (h0 : checkField f = 0) {t : Truth} (hT : TOk f t) {ws : List Wd} {k : Nat} (hk : k ≤ 5) : checkField (withL f (lookedK f t ws k)) = 0 := by
  refine check_with h0 (by simp [lookedK]; omega) fun x hx => ?_
  simp only [lookedK, List.mem_map, List.mem_range] at hx
  obtain ⟨i, _, rfl⟩ := hx
  have := lookAt_ok hv hT (ws := ws) (i := i)
  simp only [lookOk, Bool.and_eq_true, inR_iff, rgOf, decide_eq_true_eq]
  omega
theorem lLooked (hv : f.Valid) {b1 b2 b3 b4 b5 : Bool} {g : Bool × Bool} {wn : Nat} (hwn : wn < 65536) {ws : List Wd} {Q : V → Prop} : CallP tab 42 [fieldV (b1, false) (b2, false) (b3, false) (b4, false) (b5, false) f, .c (.int .u16 wn), .c (L g ws)] Q ↔ Q (.tup [fieldV (b1, false) (b2, false) (b3, false) (b4, false) (false, false) (lookedF f (nthT f (wn % prodF f)) ws), .agg [L (false, false) (nthT f (wn % prodF f)).growth, L (false, false) (nthT f (wn % prodF f)).wet]]) := CallP_of (by
  refine Val_X (fn := f42) rfl ?_
  have hro := rgsOk_of hv
  have hmr := manyR_eq hv
  have hle := prodF_le hv
  have hpp := prodF_pos hv
  have v1 := hv.growth
  have v3 := hv.last0
  have v4 := hv.last9
  obtain ⟨n, hn⟩ : ∃ n, n = wn % prodF f := ⟨_, rfl⟩
  have hnl : n < prodF f := by rw [hn]; exact Nat.mod_lt _ hpp
  have e1 : IntKind.i64.wrap (wn : Int) = (wn : Int) := wrapB (by omega) (by omega)
  have e2 : (wn : Int).tmod ((prodF f : Nat) : Int) = (n : Int) := by rw [hn]; rfl
  have e3 : ¬ ((prodF f : Nat) : Int) = 0 := by omega
  have hN := fun {Q : V → Prop} => rNth (g1 := (b1, false)) (g2 := (b2, false)) (g3 := (b3, false)) (g4 := (b4, false)) (g5 := (b5, false)) (f := f) hro (n := n) (by omega) (Q := Q)
  rw [← hn]
  obtain ⟨t, ht⟩ : ∃ t, t = nthT f n := ⟨_, rfl⟩
  have hT : TOk f t := by rw [ht]; exact tok_of hv (nthT_isT hv)
  rw [← ht] at hN ⊢
  have hP := pok_of hv hv.crops
  have hTg := hT.gl
  have hcl := hP.len (by omega)
  obtain ⟨m, hm⟩ : ∃ m, m = wordN ws 0 % 6 := ⟨_, rfl⟩
  have hm6 : m < 6 := by rw [hm]; exact Nat.mod_lt _ (by decide)
  have hw0 := fun {g : Bool × Bool} {Q : V → Prop} => lword (g := g) (ws := ws) (a := 0) (by omega) (Q := Q)
  rw [show ((0 : Nat) : Int) = 0 from rfl] at hw0
  have e4 : ((wordN ws 0 : Nat) : Int).tmod 6 = (m : Int) := by rw [hm]; rfl
  simp only [go_sem, f42, rMany hro, hmr, e1, e2, e3, hN]
  refine RX_for m (fun k => [(10, .c (.int .i64 k))]) (fun k => [.cells (fieldC (b1, false) (b2, false) (b3, false) (b4, false) (b5, false) f.last f.growth f.wet f.base f.crops f.ripe f.late f.trod f.looks), .cells [.int .i64 0, .nils, .nils, .nils, .nils, .int .i64 0, .int .i64 0, .int .i64 0, .nils], .cells [.nils, .nils], .cells [L (false, false) t.growth, L (false, false) t.wet], .cells [.int .i64 f.last, L (b1, false) f.growth, L (b2, false) f.wet, L (b3, false) f.base, L (b4, false) f.crops, .int .i64 f.ripe, .int .i64 f.late, .int .i64 f.trod, .sl 5 k 0 k], .arr false k 3 ((lookedK f t ws k).map Row.row)]) (fun _ => True) trivial (by simp only [go_sem] <;> first | rfl | exact ⟨rfl, rfl⟩) ?_
  intro k hk _
  by_cases hlt : k < m
  · have e5 : IntKind.i64.wrap ((k : Int) + 1) = ((k + 1 : Nat) : Int) := wrap_succ (n := 3000) (by omega) (by decide)
    have hwk := fun {g : Bool × Bool} {Q : V → Prop} => lword (g := g) (ws := ws) (a := k + 1) (by omega) (Q := Q)
    obtain ⟨w, hw⟩ : ∃ w, w = wordN ws (k + 1) := ⟨_, rfl⟩
    have hwb : w < 65536 := by rw [hw]; exact wordN_lt
    rw [← hw] at hwk
    obtain ⟨a, ha⟩ : ∃ a : Nat, f.last = a := ⟨f.last.toNat, by omega⟩
    have f1 : IntKind.i64.wrap (f.last + 1) = f.last + 1 := wrapB (by omega) (by omega)
    have f1' : IntKind.i64.wrap ((k : Int) + 1) = ((k + 1 : Nat) : Int) := e5
    have f2 : ¬ f.last + 1 = 0 := by omega
    have hmm : w % (f.last + 1).toNat < (f.last + 1).toNat := Nat.mod_lt _ (by omega)
    have f3 : (w : Int).tmod (f.last + 1) = ((w % (f.last + 1).toNat : Nat) : Int) := by
      have : f.last + 1 = ((f.last + 1).toNat : Int) := by omega
      conv => lhs; rw [this]
      rfl
    obtain ⟨wk, hwk0⟩ : ∃ wk, wk = w % (f.last + 1).toNat := ⟨_, rfl⟩
    rw [← hwk0] at hmm f3
    have hS := fun {b6 b7 g : Bool × Bool} {wt : List Int} {Q : V → Prop} => rStanding (g6 := b6) (g7 := b7) (g := g) (gr := t.growth) (wt := wt) (plan := f.crops) (week := (wk : Int)) (by omega) (by omega) (by omega) (by omega) (fun p h => ⟨(hP.m p h).1, by have := (hP.m p h).2; omega⟩) (Q := Q)
    have hE := standing_eq (g := t.growth) (plan := f.crops) hP.s (fun p h => (hP.m p h).1) (week := (wk : Int)) (by omega) (by omega) (by omega)
    have hb := stand_bound (plan := f.crops) hT hP (week := (wk : Int)) (by omega) (by omega)
    obtain ⟨z, hz⟩ : ∃ z, z = atI (standing t.growth f.crops) (wk : Int) := ⟨_, rfl⟩
    rw [← hz] at hE hb
    have g1' : (w : Int).tdiv 16 = ((w / 16 : Nat) : Int) := rfl
    have g2' : ((w / 16 : Nat) : Int).tmod 4 = ((w / 16 % 4 : Nat) : Int) := rfl
    have g3' : (w : Int).tdiv 64 = ((w / 64 : Nat) : Int) := rfl
    have g4' : ((w / 64 : Nat) : Int).tmod 4 = ((w / 64 % 4 : Nat) : Int) := rfl
    have g5' : IntKind.i64.wrap ((w / 16 : Nat) : Int) = ((w / 16 : Nat) : Int) := wrapB (by omega) (by omega)
    have g6' : IntKind.i64.wrap ((w / 64 : Nat) : Int) = ((w / 64 : Nat) : Int) := wrapB (by omega) (by omega)
    have g7' : IntKind.i64.wrap (z - ((w / 16 % 4 : Nat) : Int)) = z - ((w / 16 % 4 : Nat) : Int) := wrapB (by omega) (by omega)
    have g8' : IntKind.i64.wrap (z + ((w / 64 % 4 : Nat) : Int)) = z + ((w / 64 % 4 : Nat) : Int) := wrapB (by omega) (by omega)
    have hlk : lookAt f t ws k = ⟨(wk : Int), ⟨max 0 (z - ((w / 16 % 4 : Nat) : Int)), min 1000 (z + ((w / 64 % 4 : Nat) : Int))⟩⟩ := by
      rw [hz, hwk0, hw]; rfl
    have hst : lookedK f t ws (k + 1) = lookedK f t ws k ++ [lookAt f t ws k] := by unfold lookedK; rw [List.range_succ, List.map_append]; rfl
    have hll : (lookedK f t ws k).length = k := by simp [lookedK]
    have b1 : (k + 1) * 24 ≤ 2 ^ 40 := by omega
    simp only [go_sem, hw0, e4, hlt, hwk, f1', f1, f2, f3, hS, hE, g1', g2', g3', g4', g5', g6', g7', g8', hll, b1, hst, hlk, List.map_append]
  · have hke : k = m := by omega
    subst hke
    have hll : (lookedK f t ws k).length = k := by simp [lookedK]
    have hF : lookedF f t ws = withL f (lookedK f t ws k) := by rw [lookedF, ← hm]
    simp only [go_sem, hw0, e4, hlt, hF, withL, hll])
end Am.Cr
