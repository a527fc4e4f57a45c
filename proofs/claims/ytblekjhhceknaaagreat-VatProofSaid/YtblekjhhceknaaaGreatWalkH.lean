/-
  A part of the proof: the texts Y4, Y6, Y7, Y11, Y12 of this seat, joined.
-/
import Derived.Test.YtblekjhhceknaaaGreatWalkG
namespace Am.Vt
open Go Am
set_option maxRecDepth 100000
set_option maxHeartbeats 4000000
set_option linter.unusedSimpArgs false
set_option linter.unusedVariables false
variable {g1 g2 g3 g4 gt : Bool × Bool} {v : Vat} {t : Truth}
theorem ask_f (h0 : checkVat v = 0) : askE v false = 2 := by simp [askE, h0]
theorem ask_t (h0 : checkVat v = 0) (hp : posB v [] = true) : askE v true = 0 := by simp [askE, h0, hp]
theorem pos_ref (hv : v.Valid) : posB v [] = false ↔ refTruths v = [] := by
  rw [refTruths_nil hv, posB]
  cases truthsL v [] <;> simp
end Am.Vt

namespace Am.Vt
open Go Am
set_option maxRecDepth 100000
set_option maxHeartbeats 4000000
set_option linter.unusedSimpArgs false
set_option linter.unusedVariables false
variable {g1 g2 g3 g4 gt g : Bool × Bool} {v : Vat} {t : Truth} {l : List Int}
theorem pk_eq (h0 : checkVat v = 0) (hp : posB v [] = true) : provesKeep v l = (keepAsk v l && keepsB v l) := by
  rw [provesKeep]
  cases keepAsk v l with
  | true => rw [ask_t h0 hp]; rfl
  | false => rw [ask_f h0]; rfl
end Am.Vt

namespace Am.Vt
open Go Am
set_option maxRecDepth 100000
set_option maxHeartbeats 4000000
set_option linter.unusedSimpArgs false
set_option linter.unusedVariables false
variable {g1 g2 g3 g4 gt g ga gb : Bool × Bool} {v : Vat} {t : Truth} {l : List Int} {p : Prf}
theorem lProof (h1 : p.most.drift.length ≤ 1000) (h2 : p.least.drift.length ≤ 1000) {Q : V → Prop} : CallP tab 46 [proofG ga gb p] Q ↔ Q (proofG (false, false) (false, false) p) := CallP_of (by
  refine Val_X (fn := f46) rfl ?_
  have k1 := fun {gt : Bool × Bool} {Q : V → Prop} => lTruth (gt := gt) (t := p.most) h1 (Q := Q)
  have k2 := fun {gt : Bool × Bool} {Q : V → Prop} => lTruth (gt := gt) (t := p.least) h2 (Q := Q)
  simp only [truthG] at k1 k2
  simp only [go_sem, f46, k1, k2, disj_nil])
theorem ps_eq (h0 : checkVat v = 0) : provesShow v p = refShows v p := by
  rw [provesShow, refShows, provesTruth_eq h0, provesTruth_eq h0]
  congr 2
  rw [Bool.eq_iff_iff]
  simp
  omega
end Am.Vt

namespace Am.Vt
open Go Am
set_option maxRecDepth 100000
set_option maxHeartbeats 4000000
set_option linter.unusedSimpArgs false
set_option linter.unusedVariables false
variable {g1 g2 g3 g4 gt : Bool × Bool} {v : Vat} {t : Truth}
/-- a number of 16 bits -/
structure Wd where
  n : Nat
  h : n < 65536
instance : Inhabited Wd := ⟨⟨0, by decide⟩⟩
instance : Row Wd := ⟨1, fun s => [.int .u16 s.n], fun _ => rfl⟩
instance : Scal Wd := ⟨fun _ => rfl⟩
@[go_sem] theorem sz_wd : Row.sz Wd = 1 := rfl
@[go_sem] theorem row_wd {s : Wd} : Row.row s = [.int .u16 s.n] := rfl
def wordN (ws : List Wd) (a : Nat) : Nat := if ws = [] then 0 else (ws.getD (a % ws.length) default).n
theorem wordN_lt {ws : List Wd} {a : Nat} : wordN ws a < 65536 := by
  unfold wordN
  split
  · decide
  · exact (ws.getD (a % ws.length) default).h
theorem lword {g : Bool × Bool} {ws : List Wd} {a : Nat} (ha : a ≤ 1000) {Q : V → Prop} : CallP tab 118 [.c (L g ws), .c (.int .i64 a)] Q ↔ Q (.c (.int .i64 (wordN ws a : Nat))) := CallP_of (by
  refine Val_X (fn := f118) rfl ?_
  by_cases h : ws = []
  · subst h
    simp only [go_sem, f118, wordN, List.length_nil]
  · have hl := List.length_pos_iff.2 h
    have hz : ¬ ((ws.length : Nat) : Int) = 0 := by omega
    obtain ⟨m, hm⟩ : ∃ m, m = a % ws.length := ⟨_, rfl⟩
    have hml : m < ws.length := by rw [hm]; exact Nat.mod_lt _ hl
    have e1 : (a : Int).tmod ((ws.length : Nat) : Int) = (m : Int) := by rw [hm]; rfl
    have hw : wordN ws a = (ws.getD m default).n := by rw [wordN, if_neg h, hm]
    have hb := (ws.getD m default).h
    have e2 : IntKind.i64.wrap ((ws.getD m default).n : Int) = ((ws.getD m default).n : Int) := wrapB (by omega) (by omega)
    simp only [go_sem, f118, hz, e1, hml, atI_nat, hw, e2])
/-- a feeding by words -/
def feedN (v : Vat) (ws : List Wd) : Nat := wordN ws 0 / 8 % (v.drift.length + 1)
def feedK (ws : List Wd) (k : Nat) : List Int := (List.range k).map fun i => ((wordN ws (i + 1) / 4 % 19 : Nat) : Int) - 9
def feedL (v : Vat) (ws : List Wd) : List Int := feedK ws (feedN v ws)
theorem feedK_succ {ws : List Wd} {k : Nat} : feedK ws (k + 1) = feedK ws k ++ [((wordN ws (k + 1) / 4 % 19 : Nat) : Int) - 9] := by simp [feedK, List.range_succ]
theorem feedK_len {ws : List Wd} {k : Nat} : (feedK ws k).length = k := by simp [feedK]
theorem feedL_le {ws : List Wd} : (feedL v ws).length ≤ v.drift.length := by
  rw [feedL, feedK_len, feedN]
  have := Nat.mod_lt (wordN ws 0 / 8) (show v.drift.length + 1 > 0 by omega)
  omega
theorem feedL_ask {ws : List Wd} : keepAsk v (feedL v ws) = true := by
  rw [keepAsk, Bool.and_eq_true, decide_eq_true_eq, List.all_eq_true]
  refine ⟨feedL_le, fun x hx => ?_⟩
  simp only [feedL, feedK, List.mem_map, List.mem_range] at hx
  obtain ⟨i, _, rfl⟩ := hx
  rw [inR_iff]; omega
theorem lfeeding (hv : v.Valid) {g : Bool × Bool} {ws : List Wd} {Q : V → Prop} : CallP tab 61 [vatV g1 g2 g3 g4 v, .c (L g ws)] Q ↔ Q (.c (L (false, false) (feedL v ws))) := CallP_of (by
  refine Val_X (fn := f61) rfl ?_
  have v1 := hv.drift
  have v4 := hv.last7
  have v0 := hv.last0
  have w1 : IntKind.i64.wrap (v.last + 2) = ((v.drift.length + 1 : Nat) : Int) := by rw [wrapB (by omega) (by omega)]; omega
  have w2 : ¬ ((v.drift.length + 1 : Nat) : Int) = 0 := by omega
  have b0 := wordN_lt (ws := ws) (a := 0)
  have w3 : ((wordN ws 0 : Nat) : Int).tdiv 8 = ((wordN ws 0 / 8 : Nat) : Int) := rfl
  have w4 : IntKind.i64.wrap ((wordN ws 0 / 8 : Nat) : Int) = ((wordN ws 0 / 8 : Nat) : Int) := wrapB (by omega) (by omega)
  have w5 : ((wordN ws 0 / 8 : Nat) : Int).tmod ((v.drift.length + 1 : Nat) : Int) = ((feedN v ws : Nat) : Int) := rfl
  have hle := feedL_le (v := v) (ws := ws)
  rw [feedL, feedK_len] at hle
  have k0 := fun {g : Bool × Bool} {Q : V → Prop} => lword (g := g) (ws := ws) (a := 0) (by omega) (Q := Q)
  rw [show ((0 : Nat) : Int) = 0 from rfl] at k0
  simp only [go_sem, f61]
  refine RX_for (feedN v ws) (fun k => [(5, .c (.sl 1 k 0 k)), (6, .c (.int .i64 k))]) (fun k => [.cells (vatC g1 g2 g3 g4 v), .arr false k 1 ((feedK ws k).map Row.row)]) (fun _ => True) trivial (by simp only [go_sem] <;> first | rfl | exact ⟨rfl, rfl⟩) ?_
  intro k hk _
  have fl := feedK_len (ws := ws) (k := k)
  by_cases hlt : k < feedN v ws
  · have hlt' : (k : Int) < ((feedN v ws : Nat) : Int) := by omega
    have e4 : IntKind.i64.wrap ((k : Int) + 1) = ((k + 1 : Nat) : Int) := wrap_succ (n := 3000) (by omega) (by decide)
    have k1 := fun {g : Bool × Bool} {Q : V → Prop} => lword (g := g) (ws := ws) (a := k + 1) (by omega) (Q := Q)
    have b1 := wordN_lt (ws := ws) (a := k + 1)
    have x3 : ((wordN ws (k + 1) : Nat) : Int).tdiv 4 = ((wordN ws (k + 1) / 4 : Nat) : Int) := rfl
    have x4 : IntKind.i64.wrap ((wordN ws (k + 1) / 4 : Nat) : Int) = ((wordN ws (k + 1) / 4 : Nat) : Int) := wrapB (by omega) (by omega)
    have x5 : ((wordN ws (k + 1) / 4 : Nat) : Int).tmod 19 = ((wordN ws (k + 1) / 4 % 19 : Nat) : Int) := rfl
    have x6 : IntKind.i64.wrap (((wordN ws (k + 1) / 4 % 19 : Nat) : Int) - 9) = ((wordN ws (k + 1) / 4 % 19 : Nat) : Int) - 9 := wrapB (by omega) (by omega)
    have q1 : (k + 1) * 8 ≤ 2 ^ 40 := by omega
    simp only [go_sem, k0, w1, w2, w3, w4, w5, hlt, hlt', e4, k1, x3, x4, x5, x6, fl, q1, feedK_succ, List.map_append, disj_nil]
  · have : k = feedN v ws := by omega
    subst this
    have hlt' : ¬ ((feedN v ws : Nat) : Int) < ((feedN v ws : Nat) : Int) := by omega
    simp only [go_sem, k0, w1, w2, w3, w4, w5, hlt', fl, feedL, disj_nil])
end Am.Vt

namespace Am.Vt
open Go Am
set_option maxRecDepth 100000
set_option maxHeartbeats 4000000
set_option linter.unusedSimpArgs false
set_option linter.unusedVariables false
variable {g1 g2 g3 g4 gt g ga gb : Bool × Bool} {v : Vat} {t : Truth} {l : List Int} {p : Prf}
theorem refShows_ok (hv : v.Valid) (h : refShows v p = true) : p.Ok v ∧ p.most ∈ truthsL v [] ∧ p.least ∈ truthsL v [] ∧ showsB v p = true := by
  simp only [refShows, Bool.and_eq_true] at h
  obtain ⟨⟨⟨h1, h2⟩, _⟩, h3, h4, h5⟩ := h
  exact ⟨⟨inR_iff.1 h1, inR_iff.1 h2, isTruth_isT h3, isTruth_isT h4⟩, (isTruth_iff hv).1 h3, (isTruth_iff hv).1 h4, h5⟩
theorem VatProof_val {over under which other : Int} {ws : List Wd} (o0 : 0 ≤ over) (o1 : over ≤ 255) (u0 : 0 ≤ under) (u1 : under ≤ 255) (w0 : 0 ≤ which) (w1 : which ≤ 65535) (x0 : 0 ≤ other) (x1 : other ≤ 65535) : Val tab 12 [vatV g1 g2 g3 g4 v, .c (.int .u8 over), .c (.int .u8 under), .c (.int .u16 which), .c (.int .u16 other), .c (L g ws)] (.c (.bool true)) := by
  obtain ⟨on, rfl⟩ : ∃ n : Nat, over = n := ⟨over.toNat, by omega⟩
  obtain ⟨un, rfl⟩ : ∃ n : Nat, under = n := ⟨under.toNat, by omega⟩
  obtain ⟨wn, rfl⟩ : ∃ n : Nat, which = n := ⟨which.toNat, by omega⟩
  obtain ⟨xn, rfl⟩ : ∃ n : Nat, other = n := ⟨other.toNat, by omega⟩
  refine Val_X (fn := f12) rfl ?_
  cases hr : readyB v with
  | false => simp only [go_sem, f12, lready, hr, lawake]
  | true =>
    obtain ⟨hs, hv, h0, h150⟩ := ready_of hr
    have hf := hs.fits
    have k3 := fun {g1 g2 g3 g4 : Bool × Bool} {Q : V → Prop} => rTruths (g1 := g1) (g2 := g2) (g3 := g3) (g4 := g4) hv (Q := Q)
    simp only [vatV] at k3
    cases hp : posB v [] with
    | false =>
      have hz : (((refTruths v).length : Nat) : Int) = 0 := by rw [(pos_ref hv).1 hp]; rfl
      simp only [go_sem, f12, lready, hr, k3, hz, lawake, disj_nil]
    | true =>
      have hne : refTruths v ≠ [] := fun h => by have := (pos_ref hv).2 h; rw [hp] at this; cases this
      have v1 := hv.drift
      have v4 := hv.last7
      have v0 := hv.last0
      have hl0 := List.length_pos_iff.2 hne
      have hl1 := refTruths_len hv
      have htok := refTruths_isT hv
      have hz : ¬ (((refTruths v).length : Nat) : Int) = 0 := by omega
      have e1 : IntKind.i64.wrap (v.last + 2) = ((v.drift.length + 1 : Nat) : Int) := by rw [wrapB (by omega) (by omega)]; omega
      have e2 : ¬ ((v.drift.length + 1 : Nat) : Int) = 0 := by omega
      have e3 : IntKind.i64.wrap (on : Int) = (on : Int) := wrapB (by omega) (by omega)
      have e4 : IntKind.i64.wrap (un : Int) = (un : Int) := wrapB (by omega) (by omega)
      have e5 : IntKind.i64.wrap (wn : Int) = (wn : Int) := wrapB (by omega) (by omega)
      have e6 : IntKind.i64.wrap (xn : Int) = (xn : Int) := wrapB (by omega) (by omega)
      obtain ⟨om, hom⟩ : ∃ m, m = on % (v.drift.length + 1) := ⟨_, rfl⟩
      obtain ⟨um, hum⟩ : ∃ m, m = un % (v.drift.length + 1) := ⟨_, rfl⟩
      have oml : om < v.drift.length + 1 := by rw [hom]; exact Nat.mod_lt _ (by omega)
      have uml : um < v.drift.length + 1 := by rw [hum]; exact Nat.mod_lt _ (by omega)
      have e7 : (on : Int).tmod ((v.drift.length + 1 : Nat) : Int) = (om : Int) := by rw [hom]; rfl
      have e8 : (un : Int).tmod ((v.drift.length + 1 : Nat) : Int) = (um : Int) := by rw [hum]; rfl
      have e9 : IntKind.i64.wrap ((om : Int) - 1) = (om : Int) - 1 := wrapB (by omega) (by omega)
      have e10 : IntKind.i64.wrap ((um : Int) - 1) = (um : Int) - 1 := wrapB (by omega) (by omega)
      obtain ⟨ts, hts⟩ : ∃ ts, ts = refTruths v := ⟨_, rfl⟩
      rw [← hts] at k3 hl0 hl1 htok hz
      obtain ⟨a, ha⟩ : ∃ m, m = wn % ts.length := ⟨_, rfl⟩
      obtain ⟨b, hb⟩ : ∃ m, m = xn % ts.length := ⟨_, rfl⟩
      have al : a < ts.length := by rw [ha]; exact Nat.mod_lt _ hl0
      have bl : b < ts.length := by rw [hb]; exact Nat.mod_lt _ hl0
      have e11 : (wn : Int).tmod ((ts.length : Nat) : Int) = (a : Int) := by rw [ha]; rfl
      have e12 : (xn : Int).tmod ((ts.length : Nat) : Int) = (b : Int) := by rw [hb]; rfl
      obtain ⟨p, hpd⟩ : ∃ p : Prf, p = ⟨(om : Int) - 1, (um : Int) - 1, ts.getD a default, ts.getD b default⟩ := ⟨_, rfl⟩
      have p1 : (om : Int) - 1 = p.over := by rw [hpd]
      have p2 : (um : Int) - 1 = p.under := by rw [hpd]
      rw [p1] at e9
      rw [p2] at e10
      have p3 : ts.getD a default = p.most := by rw [hpd]
      have p4 : ts.getD b default = p.least := by rw [hpd]
      have m1 : p.most ∈ ts := by rw [← p3]; exact getD_mem al
      have m2 : p.least ∈ ts := by rw [← p4]; exact getD_mem bl
      have i1 := htok _ m1
      have i2 := htok _ m2
      have d1 := i1.dl
      have d2 := i2.dl
      have kV := fun {Q : V → Prop} => lVat (g1 := g1) (g2 := g2) (g3 := g3) (g4 := g4) hs (Q := Q)
      have kP := fun {ga gb : Bool × Bool} {Q : V → Prop} => lProof (ga := ga) (gb := gb) (p := p) (by omega) (by omega) (Q := Q)
      have k1 := fun {g1 g2 g3 g4 : Bool × Bool} {Q : V → Prop} => cKeep (g1 := g1) (g2 := g2) (g3 := g3) (g4 := g4) hf (Q := Q)
      have k2 := fun {g1 g2 g3 g4 ga gb : Bool × Bool} {Q : V → Prop} => cProveShow (g1 := g1) (g2 := g2) (g3 := g3) (g4 := g4) (ga := ga) (gb := gb) (p := p) hf (Q := Q)
      have k4 := fun {g1 g2 g3 g4 g : Bool × Bool} {Q : V → Prop} => lfeeding (g1 := g1) (g2 := g2) (g3 := g3) (g4 := g4) (g := g) (ws := ws) hv (Q := Q)
      have fle := feedL_le (v := v) (ws := ws)
      have k5 := fun {g1 g2 g3 g4 g : Bool × Bool} {Q : V → Prop} => cProveKeep (g1 := g1) (g2 := g2) (g3 := g3) (g4 := g4) (gt := g) (l := feedL v ws) hf (big_of (by omega)) (Q := Q)
      have hR1 : KeepR v = .tup [.c (L (false, false) (keepL v)), .c (.int .i64 0)] := by rw [KeepR, if_pos (ask_t h0 hp)]
      rw [hR1] at k1
      rw [ps_eq h0] at k2
      rw [pk_eq h0 hp, feedL_ask, Bool.true_and] at k5
      simp only [vatV, proofG] at kV kP k1 k2 k4 k5
      have hkl := keepL_len (v := v)
      cases hq : refShows v p with
      | false =>
        rw [hq] at k2
        simp only [go_sem, f12, lready, hr, k3, hz, e1, e2, e3, e4, e5, e6, e7, e8, e9, e10, e11, e12, al, bl, atI_nat, p1, p2, p3, p4, kV, kP, k1, k2, lawake, disj_nil]
      | true =>
        rw [hq] at k2
        obtain ⟨r1, r2, r3, r4⟩ := refShows_ok hv hq
        have q1 := proof_reach hv r1 r2 r3 r4
        rw [← hkl] at q1
        have q2 := fun h => proof_feed hv r1 r2 r3 r4 (l := feedL v ws) feedL_ask h
        generalize keepL v = kp at *
        generalize feedL v ws = fe at *
        by_cases hfe : (fe.length : Int) ≤ max p.over p.under
        · simp only [go_sem, f12, lready, hr, k3, hz, e1, e2, e3, e4, e5, e6, e7, e8, e9, e10, e11, e12, al, bl, atI_nat, p1, p2, p3, p4, kV, kP, k1, k2, k4, q1, hfe, ite_max, lawake, disj_nil, gt_iff_lt]
        · have hkb : keepsB v fe = false := by
            cases h : keepsB v fe with
            | false => rfl
            | true => exact absurd (q2 h) hfe
          rw [hkb] at k5
          simp only [go_sem, f12, lready, hr, k3, hz, e1, e2, e3, e4, e5, e6, e7, e8, e9, e10, e11, e12, al, bl, atI_nat, p1, p2, p3, p4, kV, kP, k1, k2, k4, k5, q1, hfe, ite_max, lawake, disj_nil, gt_iff_lt]
end Am.Vt

