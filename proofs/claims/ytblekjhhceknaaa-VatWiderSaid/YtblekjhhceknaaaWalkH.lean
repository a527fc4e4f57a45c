/-
  A part of the proof: the texts Y4, Y5, Y10, Z1, Z4, Z5 of this seat, joined.
-/
import Derived.Test.YtblekjhhceknaaaWalkG
import Derived.Test.YtblekjhhceknaaaWalkF
namespace Am.Vt
open Go Am
set_option maxRecDepth 100000
set_option maxHeartbeats 4000000
set_option linter.unusedSimpArgs false
set_option linter.unusedVariables false
variable {g1 g2 g3 g4 gt : Bool × Bool} {v : Vat} {t : Truth}
theorem ask_t (h0 : checkVat v = 0) (hp : posB v [] = true) : askE v true = 0 := by simp [askE, h0, hp]
end Am.Vt

namespace Am.Vt
open Go Am
set_option maxRecDepth 100000
set_option maxHeartbeats 4000000
set_option linter.unusedSimpArgs false
set_option linter.unusedVariables false
variable {g1 g2 g3 g4 gt : Bool × Bool} {v : Vat} {t : Truth}
end Am.Vt

namespace Am.Vt
open Go Am
set_option maxRecDepth 100000
set_option maxHeartbeats 4000000
set_option linter.unusedSimpArgs false
set_option linter.unusedVariables false
variable {g1 g2 g3 g4 gt : Bool × Bool} {v : Vat} {t : Truth}
end Am.Vt

namespace Am.Vt
open Go Am
set_option maxRecDepth 100000
set_option maxHeartbeats 4000000
set_option linter.unusedSimpArgs false
set_option linter.unusedVariables false
variable {g1 g2 g3 g4 gt : Bool × Bool} {v x : Vat} {t : Truth}
/-- of fewer truths, with a greater band, more days can be reached -/
theorem reach_sub (hv : v.Valid) (hx : x.Valid) (hp : posB v [] = true) (hpx : posB x [] = true) (hd : x.drift.length = v.drift.length) (h : ∀ t ∈ truthsL x [], t ∈ truthsL v []) (hb : v.band ≤ x.band) : (reachL v).length ≤ (reachL x).length := by
  have hkl := keepL_len (v := v)
  have hle := reachL_len (v := v)
  have hka := keep_ask (v := v)
  have hkk := keep_keeps (v := v)
  rw [← keeps_eq hv (ts := truthsL v []) (fun t => Iff.rfl) hp (by omega), keepsR, List.all_eq_true] at hkk
  have ha : keepAsk x (keepL v) = true := by rw [keepAsk, hd]; exact hka
  have hk : keepsB x (keepL v) = true := by
    rw [← keeps_eq hx (ts := truthsL x []) (fun t => Iff.rfl) hpx (by omega), keepsR, List.all_eq_true]
    intro d hd
    have := hkk d hd
    rw [keptB, List.all_eq_true] at this ⊢
    intro t ht
    have := this t (h t ht)
    rw [inR_iff] at this ⊢
    omega
  have := feed_le ha hk
  omega
theorem pos_truths : posB v [] = true ↔ truthsL v [] ≠ [] := by
  unfold posB
  cases truthsL v [] <;> simp
end Am.Vt

namespace Am.Vt
open Go Am
set_option maxRecDepth 100000
set_option maxHeartbeats 4000000
set_option linter.unusedSimpArgs false
set_option linter.unusedVariables false
variable {g1 g2 g3 g4 gt : Bool × Bool} {v x : Vat} {t : Truth}
/-- a vat of which less is known -/
structure Wid (v x : Vat) : Prop where
  band : x.band = v.band
  dl : x.drift.length = v.drift.length
  s : ∀ t d, stAt x t d = stAt v t d
  t : ∀ t, IsT v t → IsT x t
  ll : x.looks.length = v.looks.length
  r : ∀ t (i : Nat), i < v.looks.length → rightB v t i = true → rightB x t i = true
theorem Wid.pos (h : Wid v x) (hv : v.Valid) (hx : x.Valid) {out : List Int} (hp : posB v out = true) : posB x out = true := by
  rw [pos_iff hv] at hp
  rw [pos_iff hx, h.ll]
  obtain ⟨t, h1, h2⟩ := hp
  exact ⟨t, h.t t h1, fun i hi => (h2 i hi).imp id (h.r t i hi)⟩
theorem Wid.mem (h : Wid v x) (hv : v.Valid) (hx : x.Valid) {t : Truth} (ht : t ∈ truthsL v []) : t ∈ truthsL x [] := by
  rw [mem_truths hv, rightL_iff] at ht
  rw [mem_truths hx, rightL_iff, h.ll]
  exact ⟨h.t t ht.1, fun i hi => (ht.2 i hi).imp id (h.r t i hi)⟩
theorem sh_len {a b : List Int} (h : shB a b = true) : a.length ≤ b.length := by
  rcases sh_iff.1 h with h | h <;> omega
theorem Wid.leave (h : Wid v x) (hv : v.Valid) (hx : x.Valid) : (leaveS x).length ≤ (leaveS v).length := by
  obtain ⟨a1, a2, a3⟩ := leave_ok hv
  obtain ⟨b1, b2, b3⟩ := leave_ok hx
  rw [h.ll] at b3
  rcases b3 _ a1 (h.pos hv hx a2) with e | e
  · rw [e]; exact Nat.le_refl _
  · exact sh_len e
/-- with fewer truths no bounds are wider -/
theorem sub_bd {A B : List Truth} {val : Truth → Int} (hm : ∀ t ∈ A, t ∈ B) (hne : A ≠ []) : (bdL val B).lo ≤ (bdL val A).lo ∧ (bdL val A).hi ≤ (bdL val B).hi := by
  obtain ⟨t0, ht0⟩ := List.exists_mem_of_ne_nil _ hne
  have hne' : B ≠ [] := fun e => by have := hm _ ht0; rw [e] at this; cases this
  obtain ⟨⟨a, a1, a2⟩, ⟨b, b1, b2⟩, _⟩ := bdL_IsRg (val := val) hne
  obtain ⟨_, _, c⟩ := bdL_IsRg (val := val) hne'
  have e1 := (c a (hm a a1)).1
  have e2 := (c b (hm b b1)).2
  omega
def insB (a b : Rg) : Prop := b.lo ≤ a.lo ∧ a.hi ≤ b.hi
theorem Wid.bd (h : Wid v x) (hv : v.Valid) (hx : x.Valid) (hne : truthsL v [] ≠ []) (d : Nat) : insB (bdAt v d).bal (bdAt x d).bal ∧ insB (bdAt v d).blue (bdAt x d).blue := by
  have hm : ∀ t ∈ truthsL v [], t ∈ truthsL x [] := fun t ht => h.mem hv hx ht
  unfold insB bdAt
  simp only [h.s]
  exact ⟨sub_bd hm hne, sub_bd hm hne⟩
theorem leave_pos (hv : v.Valid) (h : leaveS v = []) : posB v [] = true := by
  have := (leave_ok hv).2.1
  rwa [h] at this
theorem set_get {α : Type} [Inhabited α] {l : List α} {j i : Nat} {a : α} (hi : i < l.length) : (l.set j a).getD i default = if i = j then a else l.getD i default := by
  rw [getD_lt _ _ _ (by rw [List.length_set]; exact hi), getD_lt _ _ _ hi, List.getElem_set]
  by_cases h : j = i
  · rw [if_pos h, if_pos h.symm]
  · rw [if_neg h, if_neg fun e => h e.symm]
def widS (v : Vat) (lo hi : Int) : Vat := { v with start := ⟨lo, hi⟩ }
def widB (v : Vat) (lo hi : Int) : Vat := { v with blue := ⟨lo, hi⟩ }
def widD (v : Vat) (j : Nat) (lo hi : Int) : Vat := { v with drift := v.drift.set j ⟨lo, hi⟩ }
def widL (v : Vat) (j : Nat) (lo hi : Int) : Vat := { v with looks := v.looks.set j ⟨(v.looks.getD j default).day, (v.looks.getD j default).bal, ⟨lo, hi⟩⟩ }
theorem st_of (h1 : x.feeds = v.feeds) (h2 : x.dips = v.dips) (h3 : x.gain = v.gain) (h4 : x.take = v.take) : ∀ t d, stAt x t d = stAt v t d
  | t, 0 => rfl
  | t, d + 1 => by simp only [stAt, st_of h1 h2 h3 h4 t d, feedAt, dipAt, h1, h2, h3, h4]
theorem play_of (h : ∀ t d, stAt x t d = stAt v t d) (hl : x.drift.length = v.drift.length) (t : Truth) : playL x t = playL v t := by
  unfold playL; rw [hl]; simp only [h]
theorem right_of (h : ∀ t d, stAt x t d = stAt v t d) (hl : x.drift.length = v.drift.length) (hk : x.looks = v.looks) (t : Truth) (i : Nat) : rightB x t i = rightB v t i := by
  unfold rightB rightAt
  rw [play_of h hl, hk]
theorem widS_ok {lo hi : Int} (h1 : lo ≤ v.start.lo) (h2 : v.start.hi ≤ hi) : Wid v (widS v lo hi) := by
  have hs := st_of (x := widS v lo hi) (v := v) rfl rfl rfl rfl
  exact ⟨rfl, rfl, hs, fun t ht => ⟨⟨Int.le_trans h1 ht.st.1, Int.le_trans ht.st.2 h2⟩, ht.bl, ht.dl, ht.dr⟩, rfl, fun t i _ h => by rwa [right_of hs rfl rfl]⟩
theorem widB_ok {lo hi : Int} (h1 : lo ≤ v.blue.lo) (h2 : v.blue.hi ≤ hi) : Wid v (widB v lo hi) := by
  have hs := st_of (x := widB v lo hi) (v := v) rfl rfl rfl rfl
  exact ⟨rfl, rfl, hs, fun t ht => ⟨ht.st, ⟨Int.le_trans h1 ht.bl.1, Int.le_trans ht.bl.2 h2⟩, ht.dl, ht.dr⟩, rfl, fun t i _ h => by rwa [right_of hs rfl rfl]⟩
theorem widD_ok {j : Nat} {lo hi : Int} (hj : j < v.drift.length) (h1 : lo ≤ (v.drift.getD j default).lo) (h2 : (v.drift.getD j default).hi ≤ hi) : Wid v (widD v j lo hi) := by
  have hs := st_of (x := widD v j lo hi) (v := v) rfl rfl rfl rfl
  have hl : (widD v j lo hi).drift.length = v.drift.length := List.length_set ..
  refine ⟨rfl, hl, hs, fun t ht => ⟨ht.st, ht.bl, by rw [ht.dl, hl], fun i hi' => ?_⟩, rfl, fun t i _ h => by rwa [right_of hs hl rfl]⟩
  have hi2 : i < v.drift.length := by have := ht.dl; omega
  have := ht.dr i hi'
  show ((v.drift.set j _).getD i default).lo ≤ _ ∧ _ ≤ ((v.drift.set j _).getD i default).hi
  rw [set_get hi2]
  split
  · rename_i e; subst e; exact ⟨Int.le_trans h1 this.1, Int.le_trans this.2 h2⟩
  · exact this
theorem widL_ok {j : Nat} {lo hi : Int} (hj : j < v.looks.length) (h1 : lo ≤ (v.looks.getD j default).n.lo) (h2 : (v.looks.getD j default).n.hi ≤ hi) : Wid v (widL v j lo hi) := by
  have hs := st_of (x := widL v j lo hi) (v := v) rfl rfl rfl rfl
  refine ⟨rfl, rfl, hs, fun t ht => ⟨ht.st, ht.bl, ht.dl, ht.dr⟩, List.length_set .., fun t i hi' h => ?_⟩
  have hp := play_of hs rfl t
  unfold rightB rightAt at h ⊢
  rw [hp]
  rw [Bool.or_eq_true] at h ⊢
  rcases h with h | h
  · exact .inl h
  right
  show rightK ((v.looks.set j _).getD i default) _ = true
  rw [set_get hi']
  split
  · rename_i e
    subst e
    rw [rightK, inR_iff] at h ⊢
    exact ⟨Int.le_trans h1 h.1, Int.le_trans h.2 h2⟩
  · exact h
theorem linside {a b c d : Int} (h1 : c ≤ a) (h2 : b ≤ d) {Q : V → Prop} : CallP tab 81 [.agg [.int .i64 a, .int .i64 b], .agg [.int .i64 c, .int .i64 d]] Q ↔ Q (.c (.bool true)) := CallP_of (by
  refine Val_X (fn := f81) rfl ?_
  simp only [go_sem, f81, ge_iff_le, h1, h2])
theorem lnarrower {g g' : Bool × Bool} {a b : List Bound} (hl : a.length = b.length) (h8 : a.length ≤ 1000) (h : ∀ k, k < a.length → insB (a.getD k default).bal (b.getD k default).bal ∧ insB (a.getD k default).blue (b.getD k default).blue) {Q : V → Prop} : CallP tab 32 [.c (L g a), .c (L g' b)] Q ↔ Q (.c (.bool true)) := CallP_of (by
  refine Val_X (fn := f32) rfl ?_
  have hl' : (a.length : Int) = b.length := by omega
  simp only [go_sem, f32, hl']
  refine RX_for a.length (fun k => [(5, .c (.int .i64 k))]) (fun _ => []) (fun _ => True) trivial (by simp only [go_sem] <;> rfl) ?_
  intro k hk _
  by_cases h1 : k < a.length
  · have h2 : k < b.length := by omega
    obtain ⟨⟨i1, i2⟩, i3, i4⟩ := h k h1
    have e4 : IntKind.i64.wrap ((k : Int) + 1) = ((k + 1 : Nat) : Int) := wrap_succ (n := 3000) (by omega) (by decide)
    have q1 := fun {Q : V → Prop} => linside i1 i2 (Q := Q)
    have q2 := fun {Q : V → Prop} => linside i3 i4 (Q := Q)
    simp only [go_sem, h1, h2, atI_nat, q1, q2, e4, disj_nil]
  · have : k = a.length := by omega
    subst this
    simp only [go_sem, h1])
theorem setNth_gen {α : Type} [Row α] {l : List α} {j : Nat} {a : α} : setNth (l.map Row.row) j (Row.row a) = (l.set j a).map Row.row := by
  induction l generalizing j with
  | nil => cases j <;> rfl
  | cons x l ih => cases j with
    | zero => rfl
    | succ j => simp only [List.map_cons, setNth, List.set_cons_succ, ih]
theorem setNth_rg {l : List Rg} {j : Nat} {a b : Int} : setNth (l.map (Row.row (α := Rg))) j [.int .i64 a, .int .i64 b] = (l.set j ⟨a, b⟩).map Row.row := setNth_gen (a := (⟨a, b⟩ : Rg))
theorem setNth_lk {l : List Lk} {j : Nat} {a b c : Int} {e : Bool} : setNth (l.map (Row.row (α := Lk))) j [.int .i64 a, .bool e, .int .i64 b, .int .i64 c] = (l.set j ⟨a, e, ⟨b, c⟩⟩).map Row.row := setNth_gen (a := (⟨a, e, ⟨b, c⟩⟩ : Lk))
theorem nth_set {α : Type} {l : List α} {j : Nat} {a : α} (h : j < l.length) : nth (l.set j a) j = some a := by
  rw [nth_get, List.getElem?_set_self h]
theorem bounds_get {d : Nat} (h : d < v.drift.length) : (boundsL v).getD d default = bdAt v d := by
  rw [getD_lt _ _ _ (by rw [boundsL_len]; exact h)]; simp [boundsL]
end Am.Vt

namespace Am.Vt
open Go Am
set_option maxRecDepth 100000
set_option maxHeartbeats 8000000
set_option linter.unusedSimpArgs false
set_option linter.unusedVariables false
variable {g1 g2 g3 g4 gt : Bool × Bool} {v : Vat} {t : Truth}
theorem VatWider_val {which by' : Int} (hw0 : 0 ≤ which) (hw1 : which ≤ 255) (hy0 : 0 ≤ by') (hy1 : by' ≤ 255) : Val tab 7 [vatV g1 g2 g3 g4 v, .c (.int .u8 which), .c (.int .u8 by')] (.c (.bool true)) := by
  obtain ⟨wn, rfl⟩ : ∃ n : Nat, which = n := ⟨which.toNat, by omega⟩
  obtain ⟨yn, rfl⟩ : ∃ n : Nat, by' = n := ⟨by'.toNat, by omega⟩
  refine Val_X (fn := f7) rfl ?_
  cases hr : readyB v with
  | false => simp only [go_sem, f7, lready, hr, lawake]
  | true =>
    obtain ⟨hs, hv, h0, h150⟩ := ready_of hr
    have hf := hs.fits
    have v1 := hv.drift
    have v4 := hv.last7
    have v0 := hv.last0
    have v5 := hv.looks5
    have vs := hv.start
    have vb := hv.blue
    have kV := fun {Q : V → Prop} => lVat (g1 := g1) (g2 := g2) (g3 := g3) (g4 := g4) hs (Q := Q)
    simp only [vatV] at kV
    have e1 : IntKind.i64.wrap (wn : Int) = (wn : Int) := wrapB (by omega) (by omega)
    have e2 : IntKind.i64.wrap (yn : Int) = (yn : Int) := wrapB (by omega) (by omega)
    have e3 : (yn : Int).tmod 3 = ((yn % 3 : Nat) : Int) := rfl
    have e4 : (yn : Int).tdiv 4 = ((yn / 4 : Nat) : Int) := rfl
    have e5 : IntKind.i64.wrap ((yn / 4 : Nat) : Int) = ((yn / 4 : Nat) : Int) := wrapB (by omega) (by omega)
    have e6 : ((yn / 4 : Nat) : Int).tmod 3 = ((yn / 4 % 3 : Nat) : Int) := rfl
    have e7 : (wn : Int).tdiv 4 = ((wn / 4 : Nat) : Int) := rfl
    have e8 : IntKind.i64.wrap ((wn / 4 : Nat) : Int) = ((wn / 4 : Nat) : Int) := wrapB (by omega) (by omega)
    have e9 : (wn : Int).tmod 4 = ((wn % 4 : Nat) : Int) := rfl
    obtain ⟨low, hlow⟩ : ∃ low, low = yn % 3 := ⟨_, rfl⟩
    obtain ⟨high, hhigh⟩ : ∃ high, high = yn / 4 % 3 := ⟨_, rfl⟩
    rw [← hlow] at e3
    rw [← hhigh] at e6
    obtain ⟨k, hk⟩ : ∃ k, k = wn / 4 := ⟨_, rfl⟩
    rw [← hk] at e7 e8
    have hl2 : low ≤ 2 := by omega
    have hh2 : high ≤ 2 := by omega
    have b1 : v.drift.length * 16 ≤ 2 ^ 40 := by omega
    have b3 : v.looks.length * 32 ≤ 2 ^ 40 := by omega
    have zg : ¬ ((v.drift.length : Nat) : Int) = 0 := by omega
    rcases (by omega : wn % 4 = 0 ∨ wn % 4 = 1 ∨ wn % 4 = 2 ∨ wn % 4 = 3) with hm | hm | hm | hm
    · rw [hm] at e9
      have e9' : (wn : Int).tmod 4 = 0 := e9
      have e11 : IntKind.i64.wrap (v.start.lo - (low : Int)) = v.start.lo - (low : Int) := wrapB (by omega) (by omega)
      have e12 : IntKind.i64.wrap (v.start.hi + (high : Int)) = v.start.hi + (high : Int) := wrapB (by omega) (by omega)
      obtain ⟨x, hx0⟩ : ∃ x, x = widS v (max (-50) (v.start.lo - (low : Int))) (min 50 (v.start.hi + (high : Int))) := ⟨_, rfl⟩
      have hx : Wid v x := by rw [hx0]; exact widS_ok (by omega) (by omega)
      have x1 : x.last = v.last := by rw [hx0]; rfl
      have x2 : x.band = v.band := by rw [hx0]; rfl
      have x3 : x.start = ⟨max (-50) (v.start.lo - (low : Int)), min 50 (v.start.hi + (high : Int))⟩ := by rw [hx0]; rfl
      have x4 : x.blue = v.blue := by rw [hx0]; rfl
      have x5 : x.gain = v.gain := by rw [hx0]; rfl
      have x6 : x.take = v.take := by rw [hx0]; rfl
      have x7 : x.drift = v.drift := by rw [hx0]; rfl
      have x8 : x.feeds = v.feeds := by rw [hx0]; rfl
      have x9 : x.dips = v.dips := by rw [hx0]; rfl
      have x10 : x.looks = v.looks := by rw [hx0]; rfl
      clear hx0
      have kR := fun {g1 g2 g3 g4 : Bool × Bool} {Q : V → Prop} => lready (g1 := g1) (g2 := g2) (g3 := g3) (g4 := g4) (v := x) (Q := Q)
      simp only [vatV, x1, x2, x3, x4, x5, x6, x7, x8, x9, x10] at kR
      cases hrx : readyB x with
      | false => simp (maxSteps := 1000000) only [go_sem, f7, lready, hr, e1, e2, e3, e4, e5, e6, e7, e8, e9', b1, b3, zg, List.drop_zero, List.take_length, Nat.le_refl, disj_nil, e11, e12, kR, hrx, lawake]
      | true =>
        obtain ⟨hsx, hvx, h0x, _⟩ := ready_of hrx
        have kX := fun {g1 g2 g3 g4 : Bool × Bool} {Q : V → Prop} => lVat (g1 := g1) (g2 := g2) (g3 := g3) (g4 := g4) (v := x) hsx (Q := Q)
        simp only [vatW, vatV, x1, x2, x3, x4, x5, x6, x7, x8, x9, x10] at kX
        obtain ⟨c1, hv1⟩ := vLeave (v := v) (g1 := (false, false)) (g2 := (false, false)) (g3 := (false, false)) (g4 := (false, false)) hf
        have k1 := fun {Q : V → Prop} => CallP_of (Q := Q) hv1
        have hR1 : LeaveR c1 v = .tup [.c (L (c1, false) (leaveS v)), .c (.int .i64 0)] := if_neg (by rw [h0]; simp)
        rw [hR1] at k1
        simp only [vatV] at k1
        obtain ⟨c2, hv2⟩ := vLeave (v := x) (g1 := (false, false)) (g2 := (false, false)) (g3 := (false, false)) (g4 := (false, false)) hsx.fits
        have k2 := fun {Q : V → Prop} => CallP_of (Q := Q) hv2
        have hR2 : LeaveR c2 x = .tup [.c (L (c2, false) (leaveS x)), .c (.int .i64 0)] := if_neg (by rw [h0x]; simp)
        rw [hR2] at k2
        simp only [vatV, x1, x2, x3, x4, x5, x6, x7, x8, x9, x10] at k2
        have hll := hx.leave hv hvx
        have n1 : ¬ (((leaveS v).length : Nat) : Int) < ((leaveS x).length : Nat) := by omega
        by_cases n2 : (0 : Int) < ((leaveS v).length : Nat)
        · simp (maxSteps := 1000000) only [go_sem, f7, lready, hr, e1, e2, e3, e4, e5, e6, e7, e8, e9', b1, b3, zg, List.drop_zero, List.take_length, Nat.le_refl, disj_nil, e11, e12, kV, kR, kX, hrx, k1, k2, gt_iff_lt, n1, n2, lawake]
        have hp := leave_pos hv (List.length_eq_zero_iff.1 (by omega))
        have hpx := hx.pos hv hvx hp
        have hne := pos_truths.1 hp
        have hbd := hx.bd hv hvx hne
        have hre := reach_sub hvx hv hpx hp hx.dl.symm (fun t ht => hx.mem hv hvx ht) (by rw [hx.band]; exact Int.le_refl _)
        rw [← keepL_len, ← keepL_len] at hre
        have hre' : (((keepL x).length : Nat) : Int) ≤ ((keepL v).length : Nat) := by omega
        have k3 := fun {Q : V → Prop} => cBounds (v := v) (g1 := (false, false)) (g2 := (false, false)) (g3 := (false, false)) (g4 := (false, false)) hf (Q := Q)
        have hR3 : BoundsR v = .tup [.c (L (false, false) (boundsL v)), .c (.int .i64 0)] := by rw [BoundsR, if_pos (ask_t h0 hp)]
        rw [hR3] at k3
        simp only [vatV] at k3
        have k4 := fun {Q : V → Prop} => cBounds (v := x) (g1 := (false, false)) (g2 := (false, false)) (g3 := (false, false)) (g4 := (false, false)) hsx.fits (Q := Q)
        have hR4 : BoundsR x = .tup [.c (L (false, false) (boundsL x)), .c (.int .i64 0)] := by rw [BoundsR, if_pos (ask_t h0x hpx)]
        rw [hR4] at k4
        simp only [vatV, x1, x2, x3, x4, x5, x6, x7, x8, x9, x10] at k4
        have k5 := fun {Q : V → Prop} => cKeep (v := v) (g1 := (false, false)) (g2 := (false, false)) (g3 := (false, false)) (g4 := (false, false)) hf (Q := Q)
        have hR5 : KeepR v = .tup [.c (L (false, false) (keepL v)), .c (.int .i64 0)] := by rw [KeepR, if_pos (ask_t h0 hp)]
        rw [hR5] at k5
        simp only [vatV] at k5
        have k6 := fun {Q : V → Prop} => cKeep (v := x) (g1 := (false, false)) (g2 := (false, false)) (g3 := (false, false)) (g4 := (false, false)) hsx.fits (Q := Q)
        have hR6 : KeepR x = .tup [.c (L (false, false) (keepL x)), .c (.int .i64 0)] := by rw [KeepR, if_pos (ask_t h0x hpx)]
        rw [hR6] at k6
        simp only [vatV, x1, x2, x3, x4, x5, x6, x7, x8, x9, x10] at k6
        have k7 := fun {g g' : Bool × Bool} {Q : V → Prop} => lnarrower (g := g) (g' := g') (a := boundsL v) (b := boundsL x) (by rw [boundsL_len, boundsL_len, hx.dl]) (by rw [boundsL_len]; omega) (fun d hd => by
          rw [boundsL_len] at hd
          rw [bounds_get hd, bounds_get (by rw [hx.dl]; exact hd)]
          exact hbd d) (Q := Q)
        have hbv : (boundsL v).length ≤ 1000 := by rw [boundsL_len]; omega
        generalize boundsL v = bv at *
        generalize boundsL x = bx at *
        generalize keepL v = kv at *
        generalize keepL x = kx at *
        simp (maxSteps := 1000000) only [go_sem, f7, lready, hr, e1, e2, e3, e4, e5, e6, e7, e8, e9', b1, b3, zg, List.drop_zero, List.take_length, Nat.le_refl, disj_nil, e11, e12, kV, kR, kX, hrx, k1, k2, k3, k4, k5, k6, k7, gt_iff_lt, n1, n2, hre', lawake]
    · rw [hm] at e9
      have e9' : (wn : Int).tmod 4 = 1 := e9
      have e11 : IntKind.i64.wrap (v.blue.lo - (low : Int)) = v.blue.lo - (low : Int) := wrapB (by omega) (by omega)
      have e12 : IntKind.i64.wrap (v.blue.hi + (high : Int)) = v.blue.hi + (high : Int) := wrapB (by omega) (by omega)
      obtain ⟨x, hx0⟩ : ∃ x, x = widB v (max (0) (v.blue.lo - (low : Int))) (min 999 (v.blue.hi + (high : Int))) := ⟨_, rfl⟩
      have hx : Wid v x := by rw [hx0]; exact widB_ok (by omega) (by omega)
      have x1 : x.last = v.last := by rw [hx0]; rfl
      have x2 : x.band = v.band := by rw [hx0]; rfl
      have x3 : x.start = v.start := by rw [hx0]; rfl
      have x4 : x.blue = ⟨max (0) (v.blue.lo - (low : Int)), min 999 (v.blue.hi + (high : Int))⟩ := by rw [hx0]; rfl
      have x5 : x.gain = v.gain := by rw [hx0]; rfl
      have x6 : x.take = v.take := by rw [hx0]; rfl
      have x7 : x.drift = v.drift := by rw [hx0]; rfl
      have x8 : x.feeds = v.feeds := by rw [hx0]; rfl
      have x9 : x.dips = v.dips := by rw [hx0]; rfl
      have x10 : x.looks = v.looks := by rw [hx0]; rfl
      clear hx0
      have kR := fun {g1 g2 g3 g4 : Bool × Bool} {Q : V → Prop} => lready (g1 := g1) (g2 := g2) (g3 := g3) (g4 := g4) (v := x) (Q := Q)
      simp only [vatV, x1, x2, x3, x4, x5, x6, x7, x8, x9, x10] at kR
      cases hrx : readyB x with
      | false => simp (maxSteps := 1000000) only [go_sem, f7, lready, hr, e1, e2, e3, e4, e5, e6, e7, e8, e9', b1, b3, zg, List.drop_zero, List.take_length, Nat.le_refl, disj_nil, e11, e12, kR, hrx, lawake]
      | true =>
        obtain ⟨hsx, hvx, h0x, _⟩ := ready_of hrx
        have kX := fun {g1 g2 g3 g4 : Bool × Bool} {Q : V → Prop} => lVat (g1 := g1) (g2 := g2) (g3 := g3) (g4 := g4) (v := x) hsx (Q := Q)
        simp only [vatW, vatV, x1, x2, x3, x4, x5, x6, x7, x8, x9, x10] at kX
        obtain ⟨c1, hv1⟩ := vLeave (v := v) (g1 := (false, false)) (g2 := (false, false)) (g3 := (false, false)) (g4 := (false, false)) hf
        have k1 := fun {Q : V → Prop} => CallP_of (Q := Q) hv1
        have hR1 : LeaveR c1 v = .tup [.c (L (c1, false) (leaveS v)), .c (.int .i64 0)] := if_neg (by rw [h0]; simp)
        rw [hR1] at k1
        simp only [vatV] at k1
        obtain ⟨c2, hv2⟩ := vLeave (v := x) (g1 := (false, false)) (g2 := (false, false)) (g3 := (false, false)) (g4 := (false, false)) hsx.fits
        have k2 := fun {Q : V → Prop} => CallP_of (Q := Q) hv2
        have hR2 : LeaveR c2 x = .tup [.c (L (c2, false) (leaveS x)), .c (.int .i64 0)] := if_neg (by rw [h0x]; simp)
        rw [hR2] at k2
        simp only [vatV, x1, x2, x3, x4, x5, x6, x7, x8, x9, x10] at k2
        have hll := hx.leave hv hvx
        have n1 : ¬ (((leaveS v).length : Nat) : Int) < ((leaveS x).length : Nat) := by omega
        by_cases n2 : (0 : Int) < ((leaveS v).length : Nat)
        · simp (maxSteps := 1000000) only [go_sem, f7, lready, hr, e1, e2, e3, e4, e5, e6, e7, e8, e9', b1, b3, zg, List.drop_zero, List.take_length, Nat.le_refl, disj_nil, e11, e12, kV, kR, kX, hrx, k1, k2, gt_iff_lt, n1, n2, lawake]
        have hp := leave_pos hv (List.length_eq_zero_iff.1 (by omega))
        have hpx := hx.pos hv hvx hp
        have hne := pos_truths.1 hp
        have hbd := hx.bd hv hvx hne
        have hre := reach_sub hvx hv hpx hp hx.dl.symm (fun t ht => hx.mem hv hvx ht) (by rw [hx.band]; exact Int.le_refl _)
        rw [← keepL_len, ← keepL_len] at hre
        have hre' : (((keepL x).length : Nat) : Int) ≤ ((keepL v).length : Nat) := by omega
        have k3 := fun {Q : V → Prop} => cBounds (v := v) (g1 := (false, false)) (g2 := (false, false)) (g3 := (false, false)) (g4 := (false, false)) hf (Q := Q)
        have hR3 : BoundsR v = .tup [.c (L (false, false) (boundsL v)), .c (.int .i64 0)] := by rw [BoundsR, if_pos (ask_t h0 hp)]
        rw [hR3] at k3
        simp only [vatV] at k3
        have k4 := fun {Q : V → Prop} => cBounds (v := x) (g1 := (false, false)) (g2 := (false, false)) (g3 := (false, false)) (g4 := (false, false)) hsx.fits (Q := Q)
        have hR4 : BoundsR x = .tup [.c (L (false, false) (boundsL x)), .c (.int .i64 0)] := by rw [BoundsR, if_pos (ask_t h0x hpx)]
        rw [hR4] at k4
        simp only [vatV, x1, x2, x3, x4, x5, x6, x7, x8, x9, x10] at k4
        have k5 := fun {Q : V → Prop} => cKeep (v := v) (g1 := (false, false)) (g2 := (false, false)) (g3 := (false, false)) (g4 := (false, false)) hf (Q := Q)
        have hR5 : KeepR v = .tup [.c (L (false, false) (keepL v)), .c (.int .i64 0)] := by rw [KeepR, if_pos (ask_t h0 hp)]
        rw [hR5] at k5
        simp only [vatV] at k5
        have k6 := fun {Q : V → Prop} => cKeep (v := x) (g1 := (false, false)) (g2 := (false, false)) (g3 := (false, false)) (g4 := (false, false)) hsx.fits (Q := Q)
        have hR6 : KeepR x = .tup [.c (L (false, false) (keepL x)), .c (.int .i64 0)] := by rw [KeepR, if_pos (ask_t h0x hpx)]
        rw [hR6] at k6
        simp only [vatV, x1, x2, x3, x4, x5, x6, x7, x8, x9, x10] at k6
        have k7 := fun {g g' : Bool × Bool} {Q : V → Prop} => lnarrower (g := g) (g' := g') (a := boundsL v) (b := boundsL x) (by rw [boundsL_len, boundsL_len, hx.dl]) (by rw [boundsL_len]; omega) (fun d hd => by
          rw [boundsL_len] at hd
          rw [bounds_get hd, bounds_get (by rw [hx.dl]; exact hd)]
          exact hbd d) (Q := Q)
        have hbv : (boundsL v).length ≤ 1000 := by rw [boundsL_len]; omega
        generalize boundsL v = bv at *
        generalize boundsL x = bx at *
        generalize keepL v = kv at *
        generalize keepL x = kx at *
        simp (maxSteps := 1000000) only [go_sem, f7, lready, hr, e1, e2, e3, e4, e5, e6, e7, e8, e9', b1, b3, zg, List.drop_zero, List.take_length, Nat.le_refl, disj_nil, e11, e12, kV, kR, kX, hrx, k1, k2, k3, k4, k5, k6, k7, gt_iff_lt, n1, n2, hre', lawake]
    · rw [hm] at e9
      have e9' : (wn : Int).tmod 4 = 2 := e9
      obtain ⟨j, hj⟩ : ∃ j, j = k % v.drift.length := ⟨_, rfl⟩
      have hjl : j < v.drift.length := by rw [hj]; exact Nat.mod_lt _ (by omega)
      have e10 : (k : Int).tmod ((v.drift.length : Nat) : Int) = (j : Int) := by rw [hj]; rfl
      obtain ⟨r, hr0⟩ : ∃ r, r = v.drift.getD j default := ⟨_, rfl⟩
      have hrb := hv.driftO r (by rw [hr0, getD_lt _ _ _ hjl]; exact List.getElem_mem hjl)
      have e11 : IntKind.i64.wrap (r.lo - (low : Int)) = r.lo - (low : Int) := wrapB (by omega) (by omega)
      have e12 : IntKind.i64.wrap (r.hi + (high : Int)) = r.hi + (high : Int) := wrapB (by omega) (by omega)
      have hsl : (v.drift.set j ⟨max (-9) (r.lo - (low : Int)), min 9 (r.hi + (high : Int))⟩).length = v.drift.length := List.length_set ..
      have htk : (v.drift.set j ⟨max (-9) (r.lo - (low : Int)), min 9 (r.hi + (high : Int))⟩).take v.drift.length = v.drift.set j ⟨max (-9) (r.lo - (low : Int)), min 9 (r.hi + (high : Int))⟩ := List.take_of_length_le (by omega)
      have hn0 : nth v.drift j = some r := by rw [nth_lt' hjl, hr0]
      have hn : ∀ a : Rg, nth (v.drift.set j a) j = some a := fun a => nth_set hjl
      obtain ⟨x, hx0⟩ : ∃ x, x = widD v j (max (-9) (r.lo - (low : Int))) (min 9 (r.hi + (high : Int))) := ⟨_, rfl⟩
      have hx : Wid v x := by rw [hx0]; exact widD_ok hjl (by rw [← hr0]; omega) (by rw [← hr0]; omega)
      have x1 : x.last = v.last := by rw [hx0]; rfl
      have x2 : x.band = v.band := by rw [hx0]; rfl
      have x3 : x.start = v.start := by rw [hx0]; rfl
      have x4 : x.blue = v.blue := by rw [hx0]; rfl
      have x5 : x.gain = v.gain := by rw [hx0]; rfl
      have x6 : x.take = v.take := by rw [hx0]; rfl
      have x7 : x.drift = v.drift.set j ⟨max (-9) (r.lo - (low : Int)), min 9 (r.hi + (high : Int))⟩ := by rw [hx0]; rfl
      have x8 : x.feeds = v.feeds := by rw [hx0]; rfl
      have x9 : x.dips = v.dips := by rw [hx0]; rfl
      have x10 : x.looks = v.looks := by rw [hx0]; rfl
      clear hx0
      have kR := fun {g1 g2 g3 g4 : Bool × Bool} {Q : V → Prop} => lready (g1 := g1) (g2 := g2) (g3 := g3) (g4 := g4) (v := x) (Q := Q)
      simp only [vatV, x1, x2, x3, x4, x5, x6, x7, x8, x9, x10] at kR
      cases hrx : readyB x with
      | false => simp (maxSteps := 1000000) only [go_sem, f7, lready, hr, e1, e2, e3, e4, e5, e6, e7, e8, e9', b1, b3, zg, List.drop_zero, List.take_length, Nat.le_refl, disj_nil, e10, hjl, atI_nat, ← hr0, e11, e12, setNth_rg, List.set_set, hn, hn0, hsl, htk, kR, hrx, lawake]
      | true =>
        obtain ⟨hsx, hvx, h0x, _⟩ := ready_of hrx
        have kX := fun {g1 g2 g3 g4 : Bool × Bool} {Q : V → Prop} => lVat (g1 := g1) (g2 := g2) (g3 := g3) (g4 := g4) (v := x) hsx (Q := Q)
        simp only [vatW, vatV, x1, x2, x3, x4, x5, x6, x7, x8, x9, x10] at kX
        obtain ⟨c1, hv1⟩ := vLeave (v := v) (g1 := (false, false)) (g2 := (false, false)) (g3 := (false, false)) (g4 := (false, false)) hf
        have k1 := fun {Q : V → Prop} => CallP_of (Q := Q) hv1
        have hR1 : LeaveR c1 v = .tup [.c (L (c1, false) (leaveS v)), .c (.int .i64 0)] := if_neg (by rw [h0]; simp)
        rw [hR1] at k1
        simp only [vatV] at k1
        obtain ⟨c2, hv2⟩ := vLeave (v := x) (g1 := (false, false)) (g2 := (false, false)) (g3 := (false, false)) (g4 := (false, false)) hsx.fits
        have k2 := fun {Q : V → Prop} => CallP_of (Q := Q) hv2
        have hR2 : LeaveR c2 x = .tup [.c (L (c2, false) (leaveS x)), .c (.int .i64 0)] := if_neg (by rw [h0x]; simp)
        rw [hR2] at k2
        simp only [vatV, x1, x2, x3, x4, x5, x6, x7, x8, x9, x10] at k2
        have hll := hx.leave hv hvx
        have n1 : ¬ (((leaveS v).length : Nat) : Int) < ((leaveS x).length : Nat) := by omega
        by_cases n2 : (0 : Int) < ((leaveS v).length : Nat)
        · simp (maxSteps := 1000000) only [go_sem, f7, lready, hr, e1, e2, e3, e4, e5, e6, e7, e8, e9', b1, b3, zg, List.drop_zero, List.take_length, Nat.le_refl, disj_nil, e10, hjl, atI_nat, ← hr0, e11, e12, setNth_rg, List.set_set, hn, hn0, hsl, htk, kV, kR, kX, hrx, k1, k2, gt_iff_lt, n1, n2, lawake]
        have hp := leave_pos hv (List.length_eq_zero_iff.1 (by omega))
        have hpx := hx.pos hv hvx hp
        have hne := pos_truths.1 hp
        have hbd := hx.bd hv hvx hne
        have hre := reach_sub hvx hv hpx hp hx.dl.symm (fun t ht => hx.mem hv hvx ht) (by rw [hx.band]; exact Int.le_refl _)
        rw [← keepL_len, ← keepL_len] at hre
        have hre' : (((keepL x).length : Nat) : Int) ≤ ((keepL v).length : Nat) := by omega
        have k3 := fun {Q : V → Prop} => cBounds (v := v) (g1 := (false, false)) (g2 := (false, false)) (g3 := (false, false)) (g4 := (false, false)) hf (Q := Q)
        have hR3 : BoundsR v = .tup [.c (L (false, false) (boundsL v)), .c (.int .i64 0)] := by rw [BoundsR, if_pos (ask_t h0 hp)]
        rw [hR3] at k3
        simp only [vatV] at k3
        have k4 := fun {Q : V → Prop} => cBounds (v := x) (g1 := (false, false)) (g2 := (false, false)) (g3 := (false, false)) (g4 := (false, false)) hsx.fits (Q := Q)
        have hR4 : BoundsR x = .tup [.c (L (false, false) (boundsL x)), .c (.int .i64 0)] := by rw [BoundsR, if_pos (ask_t h0x hpx)]
        rw [hR4] at k4
        simp only [vatV, x1, x2, x3, x4, x5, x6, x7, x8, x9, x10] at k4
        have k5 := fun {Q : V → Prop} => cKeep (v := v) (g1 := (false, false)) (g2 := (false, false)) (g3 := (false, false)) (g4 := (false, false)) hf (Q := Q)
        have hR5 : KeepR v = .tup [.c (L (false, false) (keepL v)), .c (.int .i64 0)] := by rw [KeepR, if_pos (ask_t h0 hp)]
        rw [hR5] at k5
        simp only [vatV] at k5
        have k6 := fun {Q : V → Prop} => cKeep (v := x) (g1 := (false, false)) (g2 := (false, false)) (g3 := (false, false)) (g4 := (false, false)) hsx.fits (Q := Q)
        have hR6 : KeepR x = .tup [.c (L (false, false) (keepL x)), .c (.int .i64 0)] := by rw [KeepR, if_pos (ask_t h0x hpx)]
        rw [hR6] at k6
        simp only [vatV, x1, x2, x3, x4, x5, x6, x7, x8, x9, x10] at k6
        have k7 := fun {g g' : Bool × Bool} {Q : V → Prop} => lnarrower (g := g) (g' := g') (a := boundsL v) (b := boundsL x) (by rw [boundsL_len, boundsL_len, hx.dl]) (by rw [boundsL_len]; omega) (fun d hd => by
          rw [boundsL_len] at hd
          rw [bounds_get hd, bounds_get (by rw [hx.dl]; exact hd)]
          exact hbd d) (Q := Q)
        have hbv : (boundsL v).length ≤ 1000 := by rw [boundsL_len]; omega
        generalize boundsL v = bv at *
        generalize boundsL x = bx at *
        generalize keepL v = kv at *
        generalize keepL x = kx at *
        simp (maxSteps := 1000000) only [go_sem, f7, lready, hr, e1, e2, e3, e4, e5, e6, e7, e8, e9', b1, b3, zg, List.drop_zero, List.take_length, Nat.le_refl, disj_nil, e10, hjl, atI_nat, ← hr0, e11, e12, setNth_rg, List.set_set, hn, hn0, hsl, htk, kV, kR, kX, hrx, k1, k2, k3, k4, k5, k6, k7, gt_iff_lt, n1, n2, hre', lawake]
    · rw [hm] at e9
      have e9' : (wn : Int).tmod 4 = 3 := e9
      by_cases hlk : (0 : Int) < (v.looks.length : Nat)
      · have hll0 : (0 : Int) < (v.looks.length : Nat) := by omega
        have zl : ¬ ((v.looks.length : Nat) : Int) = 0 := by omega
        obtain ⟨j, hj⟩ : ∃ j, j = k % v.looks.length := ⟨_, rfl⟩
        have hjl : j < v.looks.length := by rw [hj]; exact Nat.mod_lt _ (by omega)
        have e10 : (k : Int).tmod ((v.looks.length : Nat) : Int) = (j : Int) := by rw [hj]; rfl
        obtain ⟨r, hr0⟩ : ∃ r, r = v.looks.getD j default := ⟨_, rfl⟩
        have hrb := hv.looks r (by rw [hr0, getD_lt _ _ _ hjl]; exact List.getElem_mem hjl)
        have e11 : IntKind.i64.wrap (r.n.lo - (low : Int)) = r.n.lo - (low : Int) := wrapB (by omega) (by omega)
        have e12 : IntKind.i64.wrap (r.n.hi + (high : Int)) = r.n.hi + (high : Int) := wrapB (by omega) (by omega)
        have hsl : (v.looks.set j ⟨r.day, r.bal, ⟨max (-5000) (r.n.lo - (low : Int)), min 5000 (r.n.hi + (high : Int))⟩⟩).length = v.looks.length := List.length_set ..
        have htk : (v.looks.set j ⟨r.day, r.bal, ⟨max (-5000) (r.n.lo - (low : Int)), min 5000 (r.n.hi + (high : Int))⟩⟩).take v.looks.length = v.looks.set j ⟨r.day, r.bal, ⟨max (-5000) (r.n.lo - (low : Int)), min 5000 (r.n.hi + (high : Int))⟩⟩ := List.take_of_length_le (by omega)
        have hn0 : nth v.looks j = some r := by rw [nth_lt' hjl, hr0]
        have hn : ∀ a : Lk, nth (v.looks.set j a) j = some a := fun a => nth_set hjl
        obtain ⟨x, hx0⟩ : ∃ x, x = widL v j (max (-5000) (r.n.lo - (low : Int))) (min 5000 (r.n.hi + (high : Int))) := ⟨_, rfl⟩
        have hx : Wid v x := by rw [hx0]; exact widL_ok hjl (by rw [← hr0]; omega) (by rw [← hr0]; omega)
        have x1 : x.last = v.last := by rw [hx0]; rfl
        have x2 : x.band = v.band := by rw [hx0]; rfl
        have x3 : x.start = v.start := by rw [hx0]; rfl
        have x4 : x.blue = v.blue := by rw [hx0]; rfl
        have x5 : x.gain = v.gain := by rw [hx0]; rfl
        have x6 : x.take = v.take := by rw [hx0]; rfl
        have x7 : x.drift = v.drift := by rw [hx0]; rfl
        have x8 : x.feeds = v.feeds := by rw [hx0]; rfl
        have x9 : x.dips = v.dips := by rw [hx0]; rfl
        have x10 : x.looks = v.looks.set j ⟨r.day, r.bal, ⟨max (-5000) (r.n.lo - (low : Int)), min 5000 (r.n.hi + (high : Int))⟩⟩ := by rw [hx0, hr0]; rfl
        clear hx0
        have kR := fun {g1 g2 g3 g4 : Bool × Bool} {Q : V → Prop} => lready (g1 := g1) (g2 := g2) (g3 := g3) (g4 := g4) (v := x) (Q := Q)
        simp only [vatV, x1, x2, x3, x4, x5, x6, x7, x8, x9, x10] at kR
        cases hrx : readyB x with
        | false => simp (maxSteps := 1000000) only [go_sem, f7, lready, hr, e1, e2, e3, e4, e5, e6, e7, e8, e9', b1, b3, zg, List.drop_zero, List.take_length, Nat.le_refl, disj_nil, hll0, zl, e10, hjl, atI_nat, ← hr0, e11, e12, setNth_lk, List.set_set, hn, hn0, hsl, htk, gt_iff_lt, kR, hrx, lawake]
        | true =>
          obtain ⟨hsx, hvx, h0x, _⟩ := ready_of hrx
          have kX := fun {g1 g2 g3 g4 : Bool × Bool} {Q : V → Prop} => lVat (g1 := g1) (g2 := g2) (g3 := g3) (g4 := g4) (v := x) hsx (Q := Q)
          simp only [vatW, vatV, x1, x2, x3, x4, x5, x6, x7, x8, x9, x10] at kX
          obtain ⟨c1, hv1⟩ := vLeave (v := v) (g1 := (false, false)) (g2 := (false, false)) (g3 := (false, false)) (g4 := (false, false)) hf
          have k1 := fun {Q : V → Prop} => CallP_of (Q := Q) hv1
          have hR1 : LeaveR c1 v = .tup [.c (L (c1, false) (leaveS v)), .c (.int .i64 0)] := if_neg (by rw [h0]; simp)
          rw [hR1] at k1
          simp only [vatV] at k1
          obtain ⟨c2, hv2⟩ := vLeave (v := x) (g1 := (false, false)) (g2 := (false, false)) (g3 := (false, false)) (g4 := (false, false)) hsx.fits
          have k2 := fun {Q : V → Prop} => CallP_of (Q := Q) hv2
          have hR2 : LeaveR c2 x = .tup [.c (L (c2, false) (leaveS x)), .c (.int .i64 0)] := if_neg (by rw [h0x]; simp)
          rw [hR2] at k2
          simp only [vatV, x1, x2, x3, x4, x5, x6, x7, x8, x9, x10] at k2
          have hll := hx.leave hv hvx
          have n1 : ¬ (((leaveS v).length : Nat) : Int) < ((leaveS x).length : Nat) := by omega
          by_cases n2 : (0 : Int) < ((leaveS v).length : Nat)
          · simp (maxSteps := 1000000) only [go_sem, f7, lready, hr, e1, e2, e3, e4, e5, e6, e7, e8, e9', b1, b3, zg, List.drop_zero, List.take_length, Nat.le_refl, disj_nil, hll0, zl, e10, hjl, atI_nat, ← hr0, e11, e12, setNth_lk, List.set_set, hn, hn0, hsl, htk, gt_iff_lt, kV, kR, kX, hrx, k1, k2, gt_iff_lt, n1, n2, lawake]
          have hp := leave_pos hv (List.length_eq_zero_iff.1 (by omega))
          have hpx := hx.pos hv hvx hp
          have hne := pos_truths.1 hp
          have hbd := hx.bd hv hvx hne
          have hre := reach_sub hvx hv hpx hp hx.dl.symm (fun t ht => hx.mem hv hvx ht) (by rw [hx.band]; exact Int.le_refl _)
          rw [← keepL_len, ← keepL_len] at hre
          have hre' : (((keepL x).length : Nat) : Int) ≤ ((keepL v).length : Nat) := by omega
          have k3 := fun {Q : V → Prop} => cBounds (v := v) (g1 := (false, false)) (g2 := (false, false)) (g3 := (false, false)) (g4 := (false, false)) hf (Q := Q)
          have hR3 : BoundsR v = .tup [.c (L (false, false) (boundsL v)), .c (.int .i64 0)] := by rw [BoundsR, if_pos (ask_t h0 hp)]
          rw [hR3] at k3
          simp only [vatV] at k3
          have k4 := fun {Q : V → Prop} => cBounds (v := x) (g1 := (false, false)) (g2 := (false, false)) (g3 := (false, false)) (g4 := (false, false)) hsx.fits (Q := Q)
          have hR4 : BoundsR x = .tup [.c (L (false, false) (boundsL x)), .c (.int .i64 0)] := by rw [BoundsR, if_pos (ask_t h0x hpx)]
          rw [hR4] at k4
          simp only [vatV, x1, x2, x3, x4, x5, x6, x7, x8, x9, x10] at k4
          have k5 := fun {Q : V → Prop} => cKeep (v := v) (g1 := (false, false)) (g2 := (false, false)) (g3 := (false, false)) (g4 := (false, false)) hf (Q := Q)
          have hR5 : KeepR v = .tup [.c (L (false, false) (keepL v)), .c (.int .i64 0)] := by rw [KeepR, if_pos (ask_t h0 hp)]
          rw [hR5] at k5
          simp only [vatV] at k5
          have k6 := fun {Q : V → Prop} => cKeep (v := x) (g1 := (false, false)) (g2 := (false, false)) (g3 := (false, false)) (g4 := (false, false)) hsx.fits (Q := Q)
          have hR6 : KeepR x = .tup [.c (L (false, false) (keepL x)), .c (.int .i64 0)] := by rw [KeepR, if_pos (ask_t h0x hpx)]
          rw [hR6] at k6
          simp only [vatV, x1, x2, x3, x4, x5, x6, x7, x8, x9, x10] at k6
          have k7 := fun {g g' : Bool × Bool} {Q : V → Prop} => lnarrower (g := g) (g' := g') (a := boundsL v) (b := boundsL x) (by rw [boundsL_len, boundsL_len, hx.dl]) (by rw [boundsL_len]; omega) (fun d hd => by
            rw [boundsL_len] at hd
            rw [bounds_get hd, bounds_get (by rw [hx.dl]; exact hd)]
            exact hbd d) (Q := Q)
          have hbv : (boundsL v).length ≤ 1000 := by rw [boundsL_len]; omega
          generalize boundsL v = bv at *
          generalize boundsL x = bx at *
          generalize keepL v = kv at *
          generalize keepL x = kx at *
          simp (maxSteps := 1000000) only [go_sem, f7, lready, hr, e1, e2, e3, e4, e5, e6, e7, e8, e9', b1, b3, zg, List.drop_zero, List.take_length, Nat.le_refl, disj_nil, hll0, zl, e10, hjl, atI_nat, ← hr0, e11, e12, setNth_lk, List.set_set, hn, hn0, hsl, htk, gt_iff_lt, kV, kR, kX, hrx, k1, k2, k3, k4, k5, k6, k7, gt_iff_lt, n1, n2, hre', lawake]
      · have hll0 : ¬ (0 : Int) < (v.looks.length : Nat) := hlk
        have k7E := fun {bv : List Bound} (hb : bv.length ≤ 1000) {g g' : Bool × Bool} {Q : V → Prop} => lnarrower (g := g) (g' := g') (a := bv) (b := bv) rfl hb (fun d hd => ⟨⟨Int.le_refl _, Int.le_refl _⟩, Int.le_refl _, Int.le_refl _⟩) (Q := Q)
        obtain ⟨x, hx0⟩ : ∃ x, x = v := ⟨_, rfl⟩
        have hx : Wid v x := by rw [hx0]; exact ⟨rfl, rfl, fun _ _ => rfl, fun _ h => h, rfl, fun _ _ _ h => h⟩
        have x1 : x.last = v.last := by rw [hx0]
        have x2 : x.band = v.band := by rw [hx0]
        have x3 : x.start = v.start := by rw [hx0]
        have x4 : x.blue = v.blue := by rw [hx0]
        have x5 : x.gain = v.gain := by rw [hx0]
        have x6 : x.take = v.take := by rw [hx0]
        have x7 : x.drift = v.drift := by rw [hx0]
        have x8 : x.feeds = v.feeds := by rw [hx0]
        have x9 : x.dips = v.dips := by rw [hx0]
        have x10 : x.looks = v.looks := by rw [hx0]
        clear hx0
        have kR := fun {g1 g2 g3 g4 : Bool × Bool} {Q : V → Prop} => lready (g1 := g1) (g2 := g2) (g3 := g3) (g4 := g4) (v := x) (Q := Q)
        simp only [vatV, x1, x2, x3, x4, x5, x6, x7, x8, x9, x10] at kR
        cases hrx : readyB x with
        | false => simp (maxSteps := 1000000) only [go_sem, f7, lready, hr, e1, e2, e3, e4, e5, e6, e7, e8, e9', b1, b3, zg, List.drop_zero, List.take_length, Nat.le_refl, disj_nil, hll0, Nat.lt_irrefl, Int.le_refl, gt_iff_lt, kR, hrx, lawake]
        | true =>
          obtain ⟨hsx, hvx, h0x, _⟩ := ready_of hrx
          have kX := fun {g1 g2 g3 g4 : Bool × Bool} {Q : V → Prop} => lVat (g1 := g1) (g2 := g2) (g3 := g3) (g4 := g4) (v := x) hsx (Q := Q)
          simp only [vatW, vatV, x1, x2, x3, x4, x5, x6, x7, x8, x9, x10] at kX
          obtain ⟨c1, hv1⟩ := vLeave (v := v) (g1 := (false, false)) (g2 := (false, false)) (g3 := (false, false)) (g4 := (false, false)) hf
          have k1 := fun {Q : V → Prop} => CallP_of (Q := Q) hv1
          have hR1 : LeaveR c1 v = .tup [.c (L (c1, false) (leaveS v)), .c (.int .i64 0)] := if_neg (by rw [h0]; simp)
          rw [hR1] at k1
          simp only [vatV] at k1
          obtain ⟨c2, hv2⟩ := vLeave (v := x) (g1 := (false, false)) (g2 := (false, false)) (g3 := (false, false)) (g4 := (false, false)) hsx.fits
          have k2 := fun {Q : V → Prop} => CallP_of (Q := Q) hv2
          have hR2 : LeaveR c2 x = .tup [.c (L (c2, false) (leaveS x)), .c (.int .i64 0)] := if_neg (by rw [h0x]; simp)
          rw [hR2] at k2
          simp only [vatV, x1, x2, x3, x4, x5, x6, x7, x8, x9, x10] at k2
          have hll := hx.leave hv hvx
          have n1 : ¬ (((leaveS v).length : Nat) : Int) < ((leaveS x).length : Nat) := by omega
          by_cases n2 : (0 : Int) < ((leaveS v).length : Nat)
          · simp (maxSteps := 1000000) only [go_sem, f7, lready, hr, e1, e2, e3, e4, e5, e6, e7, e8, e9', b1, b3, zg, List.drop_zero, List.take_length, Nat.le_refl, disj_nil, hll0, Nat.lt_irrefl, Int.le_refl, gt_iff_lt, kV, kR, kX, hrx, k1, k2, gt_iff_lt, n1, n2, lawake]
          have hp := leave_pos hv (List.length_eq_zero_iff.1 (by omega))
          have hpx := hx.pos hv hvx hp
          have hne := pos_truths.1 hp
          have hbd := hx.bd hv hvx hne
          have hre := reach_sub hvx hv hpx hp hx.dl.symm (fun t ht => hx.mem hv hvx ht) (by rw [hx.band]; exact Int.le_refl _)
          rw [← keepL_len, ← keepL_len] at hre
          have hre' : (((keepL x).length : Nat) : Int) ≤ ((keepL v).length : Nat) := by omega
          have k3 := fun {Q : V → Prop} => cBounds (v := v) (g1 := (false, false)) (g2 := (false, false)) (g3 := (false, false)) (g4 := (false, false)) hf (Q := Q)
          have hR3 : BoundsR v = .tup [.c (L (false, false) (boundsL v)), .c (.int .i64 0)] := by rw [BoundsR, if_pos (ask_t h0 hp)]
          rw [hR3] at k3
          simp only [vatV] at k3
          have k4 := fun {Q : V → Prop} => cBounds (v := x) (g1 := (false, false)) (g2 := (false, false)) (g3 := (false, false)) (g4 := (false, false)) hsx.fits (Q := Q)
          have hR4 : BoundsR x = .tup [.c (L (false, false) (boundsL x)), .c (.int .i64 0)] := by rw [BoundsR, if_pos (ask_t h0x hpx)]
          rw [hR4] at k4
          simp only [vatV, x1, x2, x3, x4, x5, x6, x7, x8, x9, x10] at k4
          have k5 := fun {Q : V → Prop} => cKeep (v := v) (g1 := (false, false)) (g2 := (false, false)) (g3 := (false, false)) (g4 := (false, false)) hf (Q := Q)
          have hR5 : KeepR v = .tup [.c (L (false, false) (keepL v)), .c (.int .i64 0)] := by rw [KeepR, if_pos (ask_t h0 hp)]
          rw [hR5] at k5
          simp only [vatV] at k5
          have k6 := fun {Q : V → Prop} => cKeep (v := x) (g1 := (false, false)) (g2 := (false, false)) (g3 := (false, false)) (g4 := (false, false)) hsx.fits (Q := Q)
          have hR6 : KeepR x = .tup [.c (L (false, false) (keepL x)), .c (.int .i64 0)] := by rw [KeepR, if_pos (ask_t h0x hpx)]
          rw [hR6] at k6
          simp only [vatV, x1, x2, x3, x4, x5, x6, x7, x8, x9, x10] at k6
          have k7 := fun {g g' : Bool × Bool} {Q : V → Prop} => lnarrower (g := g) (g' := g') (a := boundsL v) (b := boundsL x) (by rw [boundsL_len, boundsL_len, hx.dl]) (by rw [boundsL_len]; omega) (fun d hd => by
            rw [boundsL_len] at hd
            rw [bounds_get hd, bounds_get (by rw [hx.dl]; exact hd)]
            exact hbd d) (Q := Q)
          have hbv : (boundsL v).length ≤ 1000 := by rw [boundsL_len]; omega
          generalize boundsL v = bv at *
          generalize boundsL x = bx at *
          generalize keepL v = kv at *
          generalize keepL x = kx at *
          simp (maxSteps := 1000000) only [go_sem, f7, lready, hr, e1, e2, e3, e4, e5, e6, e7, e8, e9', b1, b3, zg, List.drop_zero, List.take_length, Nat.le_refl, disj_nil, hll0, Nat.lt_irrefl, Int.le_refl, gt_iff_lt, kV, kR, kX, hrx, k1, k2, k3, k4, k5, k6, k7, k7E hbv, gt_iff_lt, n1, n2, hre', lawake]
end Am.Vt

