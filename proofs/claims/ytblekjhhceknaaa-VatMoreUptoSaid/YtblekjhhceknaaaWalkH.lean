/-
  A part of the proof: the texts Y4, Y5, Y10, Z1, Z4, Z6 of this seat, joined.
-/
import Derived.Test.YtblekjhhceknaaaWalkG
import Derived.Test.YtblekjhhceknaaaWalkF
namespace Am.Vt
open Go Am
set_option maxRecDepth 100000
set_option maxHeartbeats 4000000
set_option linter.unusedSimpArgs false
set_option linter.unusedVariables false
variable {g1 g2 g3 g4 gt : Bool × Bool} {v : Vat} {t : Truth}
theorem ask_t (h0 : checkVat v = 0) (hp : posB v [] = true) : askE v true = 0 := by simp [askE, h0, hp]
end Am.Vt

namespace Am.Vt
open Go Am
set_option maxRecDepth 100000
set_option maxHeartbeats 4000000
set_option linter.unusedSimpArgs false
set_option linter.unusedVariables false
variable {g1 g2 g3 g4 gt : Bool × Bool} {v : Vat} {t : Truth}
theorem or_fold {d : Nat} : ∀ {ts : List Truth} {a b : Bool}, (foldY (orStep v d) (a, b) ts).1 = (a || ts.any (fun t => ordB v (balD v d t)), b || ts.any (fun t => !ordB v (balD v d t)))
  | [], a, b => by simp [foldY]
  | t :: ts, a, b => by
    have : orStep v d (a, b) t = ((a || ordB v (balD v d t), b || !ordB v (balD v d t)), true) := rfl
    rw [foldY, this, if_pos rfl, or_fold, List.any_cons, List.any_cons, Bool.or_assoc, Bool.or_assoc]
end Am.Vt

namespace Am.Vt
open Go Am
set_option maxRecDepth 100000
set_option maxHeartbeats 4000000
set_option linter.unusedSimpArgs false
set_option linter.unusedVariables false
variable {g1 g2 g3 g4 gt : Bool × Bool} {v : Vat} {t : Truth}
end Am.Vt

namespace Am.Vt
open Go Am
set_option maxRecDepth 100000
set_option maxHeartbeats 4000000
set_option linter.unusedSimpArgs false
set_option linter.unusedVariables false
variable {g1 g2 g3 g4 gt : Bool × Bool} {v x : Vat} {t : Truth}
/-- of fewer truths, with a greater band, more days can be reached -/
theorem reach_sub (hv : v.Valid) (hx : x.Valid) (hp : posB v [] = true) (hpx : posB x [] = true) (hd : x.drift.length = v.drift.length) (h : ∀ t ∈ truthsL x [], t ∈ truthsL v []) (hb : v.band ≤ x.band) : (reachL v).length ≤ (reachL x).length := by
  have hkl := keepL_len (v := v)
  have hle := reachL_len (v := v)
  have hka := keep_ask (v := v)
  have hkk := keep_keeps (v := v)
  rw [← keeps_eq hv (ts := truthsL v []) (fun t => Iff.rfl) hp (by omega), keepsR, List.all_eq_true] at hkk
  have ha : keepAsk x (keepL v) = true := by rw [keepAsk, hd]; exact hka
  have hk : keepsB x (keepL v) = true := by
    rw [← keeps_eq hx (ts := truthsL x []) (fun t => Iff.rfl) hpx (by omega), keepsR, List.all_eq_true]
    intro d hd
    have := hkk d hd
    rw [keptB, List.all_eq_true] at this ⊢
    intro t ht
    have := this t (h t ht)
    rw [inR_iff] at this ⊢
    omega
  have := feed_le ha hk
  omega
theorem ordAll_eq {d : Nat} : ordAll v d = ((truthsL v []).any (fun t => ordB v (balD v d t)), (truthsL v []).any (fun t => !ordB v (balD v d t))) := by
  rw [ordAll, or_fold, Bool.false_or, Bool.false_or]
theorem ordI_1 {d : Nat} : ordI v d = 1 ↔ ∀ t ∈ truthsL v [], ordB v (balD v d t) = true := by
  rw [ordI, ordAll_eq]
  simp only
  constructor
  · intro h
    cases ha : (truthsL v []).any (fun t => !ordB v (balD v d t)) with
    | false => intro t ht; simpa using List.any_eq_false.1 ha t ht
    | true =>
      rw [ha, if_neg (by decide)] at h
      split at h <;> cases h
  · intro h
    rw [if_pos (List.any_eq_false.2 fun t ht => by simp [h t ht])]
theorem ordI_2 {d : Nat} (hne : truthsL v [] ≠ []) : ordI v d = 2 ↔ ∀ t ∈ truthsL v [], ordB v (balD v d t) = false := by
  rw [ordI, ordAll_eq]
  simp only
  constructor
  · intro h
    split at h
    · cases h
    · split at h
      · rename_i ha
        intro t ht
        simpa using List.any_eq_false.1 ha t ht
      · cases h
  · intro h
    have h2 : ((truthsL v []).any (fun t => ordB v (balD v d t))) = false := List.any_eq_false.2 fun t ht => by simp [h t ht]
    have h1 : ((truthsL v []).any (fun t => !ordB v (balD v d t))) = true := by
      obtain ⟨t, ht⟩ := List.exists_mem_of_ne_nil _ hne
      exact List.any_eq_true.2 ⟨t, ht, by simp [h t ht]⟩
    rw [h1, h2]; rfl
theorem pos_truths : posB v [] = true ↔ truthsL v [] ≠ [] := by
  unfold posB
  cases truthsL v [] <;> simp
end Am.Vt

namespace Am.Vt
open Go Am
set_option maxRecDepth 100000
set_option maxHeartbeats 4000000
set_option linter.unusedSimpArgs false
set_option linter.unusedVariables false
variable {g1 g2 g3 g4 gt : Bool × Bool} {v x : Vat} {t : Truth}
/-- a vat of which less is known -/
structure Wid (v x : Vat) : Prop where
  band : x.band = v.band
  dl : x.drift.length = v.drift.length
  s : ∀ t d, stAt x t d = stAt v t d
  t : ∀ t, IsT v t → IsT x t
  ll : x.looks.length = v.looks.length
  r : ∀ t (i : Nat), i < v.looks.length → rightB v t i = true → rightB x t i = true
theorem Wid.pos (h : Wid v x) (hv : v.Valid) (hx : x.Valid) {out : List Int} (hp : posB v out = true) : posB x out = true := by
  rw [pos_iff hv] at hp
  rw [pos_iff hx, h.ll]
  obtain ⟨t, h1, h2⟩ := hp
  exact ⟨t, h.t t h1, fun i hi => (h2 i hi).imp id (h.r t i hi)⟩
theorem Wid.mem (h : Wid v x) (hv : v.Valid) (hx : x.Valid) {t : Truth} (ht : t ∈ truthsL v []) : t ∈ truthsL x [] := by
  rw [mem_truths hv, rightL_iff] at ht
  rw [mem_truths hx, rightL_iff, h.ll]
  exact ⟨h.t t ht.1, fun i hi => (ht.2 i hi).imp id (h.r t i hi)⟩
theorem sh_len {a b : List Int} (h : shB a b = true) : a.length ≤ b.length := by
  rcases sh_iff.1 h with h | h <;> omega
theorem Wid.leave (h : Wid v x) (hv : v.Valid) (hx : x.Valid) : (leaveS x).length ≤ (leaveS v).length := by
  obtain ⟨a1, a2, a3⟩ := leave_ok hv
  obtain ⟨b1, b2, b3⟩ := leave_ok hx
  rw [h.ll] at b3
  rcases b3 _ a1 (h.pos hv hx a2) with e | e
  · rw [e]; exact Nat.le_refl _
  · exact sh_len e
/-- with fewer truths no bounds are wider -/
theorem sub_bd {A B : List Truth} {val : Truth → Int} (hm : ∀ t ∈ A, t ∈ B) (hne : A ≠ []) : (bdL val B).lo ≤ (bdL val A).lo ∧ (bdL val A).hi ≤ (bdL val B).hi := by
  obtain ⟨t0, ht0⟩ := List.exists_mem_of_ne_nil _ hne
  have hne' : B ≠ [] := fun e => by have := hm _ ht0; rw [e] at this; cases this
  obtain ⟨⟨a, a1, a2⟩, ⟨b, b1, b2⟩, _⟩ := bdL_IsRg (val := val) hne
  obtain ⟨_, _, c⟩ := bdL_IsRg (val := val) hne'
  have e1 := (c a (hm a a1)).1
  have e2 := (c b (hm b b1)).2
  omega
def insB (a b : Rg) : Prop := b.lo ≤ a.lo ∧ a.hi ≤ b.hi
theorem Wid.bd (h : Wid v x) (hv : v.Valid) (hx : x.Valid) (hne : truthsL v [] ≠ []) (d : Nat) : insB (bdAt v d).bal (bdAt x d).bal ∧ insB (bdAt v d).blue (bdAt x d).blue := by
  have hm : ∀ t ∈ truthsL v [], t ∈ truthsL x [] := fun t ht => h.mem hv hx ht
  unfold insB bdAt
  simp only [h.s]
  exact ⟨sub_bd hm hne, sub_bd hm hne⟩
theorem leave_pos (hv : v.Valid) (h : leaveS v = []) : posB v [] = true := by
  have := (leave_ok hv).2.1
  rwa [h] at this
theorem linside {a b c d : Int} (h1 : c ≤ a) (h2 : b ≤ d) {Q : V → Prop} : CallP tab 81 [.agg [.int .i64 a, .int .i64 b], .agg [.int .i64 c, .int .i64 d]] Q ↔ Q (.c (.bool true)) := CallP_of (by
  refine Val_X (fn := f81) rfl ?_
  simp only [go_sem, f81, ge_iff_le, h1, h2])
theorem lnarrower {g g' : Bool × Bool} {a b : List Bound} (hl : a.length = b.length) (h8 : a.length ≤ 1000) (h : ∀ k, k < a.length → insB (a.getD k default).bal (b.getD k default).bal ∧ insB (a.getD k default).blue (b.getD k default).blue) {Q : V → Prop} : CallP tab 32 [.c (L g a), .c (L g' b)] Q ↔ Q (.c (.bool true)) := CallP_of (by
  refine Val_X (fn := f32) rfl ?_
  have hl' : (a.length : Int) = b.length := by omega
  simp only [go_sem, f32, hl']
  refine RX_for a.length (fun k => [(5, .c (.int .i64 k))]) (fun _ => []) (fun _ => True) trivial (by simp only [go_sem] <;> rfl) ?_
  intro k hk _
  by_cases h1 : k < a.length
  · have h2 : k < b.length := by omega
    obtain ⟨⟨i1, i2⟩, i3, i4⟩ := h k h1
    have e4 : IntKind.i64.wrap ((k : Int) + 1) = ((k + 1 : Nat) : Int) := wrap_succ (n := 3000) (by omega) (by decide)
    have q1 := fun {Q : V → Prop} => linside i1 i2 (Q := Q)
    have q2 := fun {Q : V → Prop} => linside i3 i4 (Q := Q)
    simp only [go_sem, h1, h2, atI_nat, q1, q2, e4, disj_nil]
  · have : k = a.length := by omega
    subst this
    simp only [go_sem, h1])
theorem bounds_get {d : Nat} (h : d < v.drift.length) : (boundsL v).getD d default = bdAt v d := by
  rw [getD_lt _ _ _ (by rw [boundsL_len]; exact h)]; simp [boundsL]
end Am.Vt

namespace Am.Vt
open Go Am
set_option maxRecDepth 100000
set_option maxHeartbeats 8000000
set_option linter.unusedSimpArgs false
set_option linter.unusedVariables false
variable {g1 g2 g3 g4 gt : Bool × Bool} {v x : Vat} {t : Truth}
/-- the vat with one more look -/
def plusV (v : Vat) (k : Lk) : Vat := withL v (v.looks ++ [k])
theorem one_right {k : Lk} {i : Nat} (hi : i < v.looks.length) : rightB (plusV v k) t i = rightB v t i := by
  have e : (v.looks ++ [k]).getD i default = v.looks.getD i default := by
    rw [List.getD_eq_getElem?_getD, List.getD_eq_getElem?_getD, List.getElem?_append_left hi]
  unfold rightB rightAt plusV
  rw [playL_withL]
  show (decide ((i : Int) ∈ ([] : List Int)) || rightK ((v.looks ++ [k]).getD i default) (playL v t)) = _
  rw [e]
theorem one_len {k : Lk} : (plusV v k).looks.length = v.looks.length + 1 := by simp [plusV, withL]
theorem one_isT {k : Lk} : IsT (plusV v k) t ↔ IsT v t := isT_withL
theorem one_mem (hv : v.Valid) {k : Lk} (hx : (plusV v k).Valid) (ht : t ∈ truthsL (plusV v k) []) : t ∈ truthsL v [] := by
  rw [mem_truths hx, rightL_iff, one_len] at ht
  rw [mem_truths hv, rightL_iff]
  refine ⟨one_isT.1 ht.1, fun i hi => ?_⟩
  have := ht.2 i (by omega)
  rwa [one_right hi] at this
theorem one_leave (hv : v.Valid) {k : Lk} (hx : (plusV v k).Valid) : (leaveS v).length ≤ (leaveS (plusV v k)).length ∧ (leaveS (plusV v k)).length ≤ (leaveS v).length + 1 := by
  obtain ⟨a1, a2, a3⟩ := leave_ok hv
  obtain ⟨b1, b2, b3⟩ := leave_ok hx
  rw [one_len] at b1 b3
  obtain ⟨s1, s2, s3⟩ := setsL_mem.1 b1
  obtain ⟨r1, r2, r3⟩ := setsL_mem.1 a1
  constructor
  · have hsub := List.filter_sublist (p := fun y => decide (y < (v.looks.length : Int))) (l := leaveS (plusV v k))
    have hlen := hsub.length_le
    have hw : (leaveS (plusV v k)).filter (fun y => decide (y < (v.looks.length : Int))) ∈ setsL v.looks.length := by
      have hm : ∀ y ∈ (leaveS (plusV v k)).filter (fun y => decide (y < (v.looks.length : Int))), 0 ≤ y ∧ y < v.looks.length := fun y hy => by
        rw [List.mem_filter, decide_eq_true_eq] at hy
        exact ⟨(s3 y hy.1).1, hy.2⟩
      have hs := s1.sublist hsub
      have v5 := hv.looks5
      obtain ⟨b, hb, e⟩ := bits_of (n := v.looks.length) (by omega) hs hm
      rw [← e]
      exact setsL_mem.2 ⟨bitsF_sorted, bitsF_len (by omega) hb, bitsF_in hb⟩
    have hp : posB v ((leaveS (plusV v k)).filter (fun y => decide (y < (v.looks.length : Int)))) = true := by
      rw [pos_iff hx, one_len] at b2
      rw [pos_iff hv]
      obtain ⟨t, h1, h2⟩ := b2
      refine ⟨t, one_isT.1 h1, fun i hi => ?_⟩
      rcases h2 i (by omega) with h | h
      · left; rw [List.mem_filter, decide_eq_true_eq]; exact ⟨h, by omega⟩
      · right; rwa [one_right hi] at h
    rcases a3 _ hw hp with e | e
    · rw [← e]; exact hlen
    · exact Nat.le_trans (sh_len e) hlen
  · have hw : leaveS v ++ [(v.looks.length : Int)] ∈ setsL (v.looks.length + 1) := by
      rw [setsL_mem]
      refine ⟨?_, by simp; omega, fun y hy => ?_⟩
      · rw [List.pairwise_append]
        exact ⟨r1, by simp, fun y hy z hz => by rw [List.mem_singleton] at hz; subst hz; exact (r3 y hy).2⟩
      · rw [List.mem_append, List.mem_singleton] at hy
        rcases hy with hy | rfl
        · have := r3 y hy; omega
        · omega
    have hp : posB (plusV v k) (leaveS v ++ [(v.looks.length : Int)]) = true := by
      rw [pos_iff hv] at a2
      rw [pos_iff hx, one_len]
      obtain ⟨t, h1, h2⟩ := a2
      refine ⟨t, one_isT.2 h1, fun i hi => ?_⟩
      by_cases hin : i < v.looks.length
      · rcases h2 i hin with h | h
        · left; simp [h]
        · right; rw [one_right hin]; exact h
      · left
        have : i = v.looks.length := by omega
        subst this; simp
    have hl : (leaveS v ++ [(v.looks.length : Int)]).length = (leaveS v).length + 1 := by simp
    rcases b3 _ hw hp with e | e
    · rw [← e, hl]; exact Nat.le_refl _
    · have := sh_len e; omega
theorem ord_eqB {k : Lk} {d : Nat} : ordB (plusV v k) (balD (plusV v k) d t) = ordB v (balD v d t) := by
  have : balD (plusV v k) d t = balD v d t := by simp only [balD, plusV, stAt_withL]
  rw [this]; rfl
theorem ordI_3 {d : Nat} : ordI v d = 1 ∨ ordI v d = 2 ∨ ordI v d = 3 := by
  unfold ordI
  split
  · exact .inl rfl
  · split
    · exact .inr (.inl rfl)
    · exact .inr (.inr rfl)
theorem one_ord {k : Lk} {d : Nat} (hm : ∀ t, t ∈ truthsL (plusV v k) [] → t ∈ truthsL v []) (hne : truthsL (plusV v k) [] ≠ []) (h : ordI v d ≠ 3) : ordI (plusV v k) d = ordI v d := by
  obtain ⟨t0, ht0⟩ := List.exists_mem_of_ne_nil _ hne
  have hne' : truthsL v [] ≠ [] := fun e => by have := hm t0 ht0; rw [e] at this; cases this
  rcases ordI_3 (v := v) (d := d) with e | e | e
  · rw [e, ordI_1]
    intro t ht
    rw [ord_eqB]
    exact ordI_1.1 e t (hm t ht)
  · rw [e, ordI_2 hne]
    intro t ht
    rw [ord_eqB]
    exact (ordI_2 hne').1 e t (hm t ht)
  · exact absurd e h
theorem one_bd {k : Lk} (hm : ∀ t, t ∈ truthsL (plusV v k) [] → t ∈ truthsL v []) (hne : truthsL (plusV v k) [] ≠ []) (d : Nat) : insB (bdAt (plusV v k) d).bal (bdAt v d).bal ∧ insB (bdAt (plusV v k) d).blue (bdAt v d).blue := by
  unfold insB bdAt
  have e : ∀ t d, stAt (plusV v k) t d = stAt v t d := fun t d => stAt_withL
  simp only [e]
  exact ⟨sub_bd hm hne, sub_bd hm hne⟩
theorem VatMore_val {m : Lk} {day : Int} (hlk : v.looks.length ≤ 1048576) (d0 : 0 ≤ day) (d1 : day ≤ 255) : Val tab 6 [vatV g1 g2 g3 g4 v, .agg [.int .i64 m.day, .bool m.bal, .int .i64 m.n.lo, .int .i64 m.n.hi], .c (.int .u8 day)] (.c (.bool true)) := by
  obtain ⟨dn, rfl⟩ : ∃ n : Nat, day = n := ⟨day.toNat, by omega⟩
  refine Val_X (fn := f6) rfl ?_
  have b1 : v.looks.length * 32 ≤ 2 ^ 40 := by omega
  have b2 : (v.looks.length + 1) * 32 ≤ 2 ^ 40 := by omega
  obtain ⟨x, hx0⟩ : ∃ x, x = plusV v m := ⟨_, rfl⟩
  have x1 : x.last = v.last := by rw [hx0]; rfl
  have x2 : x.band = v.band := by rw [hx0]; rfl
  have x3 : x.start = v.start := by rw [hx0]; rfl
  have x4 : x.blue = v.blue := by rw [hx0]; rfl
  have x5 : x.gain = v.gain := by rw [hx0]; rfl
  have x6 : x.take = v.take := by rw [hx0]; rfl
  have x7 : x.drift = v.drift := by rw [hx0]; rfl
  have x8 : x.feeds = v.feeds := by rw [hx0]; rfl
  have x9 : x.dips = v.dips := by rw [hx0]; rfl
  have x10 : x.looks = v.looks ++ [m] := by rw [hx0]; rfl
  have hsl : (v.looks ++ [m]).length = v.looks.length + 1 := by simp
  have htk : (v.looks ++ [m]).take (v.looks.length + 1) = v.looks ++ [m] := List.take_of_length_le (by omega)
  have hmp : v.looks.map (Row.row (α := Lk)) ++ [[.int .i64 m.day, .bool m.bal, .int .i64 m.n.lo, .int .i64 m.n.hi]] = (v.looks ++ [m]).map Row.row := by rw [List.map_append]; rfl
  have kR := fun {g1 g2 g3 g4 : Bool × Bool} {Q : V → Prop} => lready (g1 := g1) (g2 := g2) (g3 := g3) (g4 := g4) (v := x) (Q := Q)
  simp only [vatV, x1, x2, x3, x4, x5, x6, x7, x8, x9, x10] at kR
  cases hr : readyB v with
  | false => simp (maxSteps := 1000000) only [go_sem, f6, b1, b2, hmp, hsl, htk, List.drop_zero, Nat.le_refl, lready, hr, lawake]
  | true =>
    obtain ⟨hs, hv, h0, h150⟩ := ready_of hr
    have hf := hs.fits
    cases hrx : readyB x with
    | false => simp (maxSteps := 1000000) only [go_sem, f6, b1, b2, hmp, hsl, htk, List.drop_zero, Nat.le_refl, lready, hr, kR, hrx, lawake]
    | true =>
      obtain ⟨hsx, hvx, h0x, _⟩ := ready_of hrx
      have v1 := hv.drift
      have v4 := hv.last7
      have v0 := hv.last0
      have v5 := hv.looks5
      have kV := fun {g1 g2 g3 g4 : Bool × Bool} {Q : V → Prop} => lVat (g1 := g1) (g2 := g2) (g3 := g3) (g4 := g4) hs (Q := Q)
      simp only [vatV] at kV
      have kX := fun {g1 g2 g3 g4 : Bool × Bool} {Q : V → Prop} => lVat (g1 := g1) (g2 := g2) (g3 := g3) (g4 := g4) (v := x) hsx (Q := Q)
      simp only [vatW, vatV, x1, x2, x3, x4, x5, x6, x7, x8, x9, x10] at kX
      have hvp : (plusV v m).Valid := by rw [← hx0]; exact hvx
      have hll := one_leave hv hvp
      have hmem : ∀ t, t ∈ truthsL (plusV v m) [] → t ∈ truthsL v [] := fun t ht => one_mem hv hvp ht
      obtain ⟨c1, hv1⟩ := vLeave (v := v) (g1 := (false, false)) (g2 := (false, false)) (g3 := (false, false)) (g4 := (false, false)) hf
      have k1 := fun {Q : V → Prop} => CallP_of (Q := Q) hv1
      have hR1 : LeaveR c1 v = .tup [.c (L (c1, false) (leaveS v)), .c (.int .i64 0)] := if_neg (by rw [h0]; simp)
      rw [hR1] at k1
      simp only [vatV] at k1
      obtain ⟨c2, hv2⟩ := vLeave (v := x) (g1 := (false, false)) (g2 := (false, false)) (g3 := (false, false)) (g4 := (false, false)) hsx.fits
      have k2 := fun {Q : V → Prop} => CallP_of (Q := Q) hv2
      have hR2 : LeaveR c2 x = .tup [.c (L (c2, false) (leaveS x)), .c (.int .i64 0)] := if_neg (by rw [h0x]; simp)
      rw [hR2] at k2
      simp only [vatV, x1, x2, x3, x4, x5, x6, x7, x8, x9, x10] at k2
      rw [← hx0] at hll
      have hlf : (leaveS v).length ≤ 5 := by have := (setsL_mem.1 (leave_ok hv).1).2.1; omega
      have e1 : IntKind.i64.wrap (((leaveS v).length : Nat) + 1 : Int) = (((leaveS v).length + 1 : Nat) : Int) := by rw [wrapB (by omega) (by omega)]; omega
      have n1 : ¬ (((leaveS x).length : Nat) : Int) < ((leaveS v).length : Nat) := by omega
      have n3 : ¬ (((leaveS v).length + 1 : Nat) : Int) < ((leaveS x).length : Nat) := by omega
      by_cases n2 : (0 : Int) < ((leaveS x).length : Nat)
      · simp (maxSteps := 1000000) only [go_sem, f6, b1, b2, hmp, hsl, htk, List.drop_zero, Nat.le_refl, lready, hr, kR, hrx, kV, kX, k1, k2, gt_iff_lt, e1, n1, n2, n3, lawake, disj_nil]
      have hpx := leave_pos hvx (List.length_eq_zero_iff.1 (by omega))
      have hnx : truthsL (plusV v m) [] ≠ [] := by rw [← hx0]; exact pos_truths.1 hpx
      obtain ⟨t0, ht0⟩ := List.exists_mem_of_ne_nil _ hnx
      have hne : truthsL v [] ≠ [] := fun e => by have := hmem t0 ht0; rw [e] at this; cases this
      have hp := pos_truths.2 hne
      have hbd := one_bd hmem hnx
      have w1 : IntKind.i64.wrap (v.last + 1) = (v.drift.length : Nat) := by rw [wrapB (by omega) (by omega), v1]
      have w2 : IntKind.i64.wrap (dn : Int) = (dn : Int) := wrapB (by omega) (by omega)
      have w4 : ¬ ((v.drift.length : Nat) : Int) = 0 := by omega
      have w5 : (dn : Int).tmod (v.drift.length : Nat) = ((dn % v.drift.length : Nat) : Int) := rfl
      have hd : dn % v.drift.length < v.drift.length := Nat.mod_lt _ (by omega)
      obtain ⟨d, hd0⟩ : ∃ d, d = dn % v.drift.length := ⟨_, rfl⟩
      rw [← hd0] at hd w5
      have hor := one_ord (d := d) hmem hnx
      rw [← hx0] at hor hbd
      have hre := reach_sub hv hvx hp hpx (by rw [x7]) (fun t ht => hmem t (by rw [← hx0]; exact ht)) (by rw [x2]; exact Int.le_refl _)
      rw [← keepL_len, ← keepL_len] at hre
      have hre' : (((keepL v).length : Nat) : Int) ≤ ((keepL x).length : Nat) := by omega
      have hdi : inR d 0 v.last = true := inR_iff.2 (by omega)
      have hdx : inR d 0 x.last = true := by rw [x1]; exact hdi
      have k3 := fun {Q : V → Prop} => cBounds (v := v) (g1 := (false, false)) (g2 := (false, false)) (g3 := (false, false)) (g4 := (false, false)) hf (Q := Q)
      have hR3 : BoundsR v = .tup [.c (L (false, false) (boundsL v)), .c (.int .i64 0)] := by rw [BoundsR, if_pos (ask_t h0 hp)]
      rw [hR3] at k3
      simp only [vatV] at k3
      have k4 := fun {Q : V → Prop} => cBounds (v := x) (g1 := (false, false)) (g2 := (false, false)) (g3 := (false, false)) (g4 := (false, false)) hsx.fits (Q := Q)
      have hR4 : BoundsR x = .tup [.c (L (false, false) (boundsL x)), .c (.int .i64 0)] := by rw [BoundsR, if_pos (ask_t h0x hpx)]
      rw [hR4] at k4
      simp only [vatV, x1, x2, x3, x4, x5, x6, x7, x8, x9, x10] at k4
      have k5 := fun {Q : V → Prop} => cKeep (v := v) (g1 := (false, false)) (g2 := (false, false)) (g3 := (false, false)) (g4 := (false, false)) hf (Q := Q)
      have hR5 : KeepR v = .tup [.c (L (false, false) (keepL v)), .c (.int .i64 0)] := by rw [KeepR, if_pos (ask_t h0 hp)]
      rw [hR5] at k5
      simp only [vatV] at k5
      have k6 := fun {Q : V → Prop} => cKeep (v := x) (g1 := (false, false)) (g2 := (false, false)) (g3 := (false, false)) (g4 := (false, false)) hsx.fits (Q := Q)
      have hR6 : KeepR x = .tup [.c (L (false, false) (keepL x)), .c (.int .i64 0)] := by rw [KeepR, if_pos (ask_t h0x hpx)]
      rw [hR6] at k6
      simp only [vatV, x1, x2, x3, x4, x5, x6, x7, x8, x9, x10] at k6
      have k7 := fun {g g' : Bool × Bool} {Q : V → Prop} => lnarrower (g := g) (g' := g') (a := boundsL x) (b := boundsL v) (by rw [boundsL_len, boundsL_len, x7]) (by rw [boundsL_len, x7]; omega) (fun d hd => by
        rw [boundsL_len] at hd
        rw [bounds_get hd, bounds_get (by rw [← x7]; exact hd)]
        exact hbd d) (Q := Q)
      have k8 := fun {Q : V → Prop} => cOrder (v := v) (g1 := (false, false)) (g2 := (false, false)) (g3 := (false, false)) (g4 := (false, false)) (day := (d : Int)) hf (Q := Q)
      have hR8 : OrderR v d = .tup [.c (.int .i64 (ordI v d)), .c (.int .i64 0)] := by rw [OrderR, hdi, if_pos (ask_t h0 hp)]; rfl
      rw [hR8] at k8
      simp only [vatV] at k8
      have k9 := fun {Q : V → Prop} => cOrder (v := x) (g1 := (false, false)) (g2 := (false, false)) (g3 := (false, false)) (g4 := (false, false)) (day := (d : Int)) hsx.fits (Q := Q)
      have hR9 : OrderR x d = .tup [.c (.int .i64 (ordI x d)), .c (.int .i64 0)] := by rw [OrderR, hdx, if_pos (ask_t h0x hpx)]; rfl
      rw [hR9] at k9
      simp only [vatV, x1, x2, x3, x4, x5, x6, x7, x8, x9, x10] at k9
      generalize boundsL v = bv at *
      generalize boundsL x = bx at *
      generalize keepL v = kv at *
      generalize keepL x = kx at *
      generalize ordI v d = ov at *
      generalize ordI x d = ox at *
      by_cases ho : ov = 3
      · simp (maxSteps := 1000000) only [go_sem, f6, b1, b2, hmp, hsl, htk, List.drop_zero, Nat.le_refl, lready, hr, kR, hrx, kV, kX, k1, k2, k3, k4, k5, k6, k7, k8, k9, w1, w2, w4, w5, gt_iff_lt, ge_iff_le, e1, n1, n2, n3, hre', ho, lawake, disj_nil]
      · have ho' := hor ho
        simp (maxSteps := 1000000) only [go_sem, f6, b1, b2, hmp, hsl, htk, List.drop_zero, Nat.le_refl, lready, hr, kR, hrx, kV, kX, k1, k2, k3, k4, k5, k6, k7, k8, k9, w1, w2, w4, w5, gt_iff_lt, ge_iff_le, e1, n1, n2, n3, hre', ho, ho', lawake, disj_nil]
end Am.Vt

