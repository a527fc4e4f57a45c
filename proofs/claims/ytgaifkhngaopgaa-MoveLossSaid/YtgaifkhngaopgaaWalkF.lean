/-
  A part of the proof: the texts M18, M19, M20, M21, M22 of this seat, joined.
-/
import Derived.Test.YtgaifkhngaopgaaWalkE
namespace Am.Mv
open Go Am
set_option maxRecDepth 1000000
set_option maxHeartbeats 4000000
set_option linter.unusedSimpArgs false
set_option linter.unusedVariables false
/-- the numbers of bits -/
def bitsL (n : Nat) : List Int := ((List.range 5).filter fun p => n.testBit p).map fun (p : Nat) => (p : Int)
theorem bits0 : evP tab 40 88 [.c (.int .i64 0)] = some (.c (L (false, false) (bitsL 0))) := by kernel_rfl
theorem bits1 : evP tab 40 88 [.c (.int .i64 1)] = some (.c (L (false, false) (bitsL 1))) := by kernel_rfl
theorem bits2 : evP tab 40 88 [.c (.int .i64 2)] = some (.c (L (false, false) (bitsL 2))) := by kernel_rfl
theorem bits3 : evP tab 40 88 [.c (.int .i64 3)] = some (.c (L (false, false) (bitsL 3))) := by kernel_rfl
theorem bits4 : evP tab 40 88 [.c (.int .i64 4)] = some (.c (L (false, false) (bitsL 4))) := by kernel_rfl
theorem bits5 : evP tab 40 88 [.c (.int .i64 5)] = some (.c (L (false, false) (bitsL 5))) := by kernel_rfl
theorem bits6 : evP tab 40 88 [.c (.int .i64 6)] = some (.c (L (false, false) (bitsL 6))) := by kernel_rfl
theorem bits7 : evP tab 40 88 [.c (.int .i64 7)] = some (.c (L (false, false) (bitsL 7))) := by kernel_rfl
theorem bits8 : evP tab 40 88 [.c (.int .i64 8)] = some (.c (L (false, false) (bitsL 8))) := by kernel_rfl
theorem bits9 : evP tab 40 88 [.c (.int .i64 9)] = some (.c (L (false, false) (bitsL 9))) := by kernel_rfl
theorem bits10 : evP tab 40 88 [.c (.int .i64 10)] = some (.c (L (false, false) (bitsL 10))) := by kernel_rfl
theorem bits11 : evP tab 40 88 [.c (.int .i64 11)] = some (.c (L (false, false) (bitsL 11))) := by kernel_rfl
theorem bits12 : evP tab 40 88 [.c (.int .i64 12)] = some (.c (L (false, false) (bitsL 12))) := by kernel_rfl
theorem bits13 : evP tab 40 88 [.c (.int .i64 13)] = some (.c (L (false, false) (bitsL 13))) := by kernel_rfl
theorem bits14 : evP tab 40 88 [.c (.int .i64 14)] = some (.c (L (false, false) (bitsL 14))) := by kernel_rfl
theorem bits15 : evP tab 40 88 [.c (.int .i64 15)] = some (.c (L (false, false) (bitsL 15))) := by kernel_rfl
theorem bits16 : evP tab 40 88 [.c (.int .i64 16)] = some (.c (L (false, false) (bitsL 16))) := by kernel_rfl
theorem bits17 : evP tab 40 88 [.c (.int .i64 17)] = some (.c (L (false, false) (bitsL 17))) := by kernel_rfl
theorem bits18 : evP tab 40 88 [.c (.int .i64 18)] = some (.c (L (false, false) (bitsL 18))) := by kernel_rfl
theorem bits19 : evP tab 40 88 [.c (.int .i64 19)] = some (.c (L (false, false) (bitsL 19))) := by kernel_rfl
theorem bits20 : evP tab 40 88 [.c (.int .i64 20)] = some (.c (L (false, false) (bitsL 20))) := by kernel_rfl
theorem bits21 : evP tab 40 88 [.c (.int .i64 21)] = some (.c (L (false, false) (bitsL 21))) := by kernel_rfl
theorem bits22 : evP tab 40 88 [.c (.int .i64 22)] = some (.c (L (false, false) (bitsL 22))) := by kernel_rfl
theorem bits23 : evP tab 40 88 [.c (.int .i64 23)] = some (.c (L (false, false) (bitsL 23))) := by kernel_rfl
theorem bits24 : evP tab 40 88 [.c (.int .i64 24)] = some (.c (L (false, false) (bitsL 24))) := by kernel_rfl
theorem bits25 : evP tab 40 88 [.c (.int .i64 25)] = some (.c (L (false, false) (bitsL 25))) := by kernel_rfl
theorem bits26 : evP tab 40 88 [.c (.int .i64 26)] = some (.c (L (false, false) (bitsL 26))) := by kernel_rfl
theorem bits27 : evP tab 40 88 [.c (.int .i64 27)] = some (.c (L (false, false) (bitsL 27))) := by kernel_rfl
theorem bits28 : evP tab 40 88 [.c (.int .i64 28)] = some (.c (L (false, false) (bitsL 28))) := by kernel_rfl
theorem bits29 : evP tab 40 88 [.c (.int .i64 29)] = some (.c (L (false, false) (bitsL 29))) := by kernel_rfl
theorem bits30 : evP tab 40 88 [.c (.int .i64 30)] = some (.c (L (false, false) (bitsL 30))) := by kernel_rfl
theorem bits31 : evP tab 40 88 [.c (.int .i64 31)] = some (.c (L (false, false) (bitsL 31))) := by kernel_rfl
theorem Val_of_evP {G : Nat → Option AFunc} {n k : Nat} {as : List V} {v : V} (h : evP G n k as = some v) : Val G k as v := by
  unfold evP at h
  cases he : ev G n (.p k as) with
  | none => rw [he] at h; cases h
  | some z =>
    obtain ⟨v', h'⟩ := z
    rw [he] at h
    injection h with h
    simp only at h
    subst h
    have hh : h' = [] := by
      cases n with
      | zero => cases he
      | succ n =>
        simp only [ev, evBody] at he
        repeat' (split at he)
        all_goals first
          | (cases he; done)
          | (cases he; rfl)
    subst hh
    exact ⟨n, he⟩
theorem P88 {k : Nat} (hk : k < 32) {Q : V → Prop} : CallP tab 88 [.c (.int .i64 (k : Int))] Q ↔ Q (.c (L (false, false) (bitsL k))) := CallP_of (by
  match k, hk with
  | 0, _ => exact Val_of_evP bits0
  | 1, _ => exact Val_of_evP bits1
  | 2, _ => exact Val_of_evP bits2
  | 3, _ => exact Val_of_evP bits3
  | 4, _ => exact Val_of_evP bits4
  | 5, _ => exact Val_of_evP bits5
  | 6, _ => exact Val_of_evP bits6
  | 7, _ => exact Val_of_evP bits7
  | 8, _ => exact Val_of_evP bits8
  | 9, _ => exact Val_of_evP bits9
  | 10, _ => exact Val_of_evP bits10
  | 11, _ => exact Val_of_evP bits11
  | 12, _ => exact Val_of_evP bits12
  | 13, _ => exact Val_of_evP bits13
  | 14, _ => exact Val_of_evP bits14
  | 15, _ => exact Val_of_evP bits15
  | 16, _ => exact Val_of_evP bits16
  | 17, _ => exact Val_of_evP bits17
  | 18, _ => exact Val_of_evP bits18
  | 19, _ => exact Val_of_evP bits19
  | 20, _ => exact Val_of_evP bits20
  | 21, _ => exact Val_of_evP bits21
  | 22, _ => exact Val_of_evP bits22
  | 23, _ => exact Val_of_evP bits23
  | 24, _ => exact Val_of_evP bits24
  | 25, _ => exact Val_of_evP bits25
  | 26, _ => exact Val_of_evP bits26
  | 27, _ => exact Val_of_evP bits27
  | 28, _ => exact Val_of_evP bits28
  | 29, _ => exact Val_of_evP bits29
  | 30, _ => exact Val_of_evP bits30
  | 31, _ => exact Val_of_evP bits31
  | k + 32, h => exact absurd h (by omega))
end Am.Mv
namespace Am.Mv
open Go Am
set_option maxRecDepth 100000
set_option maxHeartbeats 4000000
set_option linter.unusedSimpArgs false
set_option linter.unusedVariables false
variable {l : Land} {g1 g2 : Bool × Bool}
def beforeL : List Int → List Int → Bool
  | [], b => decide (0 < b.length)
  | _ :: _, [] => false
  | a :: as, b :: bs => if a = b then beforeL as bs else decide (a < b)
theorem beforeL_end {a b : List Int} (h : a = [] ∨ b = []) : beforeL a b = decide (a.length < b.length) := by
  rcases h with rfl | rfl
  · rfl
  · cases a <;> simp [beforeL]
theorem drop_getD {a : List Int} {k : Nat} (h : k < a.length) : a.drop k = a.getD k default :: a.drop (k + 1) := by
  rw [List.drop_eq_getElem_cons h, getD_lt _ _ _ h]
theorem P41 {g g' : Bool × Bool} {a b : List Int} (ha : a.length < Big) (hb : b.length < Big) {Q : V → Prop} : CallP tab 41 [.c (L g a), .c (L g' b)] Q ↔ Q (.c (.bool (beforeL a b))) := CallP_of (by
  refine Val_X (fn := f41) rfl ?_
  simp only [go_sem, f41]
  refine RX_for (min a.length b.length) (fun k => [(5, .c (.int .i64 k))]) (fun _ => []) (fun k => beforeL (a.drop k) (b.drop k) = beforeL a b) rfl (by simp only [go_sem] <;> rfl) ?_
  intro k hk hP
  by_cases h1 : k < a.length
  · by_cases h2 : k < b.length
    · have h3 : k < min a.length b.length := by omega
      rw [drop_getD h1, drop_getD h2, beforeL] at hP
      simp only [go_sem, h1, h2, h3, wrap_succ h1 ha, atI_nat]
      refine ⟨fun e => ?_, fun e => ?_⟩
      · rw [← hP, if_neg (fun h => by rw [h] at e; simp at e)]
      · by_cases hab : a.getD k default = b.getD k default
        · rw [if_pos hab] at hP; exact hP
        · exact absurd hab (by simpa using e)
    · have e : beforeL a b = decide (a.length < b.length) := by
        rw [← hP, beforeL_end (.inr (List.drop_of_length_le (by omega)))]
        simp; omega
      simp only [go_sem, h1, h2, e]
  · have e : beforeL a b = decide (a.length < b.length) := by
      rw [← hP, beforeL_end (.inl (List.drop_of_length_le (by omega)))]
      simp; omega
    simp only [go_sem, h1, e])
def shorterL (a b : List Int) : Bool := decide (a.length < b.length) || (decide (a.length = b.length) && beforeL a b)
theorem P71 {g g' : Bool × Bool} {a b : List Int} (ha : a.length < Big) (hb : b.length < Big) {Q : V → Prop} : CallP tab 71 [.c (L g a), .c (L g' b)] Q ↔ Q (.c (.bool (shorterL a b))) := CallP_of (by
  refine Val_X (fn := f71) rfl ?_
  by_cases h1 : (a.length : Int) < b.length
  · have : a.length < b.length := by omega
    simp only [go_sem, f71, h1, shorterL, this, Bool.true_or]
  · by_cases h2 : (a.length : Int) = b.length
    · have h4 : a.length = b.length := by omega
      simp only [go_sem, f71, h1, h2, P41 ha hb, shorterL, h4]
      exact ⟨fun h => by simp, fun h => absurd h (by omega)⟩
    · have h3 : ¬ a.length < b.length := by omega
      have h4 : ¬ a.length = b.length := by omega
      simp only [go_sem, f71, h1, h2, P41 ha hb, shorterL, h3, h4])
def moneyL (l : Land) (ys : List Year) : Int := if ys.length = 0 then l.purse else (ys.getD (ys.length - 1) default).money
theorem P69 {g : Bool × Bool} {ys : List Year} (hl : ys.length < Big) {Q : V → Prop} : CallP tab 69 [landV g1 g2 l, .c (L g ys)] Q ↔ Q (.c (.int .i64 (moneyL l ys))) := CallP_of (by
  refine Val_X (fn := f69) rfl ?_
  by_cases h0 : ys.length = 0
  · have h1 : (ys.length : Int) = 0 := by omega
    simp only [go_sem, f69, h1, moneyL, h0]
  · have h1 : ¬ (ys.length : Int) = 0 := by omega
    have hl' : ys.length < 4611686018427387904 := hl
    have hw : IntKind.i64.wrap ((ys.length : Int) - 1) = ((ys.length - 1 : Nat) : Int) := by rw [wrap_id _ (by omega) (by omega)]; omega
    have h2 : ys.length - 1 < ys.length := by omega
    simp only [go_sem, f69, h1, hw, h2, atI_nat, moneyL, h0])
def wthK (l : Land) (k : Nat) : List (List Int) := ((List.range k).map bitsL).filter fun b => decide ((b.length : Int) ≤ l.bad)
theorem wthK_succ (l : Land) (k : Nat) : wthK l (k + 1) = wthK l k ++ if ((bitsL k).length : Int) ≤ l.bad then [bitsL k] else [] := by
  simp only [wthK, List.range_succ, List.map_append, List.filter_append, List.map_cons, List.map_nil]
  congr 1
  by_cases h : ((bitsL k).length : Int) ≤ l.bad <;> simp [h]
def wthR (l : Land) : List (List Int) := wthK l (2 ^ (l.last + 1).toNat)
theorem P70 (hv : l.Valid) {Q : V → Prop} : CallP tab 70 [landV g1 g2 l] Q ↔ Q (.c (L (false, false) (wthR l))) := CallP_of (by
  refine Val_X (fn := f70) rfl ?_
  have l0 := hv.last0
  have l4 := hv.last4
  have hsh : ∃ n : Nat, n = 2 ^ (l.last + 1).toNat ∧ n ≤ 32 := ⟨_, rfl, by
    have : (l.last + 1).toNat ≤ 5 := by omega
    exact Nat.le_trans (Nat.pow_le_pow_right (by decide) this) (by decide)⟩
  obtain ⟨n, hn, hn2⟩ := hsh
  have w1 : IntKind.i64.wrap (l.last + 1) = l.last + 1 := wrapB (by omega) (by omega)
  have w2 : IntKind.u64.wrap (l.last + 1) = l.last + 1 := by simp [IntKind.wrap, IntKind.bits, IntKind.signed]; omega
  have w3 : ¬ (l.last + 1 < 0) := by omega
  have w4 : IntKind.i64.wrap (1 * 2 ^ min (l.last + 1).toNat IntKind.i64.bits) = (n : Int) := by
    rw [Int.one_mul, Nat.min_eq_left (by simp [IntKind.bits]; omega), hn]
    rw [wrapB]
    · rw [Int.natCast_pow]; rfl
    · have : (0:Int) ≤ 2 ^ (l.last + 1).toNat := Int.pow_nonneg (by decide)
      omega
    · have : ((2 ^ (l.last + 1).toNat : Nat) : Int) ≤ 32 := by omega
      rw [Int.natCast_pow] at this
      have h2 : ((2 : Nat) : Int) = 2 := rfl
      rw [h2] at this
      omega
  simp only [go_sem, f70]
  refine RX_for n (fun k => [(3, .c (.sl 1 (wthK l k).length 0 (wthK l k).length)), (4, .c (.int .i64 k))]) (fun k => [.cells [.int .i64 l.last, .int .i64 l.home, .int .i64 l.purse, .int .i64 l.bad, .int .i64 l.rest, L g1 l.sites, L g2 l.roads], .arr false (wthK l k).length 1 ((wthK l k).map Row.row)]) (fun k => True) trivial (by simp only [go_sem, wthK, List.range_zero, List.map_nil, List.filter_nil, List.length_nil] <;> rfl) ?_
  intro k hk _
  have hkl : (wthK l k).length ≤ k := by
    have := List.length_filter_le (fun b : List Int => decide ((b.length : Int) ≤ l.bad)) ((List.range k).map bitsL)
    simpa [wthK] using this
  by_cases h1 : k < n
  · have h2 : k < 32 := by omega
    have b7 : ((wthK l k).length + 1) * 24 ≤ 2 ^ 40 := by omega
    rw [wthK_succ]
    by_cases h3 : ((bitsL k).length : Int) ≤ l.bad
    · simp only [go_sem, w1, w2, w3, w4, h1, P88 h2, h3, wrap_succ (n := 1000) (show k < 1000 by omega) (by decide), b7]
      simp only [List.map_append, List.map_cons, List.map_nil, go_sem]
    · simp only [go_sem, w1, w2, w3, w4, h1, P88 h2, h3, wrap_succ (n := 1000) (show k < 1000 by omega) (by decide), List.append_nil]
  · have : k = n := by omega
    subst this
    simp only [go_sem, w1, w2, w3, w4, h1, wthR, ← hn])
theorem bitsL_len (k : Nat) : (bitsL k).length ≤ 5 := by
  simp only [bitsL, List.length_map]
  exact Nat.le_trans (List.length_filter_le _ _) (by simp)
theorem wthR_len {w : List Int} (h : w ∈ wthR l) : w.length ≤ 5 := by
  simp only [wthR, wthK, List.mem_filter, List.mem_map] at h
  obtain ⟨⟨k, _, rfl⟩, _⟩ := h
  exact bitsL_len k
theorem wthR_num (hv : l.Valid) : (wthR l).length ≤ 32 := by
  have h1 : (wthR l).length ≤ 2 ^ (l.last + 1).toNat := by
    have := List.length_filter_le (fun b : List Int => decide ((b.length : Int) ≤ l.bad)) ((List.range (2 ^ (l.last + 1).toNat)).map bitsL)
    simpa [wthR, wthK] using this
  have : (l.last + 1).toNat ≤ 5 := by have := hv.last4; omega
  exact Nat.le_trans h1 (Nat.le_trans (Nat.pow_le_pow_right (by decide) this) (by decide))
theorem moneyL_play {ws plan : List Int} : moneyL l ((List.range plan.length).map (yrAt l ws plan)) = (stAt l ws plan plan.length).money := by
  simp only [moneyL, List.length_map, List.length_range]
  cases h : plan.length with
  | zero => rfl
  | succ n =>
    rw [if_neg (by omega), getD_lt _ _ _ (by simp)]
    simp
    rfl
def refSureFrom (l : Land) (plan : List Int) : List (List Int) → Int → List Int → Int × List Int × Bool
  | [], best, worst => (best, worst, true)
  | w :: ws, best, worst => match failAt l w plan with
    | some _ => (0, [], false)
    | none => if IntKind.i64.wrap ((stAt l w plan plan.length).money - l.purse) < best ∨ (IntKind.i64.wrap ((stAt l w plan plan.length).money - l.purse) = best ∧ shorterL w worst = true) then refSureFrom l plan ws (IntKind.i64.wrap ((stAt l w plan plan.length).money - l.purse)) w else refSureFrom l plan ws best worst
def refSure (l : Land) (plan : List Int) : Int × List Int × Bool := refSureFrom l plan (wthR l) 1099511627776 []
theorem drop_getD' {α : Type} [Inhabited α] {a : List α} {k : Nat} (h : k < a.length) : a.drop k = a.getD k default :: a.drop (k + 1) := by
  rw [List.drop_eq_getElem_cons h, getD_lt _ _ _ h]
theorem V46 {g : Bool × Bool} {plan : List Int} (hv : l.Valid) (hp : AreSites l plan) (hpl : plan.length ≤ 100) :
    ∃ b : Bool, ∀ {Q : V → Prop}, CallP tab 46 [landV g1 g2 l, .c (L g plan)] Q ↔ Q (.tup [.c (.int .i64 (refSure l plan).1), .c (L (b, false) (refSure l plan).2.1), .c (.bool (refSure l plan).2.2)]) := by
  suffices h : ∃ b : Bool, CallP tab 46 [landV g1 g2 l, .c (L g plan)] (Eq (.tup [.c (.int .i64 (refSure l plan).1), .c (L (b, false) (refSure l plan).2.1), .c (.bool (refSure l plan).2.2)])) by
    obtain ⟨b, v, hval, rfl⟩ := h
    exact ⟨b, CallP_of hval⟩
  suffices h : CallP tab 46 [landV g1 g2 l, .c (L g plan)] (fun v => ∃ b : Bool, v = (.tup [.c (.int .i64 (refSure l plan).1), .c (L (b, false) (refSure l plan).2.1), .c (.bool (refSure l plan).2.2)])) by
    obtain ⟨v, hval, b, rfl⟩ := h
    exact ⟨b, _, hval, rfl⟩
  refine CallP_X (fn := f46) rfl ?_
  simp only [go_sem, f46, P70 hv]
  refine RX_whileU (α := Nat × Int × Bool × List Int) (fun x => [(7, .c (.int .i64 x.2.1)), (8, .c (L (x.2.2.1, false) x.2.2.2)), (10, .c (.int .i64 x.1))]) (fun _ => [.cells [.int .i64 l.last, .int .i64 l.home, .int .i64 l.purse, .int .i64 l.bad, .int .i64 l.rest, L g1 l.sites, L g2 l.roads]]) (fun x => x.1 ≤ (wthR l).length ∧ x.2.2.2.length ≤ 5 ∧ refSureFrom l plan ((wthR l).drop x.1) x.2.1 x.2.2.2 = refSure l plan) (fun x => (wthR l).length - x.1) (0, 1099511627776, true, []) ⟨Nat.zero_le _, by simp, rfl⟩ (by simp only [go_sem] <;> rfl) ?_
  rintro ⟨k, best, b, worst⟩ ⟨hk, hwl, hP⟩
  simp only at hk hwl hP
  by_cases h1 : k < (wthR l).length
  · have hml : ((wthR l).getD k default).length ≤ 5 := wthR_len (by rw [getD_lt _ _ _ h1]; exact List.getElem_mem _)
    have hmB : ((wthR l).getD k default).length < Big := Nat.lt_of_le_of_lt hml (by decide)
    have hwB : worst.length < Big := Nat.lt_of_le_of_lt hwl (by decide)
    rw [drop_getD' h1, refSureFrom] at hP
    cases hfa : failAt l ((wthR l).getD k default) plan with
    | some y =>
      simp only [hfa] at hP
      simp only [go_sem, h1, atI_nat, P25 (ws := (wthR l).getD k default) hv hp hpl hmB, hfa, ← hP]
      exact ⟨true, rfl⟩
    | none =>
      simp only [hfa] at hP
      have P69' : ∀ {g : Bool × Bool} {Q : V → Prop}, CallP tab 69 [landV g1 g2 l, .c (L g ((List.range plan.length).map (yrAt l ((wthR l).getD k default) plan)))] Q ↔ Q (.c (.int .i64 (stAt l ((wthR l).getD k default) plan plan.length).money)) := by
        intro g Q
        rw [P69 (by simpa using Nat.lt_of_le_of_lt hpl (by decide)), moneyL_play]
      simp only [go_sem, h1, atI_nat, P25 (ws := (wthR l).getD k default) hv hp hpl hmB, hfa, P69', P71 hmB hwB]
      have hwk : IntKind.i64.wrap ((k : Int) + 1) = ((k + 1 : Nat) : Int) := wrap_succ (n := 1000) (by have := wthR_num hv; omega) (by decide)
      generalize hN : IntKind.i64.wrap ((stAt l ((wthR l).getD k default) plan plan.length).money - l.purse) = N at hP
      refine ⟨fun n1 => ⟨fun n2 => ⟨fun n3 => ?_, fun n3 => ?_⟩, fun n2 => ?_⟩, fun n1 => ?_⟩
      · rw [if_pos (.inr ⟨n2, n3⟩)] at hP
        exact ⟨(k + 1, N, false, _), ⟨by simp only; omega, h1, hml, hP⟩, rfl, rfl, hwk⟩
      · rw [if_neg (fun h => by rcases h with h | h; exact n1 h; rw [n3] at h; cases h.2)] at hP
        exact ⟨(k + 1, best, b, worst), ⟨by simp only; omega, h1, hwl, hP⟩, rfl, rfl, hwk⟩
      · rw [if_neg (fun h => by rcases h with h | h; exact n1 h; exact n2 h.1)] at hP
        exact ⟨(k + 1, best, b, worst), ⟨by simp only; omega, h1, hwl, hP⟩, rfl, rfl, hwk⟩
      · rw [if_pos (.inl n1)] at hP
        exact ⟨(k + 1, N, false, _), ⟨by simp only; omega, h1, hml, hP⟩, rfl, rfl, hwk⟩
  · have : k = (wthR l).length := by omega
    subst this
    simp only [go_sem, h1]
    rw [List.drop_of_length_le (Nat.le_refl _), refSureFrom] at hP
    exact ⟨b, by rw [← hP], by rw [← hP], by rw [← hP]⟩
end Am.Mv
namespace Am.Mv
open Go Am
set_option maxRecDepth 100000
set_option maxHeartbeats 4000000
set_option linter.unusedSimpArgs false
set_option linter.unusedVariables false
variable {l : Land}
theorem atI_mem {α : Type} [Inhabited α] {a : List α} {i : Int} (h0 : 0 ≤ i) (h1 : i < a.length) : atI a i ∈ a := by
  unfold atI; rw [getD_lt _ _ _ (by omega)]; exact List.getElem_mem _
theorem cost_val (hv : l.Valid) {a b : Int} (a0 : 0 ≤ a) (a1 : a < l.sites.length) (b0 : 0 ≤ b) (b1 : b < l.sites.length) : costOf l.sites l.roads a b = roadAt l.roads a b + (atI l.sites b).rent ∧ 0 ≤ roadAt l.roads a b ∧ roadAt l.roads a b ≤ 99 ∧ 0 ≤ (atI l.sites b).rent ∧ (atI l.sites b).rent ≤ 99 := by
  have hr := hv.roads
  have h1 := (hv.road (atI l.roads a) (atI_mem a0 (by omega)))
  have h2 := h1.2 (atI (atI l.roads a) b) (atI_mem b0 (by rw [h1.1]; exact b1))
  have h3 := hv.site (atI l.sites b) (atI_mem b0 b1)
  refine ⟨?_, h2.1, h2.2, h3.2.2.2.1, h3.2.2.2.2⟩
  unfold costOf
  have : roadAt l.roads a b = atI (atI l.roads a) b := rfl
  rw [wrapB (by omega) (by omega)]
theorem crop_val (hv : l.Valid) {b : Int} (t : Int) (b0 : 0 ≤ b) (b1 : b < l.sites.length) : 0 ≤ cropOf (atI l.sites b) t ∧ cropOf (atI l.sites b) t ≤ 99 ∧ cropB (atI l.sites b) t true = cropOf (atI l.sites b) t / 2 ∧ cropB (atI l.sites b) t false = cropOf (atI l.sites b) t := by
  have h3 := hv.site (atI l.sites b) (atI_mem b0 b1)
  have h4 : 0 ≤ cropOf (atI l.sites b) t ∧ cropOf (atI l.sites b) t ≤ 99 := by
    unfold cropOf
    split
    · omega
    · split <;> omega
  refine ⟨h4.1, h4.2, ?_, rfl⟩
  show IntKind.i64.wrap ((cropOf (atI l.sites b) t).tdiv 2) = _
  rw [Int.tdiv_eq_ediv_of_nonneg h4.1, wrapB (by omega) (by omega)]
theorem cropB_val (hv : l.Valid) {b : Int} (t : Int) (c : Bool) (b0 : 0 ≤ b) (b1 : b < l.sites.length) : 0 ≤ cropB (atI l.sites b) t c ∧ cropB (atI l.sites b) t c ≤ 99 := by
  obtain ⟨h1, h2, h3, h4⟩ := crop_val hv t b0 b1
  cases c
  · rw [h4]; exact ⟨h1, h2⟩
  · rw [h3]; omega
theorem plan_at {plan : List Int} (hp : AreSites l plan) {k : Nat} (hk : k < plan.length) : 0 ≤ plan.getD k default ∧ plan.getD k default < l.sites.length := by
  rw [getD_lt _ _ _ hk]; exact hp _ (List.getElem_mem _)
/-- what a year brings, without wrapping -/
theorem money_next (hv : l.Valid) {ws plan : List Int} (hp : AreSites l plan) (hpl : plan.length ≤ 100) : ∀ k : Nat, k ≤ plan.length → (∀ i, i < k → canAt l ws plan i = true) → 0 ≤ (stAt l ws plan k).money ∧ (stAt l ws plan k).money ≤ l.purse + 99 * k ∧ ∀ i, i < k → (stAt l ws plan (i + 1)).money = (stAt l ws plan i).money - (yrAt l ws plan i).cost + (yrAt l ws plan i).crop ∧ 0 ≤ (yrAt l ws plan i).cost ∧ (yrAt l ws plan i).cost ≤ (stAt l ws plan i).money ∧ 0 ≤ (yrAt l ws plan i).crop ∧ (yrAt l ws plan i).crop ≤ 99 ∧ 0 ≤ (stAt l ws plan i).money
  | 0, _, _ => ⟨hv.purse0, by show l.purse ≤ _; omega, fun i h => absurd h (by omega)⟩
  | k + 1, hk, hc => by
    have p1 := hv.purse1
    obtain ⟨m0, m1, hi⟩ := money_next hv hp hpl k (by omega) (fun i h => hc i (by omega))
    obtain ⟨s0, s1⟩ := stAt_site hv (bad := ws) hp k (by omega)
    obtain ⟨b0, b1⟩ := plan_at hp (k := k) (by omega)
    obtain ⟨c1, c2, c3, c4, c5⟩ := cost_val hv s0 s1 b0 b1
    obtain ⟨d0, d1⟩ := cropB_val hv ((stAt l ws plan k).so.taken (plan.getD k default)) (decide ((k : Int) ∈ ws)) b0 b1
    have hcan : costOf l.sites l.roads (stAt l ws plan k).site (plan.getD k default) ≤ (stAt l ws plan k).money := of_decide_eq_true (hc k (by omega))
    have e1 : (yrAt l ws plan k).cost = costOf l.sites l.roads (stAt l ws plan k).site (plan.getD k default) := rfl
    have e2 : (yrAt l ws plan k).crop = cropB (atI l.sites (plan.getD k default)) ((stAt l ws plan k).so.taken (plan.getD k default)) (decide ((k : Int) ∈ ws)) := rfl
    have e3 : (stAt l ws plan (k + 1)).money = IntKind.i64.wrap (IntKind.i64.wrap ((stAt l ws plan k).money - (yrAt l ws plan k).cost) + (yrAt l ws plan k).crop) := rfl
    have hk' : (k : Int) ≤ 100 := by omega
    have e4 : (stAt l ws plan (k + 1)).money = (stAt l ws plan k).money - (yrAt l ws plan k).cost + (yrAt l ws plan k).crop := by
      rw [e3, wrapB (n := (stAt l ws plan k).money - (yrAt l ws plan k).cost) (by omega) (by omega), wrapB (by omega) (by omega)]
    refine ⟨by omega, by omega, fun i h => ?_⟩
    by_cases hik : i < k
    · exact hi i hik
    · have : i = k := by omega
      subst this
      exact ⟨e4, by omega, by omega, by omega, by omega, m0⟩
def prof (l : Land) (plan ws : List Int) : Int := (stAt l ws plan plan.length).money - l.purse
theorem prof_val (hv : l.Valid) {ws plan : List Int} (hp : AreSites l plan) (hpl : plan.length ≤ 100) (hf : failAt l ws plan = none) : IntKind.i64.wrap ((stAt l ws plan plan.length).money - l.purse) = prof l plan ws ∧ -999 ≤ prof l plan ws ∧ prof l plan ws ≤ 9900 := by
  obtain ⟨m0, m1, _⟩ := money_next hv (ws := ws) hp hpl plan.length (Nat.le_refl _) (failAt_none.1 hf)
  have p1 := hv.purse1
  have p0 := hv.purse0
  have e : prof l plan ws = (stAt l ws plan plan.length).money - l.purse := rfl
  exact ⟨wrapB (by omega) (by omega), by omega, by omega⟩

/-! the weathers of both texts -/
def combW (last bad : Int) : List (List Int) := (List.range (bad + 1).toNat).flatMap fun m => comb last m [] 0
def bitsW (last bad : Int) : List (List Int) := ((List.range (2 ^ (last + 1).toNat)).map bitsL).filter fun b => decide ((b.length : Int) ≤ bad)
def sorted : List (List Int) → Bool
  | [] => true
  | a :: l => l.all (fun b => shorterL a b && !shorterL b a) && sorted l
def sameW (last bad : Int) : Bool := sorted (combW last bad) && (combW last bad).all (fun w => (bitsW last bad).contains w) && (bitsW last bad).all (fun w => (combW last bad).contains w) && (combW last bad).contains [] && (bitsW last bad).contains []
theorem sameW_all : (List.range 5).all (fun last => (List.range (last + 2)).all fun bad => sameW (last : Int) (bad : Int)) = true := by decide +kernel
theorem sameW_of (hv : l.Valid) : sameW l.last l.bad = true := by
  have h1 := (List.all_eq_true.1 sameW_all) l.last.toNat (by have := hv.last4; have := hv.last0; simp; omega)
  have h2 := (List.all_eq_true.1 h1) l.bad.toNat (by have := hv.bad1; have := hv.bad0; have := hv.last0; simp; omega)
  rwa [show ((l.last.toNat : Nat) : Int) = l.last by have := hv.last0; omega, show ((l.bad.toNat : Nat) : Int) = l.bad by have := hv.bad0; omega] at h2
theorem wth_sorted (hv : l.Valid) : sorted (weathersL l) = true := by
  have := sameW_of hv
  simp only [sameW, Bool.and_eq_true] at this
  exact this.1.1.1.1
theorem wth_mem (hv : l.Valid) (w : List Int) : w ∈ weathersL l ↔ w ∈ wthR l := by
  have := sameW_of hv
  simp only [sameW, Bool.and_eq_true, List.all_eq_true, List.contains_iff_mem] at this
  exact ⟨this.1.1.1.2 w, this.1.1.2 w⟩
theorem wth_nil (hv : l.Valid) : [] ∈ weathersL l := by
  have := sameW_of hv
  simp only [sameW, Bool.and_eq_true, List.all_eq_true, List.contains_iff_mem] at this
  exact this.1.2
theorem wth_any (hv : l.Valid) {a b : List Int} (ha : a ∈ weathersL l) (hb : b ∈ weathersL l) : a = b ∨ (shorterL a b = true ∧ shorterL b a = false) ∨ (shorterL b a = true ∧ shorterL a b = false) := by
  have key : ∀ W : List (List Int), sorted W = true → a ∈ W → b ∈ W → a = b ∨ (shorterL a b = true ∧ shorterL b a = false) ∨ (shorterL b a = true ∧ shorterL a b = false) := by
    intro W
    induction W with
    | nil => intro _ h; cases h
    | cons c W ih =>
      intro hs h1 h2
      simp only [sorted, Bool.and_eq_true, List.all_eq_true, Bool.not_eq_true'] at hs
      rcases List.mem_cons.1 h1 with rfl | h1'
      · rcases List.mem_cons.1 h2 with rfl | h2'
        · exact .inl rfl
        · exact .inr (.inl (hs.1 b h2'))
      · rcases List.mem_cons.1 h2 with rfl | h2'
        · exact .inr (.inr (hs.1 a h1'))
        · exact ih hs.2 h1' h2'
  exact key _ (wth_sorted hv) ha hb
/-- what both texts mean by a plan's sure profit -/
structure IsSure (l : Land) (plan : List Int) (r : Int × List Int × Bool) : Prop where
  no : r.2.2 = false → ∃ w ∈ weathersL l, failAt l w plan ≠ none
  yes : r.2.2 = true → (∀ w ∈ weathersL l, failAt l w plan = none) ∧ r.2.1 ∈ weathersL l ∧ r.1 = prof l plan r.2.1 ∧ ∀ w ∈ weathersL l, r.1 < prof l plan w ∨ (r.1 = prof l plan w ∧ shorterL w r.2.1 = false)
theorem IsSure.same (hv : l.Valid) {plan : List Int} {r s : Int × List Int × Bool} (hr : IsSure l plan r) (hs : IsSure l plan s) : r.2.2 = s.2.2 ∧ (r.2.2 = true → r = s) := by
  obtain ⟨p, w, c⟩ := r
  obtain ⟨p', w', c'⟩ := s
  cases c with
  | false =>
    cases c' with
    | false => exact ⟨rfl, fun h => by cases h⟩
    | true =>
      obtain ⟨x, h1, h2⟩ := hr.no rfl
      exact absurd ((hs.yes rfl).1 x h1) h2
  | true =>
    cases c' with
    | false =>
      obtain ⟨x, h1, h2⟩ := hs.no rfl
      exact absurd ((hr.yes rfl).1 x h1) h2
    | true =>
      refine ⟨rfl, fun _ => ?_⟩
      obtain ⟨_, a1, a2, a3⟩ := hr.yes rfl
      obtain ⟨_, b1, b2, b3⟩ := hs.yes rfl
      simp only at a1 a2 a3 b1 b2 b3
      have c1 := a3 w' b1
      have c2 := b3 w a1
      have hp : p = p' := by omega
      have d1 : shorterL w' w = false := by rcases c1 with h | h; omega; exact h.2
      have d2 : shorterL w w' = false := by rcases c2 with h | h; omega; exact h.2
      rcases wth_any hv a1 b1 with h | h | h
      · rw [hp, h]
      · rw [d2] at h; cases h.1
      · rw [d1] at h; cases h.1
end Am.Mv
namespace Am.Mv
open Go Am
set_option maxRecDepth 100000
set_option maxHeartbeats 4000000
set_option linter.unusedSimpArgs false
set_option linter.unusedVariables false
variable {l : Land}
theorem beforeL_irr : ∀ a : List Int, beforeL a a = false
  | [] => rfl
  | x :: a => by simp [beforeL, beforeL_irr a]
theorem beforeL_trans : ∀ a b c : List Int, beforeL a b = true → beforeL b c = true → beforeL a c = true
  | [], b, c, h1, h2 => by
    cases b with
    | nil => exact h2
    | cons y b =>
      cases c with
      | nil => cases h2
      | cons z c => simp [beforeL]
  | x :: a, [], c, h1, h2 => by cases h1
  | x :: a, y :: b, [], h1, h2 => by cases h2
  | x :: a, y :: b, z :: c, h1, h2 => by
    simp only [beforeL] at h1 h2 ⊢
    by_cases e1 : x = y
    · by_cases e2 : y = z
      · subst e1; subst e2
        simp only [if_true] at h1 h2 ⊢
        exact beforeL_trans a b c h1 h2
      · subst e1
        rw [if_neg e2] at h2 ⊢
        exact h2
    · rw [if_neg e1] at h1
      by_cases e2 : y = z
      · subst e2; rw [if_neg e1]; exact h1
      · rw [if_neg e2] at h2
        simp only [decide_eq_true_eq] at h1 h2
        rw [if_neg (by omega)]
        exact decide_eq_true (by omega)
theorem shorterL_irr (a : List Int) : shorterL a a = false := by simp [shorterL, beforeL_irr]
theorem shorterL_trans {a b c : List Int} (h1 : shorterL a b = true) (h2 : shorterL b c = true) : shorterL a c = true := by
  simp only [shorterL, Bool.or_eq_true, Bool.and_eq_true, decide_eq_true_eq] at *
  rcases h1 with h1 | ⟨h1, h1'⟩
  · rcases h2 with h2 | ⟨h2, h2'⟩ <;> exact .inl (by omega)
  · rcases h2 with h2 | ⟨h2, h2'⟩
    · exact .inl (by omega)
    · exact .inr ⟨by omega, beforeL_trans _ _ _ h1' h2'⟩
theorem shorterL_asymm {a b : List Int} (h1 : shorterL a b = true) : shorterL b a = false := by
  cases h : shorterL b a with
  | false => rfl
  | true => have := shorterL_trans h1 h; rw [shorterL_irr] at this; cases this
theorem sureStep_val (hv : l.Valid) {plan w : List Int} (hp : AreSites l plan) (hpl : plan.length ≤ 100) (s : Int × List Int × Bool) :
    sureStep l plan s w = if failAt l w plan = none then (if s.2.2 = false ∨ prof l plan w < s.1 then ((prof l plan w, w, true), true) else (s, true)) else ((s.1, s.2.1, false), false) := by
  unfold sureStep
  cases h : failAt l w plan with
  | some k => rfl
  | none => rw [if_pos rfl]; simp only [(prof_val hv hp hpl h).1]
theorem sureL_go (hv : l.Valid) {plan : List Int} (hp : AreSites l plan) (hpl : plan.length ≤ 100) : ∀ (W : List (List Int)) (s : Int × List Int × Bool), sorted W = true →
    (s.2.2 = true → ∀ w ∈ W, shorterL w s.2.1 = false) → 
    (((foldY (sureStep l plan) s W).1.2.2 = false → (s.2.2 = false ∧ W = []) ∨ ∃ w ∈ W, failAt l w plan ≠ none) ∧
    ((foldY (sureStep l plan) s W).1.2.2 = true → (∀ w ∈ W, failAt l w plan = none) ∧
      ((s.2.2 = true ∧ (foldY (sureStep l plan) s W).1 = s) ∨ ((foldY (sureStep l plan) s W).1.2.1 ∈ W ∧ (foldY (sureStep l plan) s W).1.1 = prof l plan (foldY (sureStep l plan) s W).1.2.1 ∧ (s.2.2 = true → (foldY (sureStep l plan) s W).1.1 < s.1))) ∧
      ∀ w ∈ W, (foldY (sureStep l plan) s W).1.1 < prof l plan w ∨ ((foldY (sureStep l plan) s W).1.1 = prof l plan w ∧ shorterL w (foldY (sureStep l plan) s W).1.2.1 = false)))
  | [], s, _, _ => by
    simp only [foldY]
    exact ⟨fun h => .inl ⟨h, trivial⟩, fun h => ⟨by simp, .inl ⟨h, trivial⟩, by simp⟩⟩
  | w :: W, s, hs, hw => by
    simp only [sorted, Bool.and_eq_true, List.all_eq_true, Bool.not_eq_true'] at hs
    have hirr := shorterL_irr w
    simp only [foldY, sureStep_val hv hp hpl]
    by_cases hf : failAt l w plan = none
    · simp only [if_pos hf]
      by_cases hc : s.2.2 = false ∨ prof l plan w < s.1
      · simp only [if_pos hc, if_true]
        obtain ⟨i1, i2⟩ := sureL_go hv hp hpl W (prof l plan w, w, true) hs.2 (fun _ x hx => (hs.1 x hx).2)
        refine ⟨fun h => ?_, fun h => ?_⟩
        · rcases i1 h with ⟨h, _⟩ | ⟨x, h1, h2⟩
          · cases h
          · exact .inr ⟨x, List.mem_cons_of_mem _ h1, h2⟩
        · obtain ⟨j1, j2, j3⟩ := i2 h
          refine ⟨fun x hx => ?_, .inr ?_, fun x hx => ?_⟩
          · rcases List.mem_cons.1 hx with rfl | hx
            · exact hf
            · exact j1 x hx
          · rcases j2 with ⟨_, j2⟩ | ⟨j2, j4, j5⟩
            · rw [j2]
              exact ⟨List.mem_cons_self, rfl, fun h => by rcases hc with hc | hc; rw [h] at hc; cases hc; exact hc⟩
            · exact ⟨List.mem_cons_of_mem _ j2, j4, fun h => by rcases hc with hc | hc; rw [h] at hc; cases hc; have := j5 rfl; simp only at this; omega⟩
          · rcases List.mem_cons.1 hx with rfl | hx
            · rcases j2 with ⟨_, j2⟩ | ⟨j2, j4, j5⟩
              · rw [j2]; exact .inr ⟨rfl, hirr⟩
              · exact .inl (j5 rfl)
            · exact j3 x hx
      · simp only [if_neg hc, if_true]
        have hst : s.2.2 = true := by
          cases h : s.2.2 with
          | true => rfl
          | false => exact absurd (.inl h) hc
        have hge : s.1 ≤ prof l plan w := by
          by_cases h : prof l plan w < s.1
          · exact absurd (.inr h) hc
          · omega
        obtain ⟨i1, i2⟩ := sureL_go hv hp hpl W s hs.2 (fun h x hx => hw h x (List.mem_cons_of_mem _ hx))
        refine ⟨fun h => ?_, fun h => ?_⟩
        · rcases i1 h with ⟨h, _⟩ | ⟨x, h1, h2⟩
          · rw [hst] at h; cases h
          · exact .inr ⟨x, List.mem_cons_of_mem _ h1, h2⟩
        · obtain ⟨j1, j2, j3⟩ := i2 h
          refine ⟨fun x hx => ?_, ?_, fun x hx => ?_⟩
          · rcases List.mem_cons.1 hx with rfl | hx
            · exact hf
            · exact j1 x hx
          · rcases j2 with j2 | ⟨j2, j4, j5⟩
            · exact .inl j2
            · exact .inr ⟨List.mem_cons_of_mem _ j2, j4, j5⟩
          · rcases List.mem_cons.1 hx with rfl | hx
            · rcases j2 with ⟨_, j2⟩ | ⟨j2, j4, j5⟩
              · rw [j2]
                by_cases he : s.1 = prof l plan x
                · exact .inr ⟨he, hw hst x List.mem_cons_self⟩
                · exact .inl (by omega)
              · exact .inl (by have := j5 hst; omega)
            · exact j3 x hx
    · simp only [if_neg hf, Bool.false_eq_true, if_false]
      exact ⟨fun _ => .inr ⟨w, List.mem_cons_self, hf⟩, fun h => by cases h⟩
theorem sureL_is (hv : l.Valid) {plan : List Int} (hp : AreSites l plan) (hpl : plan.length ≤ 100) : IsSure l plan (sureL l plan) := by
  obtain ⟨i1, i2⟩ := sureL_go hv hp hpl (weathersL l) (0, [], false) (wth_sorted hv) (fun h => by cases h)
  refine ⟨fun h => ?_, fun h => ?_⟩
  · rcases i1 h with ⟨_, h⟩ | h
    · have := wth_nil hv
      rw [h] at this; cases this
    · exact h
  · obtain ⟨j1, j2, j3⟩ := i2 h
    rcases j2 with ⟨j2, _⟩ | ⟨j2, j4, _⟩
    · cases j2
    · exact ⟨j1, j2, j4, j3⟩
theorem refSure_go (hv : l.Valid) {plan : List Int} (hp : AreSites l plan) (hpl : plan.length ≤ 100) : ∀ (W : List (List Int)) (best : Int) (worst : List Int), (∀ w ∈ W, w ∈ weathersL l) →
    (best = 1099511627776 ∨ (worst ∈ weathersL l ∧ best = prof l plan worst)) →
    (((refSureFrom l plan W best worst).2.2 = false → ∃ w ∈ W, failAt l w plan ≠ none) ∧
    ((refSureFrom l plan W best worst).2.2 = true → (∀ w ∈ W, failAt l w plan = none) ∧
      ((refSureFrom l plan W best worst).1 = best ∧ (refSureFrom l plan W best worst).2.1 = worst ∨ ((refSureFrom l plan W best worst).2.1 ∈ W ∧ (refSureFrom l plan W best worst).1 = prof l plan (refSureFrom l plan W best worst).2.1 ∧ ((refSureFrom l plan W best worst).1 < best ∨ ((refSureFrom l plan W best worst).1 = best ∧ shorterL (refSureFrom l plan W best worst).2.1 worst = true)))) ∧
      ∀ w ∈ W, (refSureFrom l plan W best worst).1 < prof l plan w ∨ ((refSureFrom l plan W best worst).1 = prof l plan w ∧ shorterL w (refSureFrom l plan W best worst).2.1 = false)))
  | [], best, worst, _, _ => by
    simp only [refSureFrom]
    simp
  | w :: W, best, worst, hW, hb => by
    simp only [refSureFrom]
    cases hf : failAt l w plan with
    | some k =>
      simp only
      exact ⟨fun _ => ⟨w, List.mem_cons_self, by rw [hf]; simp⟩, fun h => by cases h⟩
    | none =>
      obtain ⟨e1, e2, e3⟩ := prof_val hv hp hpl hf
      simp only [e1]
      have hw := hW w List.mem_cons_self
      by_cases hc : prof l plan w < best ∨ (prof l plan w = best ∧ shorterL w worst = true)
      · simp only [if_pos hc]
        obtain ⟨i1, i2⟩ := refSure_go hv hp hpl W (prof l plan w) w (fun x hx => hW x (List.mem_cons_of_mem _ hx)) (.inr ⟨hw, rfl⟩)
        refine ⟨fun h => ?_, fun h => ?_⟩
        · obtain ⟨x, h1, h2⟩ := i1 h
          exact ⟨x, List.mem_cons_of_mem _ h1, h2⟩
        · obtain ⟨j1, j2, j3⟩ := i2 h
          refine ⟨fun x hx => ?_, .inr ?_, fun x hx => ?_⟩
          · rcases List.mem_cons.1 hx with rfl | hx
            · exact hf
            · exact j1 x hx
          · rcases j2 with ⟨j2, j4⟩ | ⟨j2, j4, j5⟩
            · rw [j2, j4]; exact ⟨List.mem_cons_self, rfl, hc⟩
            · refine ⟨List.mem_cons_of_mem _ j2, j4, ?_⟩
              rcases j5 with j5 | ⟨j5, j6⟩
              · exact .inl (by omega)
              · rcases hc with hc | ⟨hc, hc'⟩
                · exact .inl (by omega)
                · exact .inr ⟨by omega, shorterL_trans j6 hc'⟩
          · rcases List.mem_cons.1 hx with rfl | hx
            · rcases j2 with ⟨j2, j4⟩ | ⟨j2, j4, j5⟩
              · rw [j2, j4]; exact .inr ⟨rfl, shorterL_irr _⟩
              · rcases j5 with j5 | ⟨j5, j6⟩
                · exact .inl j5
                · exact .inr ⟨j5, shorterL_asymm j6⟩
            · exact j3 x hx
      · simp only [if_neg hc]
        have hge : best ≤ prof l plan w := by
          by_cases h : prof l plan w < best
          · exact absurd (.inl h) hc
          · omega
        have hsh : best = prof l plan w → shorterL w worst = false := fun h => by
          cases h' : shorterL w worst with
          | false => rfl
          | true => exact absurd (.inr ⟨h.symm, h'⟩) hc
        obtain ⟨i1, i2⟩ := refSure_go hv hp hpl W best worst (fun x hx => hW x (List.mem_cons_of_mem _ hx)) hb
        refine ⟨fun h => ?_, fun h => ?_⟩
        · obtain ⟨x, h1, h2⟩ := i1 h
          exact ⟨x, List.mem_cons_of_mem _ h1, h2⟩
        · obtain ⟨j1, j2, j3⟩ := i2 h
          refine ⟨fun x hx => ?_, ?_, fun x hx => ?_⟩
          · rcases List.mem_cons.1 hx with rfl | hx
            · exact hf
            · exact j1 x hx
          · rcases j2 with j2 | ⟨j2, j4, j5⟩
            · exact .inl j2
            · exact .inr ⟨List.mem_cons_of_mem _ j2, j4, j5⟩
          · rcases List.mem_cons.1 hx with rfl | hx
            · rcases j2 with ⟨j2, j4⟩ | ⟨j2, j4, j5⟩
              · rw [j2, j4]
                by_cases he : best = prof l plan x
                · exact .inr ⟨he, hsh he⟩
                · exact .inl (by omega)
              · rcases j5 with j5 | ⟨j5, j6⟩
                · exact .inl (by omega)
                · rw [j5]
                  by_cases he : best = prof l plan x
                  · refine .inr ⟨he, ?_⟩
                    cases h' : shorterL x (refSureFrom l plan W best worst).2.1 with
                    | false => rfl
                    | true => have := shorterL_trans h' j6; rw [hsh he] at this; cases this
                  · exact .inl (by omega)
            · exact j3 x hx
theorem refSure_is (hv : l.Valid) {plan : List Int} (hp : AreSites l plan) (hpl : plan.length ≤ 100) : IsSure l plan (refSure l plan) := by
  obtain ⟨i1, i2⟩ := refSure_go hv hp hpl (wthR l) 1099511627776 [] (fun w hw => (wth_mem hv w).2 hw) (.inl rfl)
  refine ⟨fun h => ?_, fun h => ?_⟩
  · obtain ⟨w, h1, h2⟩ := i1 h
    exact ⟨w, (wth_mem hv w).2 h1, h2⟩
  · obtain ⟨j1, j2, j3⟩ := i2 h
    refine ⟨fun w hw => j1 w ((wth_mem hv w).1 hw), ?_⟩
    rcases j2 with ⟨j2, _⟩ | ⟨j2, j4, _⟩
    · have h0 := (wth_mem hv []).1 (wth_nil hv)
      have := j3 [] h0
      have hb := prof_val hv hp hpl (j1 [] h0)
      have e : (refSure l plan).1 = 1099511627776 := j2
      have e2 : (refSure l plan).1 < prof l plan [] ∨ ((refSure l plan).1 = prof l plan [] ∧ _) := this
      omega
    · exact ⟨(wth_mem hv _).2 j2, j4, fun w hw => j3 w ((wth_mem hv w).1 hw)⟩
theorem sure_same (hv : l.Valid) {plan : List Int} (hp : AreSites l plan) (hpl : plan.length ≤ 100) : (sureL l plan).2.2 = (refSure l plan).2.2 ∧ ((sureL l plan).2.2 = true → sureL l plan = refSure l plan) :=
  (sureL_is hv hp hpl).same hv (refSure_is hv hp hpl)
end Am.Mv
namespace Am.Mv
open Go Am
set_option maxRecDepth 100000
set_option maxHeartbeats 4000000
set_option linter.unusedSimpArgs false
set_option linter.unusedVariables false
variable {l : Land} {g1 g2 : Bool × Bool}
theorem P17 {Q : V → Prop} : CallP tab 17 [] Q ↔ Q (.c (.bool true)) := CallP_of awake_val
theorem MoveSures_val {g3 : Bool × Bool} {plan : List Int} {profit : Int} : Val tab 14 [landV g1 g2 l, .c (L g3 plan), .c (.int .i64 profit)] (.c (.bool true)) := by
  refine Val_X (fn := f14) rfl ?_
  by_cases ht : thin l = true
  · have hs := thin_small ht
    by_cases h1 : (plan.length : Int) > 8
    · simp only [go_sem, f14, P16, ht, h1, P17]
    have hp : plan.length ≤ 1000 := by omega
    have hp' : plan.length < Big := Nat.lt_of_le_of_lt hp (by decide)
    obtain ⟨b, P39⟩ := V39 (l := l) (g1 := (false, false)) (g2 := (false, false)) (g3 := (false, false)) hs.fits hp'
    by_cases h0 : checkLand l = 0
    · have hv := valid_of h0
      by_cases hip : isPlan l plan = true
      · obtain ⟨h2, h3, _⟩ := plan_len h0 hip
        obtain ⟨b', P46⟩ := V46 (g1 := g1) (g2 := g2) (g := g3) hv h2 h3
        obtain ⟨e1, e2⟩ := sure_same hv h2 h3
        cases hc : (sureL l plan).2.2 with
        | false =>
          rw [hc] at e1
          simp only [go_sem, f14, P16, ht, h1, P17, P19 hs, P20 hp, P39, P45 hs.fits hp', P21 hs.fits, P23 hs.fits.sites hp', SureR, proves, h0, hip, hc, P46, ← e1]
        | true =>
          rw [hc] at e1
          rw [← e2 hc] at P46
          have hwl : (sureL l plan).2.1.length < Big := by
            have := ((sureL_is hv h2 h3).yes hc).2.1
            exact Nat.lt_of_le_of_lt (wthR_len ((wth_mem hv _).1 this)) (by decide)
          simp only [go_sem, f14, P16, ht, h1, P17, P19 hs, P20 hp, P39, P45 hs.fits hp', P21 hs.fits, P23 hs.fits.sites hp', SureR, proves, h0, hip, hc, P46, P31 hwl, ge_iff_le]
      · simp only [go_sem, f14, P16, ht, h1, P17, P19 hs, P20 hp, P39, P45 hs.fits hp', P21 hs.fits, P23 hs.fits.sites hp', SureR, proves, h0, hip]
    · simp only [go_sem, f14, P16, ht, h1, P17, P19 hs, P20 hp, P39, P45 hs.fits hp', P21 hs.fits, SureR, proves, h0]
  · simp only [go_sem, f14, P16, ht, P17]
end Am.Mv
