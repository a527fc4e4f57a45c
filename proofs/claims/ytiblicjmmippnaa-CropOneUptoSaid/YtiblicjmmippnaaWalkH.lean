/-
  A part of the proof: the texts F1, F2, F3, F4, F5 of this seat, joined.
-/
import Derived.Test.YtiblicjmmippnaaWalkG2
namespace Am.Cr
open Go Am
set_option maxRecDepth 100000
set_option maxHeartbeats 4000000
set_option linter.unusedSimpArgs false
set_option linter.unusedVariables false
variable {g1 g2 g3 g4 g5 : Bool × Bool} {f : Field}
def totK (f : Field) (t : Truth) (plan : List Int) : Nat → Int
  | 0 => 0
  | k + 1 => IntKind.i64.wrap (totK f t plan k + (cropAt f t plan k).worth)
theorem totK_eq {t : Truth} {plan : List Int} : ∀ k, ((List.range k).map (cropAt f t plan)).foldl (fun s c => IntKind.i64.wrap (s + c.worth)) 0 = totK f t plan k
  | 0 => rfl
  | k + 1 => by rw [List.range_succ, List.map_append, List.foldl_append, totK_eq k]; rfl
theorem worthI_tot {t : Truth} {plan : List Int} : worthI f t plan = totK f t plan plan.length := totK_eq _
def widen (val : Truth → Int) (r : Rg) (t : Truth) : Rg := ⟨min r.lo (val t), max r.hi (val t)⟩
def wdL (val : Truth → Int) (ts : List Truth) : Rg := ts.foldl (widen val) ⟨1099511627776, -1⟩
theorem wdL_take {val : Truth → Int} {ts : List Truth} {k : Nat} (h : k < ts.length) : wdL val (ts.take (k + 1)) = ⟨min (wdL val (ts.take k)).lo (val (ts.getD k default)), max (wdL val (ts.take k)).hi (val (ts.getD k default))⟩ := by
  unfold wdL
  rw [take_getD h default, List.foldl_append]; rfl
end Am.Cr
namespace Am.Cr
open Go Am
set_option maxRecDepth 100000
set_option maxHeartbeats 4000000
set_option linter.unusedSimpArgs false
set_option linter.unusedVariables false
variable {g1 g2 g3 g4 g5 : Bool × Bool} {f : Field}
end Am.Cr
namespace Am.Cr
open Go Am
set_option maxRecDepth 100000
set_option maxHeartbeats 4000000
set_option linter.unusedSimpArgs false
set_option linter.unusedVariables false
variable {g1 g2 g3 g4 g5 : Bool × Bool} {f : Field}
/-! bits -/
theorem ofInt_nat {a : Nat} (h : a < 2 ^ 29) : (BitVec.ofInt IntKind.i64.bits (a : Int)).toNat = a := by
  rw [BitVec.ofInt_natCast, BitVec.toNat_ofNat]
  exact Nat.mod_eq_of_lt (by show a < 2 ^ 64; omega)
theorem andW {a b : Nat} (ha : a < 2 ^ 29) (hb : b < 2 ^ 29) : IntKind.i64.wrap ((BitVec.ofInt IntKind.i64.bits (a : Int) &&& BitVec.ofInt IntKind.i64.bits (b : Int)).toNat : Int) = ((a &&& b : Nat) : Int) := by
  rw [BitVec.toNat_and, ofInt_nat ha, ofInt_nat hb]
  have : a &&& b ≤ a := Nat.and_le_left
  exact wrapB (by omega) (by omega)
theorem orW {a b : Nat} (ha : a < 2 ^ 29) (hb : b < 2 ^ 29) : IntKind.i64.wrap ((BitVec.ofInt IntKind.i64.bits (a : Int) ||| BitVec.ofInt IntKind.i64.bits (b : Int)).toNat : Int) = ((a ||| b : Nat) : Int) := by
  rw [BitVec.toNat_or, ofInt_nat ha, ofInt_nat hb]
  have : a ||| b < 2 ^ 29 := Nat.or_lt_two_pow ha hb
  exact wrapB (by omega) (by omega)
/-- the bits of a number without those of another one -/
def andn (a b : Nat) : Nat := a &&& (2 ^ 64 - (b + 1))
theorem andn_bit {a b i : Nat} (ha : a < 2 ^ 29) (hb : b < 2 ^ 29) : (andn a b).testBit i = (a.testBit i && !b.testBit i) := by
  unfold andn
  rw [Nat.testBit_and, Nat.testBit_two_pow_sub_succ (by omega)]
  by_cases h : i < 64
  · simp [h]
  · rw [Nat.testBit_lt_two_pow (x := a) (Nat.lt_of_lt_of_le ha (Nat.pow_le_pow_right (by omega) (by omega)))]; simp
theorem andn_le {a b : Nat} : andn a b ≤ a := Nat.and_le_left
theorem andnW {a b : Nat} (ha : a < 2 ^ 29) (hb : b < 2 ^ 29) : IntKind.i64.wrap ((BitVec.ofInt IntKind.i64.bits (a : Int) &&& ~~~ BitVec.ofInt IntKind.i64.bits (b : Int)).toNat : Int) = ((andn a b : Nat) : Int) := by
  rw [BitVec.toNat_and, BitVec.toNat_not, ofInt_nat ha, ofInt_nat hb]
  have e : a &&& 2 ^ IntKind.i64.bits - 1 - b = andn a b := by unfold andn; rw [show (2 : Nat) ^ IntKind.i64.bits = 2 ^ 64 from rfl, Nat.sub_sub, Nat.add_comm 1 b]
  rw [e]
  have : andn a b ≤ a := andn_le
  exact wrapB (by omega) (by omega)
theorem shlW {a k : Nat} (hk : k ≤ 20) (ha : a ≤ 2) : IntKind.i64.wrap ((a : Int) * 2 ^ (min k IntKind.i64.bits)) = ((a * 2 ^ k : Nat) : Int) := by
  have e2 : min k IntKind.i64.bits = k := Nat.min_eq_left (by show k ≤ 64; omega)
  rw [e2]
  have hpw : (a : Int) * 2 ^ k = ((a * 2 ^ k : Nat) : Int) := by simp
  have hpb : 2 ^ k ≤ 2 ^ 20 := Nat.pow_le_pow_right (by omega) hk
  have : a * 2 ^ k ≤ 2 * 2 ^ 20 := Nat.mul_le_mul ha hpb
  rw [hpw]
  generalize a * 2 ^ k = p at this
  exact wrapB (by omega) (by omega)
theorem u64W {k : Nat} (hk : k ≤ 1000) : IntKind.u64.wrap (k : Int) = (k : Int) := by unfold IntKind.wrap; simp [IntKind.signed, IntKind.bits]; omega
/-- those of the first numbers that pass, as bits -/
def maskN (p : Nat → Bool) : Nat → Nat
  | 0 => 0
  | k + 1 => if p k = true then maskN p k ||| 2 ^ k else maskN p k
theorem maskN_lt {p : Nat → Bool} : ∀ {n : Nat}, maskN p n < 2 ^ n
  | 0 => by simp [maskN]
  | k + 1 => by
    have ih := maskN_lt (p := p) (n := k)
    have hk : (2 : Nat) ^ k < 2 ^ (k + 1) := Nat.pow_lt_pow_right (by omega) (by omega)
    simp only [maskN]
    split
    · exact Nat.or_lt_two_pow (by omega) hk
    · omega
theorem maskN_bit {p : Nat → Bool} {i : Nat} : ∀ {n : Nat}, (maskN p n).testBit i = (decide (i < n) && p i)
  | 0 => by simp [maskN]
  | k + 1 => by
    have ih := maskN_bit (p := p) (i := i) (n := k)
    simp only [maskN]
    split
    · rename_i h
      rw [Nat.testBit_or, ih, Nat.testBit_two_pow]
      by_cases hik : i = k
      · subst hik; simp [h]
      · have : (i < k + 1) = (i < k) := by simp; omega
        simp [this, show ¬ k = i from fun h => hik h.symm]
    · rename_i h
      rw [ih]
      by_cases hik : i = k
      · subst hik; simp at h; simp [h]
      · have : (i < k + 1) = (i < k) := by simp; omega
        simp [this]
theorem maskN_full {p : Nat → Bool} {n : Nat} : maskN p n = 2 ^ n - 1 ↔ (List.range n).all p = true := by
  rw [List.all_eq_true]
  constructor
  · intro h i hi
    have hb := maskN_bit (p := p) (i := i) (n := n)
    rw [List.mem_range] at hi
    rw [h, Nat.testBit_two_pow_sub_one] at hb
    simpa [hi] using hb.symm
  · intro h
    refine Nat.eq_of_testBit_eq fun i => ?_
    rw [maskN_bit, Nat.testBit_two_pow_sub_one]
    by_cases hi : i < n
    · simp [h i (List.mem_range.2 hi)]
    · simp [hi]
/-- whether the looks are right in a truth -/
def rightB (f : Field) (t : Truth) : Nat → Bool := rightAt f [] (standing t.growth f.crops)
def maskT (f : Field) (t : Truth) : Nat := maskN (rightB f t) f.looks.length
def allL (f : Field) : List Int := (List.range (prodF f)).map fun n => (maskT f (nthT f n) : Int)
def refTruths (f : Field) : List Truth := ((List.range (prodF f)).filter fun n => decide (maskT f (nthT f n) = 2 ^ f.looks.length - 1)).map (nthT f)
theorem rFull (h5 : f.looks.length ≤ 20) {Q : V → Prop} : CallP tab 37 [fieldV g1 g2 g3 g4 g5 f] Q ↔ Q (.c (.int .i64 (2 ^ f.looks.length - 1 : Nat))) := CallP_of (by
  refine Val_X (fn := f37) rfl ?_
  have e1 := u64W (k := f.looks.length) (by omega)
  have e2 := shlW (a := 1) h5 (by omega)
  have h1 : 1 ≤ 2 ^ f.looks.length := Nat.pow_pos (by omega)
  have h2 : 2 ^ f.looks.length ≤ 2 ^ 20 := Nat.pow_le_pow_right (by omega) h5
  rw [Nat.one_mul] at e2
  have e3 : IntKind.i64.wrap (((2 ^ f.looks.length : Nat) : Int) - 1) = ((2 ^ f.looks.length - 1 : Nat) : Int) := by
    generalize 2 ^ f.looks.length = p at h1 h2
    rw [wrapB (by omega) (by omega)]; omega
  have a0 : ¬ (f.looks.length : Int) < 0 := by omega
  simp only [go_sem, f37, e1, a0]
  rw [show (1 : Int) = ((1 : Nat) : Int) from rfl, e2]
  simp only [go_sem, e3])
end Am.Cr
namespace Am.Cr
open Go Am
set_option maxRecDepth 100000
set_option maxHeartbeats 4000000
set_option linter.unusedSimpArgs false
set_option linter.unusedVariables false
variable {g1 g2 g3 g4 g5 : Bool × Bool} {f : Field}
def fullB (f : Field) (n : Nat) : Bool := decide (maskT f (nthT f n) = 2 ^ f.looks.length - 1)
def trK (f : Field) (k : Nat) : List Truth := ((List.range k).filter (fullB f)).map (nthT f)
theorem trK_succ {k : Nat} : trK f (k + 1) = if fullB f k = true then trK f k ++ [nthT f k] else trK f k := by
  unfold trK
  rw [List.range_succ, List.filter_append, List.map_append]
  by_cases h : fullB f k = true
  · rw [if_pos h]; simp [h]
  · rw [if_neg h]; simp [h]
theorem trK_len {k : Nat} : (trK f k).length ≤ k := by
  unfold trK; rw [List.length_map]; exact Nat.le_trans (List.length_filter_le _ _) (by simp)
theorem refTruths_eq : refTruths f = trK f (prodF f) := rfl
def SureR (f : Field) : V := if checkField f ≠ 0 then .tup [.c .nils, .c (.int .i64 (checkField f))] else if refTruths f = [] then .tup [.c .nils, .c (.int .i64 11)] else .tup [.c (L (false, false) (refTruths f)), .c (.int .i64 0)]
theorem fullB_right {n : Nat} : fullB f n = rightL f [] (standing (nthT f n).growth f.crops) := by
  rw [Bool.eq_iff_iff, fullB, decide_eq_true_eq, maskT, maskN_full]; rfl
theorem mem_refTruths (hv : f.Valid) {t : Truth} : t ∈ refTruths f ↔ t ∈ truthsL f [] := by
  rw [refTruths_eq, trK, truthsL, List.mem_filter, mem_listsA hv, List.mem_map]
  constructor
  · rintro ⟨n, hn, rfl⟩
    rw [List.mem_filter, fullB_right] at hn
    exact ⟨nthT_isT hv, hn.2⟩
  · rintro ⟨h1, h2⟩
    obtain ⟨n, hn, rfl⟩ := isT_nth hv h1
    exact ⟨n, by rw [List.mem_filter, fullB_right]; exact ⟨List.mem_range.2 hn, h2⟩, rfl⟩
theorem refTruths_nil (hv : f.Valid) : refTruths f = [] ↔ truthsL f [] = [] := by
  constructor <;> intro h <;> refine List.eq_nil_iff_forall_not_mem.2 fun t ht => ?_
  · have := (mem_refTruths hv).2 ht; rw [h] at this; cases this
  · have := (mem_refTruths hv).1 ht; rw [h] at this; cases this
theorem refTruths_len (hv : f.Valid) : (refTruths f).length ≤ 2000 := by
  rw [refTruths_eq]
  exact Nat.le_trans trK_len (prodF_le hv).1
theorem refTruths_tok (hv : f.Valid) : ∀ t ∈ refTruths f, TOk f t := fun t ht => by
  have := (mem_refTruths hv).1 ht
  rw [truthsL, List.mem_filter, mem_listsA hv] at this
  exact tok_of hv this.1
/-- the range of all numbers -/
def IsRg (val : Truth → Int) (ts : List Truth) (r : Rg) : Prop := (∃ t ∈ ts, val t = r.lo) ∧ (∃ t ∈ ts, val t = r.hi) ∧ ∀ t ∈ ts, r.lo ≤ val t ∧ val t ≤ r.hi
theorem IsRg.uniq {val : Truth → Int} {ts ts' : List Truth} {r r' : Rg} (h : IsRg val ts r) (h' : IsRg val ts' r') (hm : ∀ t, t ∈ ts ↔ t ∈ ts') : r = r' := by
  obtain ⟨⟨a, a1, a2⟩, ⟨b, b1, b2⟩, c⟩ := h
  obtain ⟨⟨a', a1', a2'⟩, ⟨b', b1', b2'⟩, c'⟩ := h'
  have e1 := c a' ((hm _).2 a1')
  have e2 := c b' ((hm _).2 b1')
  have e3 := c' a ((hm _).1 a1)
  have e4 := c' b ((hm _).1 b1)
  have h1 : r.lo = r'.lo := by omega
  have h2 : r.hi = r'.hi := by omega
  cases r; cases r'; simp_all
theorem widen_IsRg {val : Truth → Int} : ∀ {ts l : List Truth} {r : Rg}, IsRg val l r → IsRg val (l ++ ts) (ts.foldl (widen val) r)
  | [], l, r, h => by rw [List.append_nil]; exact h
  | t :: ts, l, r, h => by
    have := widen_IsRg (val := val) (ts := ts) (l := l ++ [t]) (r := widen val r t) (by
      obtain ⟨⟨a, a1, a2⟩, ⟨b, b1, b2⟩, c⟩ := h
      refine ⟨?_, ?_, ?_⟩
      · by_cases hl : r.lo ≤ val t
        · exact ⟨a, by simp [a1], by simp only [widen]; omega⟩
        · exact ⟨t, by simp, by simp only [widen]; omega⟩
      · by_cases hl : val t ≤ r.hi
        · exact ⟨b, by simp [b1], by simp only [widen]; omega⟩
        · exact ⟨t, by simp, by simp only [widen]; omega⟩
      · intro x hx
        rw [List.mem_append, List.mem_singleton] at hx
        rcases hx with hx | rfl
        · have := c x hx; simp only [widen]; omega
        · simp only [widen]; omega)
    rw [List.append_assoc] at this
    exact this
theorem bdL_fold {val : Truth → Int} : ∀ {ts : List Truth} {r : Rg}, (foldY (bdStep val) (r, false) ts).1.1 = ts.foldl (widen val) r
  | [], r => rfl
  | t :: ts, r => by
    simp only [foldY, bdStep, if_true, List.foldl_cons, widen, Bool.false_eq_true, if_false]
    exact bdL_fold
theorem bdL_IsRg {val : Truth → Int} {ts : List Truth} (h : ts ≠ []) : IsRg val ts (bdL val ts) := by
  cases ts with
  | nil => exact absurd rfl h
  | cons t ts =>
    have e : bdL val (t :: ts) = ts.foldl (widen val) ⟨val t, val t⟩ := by
      unfold bdL
      simp only [foldY, bdStep, if_true]
      rw [bdL_fold]
      congr 2 <;> omega
    rw [e]
    exact widen_IsRg (l := [t]) ⟨⟨t, by simp, rfl⟩, ⟨t, by simp, rfl⟩, fun x hx => by rw [List.mem_singleton] at hx; subst hx; exact ⟨Int.le_refl _, Int.le_refl _⟩⟩
theorem wdL_IsRg {val : Truth → Int} {ts : List Truth} (h : ts ≠ []) (hb : ∀ t ∈ ts, -1 ≤ val t ∧ val t ≤ 1099511627776) : IsRg val ts (wdL val ts) := by
  cases ts with
  | nil => exact absurd rfl h
  | cons t ts =>
    have hb0 := hb t (by simp)
    have e : wdL val (t :: ts) = ts.foldl (widen val) ⟨val t, val t⟩ := by
      unfold wdL
      simp only [List.foldl_cons, widen]
      congr 2 <;> omega
    rw [e]
    exact widen_IsRg (l := [t]) ⟨⟨t, by simp, rfl⟩, ⟨t, by simp, rfl⟩, fun x hx => by rw [List.mem_singleton] at hx; subst hx; exact ⟨Int.le_refl _, Int.le_refl _⟩⟩
theorem wd_bd (hv : f.Valid) {val : Truth → Int} (h : refTruths f ≠ []) (hb : ∀ t ∈ refTruths f, -1 ≤ val t ∧ val t ≤ 1099511627776) : wdL val (refTruths f) = bdL val (truthsL f []) :=
  (wdL_IsRg h hb).uniq (bdL_IsRg fun e => h ((refTruths_nil hv).2 e)) fun _ => mem_refTruths hv
end Am.Cr
namespace Am.Cr
open Go Am
set_option maxRecDepth 100000
set_option maxHeartbeats 4000000
set_option linter.unusedSimpArgs false
set_option linter.unusedVariables false
variable {g1 g2 g3 g4 g5 : Bool × Bool} {f : Field}
theorem crop_bound (hv : f.Valid) {t : Truth} {plan : List Int} (ht : TOk f t) (hp : POk f plan) {i : Nat} (hi : i < plan.length) : 0 ≤ (cropAt f t plan i).weight ∧ (cropAt f t plan i).weight ≤ 500 ∧ 0 ≤ (cropAt f t plan i).worth ∧ (cropAt f t plan i).worth ≤ 100000 := by
  rw [cropAt_eq hv ht hp hi]
  have hpl := hp.l
  have o := onF_bound ht hp hi
  have h1 := less_le (b := decide (t.wet.getD (plan.getD i default).toNat default > 0)) hv.trod.1 hv.trod.2 o.1
  change 0 ≤ wgtF f t plan i ∧ wgtF f t plan i ≤ _ at h1
  have h2 := str_bound hv (plan := plan) (show i < f.base.length by omega)
  have h3 : wgtF f t plan i * strF f plan i ≤ 500 * 200 := Int.mul_le_mul (by omega) (by omega) h2.1 (by omega)
  have h4 : 0 ≤ wgtF f t plan i * strF f plan i := Int.mul_nonneg h1.1 h2.1
  exact ⟨h1.1, Int.le_trans h1.2 o.2.1, h4, h3⟩
theorem totK_bound (hv : f.Valid) {t : Truth} {plan : List Int} (ht : TOk f t) (hp : POk f plan) : ∀ {k : Nat}, k ≤ plan.length → totK f t plan k = sumF (fun i => (cropAt f t plan i).worth) k ∧ 0 ≤ totK f t plan k ∧ totK f t plan k ≤ 100000 * k
  | 0, _ => by simp [totK, sumF]
  | k + 1, hk => by
    obtain ⟨i1, i2, i3⟩ := totK_bound hv ht hp (k := k) (by omega)
    have := crop_bound hv ht hp (i := k) (by omega)
    have hl := hp.len ht.l10
    have e : totK f t plan (k + 1) = totK f t plan k + (cropAt f t plan k).worth := wrapB (by omega) (by omega)
    refine ⟨?_, by omega, by omega⟩
    rw [e, i1]; rfl
theorem worth_bound (hv : f.Valid) {t : Truth} {plan : List Int} (ht : TOk f t) (hp : POk f plan) : worthI f t plan = sumF (fun i => (cropAt f t plan i).worth) plan.length ∧ 0 ≤ worthI f t plan ∧ worthI f t plan ≤ 1000000 := by
  rw [worthI_tot]
  have hl := hp.len ht.l10
  obtain ⟨a, b, c⟩ := totK_bound hv ht hp (Nat.le_refl _)
  exact ⟨a, b, by omega⟩
theorem stand_bound {t : Truth} {plan : List Int} (ht : TOk f t) (hp : POk f plan) {week : Int} (h0 : 0 ≤ week) (h1 : week < f.growth.length) : 0 ≤ atI (standing t.growth plan) week ∧ atI (standing t.growth plan) week ≤ 500 := by
  have l1 := ht.gl
  have l3 := ht.l10
  have hpp : ∀ p ∈ plan, 0 ≤ p := fun p h => (hp.m p h).1
  rw [← standing_eq hp.s hpp h0 (by omega) (by omega), refSt]
  have hfr := fromR_le (plan := plan) h0 hpp
  obtain ⟨a, ha⟩ : ∃ a : Nat, fromR plan week = a := ⟨(fromR plan week).toNat, by omega⟩
  rw [ha, sumG_pre ht.gr (by omega) (by omega)]
  have := pre_bound ht.gr (a := a) (b := a + (week + 1 - (a : Int)).toNat) (by omega) (by omega)
  omega
/-- the error of what is asked -/
theorem askE_ref (hv : f.Valid) (h0 : checkField f = 0) (b : Bool) : askE f b = if b = false then 2 else if refTruths f = [] then 11 else 0 := by
  unfold askE
  rw [if_neg (by rw [h0]; simp)]
  have : (posB f [] = false) ↔ refTruths f = [] := by
    rw [refTruths_nil hv]
    unfold posB; cases truthsL f [] <;> simp
  simp only [this]
theorem askE_bad (h0 : ¬ checkField f = 0) (b : Bool) : askE f b = checkField f := if_pos h0
end Am.Cr
