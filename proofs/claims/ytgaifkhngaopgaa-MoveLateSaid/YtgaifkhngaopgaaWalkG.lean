/-
  A part of the proof: the texts M23, M24, M25, M26 of this seat, joined.
-/
import Derived.Test.YtgaifkhngaopgaaWalkF
namespace Am.Mv
open Go Am
set_option maxRecDepth 100000
set_option maxHeartbeats 4000000
set_option linter.unusedSimpArgs false
set_option linter.unusedVariables false
variable {l : Land} {g1 g2 : Bool × Bool}
/-- the last numbers of a plan, by its number -/
def dig (S : Nat) : Nat → Nat → List Int
  | 0, _ => []
  | k + 1, n => ((n / S ^ k % S : Nat) : Int) :: dig S k n
theorem dig_len (S k n : Nat) : (dig S k n).length = k := by
  induction k with
  | zero => rfl
  | succ k ih => simp [dig, ih]
theorem set_rep {d : List Int} {v : Int} : ∀ m : Nat, (List.replicate (m + 1) (0 : Int) ++ d).set m v = List.replicate m 0 ++ v :: d
  | 0 => rfl
  | m + 1 => by
    have := set_rep (d := d) (v := v) m
    rw [List.replicate_succ, List.cons_append, List.set_cons_succ, this]
    rfl
theorem rem_nat {a b : Nat} : (a : Int).tmod (b : Int) = ((a % b : Nat) : Int) := by
  rw [Int.tmod_eq_emod_of_nonneg (by omega)]; rfl
theorem quo_nat {a b : Nat} (ha : a ≤ 100000) : IntKind.i64.wrap ((a : Int).tdiv (b : Int)) = ((a / b : Nat) : Int) := by
  have h1 : (a : Int).tdiv (b : Int) = ((a / b : Nat) : Int) := by
    rw [Int.tdiv_eq_ediv_of_nonneg (by omega)]; rfl
  have := Nat.div_le_self a b
  rw [h1]
  generalize a / b = c at *
  rw [wrapB (by omega) (by omega)]
theorem moveL_at {plan : List Int} {k : Nat} (h1 : k < plan.length) (hP : ∀ i, i < k → plan.getD i default = l.home) (e : ¬ plan.getD k default = l.home) : moveL l plan = k := by
  have : (List.range plan.length).find? (fun k => plan.getD k default != l.home) = some k := by
    rw [List.find?_range_eq_some]
    exact ⟨by simpa using e, by simpa using h1, fun i hi => by simpa using hP i hi⟩
  simp only [moveL, this]
theorem moveL_end {plan : List Int} (hP : ∀ i, i < plan.length → plan.getD i default = l.home) : moveL l plan = IntKind.i64.wrap (l.last + 1) := by
  have : (List.range plan.length).find? (fun k => plan.getD k default != l.home) = none := by
    rw [List.find?_range_eq_none]
    intro i hi
    simpa using hP i (by omega)
  simp only [moveL, this]
def planN (l : Land) (n : Nat) : List Int := dig l.sites.length (l.last + 1).toNat n
theorem P66 (hv : l.Valid) {n : Nat} (hn : n ≤ 100000) {Q : V → Prop} : CallP tab 66 [landV g1 g2 l, .c (.int .i64 n)] Q ↔ Q (.c (L (false, false) (planN l n))) := CallP_of (by
  refine Val_X (fn := f66) rfl ?_
  have l0 := hv.last0
  have l4 := hv.last4
  have n0 := hv.n0
  have n4 := hv.n4
  have hw : IntKind.i64.wrap (l.last + 1) = l.last + 1 := wrapB (by omega) (by omega)
  have a1 : 0 ≤ l.last + 1 := by omega
  have a2 : (l.last + 1) * 8 ≤ 2 ^ 40 := by omega
  have hrep : List.replicate (l.last + 1).toNat [D.int .i64 0] = (List.replicate (l.last + 1).toNat (0 : Int)).map Row.row := by rw [List.map_replicate]; rfl
  simp only [go_sem, f66, hw, a1, a2, hrep]
  refine RX_for (l.last + 1).toNat (fun k => [(1, .c (.int .i64 ((n / l.sites.length ^ k : Nat) : Int))), (6, .c (.int .i64 (l.last - k)))]) (fun k => [.cells [.int .i64 l.last, .int .i64 l.home, .int .i64 l.purse, .int .i64 l.bad, .int .i64 l.rest, L g1 l.sites, L g2 l.roads], .arr false 0 1 ((List.replicate ((l.last + 1).toNat - k) 0 ++ dig l.sites.length k n).map Row.row)]) (fun k => True) trivial (by simp only [go_sem, dig, Nat.pow_zero, Nat.div_one, List.append_nil, Nat.sub_zero, Int.natCast_zero, Int.sub_zero, Int.cast_ofNat_Int] <;> rfl) ?_
  intro k hk _
  by_cases h1 : k < (l.last + 1).toNat
  · have h2 : l.last - k ≥ 0 := by omega
    have h3 : ¬ (l.sites.length : Int) = 0 := by omega
    have hle : n / l.sites.length ^ k ≤ 100000 := Nat.le_trans (Nat.div_le_self _ _) hn
    have e1 : n / l.sites.length ^ k / l.sites.length = n / l.sites.length ^ (k + 1) := by rw [Nat.div_div_eq_div_mul, Nat.pow_succ]
    have e2 : IntKind.i64.wrap (l.last - k - 1) = l.last - ((k + 1 : Nat) : Int) := by rw [wrapB (by omega) (by omega)]; omega
    have e3 : l.last - (k : Int) = (((l.last + 1).toNat - (k + 1) : Nat) : Int) := by omega
    have e4 : (l.last + 1).toNat - k = ((l.last + 1).toNat - (k + 1)) + 1 := by omega
    have e6 : l.last - (k : Int) < ((l.last + 1).toNat : Int) := by omega
    have e7 : (l.last - (k : Int)).toNat = (l.last + 1).toNat - (k + 1) := by omega
    have hd : dig l.sites.length (k + 1) n = ((n / l.sites.length ^ k % l.sites.length : Nat) : Int) :: dig l.sites.length k n := rfl
    rw [hd, e4]
    have hlen : (l.last + 1).toNat - (k + 1) < (List.replicate ((l.last + 1).toNat - (k + 1) + 1) (0 : Int) ++ dig l.sites.length k n).length := by simp; omega
    have hset := set_rep (d := dig l.sites.length k n) (v := ((n / l.sites.length ^ k % l.sites.length : Nat) : Int)) ((l.last + 1).toNat - (k + 1))
    generalize List.replicate ((l.last + 1).toNat - (k + 1) + 1) (0 : Int) ++ dig l.sites.length k n = w at hset hlen ⊢
    generalize List.replicate ((l.last + 1).toNat - (k + 1)) (0 : Int) ++ ((n / l.sites.length ^ k % l.sites.length : Nat) : Int) :: dig l.sites.length k n = w2 at hset ⊢
    simp only [go_sem, h1, h2, h3, rem_nat, quo_nat hle, e1, e2, e6, e7, nth_row hlen, setNth_map, hset]
  · have : k = (l.last + 1).toNat := by omega
    subst this
    have h2 : ¬ l.last - ((l.last + 1).toNat : Int) ≥ 0 := by omega
    have hT : takeN (l.last + 1).toNat ((dig l.sites.length (l.last + 1).toNat n).map Row.row) = some ((dig l.sites.length (l.last + 1).toNat n).map Row.row) := by
      have := takeN_whole ((dig l.sites.length (l.last + 1).toNat n).map Row.row)
      rwa [List.length_map, dig_len] at this
    simp only [go_sem, h1, h2, hT]
    rfl)
theorem P44 {g : Bool × Bool} {plan : List Int} (hp : plan.length < Big) {Q : V → Prop} : CallP tab 44 [landV g1 g2 l, .c (L g plan)] Q ↔ Q (.c (.int .i64 (moveL l plan))) := CallP_of (by
  refine Val_X (fn := f44) rfl ?_
  simp only [go_sem, f44]
  refine RX_for plan.length (fun k => [(5, .c (.int .i64 k))]) (fun _ => [.cells [.int .i64 l.last, .int .i64 l.home, .int .i64 l.purse, .int .i64 l.bad, .int .i64 l.rest, L g1 l.sites, L g2 l.roads]]) (fun k => ∀ i, i < k → plan.getD i default = l.home) (fun i h => by omega) (by simp only [go_sem] <;> rfl) ?_
  intro k hk hP
  have hp' : plan.length < 4611686018427387904 := hp
  by_cases h1 : k < plan.length
  · cases k with
    | zero =>
      have h1' : (0 : Int) < plan.length := by omega
      simp only [go_sem, h1, h1', atI_nat, show atI plan 0 = plan.getD 0 default from rfl]
      refine ⟨fun e i hi => ?_, fun e => by rw [moveL_at h1 hP e]; rfl⟩
      have : i = 0 := by omega
      subst this; exact e
    | succ y =>
      have h2 : ¬ ((y + 1 : Nat) : Int) = 0 := by omega
      have h3 : ((y + 1 : Nat) : Int) > 0 := by omega
      have h4 : y < plan.length := by omega
      have hw : IntKind.i64.wrap (((y + 1 : Nat) : Int) - 1) = (y : Int) := by rw [wrap_id _ (by omega) (by omega)]; omega
      simp only [go_sem, h1, h2, h3, h4, hw, atI_nat, wrap_succ h1 hp]
      rw [hP y (by omega)]
      refine ⟨fun e => moveL_at h1 hP e, fun e i hi => ?_⟩
      by_cases hik : i = y + 1
      · subst hik; exact e
      · exact hP i (by omega)
  · simp only [go_sem, h1]
    exact moveL_end fun i hi => hP i (by omega))
end Am.Mv
namespace Am.Mv
open Go Am
set_option maxRecDepth 100000
set_option maxHeartbeats 4000000
set_option linter.unusedSimpArgs false
set_option linter.unusedVariables false
variable {l : Land} {g1 g2 : Bool × Bool}
theorem planN_ok (hv : l.Valid) (n : Nat) : AreSites l (planN l n) ∧ (planN l n).length = (l.last + 1).toNat ∧ (planN l n).length ≤ 100 := by
  have l4 := hv.last4
  have h : (planN l n).length = (l.last + 1).toNat := dig_len _ _ _
  refine ⟨?_, h, by omega⟩
  have : ∀ k, AreSites l (dig l.sites.length k n) := by
    intro k
    induction k with
    | zero => intro x hx; cases hx
    | succ k ih =>
      intro x hx
      rcases List.mem_cons.1 hx with rfl | hx
      · have := Nat.mod_lt (n / l.sites.length ^ k) hv.n0
        omega
      · exact ih x hx
  exact this _
/-- how many plans there are -/
def plansN (l : Land) : Nat := l.sites.length ^ (l.last + 1).toNat
theorem plansN_val (hv : l.Valid) : powI l.sites.length (l.last + 1).toNat = (plansN l : Int) := by
  have : ∀ k, powI l.sites.length k = ((l.sites.length ^ k : Nat) : Int) := by
    intro k
    induction k with
    | zero => rfl
    | succ k ih => rw [powI, ih, Nat.pow_succ]; rfl
  exact this _
theorem plansN_le (hv : l.Valid) : plansN l ≤ 1024 := by
  have h1 : l.sites.length ^ (l.last + 1).toNat ≤ 4 ^ (l.last + 1).toNat := Nat.pow_le_pow_left hv.n4 _
  have h2 : (l.last + 1).toNat ≤ 5 := by have := hv.last4; omega
  exact Nat.le_trans h1 (Nat.pow_le_pow_right (by decide) h2)
/-- the reference's search for the best plan: a plan more -/
def rbStep (l : Land) (but : Int) (s : List Int × Int × Int × Bool) (p : List Int) : List Int × Int × Int × Bool :=
  if but ∈ p then s
  else if (sureL l p).2.2 = false then s
  else if s.2.2.2 = false ∨ s.2.1 < (sureL l p).1 then (p, (sureL l p).1, moveL l p, true)
  else if (sureL l p).1 = s.2.1 then (s.1, s.2.1, max s.2.2.1 (moveL l p), s.2.2.2)
  else s
def rbest (l : Land) (but : Int) (k : Nat) : List Int × Int × Int × Bool := ((List.range k).map (planN l)).foldl (rbStep l but) ([], 0, 0, false)
theorem rbest_succ (l : Land) (but : Int) (k : Nat) : rbest l but (k + 1) = rbStep l but (rbest l but k) (planN l k) := by
  simp only [rbest, List.range_succ, List.map_append, List.foldl_append, List.map_cons, List.map_nil, List.foldl_cons, List.foldl_nil]
theorem V30 (hv : l.Valid) {but : Int} : ∃ b : Bool, ∀ {Q : V → Prop}, CallP tab 30 [landV g1 g2 l, .c (.int .i64 but)] Q ↔ Q (.tup [.c (L (b, false) (rbest l but (plansN l)).1), .c (.int .i64 (rbest l but (plansN l)).2.1), .c (.int .i64 (rbest l but (plansN l)).2.2.1), .c (.bool (rbest l but (plansN l)).2.2.2)]) := by
  suffices h : CallP tab 30 [landV g1 g2 l, .c (.int .i64 but)] (fun v => ∃ b : Bool, v = (.tup [.c (L (b, false) (rbest l but (plansN l)).1), .c (.int .i64 (rbest l but (plansN l)).2.1), .c (.int .i64 (rbest l but (plansN l)).2.2.1), .c (.bool (rbest l but (plansN l)).2.2.2)])) by
    obtain ⟨v, hval, b, rfl⟩ := h
    exact ⟨b, CallP_of hval⟩
  refine CallP_X (fn := f30) rfl ?_
  simp only [go_sem, f30]
  have hN := plansN_le hv
  have P50' : ∀ {Q : V → Prop}, CallP tab 50 [landV g1 g2 l] Q ↔ Q (.c (.int .i64 (plansN l : Int))) := by
    intro Q
    rw [P50 hv, plansN_val hv]
  refine RX_whileU (α := Nat × Bool) (fun x => [(8, .c (L (x.2, false) (rbest l but x.1).1)), (9, .c (.int .i64 (rbest l but x.1).2.1)), (10, .c (.int .i64 (rbest l but x.1).2.2.1)), (11, .c (.bool (rbest l but x.1).2.2.2)), (12, .c (.int .i64 x.1))]) (fun _ => [.cells [.int .i64 l.last, .int .i64 l.home, .int .i64 l.purse, .int .i64 l.bad, .int .i64 l.rest, L g1 l.sites, L g2 l.roads]]) (fun x => x.1 ≤ plansN l) (fun x => plansN l - x.1) (0, true) (Nat.zero_le _) (by simp only [go_sem, show rbest l but 0 = ([], 0, 0, false) from rfl] <;> rfl) ?_
  rintro ⟨k, b⟩ hk
  simp only at hk
  by_cases h1 : k < plansN l
  · obtain ⟨p1, p2, p3⟩ := planN_ok hv k
    have hpB : (planN l k).length < Big := Nat.lt_of_le_of_lt p3 (by decide)
    have hwk : IntKind.i64.wrap ((k : Int) + 1) = ((k + 1 : Nat) : Int) := wrap_succ (n := 2000) (by omega) (by decide)
    obtain ⟨b', P46⟩ := V46 (g1 := g1) (g2 := g2) (g := (false, false)) hv p1 p3
    obtain ⟨e1, e2⟩ := sure_same hv p1 p3
    have hs := rbest_succ l but k
    have key : ∀ b2 r, rbest l but (k + 1) = r → ∃ y : Nat × Bool, (plansN l - y.1 < plansN l - k ∧ y.1 ≤ plansN l) ∧ L (b2, false) r.1 = L (y.2, false) (rbest l but y.1).1 ∧ r.2.1 = (rbest l but y.1).2.1 ∧ r.2.2.1 = (rbest l but y.1).2.2.1 ∧ r.2.2.2 = (rbest l but y.1).2.2.2 ∧ IntKind.i64.wrap ((k : Int) + 1) = (y.1 : Int) := by
      intro b2 r hr
      exact ⟨(k + 1, b2), ⟨by simp only; omega, h1⟩, by rw [hr], by rw [hr], by rw [hr], by rw [hr], hwk⟩
    by_cases h2 : but ∈ planN l k
    · simp only [go_sem, h1, P50', P66 hv (show k ≤ 100000 by omega), P42 hpB, h2]
      exact key b _ (by rw [hs, rbStep, if_pos h2])
    · cases hc : (sureL l (planN l k)).2.2 with
      | false =>
        rw [hc] at e1
        simp only [go_sem, h1, P50', P66 hv (show k ≤ 100000 by omega), P42 hpB, h2, P46, ← e1]
        exact key b _ (by rw [hs, rbStep, if_neg h2, if_pos hc])
      | true =>
        rw [hc] at e1
        rw [← e2 hc] at P46
        simp only [go_sem, h1, P50', P66 hv (show k ≤ 100000 by omega), P42 hpB, h2, P46, hc, P44 hpB]
        have hc' : ¬ (sureL l (planN l k)).2.2 = false := by rw [hc]; simp
        refine ⟨fun n1 => ⟨fun n2 => ?_, fun n2 => ⟨fun n3 => ?_, fun n3 => ?_⟩⟩, fun n1 => ?_⟩
        · exact key false (planN l k, (sureL l (planN l k)).1, moveL l (planN l k), true) (by rw [hs, rbStep, if_neg h2, if_neg hc', if_pos (.inr n2)])
        · refine key b ((rbest l but k).1, (rbest l but k).2.1, max (rbest l but k).2.2.1 (moveL l (planN l k)), (rbest l but k).2.2.2) ?_
          rw [hs, rbStep, if_neg h2, if_neg hc', if_neg (fun h => by rcases h with h | h; rw [n1] at h; cases h; exact n2 h), if_pos n3]
        · refine key b _ ?_
          rw [hs, rbStep, if_neg h2, if_neg hc', if_neg (fun h => by rcases h with h | h; rw [n1] at h; cases h; exact n2 h), if_neg n3]
        · exact key false (planN l k, (sureL l (planN l k)).1, moveL l (planN l k), true) (by rw [hs, rbStep, if_neg h2, if_neg hc', if_pos (.inl n1)])
  · have : k = plansN l := by omega
    subst this
    simp only [go_sem, h1, P50']
    exact ⟨b, rfl⟩
end Am.Mv
namespace Am.Mv
open Go Am
set_option maxRecDepth 100000
set_option maxHeartbeats 4000000
set_option linter.unusedSimpArgs false
set_option linter.unusedVariables false
variable {l : Land} {g1 g2 : Bool × Bool}
theorem range_mul (a b : Nat) : List.range (a * b) = (List.range a).flatMap fun k => (List.range b).map fun m => k * b + m := by
  induction a with
  | zero => simp
  | succ a ih => rw [Nat.succ_mul, List.range_add, ih, List.range_succ, List.flatMap_append]; simp
theorem dig_add (S : Nat) (h : 0 < S) : ∀ (r n k : Nat), dig S r (k * S ^ r + n) = dig S r n
  | 0, _, _ => rfl
  | r + 1, n, k => by
    have e : k * S ^ (r + 1) + n = (k * S) * S ^ r + n := by rw [Nat.pow_succ, Nat.mul_comm (S ^ r) S, Nat.mul_assoc]
    simp only [dig]
    rw [e, dig_add S h r n (k * S), Nat.add_comm, Nat.add_mul_div_right _ _ (Nat.pow_pos h), Nat.add_mul_mod_self_right]
theorem dig_head {S r k m : Nat} (h : 0 < S) (hk : k < S) (hm : m < S ^ r) : dig S (r + 1) (k * S ^ r + m) = (k : Int) :: dig S r m := by
  simp only [dig]
  rw [dig_add S h, Nat.add_comm, Nat.add_mul_div_right _ _ (Nat.pow_pos h), Nat.div_eq_of_lt hm, Nat.zero_add, Nat.mod_eq_of_lt hk]
theorem plansFrom_dig {S : Nat} (h : 0 < S) (but : Int) : ∀ (r : Nat) (w : List Int), plansFrom S but r w = ((List.range (S ^ r)).filter fun m => !decide (but ∈ dig S r m)).map fun m => w ++ dig S r m
  | 0, w => by simp [plansFrom, dig]
  | r + 1, w => by
    rw [Nat.pow_succ, Nat.mul_comm, range_mul, plansFrom, List.filter_flatMap, List.map_flatMap]
    rw [List.flatMap_def, List.flatMap_def]
    congr 1
    apply List.map_congr_left
    intro k hk
    have hk' := List.mem_range.1 hk
    by_cases hb : (k : Int) = but
    · rw [if_pos hb]
      symm
      rw [List.map_eq_nil_iff, List.filter_eq_nil_iff]
      intro x hx
      obtain ⟨m, hm, rfl⟩ := List.mem_map.1 hx
      rw [dig_head h hk' (List.mem_range.1 hm), ← hb]
      simp
    · rw [if_neg hb, plansFrom_dig h but r, List.filter_map, List.map_map]
      have e : (List.range (S ^ r)).filter (fun m => !decide (but ∈ dig S r m)) = (List.range (S ^ r)).filter ((fun m => !decide (but ∈ dig S (r + 1) m)) ∘ fun m => k * S ^ r + m) := by
        apply List.filter_congr
        intro m hm
        simp only [Function.comp]
        rw [dig_head h hk' (List.mem_range.1 hm)]
        have : ¬ but = (k : Int) := fun h => hb h.symm
        simp [this]
      rw [e]
      apply List.map_congr_left
      intro m hm
      have hm' := List.mem_range.1 (List.mem_filter.1 hm).1
      simp only [Function.comp]
      rw [dig_head h hk' hm']
      simp
def Wk (l : Land) (but : Int) (k : Nat) : List (List Int) := ((List.range k).map (planN l)).filter fun p => !decide (but ∈ p)
theorem plans_same (hv : l.Valid) (but : Int) : plansL l but = Wk l but (plansN l) := by
  rw [plansL, plansFrom_dig hv.n0, Wk, List.filter_map]
  rfl
theorem Wk_succ (l : Land) (but : Int) (k : Nat) : Wk l but (k + 1) = Wk l but k ++ if but ∈ planN l k then [] else [planN l k] := by
  simp only [Wk, List.range_succ, List.map_append, List.filter_append, List.map_cons, List.map_nil]
  congr 1
  by_cases h : but ∈ planN l k <;> simp [h]
theorem moveL_pos (hv : l.Valid) (p : List Int) : 0 ≤ moveL l p := by
  unfold moveL
  split
  · omega
  · have := hv.last0; have := hv.last4
    rw [wrapB (by omega) (by omega)]; omega
theorem late_zero {x : Int} : ∀ (W : List (List Int)) (s : Int), (∀ p ∈ W, ¬ ((sureL l p).2.2 = true ∧ (sureL l p).1 = x)) → W.foldl (lateStep l x) s = s
  | [], s, _ => rfl
  | p :: W, s, h => by
    rw [List.foldl_cons, lateStep, if_neg (h p List.mem_cons_self)]
    exact late_zero W s fun q hq => h q (List.mem_cons_of_mem _ hq)
structure RbOk (l : Land) (but : Int) (k : Nat) : Prop where
  e1 : (rbest l but k).1 = ((Wk l but k).foldl (bestStep l) ([], 0, false)).1
  e2 : (rbest l but k).2.1 = ((Wk l but k).foldl (bestStep l) ([], 0, false)).2.1
  e3 : (rbest l but k).2.2.2 = ((Wk l but k).foldl (bestStep l) ([], 0, false)).2.2
  late : (rbest l but k).2.2.2 = true → (Wk l but k).foldl (lateStep l (rbest l but k).2.1) 0 = (rbest l but k).2.2.1
  most : ∀ p ∈ Wk l but k, (sureL l p).2.2 = true → (rbest l but k).2.2.2 = true ∧ (sureL l p).1 ≤ (rbest l but k).2.1
theorem rb_ok (hv : l.Valid) (but : Int) : ∀ k, RbOk l but k
  | 0 => ⟨rfl, rfl, rfl, fun h => (by cases h), fun p hp => (by cases hp)⟩
  | k + 1 => by
    obtain ⟨i1, i2, i3, i4, i5⟩ := rb_ok hv but k
    have hs := rbest_succ l but k
    have hW := Wk_succ l but k
    by_cases hb : but ∈ planN l k
    · rw [if_pos hb, List.append_nil] at hW
      rw [rbStep, if_pos hb] at hs
      exact ⟨by rw [hs, hW, i1], by rw [hs, hW, i2], by rw [hs, hW, i3], by rw [hs, hW]; exact i4, by rw [hs, hW]; exact i5⟩
    · rw [if_neg hb] at hW
      rw [rbStep, if_neg hb] at hs
      have hB : (Wk l but (k + 1)).foldl (bestStep l) ([], 0, false) = bestStep l ((Wk l but k).foldl (bestStep l) ([], 0, false)) (planN l k) := by rw [hW, List.foldl_append]; rfl
      have hL : ∀ x, (Wk l but (k + 1)).foldl (lateStep l x) 0 = lateStep l x ((Wk l but k).foldl (lateStep l x) 0) (planN l k) := by intro x; rw [hW, List.foldl_append]; rfl
      by_cases hc : (sureL l (planN l k)).2.2 = false
      · rw [if_pos hc] at hs
        have hB' : bestStep l ((Wk l but k).foldl (bestStep l) ([], 0, false)) (planN l k) = (Wk l but k).foldl (bestStep l) ([], 0, false) := by rw [bestStep, if_neg (fun h => by rw [hc] at h; cases h.1)]
        refine ⟨by rw [hs, hB, hB', i1], by rw [hs, hB, hB', i2], by rw [hs, hB, hB', i3], fun h => ?_, fun p hp hcan => ?_⟩
        · rw [hs] at h ⊢
          rw [hL, lateStep, if_neg (fun h => by rw [hc] at h; cases h.1)]
          exact i4 h
        · rw [hs]
          rw [hW] at hp
          rcases List.mem_append.1 hp with hp | hp
          · exact i5 p hp hcan
          · rw [List.mem_singleton.1 hp, hc] at hcan; cases hcan
      · rw [if_neg hc] at hs
        have hc' : (sureL l (planN l k)).2.2 = true := by simpa using hc
        by_cases hn : (rbest l but k).2.2.2 = false ∨ (rbest l but k).2.1 < (sureL l (planN l k)).1
        · rw [if_pos hn] at hs
          have hB' : bestStep l ((Wk l but k).foldl (bestStep l) ([], 0, false)) (planN l k) = (planN l k, (sureL l (planN l k)).1, true) := by rw [bestStep, if_pos ⟨hc', by rw [← i2, ← i3]; exact hn⟩]
          refine ⟨by rw [hs, hB, hB'], by rw [hs, hB, hB'], by rw [hs, hB, hB'], fun h => ?_, fun p hp hcan => ?_⟩
          · rw [hs, hL, late_zero, lateStep, if_pos ⟨hc', rfl⟩]
            · exact Int.max_eq_right (moveL_pos hv _)
            · rintro p hp ⟨h1, h2⟩
              have := i5 p hp h1
              rcases hn with hn | hn
              · rw [this.1] at hn; cases hn
              · simp only at h2; omega
          · rw [hs]
            refine ⟨rfl, ?_⟩
            rw [hW] at hp
            rcases List.mem_append.1 hp with hp | hp
            · have := i5 p hp hcan
              rcases hn with hn | hn
              · rw [this.1] at hn; cases hn
              · simp only; omega
            · rw [List.mem_singleton.1 hp]; exact Int.le_refl _
        · rw [if_neg hn] at hs
          have hf : (rbest l but k).2.2.2 = true := by
            cases h : (rbest l but k).2.2.2 with
            | true => rfl
            | false => exact absurd (.inl h) hn
          have hB' : bestStep l ((Wk l but k).foldl (bestStep l) ([], 0, false)) (planN l k) = (Wk l but k).foldl (bestStep l) ([], 0, false) := by rw [bestStep, if_neg (fun h => hn (by rw [i2, i3]; exact h.2))]
          have hle : (sureL l (planN l k)).1 ≤ (rbest l but k).2.1 := by
            by_cases h : (rbest l but k).2.1 < (sureL l (planN l k)).1
            · exact absurd (.inr h) hn
            · omega
          have hmost : ∀ p ∈ Wk l but (k + 1), (sureL l p).2.2 = true → (rbest l but k).2.2.2 = true ∧ (sureL l p).1 ≤ (rbest l but k).2.1 := by
            intro p hp hcan
            rw [hW] at hp
            rcases List.mem_append.1 hp with hp | hp
            · exact i5 p hp hcan
            · rw [List.mem_singleton.1 hp]; exact ⟨hf, hle⟩
          by_cases he : (sureL l (planN l k)).1 = (rbest l but k).2.1
          · rw [if_pos he] at hs
            refine ⟨by rw [hs, hB, hB', i1], by rw [hs, hB, hB', i2], by rw [hs, hB, hB', i3], fun h => ?_, by rw [hs]; exact hmost⟩
            rw [hs, hL, lateStep, if_pos ⟨hc', he⟩, i4 hf]
          · rw [if_neg he] at hs
            refine ⟨by rw [hs, hB, hB', i1], by rw [hs, hB, hB', i2], by rw [hs, hB, hB', i3], fun h => ?_, by rw [hs]; exact hmost⟩
            rw [hs, hL, lateStep, if_neg (fun h => he h.2), i4 hf]
theorem rbest_best (hv : l.Valid) (but : Int) : (rbest l but (plansN l)).1 = (bestL l but).1 ∧ (rbest l but (plansN l)).2.1 = (bestL l but).2.1 ∧ (rbest l but (plansN l)).2.2.2 = (bestL l but).2.2 ∧ ((bestL l but).2.2 = true → (rbest l but (plansN l)).2.2.1 = (plansL l but).foldl (lateStep l (bestL l but).2.1) 0) := by
  obtain ⟨i1, i2, i3, i4, i5⟩ := rb_ok hv but (plansN l)
  have e : (Wk l but (plansN l)).foldl (bestStep l) ([], 0, false) = bestL l but := by rw [bestL, plans_same hv]
  rw [e] at i1 i2 i3
  refine ⟨i1, i2, i3, fun h => ?_⟩
  rw [← i4 (by rw [i3, h]), plans_same hv, i2]
end Am.Mv
namespace Am.Mv
open Go Am
set_option maxRecDepth 100000
set_option maxHeartbeats 4000000
set_option linter.unusedSimpArgs false
set_option linter.unusedVariables false
variable {l : Land} {g1 g2 : Bool × Bool}
/-- what the best of some plans is -/
structure IsBest (l : Land) (W : List (List Int)) (r : List Int × Int × Bool) : Prop where
  no : r.2.2 = false → r = ([], 0, false) ∧ ∀ p ∈ W, (sureL l p).2.2 = false
  yes : r.2.2 = true → (sureL l r.1).2.2 = true ∧ r.2.1 = (sureL l r.1).1 ∧ (∀ p ∈ W, (sureL l p).2.2 = true → (sureL l p).1 ≤ r.2.1) ∧ ∃ A B, W = A ++ r.1 :: B ∧ ∀ p ∈ A, (sureL l p).2.2 = true → (sureL l p).1 < r.2.1
theorem IsBest.step {W : List (List Int)} {r : List Int × Int × Bool} (h : IsBest l W r) (p : List Int) : IsBest l (W ++ [p]) (bestStep l r p) := by
  unfold bestStep
  by_cases hc : (sureL l p).2.2 = true ∧ (r.2.2 = false ∨ r.2.1 < (sureL l p).1)
  · rw [if_pos hc]
    refine ⟨fun h => (by cases h), fun _ => ⟨hc.1, rfl, fun q hq hqc => ?_, W, [], rfl, fun q hq hqc => ?_⟩⟩
    · rcases List.mem_append.1 hq with hq | hq
      · cases hf : r.2.2 with
        | false => rw [(h.no hf).2 q hq] at hqc; cases hqc
        | true =>
          have := (h.yes hf).2.2.1 q hq hqc
          rcases hc.2 with hc | hc
          · rw [hf] at hc; cases hc
          · simp only; omega
      · rw [List.mem_singleton.1 hq]; exact Int.le_refl _
    · cases hf : r.2.2 with
      | false => rw [(h.no hf).2 q hq] at hqc; cases hqc
      | true =>
        have := (h.yes hf).2.2.1 q hq hqc
        rcases hc.2 with hc | hc
        · rw [hf] at hc; cases hc
        · simp only; omega
  · rw [if_neg hc]
    refine ⟨fun hf => ⟨(h.no hf).1, fun q hq => ?_⟩, fun hf => ?_⟩
    · rcases List.mem_append.1 hq with hq | hq
      · exact (h.no hf).2 q hq
      · rw [List.mem_singleton.1 hq]
        cases hs : (sureL l p).2.2 with
        | false => rfl
        | true => exact absurd ⟨hs, .inl hf⟩ hc
    · obtain ⟨h1, h2, h3, A, B, h4, h5⟩ := h.yes hf
      refine ⟨h1, h2, fun q hq hqc => ?_, A, B ++ [p], by rw [h4]; simp, h5⟩
      rcases List.mem_append.1 hq with hq | hq
      · exact h3 q hq hqc
      · rw [List.mem_singleton.1 hq] at hqc ⊢
        by_cases hlt : r.2.1 < (sureL l p).1
        · exact absurd ⟨hqc, .inr hlt⟩ hc
        · omega
theorem IsBest.all : ∀ (B A : List (List Int)) (r : List Int × Int × Bool), IsBest l A r → IsBest l (A ++ B) (B.foldl (bestStep l) r)
  | [], A, r, h => by simpa using h
  | p :: B, A, r, h => by
    have := IsBest.all B (A ++ [p]) _ (h.step p)
    simpa using this
theorem best_is (l : Land) (but : Int) : IsBest l (plansL l but) (bestL l but) := by
  have := IsBest.all (l := l) (plansL l but) [] ([], 0, false) ⟨fun _ => ⟨rfl, fun p hp => (by cases hp)⟩, fun h => (by cases h)⟩
  rw [List.nil_append] at this
  exact this
theorem plans_mem (hv : l.Valid) {but : Int} {p : List Int} (h : p ∈ plansL l but) : AreSites l p ∧ p.length = (l.last + 1).toNat ∧ p.length ≤ 100 ∧ but ∉ p := by
  rw [plans_same hv, Wk, List.mem_filter, List.mem_map] at h
  obtain ⟨⟨n, _, rfl⟩, h2⟩ := h
  obtain ⟨h3, h4, h5⟩ := planN_ok hv n
  exact ⟨h3, h4, h5, by simpa using h2⟩
theorem best_mem {but : Int} (h : (bestL l but).2.2 = true) : (bestL l but).1 ∈ plansL l but := by
  obtain ⟨_, _, _, A, B, h4, _⟩ := (best_is l but).yes h
  rw [h4]; simp
theorem MoveBest_val {site : Int} : Val tab 4 [landV g1 g2 l, .c (.int .i64 site)] (.c (.bool true)) := by
  refine Val_X (fn := f4) rfl ?_
  by_cases ht : thin l = true
  · have hs := thin_small ht
    obtain ⟨b, P27⟩ := V27 (l := l) (g1 := (false, false)) (g2 := (false, false)) hs.fits
    by_cases h0 : checkLand l = 0
    · have hv := valid_of h0
      obtain ⟨b1, P30⟩ := V30 (g1 := g1) (g2 := g2) hv (but := -1)
      obtain ⟨b2, P30s⟩ := V30 (g1 := g1) (g2 := g2) hv (but := site)
      obtain ⟨e1, e2, e3, e4⟩ := rbest_best hv (-1)
      obtain ⟨d1, d2, d3, _⟩ := rbest_best hv site
      rw [e1, e2, e3] at P30
      rw [d1, d2, d3] at P30s
      have hw : IntKind.i64.wrap ((l.sites.length : Int) - 1) = (l.sites.length : Int) - 1 := by
        have := hv.n4
        exact wrapB (by omega) (by omega)
      cases hc : (bestL l (-1)).2.2 with
      | true =>
        rw [show _ = lateL l from e4 hc] at P30
        have hl : (bestL l (-1)).1.length < Big := Nat.lt_of_le_of_lt (plans_mem hv (best_mem hc)).2.2.1 (by decide)
        by_cases h1 : isSite l.sites site = true
        · have h1' : inR site 0 ((l.sites.length : Int) - 1) = true := h1
          cases hd : (bestL l site).2.2 with
          | true => simp only [go_sem, f4, P16, ht, P17, P19 hs, P27, P28 hs.fits, P29 hs.fits, P21 hs.fits, BestR, LateR, WorthR, h0, hc, P30, P30s, P31 hl, P32, hw, h1, h1', hd]
          | false => simp only [go_sem, f4, P16, ht, P17, P19 hs, P27, P28 hs.fits, P29 hs.fits, P21 hs.fits, BestR, LateR, WorthR, h0, hc, P30, P30s, P31 hl, P32, hw, h1, h1', hd]
        · have h1' : ¬ inR site 0 ((l.sites.length : Int) - 1) = true := h1
          simp only [go_sem, f4, P16, ht, P17, P19 hs, P27, P28 hs.fits, P29 hs.fits, P21 hs.fits, BestR, LateR, WorthR, h0, hc, P30, P30s, P31 hl, P32, hw, h1, h1']
      | false =>
        by_cases h1 : isSite l.sites site = true
        · have h1' : inR site 0 ((l.sites.length : Int) - 1) = true := h1
          cases hd : (bestL l site).2.2 with
          | true => simp only [go_sem, f4, P16, ht, P17, P19 hs, P27, P28 hs.fits, P29 hs.fits, P21 hs.fits, BestR, LateR, WorthR, h0, hc, P30, P30s, P32, hw, h1, h1', hd]
          | false => simp only [go_sem, f4, P16, ht, P17, P19 hs, P27, P28 hs.fits, P29 hs.fits, P21 hs.fits, BestR, LateR, WorthR, h0, hc, P30, P30s, P32, hw, h1, h1', hd]
        · have h1' : ¬ inR site 0 ((l.sites.length : Int) - 1) = true := h1
          simp only [go_sem, f4, P16, ht, P17, P19 hs, P27, P28 hs.fits, P29 hs.fits, P21 hs.fits, BestR, LateR, WorthR, h0, hc, P30, P30s, P32, hw, h1, h1']
    · simp only [go_sem, f4, P16, ht, P17, P19 hs, P27, P28 hs.fits, P29 hs.fits, P21 hs.fits, BestR, LateR, WorthR, h0]
  · simp only [go_sem, f4, P16, ht, P17]
end Am.Mv
