/-
  A part of the proof: the texts M30, M31, M32 of this seat, joined.
-/
import Derived.Test.YtgaifkhngaopgaaWalkI
namespace Am.Mv
open Go Am
set_option maxRecDepth 100000
set_option maxHeartbeats 4000000
set_option linter.unusedSimpArgs false
set_option linter.unusedVariables false
variable {l : Land} {g1 g2 : Bool × Bool}
/-- one site, in the reference's search -/
def rsStep (l : Land) (rec : List Int → List Int → Ans) (sites bad : List Int) (best : Ans) (k : Int) : Ans :=
  let a := rec (sites ++ [k]) bad
  let b := rec (sites ++ [k]) (bad ++ [(sites.length : Int)])
  let a' : Ans := if a.2.2 = true ∧ (bad.length : Int) < l.bad then (a.1, min a.2.1 b.2.1, b.2.2) else a
  if a'.2.2 = true ∧ (best.2.2 = false ∨ best.2.1 < a'.2.1) then (k, a'.2.1, true) else best
def rsF (l : Land) : Nat → List Int → List Int → Ans
  | 0, sites, bad => match failAt l bad sites with
    | some _ => (0, 0, false)
    | none => (-1, IntKind.i64.wrap ((stAt l bad sites sites.length).money - l.purse), true)
  | n + 1, sites, bad => match failAt l bad sites with
    | some _ => (0, 0, false)
    | none => (List.range l.sites.length).foldl (fun best (k : Nat) => rsStep l (rsF l n) sites bad best (k : Int)) (0, 0, false)
theorem P35 (hv : l.Valid) : ∀ (n : Nat) (sites bad : List Int) (g g' : Bool × Bool), sites.length + n = (l.last + 1).toNat → AreSites l sites → bad.length + n ≤ 100 → ∀ {Q : V → Prop}, CallP tab 35 [landV g1 g2 l, .c (L g sites), .c (L g' bad)] Q ↔ Q (.tup [.c (.int .i64 (rsF l n sites bad).1), .c (.int .i64 (rsF l n sites bad).2.1), .c (.bool (rsF l n sites bad).2.2)])
  | 0, sites, bad, g, g', hn, hs, hb => by
    refine CallP_of ?_
    refine Val_X (fn := f35) rfl ?_
    have l0 := hv.last0
    have l4 := hv.last4
    have hsl : sites.length ≤ 100 := by omega
    have hsB : sites.length < Big := Nat.lt_of_le_of_lt hsl (by decide)
    have hbB : bad.length < Big := Nat.lt_of_le_of_lt (show bad.length ≤ 100 by omega) (by decide)
    have hgt : l.last < (sites.length : Int) := by omega
    cases hfa : failAt l bad sites with
    | some y => simp only [go_sem, f35, P25 (ws := bad) hv hs hsl hbB, hfa, rsF]
    | none =>
      have P69' : ∀ {g : Bool × Bool} {Q : V → Prop}, CallP tab 69 [landV g1 g2 l, .c (L g ((List.range sites.length).map (yrAt l bad sites)))] Q ↔ Q (.c (.int .i64 (stAt l bad sites sites.length).money)) := by
        intro g Q
        rw [P69 (by simpa using hsB), moneyL_play]
      simp only [go_sem, f35, P25 (ws := bad) hv hs hsl hbB, hfa, rsF, hgt, gt_iff_lt, P69']
  | n + 1, sites, bad, g, g', hn, hs, hb => by
    refine CallP_of ?_
    refine Val_X (fn := f35) rfl ?_
    have l0 := hv.last0
    have l4 := hv.last4
    have n4 := hv.n4
    have hsl : sites.length ≤ 100 := by omega
    have hsB : sites.length < Big := Nat.lt_of_le_of_lt hsl (by decide)
    have hbB : bad.length < Big := Nat.lt_of_le_of_lt (show bad.length ≤ 100 by omega) (by decide)
    have hgt : ¬ l.last < (sites.length : Int) := by omega
    cases hfa : failAt l bad sites with
    | some y => simp only [go_sem, f35, P25 (ws := bad) hv hs hsl hbB, hfa, rsF]
    | none =>
      simp only [go_sem, f35, P25 (ws := bad) hv hs hsl hbB, hfa, hgt, gt_iff_lt]
      have hF : rsF l (n + 1) sites bad = (List.range l.sites.length).foldl (fun best (k : Nat) => rsStep l (rsF l n) sites bad best (k : Int)) (0, 0, false) := by simp only [rsF, hfa]
      rw [hF]
      generalize hW : (fun k : Nat => (List.range k).foldl (fun best (k : Nat) => rsStep l (rsF l n) sites bad best (k : Int)) (0, 0, false)) = W
      have hWS : ∀ k, W (k + 1) = rsStep l (rsF l n) sites bad (W k) (k : Int) := by
        intro k; rw [← hW]; simp [List.range_succ, List.foldl_append]
      have hW0 : W 0 = (0, 0, false) := by rw [← hW]; rfl
      rw [show (List.range l.sites.length).foldl (fun best (k : Nat) => rsStep l (rsF l n) sites bad best (k : Int)) (0, 0, false) = W l.sites.length by rw [← hW]]
      refine RX_for l.sites.length (fun k => [(11, .c (.int .i64 (W k).1)), (12, .c (.int .i64 (W k).2.1)), (13, .c (.bool (W k).2.2)), (14, .c (.int .i64 k))]) (fun _ => [.cells [.int .i64 l.last, .int .i64 l.home, .int .i64 l.purse, .int .i64 l.bad, .int .i64 l.rest, L g1 l.sites, L g2 l.roads]]) (fun k => True) trivial (by simp only [go_sem, hW0] <;> rfl) ?_
      intro k hk _
      by_cases h1 : k < l.sites.length
      · have hsk : AreSites l (sites ++ [(k : Int)]) := by
          intro x hx
          rcases List.mem_append.1 hx with h | h
          · exact hs x h
          · rw [List.mem_singleton.1 h]; omega
        have ihA : ∀ (g : Bool × Bool) {Q : V → Prop}, CallP tab 35 [landV g1 g2 l, .c (L g (sites ++ [(k : Int)])), .c (L g' bad)] Q ↔ Q (.tup [.c (.int .i64 (rsF l n (sites ++ [(k : Int)]) (bad)).1), .c (.int .i64 (rsF l n (sites ++ [(k : Int)]) (bad)).2.1), .c (.bool (rsF l n (sites ++ [(k : Int)]) (bad)).2.2)]) := fun g {Q} => P35 hv n (sites ++ [(k : Int)]) bad g g' (by simp; omega) hsk (by omega)
        have ihB : ∀ (g gb : Bool × Bool) {Q : V → Prop}, CallP tab 35 [landV g1 g2 l, .c (L g (sites ++ [(k : Int)])), .c (L gb (bad ++ [(sites.length : Int)]))] Q ↔ Q (.tup [.c (.int .i64 (rsF l n (sites ++ [(k : Int)]) (bad ++ [(sites.length : Int)])).1), .c (.int .i64 (rsF l n (sites ++ [(k : Int)]) (bad ++ [(sites.length : Int)])).2.1), .c (.bool (rsF l n (sites ++ [(k : Int)]) (bad ++ [(sites.length : Int)])).2.2)]) := fun g gb {Q} => P35 hv n (sites ++ [(k : Int)]) (bad ++ [(sites.length : Int)]) g gb (by simp; omega) hsk (by simp; omega)
        have hT : ∀ (a : List Int) (x : Int), takeN (a.length + 1) (a.map Row.row ++ [[D.int .i64 x]]) = some ((a ++ [x]).map Row.row) := by
          intro a x
          have := takeN_whole ((a ++ [x]).map Row.row)
          rw [List.length_map, List.length_append, List.length_singleton] at this
          rw [← this, List.map_append]; rfl
        have c1 : sites.length * 8 ≤ 2 ^ 40 := by omega
        have c2 : (sites.length + 1) * 8 ≤ 2 ^ 40 := by omega
        have c3 : bad.length * 8 ≤ 2 ^ 40 := by omega
        have c4 : (bad.length + 1) * 8 ≤ 2 ^ 40 := by omega
        have hwk : IntKind.i64.wrap ((k : Int) + 1) = ((k + 1 : Nat) : Int) := wrap_succ (n := 2000) (by omega) (by decide)
        have hst := hWS k
        cases ha : (rsF l n (sites ++ [(k : Int)]) bad).2.2 with
        | false =>
          simp only [go_sem, h1, c1, c2, hT, ihA, ha, hwk]
          have e : W (k + 1) = W k := by rw [hst, rsStep]; simp [ha]
          exact ⟨by rw [e], by rw [e], by rw [e]⟩
        | true =>
          by_cases hbl : (bad.length : Int) < l.bad
          · simp only [go_sem, h1, c1, c2, c3, c4, hT, ihA, ha, hbl, ihB, hwk]
            have e : W (k + 1) = if (rsF l n (sites ++ [(k : Int)]) (bad ++ [(sites.length : Int)])).2.2 = true ∧ ((W k).2.2 = false ∨ (W k).2.1 < min (rsF l n (sites ++ [(k : Int)]) bad).2.1 (rsF l n (sites ++ [(k : Int)]) (bad ++ [(sites.length : Int)])).2.1) then ((k : Int), min (rsF l n (sites ++ [(k : Int)]) bad).2.1 (rsF l n (sites ++ [(k : Int)]) (bad ++ [(sites.length : Int)])).2.1, true) else W k := by
              rw [hst, rsStep]; simp only [ha, hbl, and_self, if_true]
            refine ⟨fun n1 => ⟨fun n2 => ⟨fun n3 => ?_, fun n3 => ?_⟩, fun n2 => ?_⟩, fun n1 => ?_⟩
            · rw [e, if_pos ⟨n1, .inr n3⟩]; exact ⟨rfl, rfl, rfl⟩
            · rw [e, if_neg (fun h => by rcases h.2 with h | h; rw [n2] at h; cases h; exact n3 h)]; exact ⟨rfl, rfl, rfl⟩
            · rw [e, if_pos ⟨n1, .inl n2⟩]; exact ⟨rfl, rfl, rfl⟩
            · rw [e, if_neg (fun h => by rw [n1] at h; cases h.1)]; exact ⟨rfl, rfl, rfl⟩
          · simp only [go_sem, h1, c1, c2, hT, ihA, ha, hbl, hwk]
            have e : W (k + 1) = if (W k).2.2 = false ∨ (W k).2.1 < (rsF l n (sites ++ [(k : Int)]) bad).2.1 then ((k : Int), (rsF l n (sites ++ [(k : Int)]) bad).2.1, true) else W k := by
              rw [hst, rsStep]; simp only [ha, hbl, and_false, if_false, true_and]
            refine ⟨fun n2 => ⟨fun n3 => ?_, fun n3 => ?_⟩, fun n2 => ?_⟩
            · rw [e, if_pos (.inr n3)]; exact ⟨rfl, rfl, rfl⟩
            · rw [e, if_neg (fun h => by rcases h with h | h; rw [n2] at h; cases h; exact n3 h)]; exact ⟨rfl, rfl, rfl⟩
            · rw [e, if_pos (.inl n2)]; exact ⟨rfl, rfl, rfl⟩
      · have : k = l.sites.length := by omega
        subst this
        simp only [go_sem, h1]
end Am.Mv
namespace Am.Mv
open Go Am
set_option maxRecDepth 100000
set_option maxHeartbeats 4000000
set_option linter.unusedSimpArgs false
set_option linter.unusedVariables false
variable {l : Land} {g1 g2 : Bool × Bool}
/-- the states of a plan depend on the years before -/
theorem stAt_same (l : Land) {w w' p p' : List Int} : ∀ k : Nat, (∀ i, i < k → p.getD i default = p'.getD i default) → (∀ i : Nat, i < k → ((i : Int) ∈ w ↔ (i : Int) ∈ w')) → stAt l w p k = stAt l w' p' k
  | 0, _, _ => rfl
  | k + 1, hp, hw => by
    show nextS l (stAt l w p k) (p.getD k default) (decide ((k : Int) ∈ w)) = nextS l (stAt l w' p' k) (p'.getD k default) (decide ((k : Int) ∈ w'))
    rw [stAt_same l k (fun i hi => hp i (by omega)) (fun i hi => hw i (by omega)), hp k (by omega)]
    congr 1
    exact decide_eq_decide.2 (hw k (by omega))
theorem getD_snoc {a : List Int} {x : Int} : (a ++ [x]).getD a.length default = x := by
  rw [getD_lt _ _ _ (by simp)]; simp
theorem getD_left {a b : List Int} {i : Nat} (h : i < a.length) : (a ++ b).getD i default = a.getD i default := by
  rw [getD_lt _ _ _ (by simp; omega), getD_lt _ _ _ h, List.getElem_append_left]
theorem stAt_snoc (l : Land) {w sites : List Int} {k : Int} : stAt l w (sites ++ [k]) (sites ++ [k]).length = nextS l (stAt l w sites sites.length) k (decide ((sites.length : Int) ∈ w)) := by
  rw [List.length_append, List.length_singleton]
  show nextS l (stAt l w (sites ++ [k]) sites.length) ((sites ++ [k]).getD sites.length default) _ = _
  rw [getD_snoc, stAt_same l (p' := sites) sites.length (fun i hi => getD_left hi) (fun i hi => Iff.rfl)]
theorem canAt_same (l : Land) {w w' p p' : List Int} (k : Nat) (hp : ∀ i, i ≤ k → p.getD i default = p'.getD i default) (hw : ∀ i : Nat, i < k → ((i : Int) ∈ w ↔ (i : Int) ∈ w')) : canAt l w p k = canAt l w' p' k := by
  unfold canAt
  rw [stAt_same l k (fun i hi => hp i (by omega)) hw, hp k (Nat.le_refl _)]
theorem fail_snoc (l : Land) {w sites : List Int} {k : Int} (hf : failAt l w sites = none) : failAt l w (sites ++ [k]) = none ↔ costOf l.sites l.roads (stAt l w sites sites.length).site k ≤ (stAt l w sites sites.length).money := by
  rw [failAt_none]
  have hf' := failAt_none.1 hf
  have e : canAt l w (sites ++ [k]) sites.length = decide (costOf l.sites l.roads (stAt l w sites sites.length).site k ≤ (stAt l w sites sites.length).money) := by
    unfold canAt
    rw [getD_snoc, stAt_same l (p' := sites) sites.length (fun i hi => getD_left hi) (fun i hi => Iff.rfl)]
  constructor
  · intro h
    have := h sites.length (by simp)
    rw [e] at this
    exact of_decide_eq_true this
  · intro h i hi
    by_cases hi' : i < sites.length
    · rw [canAt_same l (p' := sites) (w' := w) i (fun j hj => getD_left (by omega)) (fun j hj => Iff.rfl)]
      exact hf' i hi'
    · have : i = sites.length := by simp at hi; omega
      subst this
      rw [e]; exact decide_eq_true h
theorem fail_snoc_no (l : Land) {w sites : List Int} {k : Int} (hf : failAt l w sites ≠ none) : failAt l w (sites ++ [k]) ≠ none := by
  intro h
  refine hf (failAt_none.2 fun i hi => ?_)
  rw [← canAt_same l (p := sites ++ [k]) (w := w) i (fun j hj => getD_left (by omega)) (fun j hj => Iff.rfl)]
  exact failAt_none.1 h i (by simp; omega)
theorem fail_bad (l : Land) {w w' sites : List Int} (hw : ∀ i : Nat, i + 1 < sites.length → ((i : Int) ∈ w ↔ (i : Int) ∈ w')) : failAt l w sites = none ↔ failAt l w' sites = none := by
  rw [failAt_none, failAt_none]
  constructor
  · intro h i hi
    rw [← canAt_same l (p := sites) (w := w) i (fun j hj => rfl) (fun j hj => hw j (by omega))]; exact h i hi
  · intro h i hi
    rw [canAt_same l (p' := sites) (w' := w') i (fun j hj => rfl) (fun j hj => hw j (by omega))]; exact h i hi
/-- what both searches say -/
structure SeenOk (l : Land) (A R : Ans) : Prop where
  is : R.2.2 = A.2.2
  yes : A.2.2 = true → R.1 = A.1 ∧ R.2.1 = A.2.1 - l.purse ∧ 0 ≤ A.2.1 ∧ A.2.1 ≤ 20000
  no : A.2.2 = false → R = (0, 0, false)
theorem seen_step {A R : Ans} (h : SeenOk l A R) {k : Int} {ia : Bool} {ma mr : Int} (hr : ia = true → mr = ma - l.purse ∧ 0 ≤ ma ∧ ma ≤ 20000) :
    SeenOk l (if ia = true ∧ (A.2.2 = false ∨ A.2.1 < ma) then (k, ma, true) else A) (if ia = true ∧ (R.2.2 = false ∨ R.2.1 < mr) then (k, mr, true) else R) := by
  cases ia with
  | false => simpa using h
  | true =>
    obtain ⟨h1, h2, h3⟩ := hr rfl
    cases ha : A.2.2 with
    | false =>
      have hra : R.2.2 = false := by rw [h.is, ha]
      rw [if_pos ⟨rfl, .inl rfl⟩, if_pos ⟨rfl, .inl hra⟩]
      exact ⟨rfl, fun _ => ⟨rfl, h1, h2, h3⟩, fun h => by cases h⟩
    | true =>
      have hra : R.2.2 = true := by rw [h.is, ha]
      obtain ⟨y1, y2, y3, y4⟩ := h.yes ha
      by_cases hlt : A.2.1 < ma
      · rw [if_pos ⟨rfl, .inr hlt⟩, if_pos ⟨rfl, .inr (by omega)⟩]
        exact ⟨rfl, fun _ => ⟨rfl, h1, h2, h3⟩, fun h => by cases h⟩
      · rw [if_neg (fun h => by rcases h.2 with h | h; cases h; exact hlt h), if_neg (fun h => by rcases h.2 with h | h; rw [hra] at h; cases h; omega)]
        exact h
theorem rsF_fail {n : Nat} {sites bad : List Int} (h : failAt l bad sites ≠ none) : rsF l n sites bad = (0, 0, false) := by
  cases hf : failAt l bad sites with
  | none => exact absurd hf h
  | some k => cases n <;> simp only [rsF, hf]
theorem seen_go (hv : l.Valid) : ∀ (n : Nat) (sites bad : List Int), sites.length + n = (l.last + 1).toNat → AreSites l sites → (∀ b ∈ bad, b < sites.length) → (bad.length : Int) ≤ l.bad → failAt l bad sites = none → SeenOk l (fromF l n (stAt l bad sites sites.length) (l.bad - bad.length)) (rsF l n sites bad)
  | 0, sites, bad, hn, hs, hb, hbl, hf => by
    have l4 := hv.last4
    have p0 := hv.purse0
    have p1 := hv.purse1
    obtain ⟨m0, m1, _⟩ := money_next hv (ws := bad) hs (by omega) sites.length (Nat.le_refl _) (failAt_none.1 hf)
    simp only [rsF, hf, fromF]
    exact ⟨rfl, fun _ => ⟨rfl, wrapB (by omega) (by omega), by simp only; omega, by simp only; omega⟩, fun h => by cases h⟩
  | n + 1, sites, bad, hn, hs, hb, hbl, hf => by
    have l4 := hv.last4
    have p0 := hv.purse0
    have p1 := hv.purse1
    have hnb : ¬ (sites.length : Int) ∈ bad := fun h => by have := hb _ h; omega
    simp only [rsF, hf, fromF]
    have key : ∀ m, m ≤ l.sites.length → SeenOk l ((List.range m).foldl (fun best (k : Nat) => fromStep l (fromF l n) (stAt l bad sites sites.length) (l.bad - bad.length) best (k : Int)) (0, 0, false)) ((List.range m).foldl (fun best (k : Nat) => rsStep l (rsF l n) sites bad best (k : Int)) (0, 0, false)) := by
      intro m
      induction m with
      | zero => intro _; exact ⟨rfl, fun h => (by cases h), fun _ => rfl⟩
      | succ k ih =>
        intro hk
        have ih' := ih (by omega)
        simp only [List.range_succ, List.foldl_append, List.foldl_cons, List.foldl_nil]
        generalize (List.range k).foldl (fun best (k : Nat) => fromStep l (fromF l n) (stAt l bad sites sites.length) (l.bad - bad.length) best (k : Int)) (0, 0, false) = A at *
        generalize (List.range k).foldl (fun best (k : Nat) => rsStep l (rsF l n) sites bad best (k : Int)) (0, 0, false) = R at *
        have hsk : AreSites l (sites ++ [(k : Int)]) := by
          intro x hx
          rcases List.mem_append.1 hx with h | h
          · exact hs x h
          · rw [List.mem_singleton.1 h]; omega
        unfold fromStep rsStep
        by_cases hc : costOf l.sites l.roads (stAt l bad sites sites.length).site (k : Int) ≤ (stAt l bad sites sites.length).money
        · rw [if_pos hc]
          have hf1 := (fail_snoc l (k := (k : Int)) hf).2 hc
          have i1 := seen_go hv n (sites ++ [(k : Int)]) bad (by simp; omega) hsk (fun b h => by have := hb b h; simp; omega) hbl hf1
          rw [stAt_snoc, decide_eq_false hnb] at i1
          generalize fromF l n (nextS l (stAt l bad sites sites.length) (k : Int) false) (l.bad - bad.length) = a at *
          generalize rsF l n (sites ++ [(k : Int)]) bad = r at *
          simp only
          by_cases hlt : (bad.length : Int) < l.bad
          · have hlt' : 0 < l.bad - (bad.length : Int) := by omega
            have hmem : ∀ i : Nat, i < sites.length → ((i : Int) ∈ bad ↔ (i : Int) ∈ bad ++ [(sites.length : Int)]) := fun i hi => by
              simp; intro h; omega
            have hf2 : failAt l (bad ++ [(sites.length : Int)]) (sites ++ [(k : Int)]) = none := (fail_bad l (fun i hi => hmem i (by simp at hi; omega))).1 hf1
            have i2 := seen_go hv n (sites ++ [(k : Int)]) (bad ++ [(sites.length : Int)]) (by simp; omega) hsk (fun b h => by
              rcases List.mem_append.1 h with h | h
              · have := hb b h; simp; omega
              · rw [List.mem_singleton.1 h]; simp; omega) (by simp; omega) hf2
            rw [stAt_snoc, decide_eq_true (show (sites.length : Int) ∈ bad ++ [(sites.length : Int)] by simp), ← stAt_same l (w := bad) (p := sites) sites.length (fun i hi => rfl) hmem, show l.bad - ((bad ++ [(sites.length : Int)]).length : Int) = l.bad - bad.length - 1 by simp; omega] at i2
            generalize fromF l n (nextS l (stAt l bad sites sites.length) (k : Int) true) (l.bad - bad.length - 1) = b at *
            generalize rsF l n (sites ++ [(k : Int)]) (bad ++ [(sites.length : Int)]) = s at *
            cases ha : a.2.2 with
            | true =>
              have hra : r.2.2 = true := by rw [i1.is, ha]
              simp only [hra, hlt, hlt', and_self, if_true]
              obtain ⟨y1, y2, y3, y4⟩ := i1.yes ha
              have := seen_step ih' (k := (k : Int)) (ia := b.2.2) (ma := min a.2.1 b.2.1) (mr := min r.2.1 s.2.1) (fun hb2 => by
                obtain ⟨z1, z2, z3, z4⟩ := i2.yes hb2
                omega)
              rw [i2.is]
              exact this
            | false =>
              have hra : r.2.2 = false := by rw [i1.is, ha]
              simp only [ha, hra, Bool.false_eq_true, false_and, if_false]
              exact ih'
          · have hlt' : ¬ 0 < l.bad - (bad.length : Int) := by omega
            simp only [hlt, hlt', and_false, if_false]
            have := seen_step ih' (k := (k : Int)) (ia := a.2.2) (ma := a.2.1) (mr := r.2.1) (fun hb2 => by
                obtain ⟨z1, z2, z3, z4⟩ := i1.yes hb2
                exact ⟨z2, z3, z4⟩)
            rw [i1.is]
            exact this
        · rw [if_neg hc]
          have hf1 : failAt l bad (sites ++ [(k : Int)]) ≠ none := fun h => hc ((fail_snoc l hf).1 h)
          simp only [rsF_fail hf1, Bool.false_eq_true, false_and, if_false]
          exact ih'
    have h := key l.sites.length (Nat.le_refl _)
    generalize (List.range l.sites.length).foldl (fun best (k : Nat) => fromStep l (fromF l n) (stAt l bad sites sites.length) (l.bad - bad.length) best (k : Int)) (0, 0, false) = A at *
    generalize (List.range l.sites.length).foldl (fun best (k : Nat) => rsStep l (rsF l n) sites bad best (k : Int)) (0, 0, false) = R at *
    cases ha : A.2.2 with
    | true => rw [if_pos rfl]; exact h
    | false =>
      rw [if_neg (by simp)]
      exact ⟨by rw [h.is, ha], fun h => (by cases h), fun _ => h.no ha⟩
theorem seen_same (hv : l.Valid) {sites bad : List Int} (hl : (sites.length : Int) ≤ l.last + 1) (hs : AreSites l sites) (hb : ∀ b ∈ bad, b < sites.length) (hbl : (bad.length : Int) ≤ l.bad) (hf : failAt l bad sites = none) : SeenOk l (goA l sites bad) (rsF l ((l.last + 1).toNat - sites.length) sites bad) := by
  have l4 := hv.last4
  have l0 := hv.last0
  unfold goA fromL
  rw [stAt_year l bad sites sites.length (by omega), show (l.last + 1 - (sites.length : Int)).toNat = (l.last + 1).toNat - sites.length by omega]
  exact seen_go hv _ sites bad (by omega) hs hb hbl hf
end Am.Mv
namespace Am.Mv
open Go Am
set_option maxRecDepth 100000
set_option maxHeartbeats 4000000
set_option linter.unusedSimpArgs false
set_option linter.unusedVariables false
variable {l : Land} {g1 g2 : Bool × Bool}
theorem weather_lt {bad : List Int} {below : Int} (hb : -1000 ≤ below) (hb' : below ≤ 1000) (h : isWeather l bad below = true) : (∀ b ∈ bad, 0 ≤ b ∧ b < below) ∧ (bad.length : Int) ≤ l.bad := by
  rw [weather_same hb hb'] at h
  obtain ⟨h1, h2⟩ := of_decide_eq_true h
  refine ⟨fun b hm => ?_, h2⟩
  obtain ⟨i, hi, rfl⟩ := List.getElem_of_mem hm
  have := (h1 i hi).1
  rw [getD_lt _ _ _ hi] at this
  omega
theorem MoveSeen_val {g3 g4 : Bool × Bool} {sites bad : List Int} : Val tab 5 [landV g1 g2 l, .c (L g3 sites), .c (L g4 bad)] (.c (.bool true)) := by
  refine Val_X (fn := f5) rfl ?_
  by_cases ht : thin l = true
  · have hs := thin_small ht
    by_cases h1 : (sites.length : Int) > 8
    · simp only [go_sem, f5, P16, ht, h1, P17]
    by_cases h2 : (bad.length : Int) > 8
    · simp only [go_sem, f5, P16, ht, h1, h2, P17]
    have hp : sites.length ≤ 1000 := by omega
    have hb : bad.length ≤ 1000 := by omega
    have hp' : sites.length < Big := Nat.lt_of_le_of_lt hp (by decide)
    have hb' : bad.length < Big := Nat.lt_of_le_of_lt hb (by decide)
    by_cases h0 : checkLand l = 0
    · have hv := valid_of h0
      have l0 := hv.last0
      have l4 := hv.last4
      have b0 := hv.bad0
      have hf0 : failAt l [] [] = none := rfl
      have S0 := seen_same hv (sites := []) (bad := []) (by simp; omega) (fun x hx => by cases hx) (fun x hx => by cases hx) (by simpa using b0) hf0
      have P35n : ∀ {Q : V → Prop}, CallP tab 35 [landV g1 g2 l, .c .nils, .c .nils] Q ↔ Q (.tup [.c (.int .i64 (rsF l ((l.last + 1).toNat - 0) [] []).1), .c (.int .i64 (rsF l ((l.last + 1).toNat - 0) [] []).2.1), .c (.bool (rsF l ((l.last + 1).toNat - 0) [] []).2.2)]) := by
        intro Q
        exact P35 (g1 := g1) (g2 := g2) hv ((l.last + 1).toNat - 0) [] [] (true, true) (true, true) (by simp) (fun x hx => by cases hx) (by simp; omega)
      simp only [List.length_nil] at S0
      rw [show (rsF l ((l.last + 1).toNat - 0) [] []).2.2 = (goA l [] []).2.2 from S0.is] at P35n
      have T0 : (goA l [] []).2.2 = true → IntKind.i64.wrap ((goA l [] []).2.1 - l.purse) = (rsF l ((l.last + 1).toNat - 0) [] []).2.1 := fun h => by
        obtain ⟨y1, y2, y3, y4⟩ := S0.yes h
        rw [y2, wrapB (by have := hv.purse1; omega) (by have := hv.purse0; omega)]
      generalize rsF l ((l.last + 1).toNat - 0) [] [] = r0 at *
      have P24s : ∀ {Q : V → Prop}, CallP tab 24 [landV g1 g2 l, .c (L g4 bad), .c (.int .i64 sites.length)] Q ↔ Q (.c (.bool (isWeather l bad sites.length))) := by
        intro Q
        rw [P24 (by omega) (by omega) hb', weather_same (by omega) (by omega)]
      by_cases h3 : (sites.length : Int) ≤ l.last
      · have h3' : ¬ (sites.length : Int) > l.last := by omega
        by_cases h4 : sites.all (isSite l.sites) = true
        · by_cases h5 : isWeather l bad sites.length = true
          · have hss := areSites_of h4
            obtain ⟨w1, w2⟩ := weather_lt (by omega) (by omega) h5
            cases hfa : failAt l bad sites with
            | some k =>
              cases hg0 : (goA l [] []).2.2 with
              | false => simp only [go_sem, f5, P16, ht, h1, h2, P17, P19 hs, P20 hp, P20 hb, P33 hs.fits, P34 hs.fits hp' hb', P21 hs.fits, SeenR, GoR, h0, hg0, P35n, h3, h3', P36 hs.fits.sites hp', h4, P24s, h5, and_self, P25 (ws := bad) hv hss (show sites.length ≤ 100 by omega) hb', hfa]
              | true =>
                have t0 := T0 hg0
                simp only [go_sem, f5, P16, ht, h1, h2, P17, P19 hs, P20 hp, P20 hb, P33 hs.fits, P34 hs.fits hp' hb', P21 hs.fits, SeenR, GoR, h0, hg0, P35n, h3, h3', t0, P36 hs.fits.sites hp', h4, P24s, h5, and_self, P25 (ws := bad) hv hss (show sites.length ≤ 100 by omega) hb', hfa]
            | none =>
              have SS := seen_same hv (by omega) hss (fun b hb => (w1 b hb).2) w2 hfa
              have P35s := fun {Q : V → Prop} => P35 (g1 := g1) (g2 := g2) hv ((l.last + 1).toNat - sites.length) sites bad g3 g4 (by omega) hss (by omega) (Q := Q)
              rw [show (rsF l ((l.last + 1).toNat - sites.length) sites bad).2.2 = (goA l sites bad).2.2 from SS.is] at P35s
              have T1 : (goA l sites bad).2.2 = true → IntKind.i64.wrap ((goA l sites bad).2.1 - l.purse) = (rsF l ((l.last + 1).toNat - sites.length) sites bad).2.1 ∧ (goA l sites bad).1 = (rsF l ((l.last + 1).toNat - sites.length) sites bad).1 := fun h => by
                obtain ⟨y1, y2, y3, y4⟩ := SS.yes h
                rw [y2, y1, wrapB (by have := hv.purse1; omega) (by have := hv.purse0; omega)]
                exact ⟨rfl, rfl⟩
              generalize rsF l ((l.last + 1).toNat - sites.length) sites bad = r1 at *
              cases hg1 : (goA l sites bad).2.2 with
              | false =>
                cases hg0 : (goA l [] []).2.2 with
                | false => simp only [go_sem, f5, P16, ht, h1, h2, P17, P19 hs, P20 hp, P20 hb, P33 hs.fits, P34 hs.fits hp' hb', P21 hs.fits, SeenR, GoR, h0, hg0, P35n, h3, h3', P36 hs.fits.sites hp', h4, P24s, h5, and_self, P25 (ws := bad) hv hss (show sites.length ≤ 100 by omega) hb', hfa, hg1, P35s]
                | true =>
                  have t0 := T0 hg0
                  simp only [go_sem, f5, P16, ht, h1, h2, P17, P19 hs, P20 hp, P20 hb, P33 hs.fits, P34 hs.fits hp' hb', P21 hs.fits, SeenR, GoR, h0, hg0, P35n, h3, h3', t0, P36 hs.fits.sites hp', h4, P24s, h5, and_self, P25 (ws := bad) hv hss (show sites.length ≤ 100 by omega) hb', hfa, hg1, P35s]
              | true =>
                obtain ⟨t1, t2⟩ := T1 hg1
                cases hg0 : (goA l [] []).2.2 with
                | false => simp only [go_sem, f5, P16, ht, h1, h2, P17, P19 hs, P20 hp, P20 hb, P33 hs.fits, P34 hs.fits hp' hb', P21 hs.fits, SeenR, GoR, h0, hg0, P35n, h3, h3', P36 hs.fits.sites hp', h4, P24s, h5, and_self, P25 (ws := bad) hv hss (show sites.length ≤ 100 by omega) hb', hfa, hg1, P35s, t1, t2]
                | true =>
                  have t0 := T0 hg0
                  simp only [go_sem, f5, P16, ht, h1, h2, P17, P19 hs, P20 hp, P20 hb, P33 hs.fits, P34 hs.fits hp' hb', P21 hs.fits, SeenR, GoR, h0, hg0, P35n, h3, h3', t0, P36 hs.fits.sites hp', h4, P24s, h5, and_self, P25 (ws := bad) hv hss (show sites.length ≤ 100 by omega) hb', hfa, hg1, P35s, t1, t2]
          · 
            cases hg0 : (goA l [] []).2.2 with
            | false => simp only [go_sem, f5, P16, ht, h1, h2, P17, P19 hs, P20 hp, P20 hb, P33 hs.fits, P34 hs.fits hp' hb', P21 hs.fits, SeenR, GoR, h0, hg0, P35n, h3, h3', P36 hs.fits.sites hp', h4, P24s, h5, and_false]
            | true =>
              have t0 := T0 hg0
              simp only [go_sem, f5, P16, ht, h1, h2, P17, P19 hs, P20 hp, P20 hb, P33 hs.fits, P34 hs.fits hp' hb', P21 hs.fits, SeenR, GoR, h0, hg0, P35n, h3, h3', t0, P36 hs.fits.sites hp', h4, P24s, h5, and_false]
        · 
          cases hg0 : (goA l [] []).2.2 with
          | false => simp only [go_sem, f5, P16, ht, h1, h2, P17, P19 hs, P20 hp, P20 hb, P33 hs.fits, P34 hs.fits hp' hb', P21 hs.fits, SeenR, GoR, h0, hg0, P35n, h3, h3', P36 hs.fits.sites hp', h4, and_false, false_and]
          | true =>
            have t0 := T0 hg0
            simp only [go_sem, f5, P16, ht, h1, h2, P17, P19 hs, P20 hp, P20 hb, P33 hs.fits, P34 hs.fits hp' hb', P21 hs.fits, SeenR, GoR, h0, hg0, P35n, h3, h3', t0, P36 hs.fits.sites hp', h4, and_false, false_and]
      · have h3' : (sites.length : Int) > l.last := by omega
        cases hg0 : (goA l [] []).2.2 with
        | false => simp only [go_sem, f5, P16, ht, h1, h2, P17, P19 hs, P20 hp, P20 hb, P33 hs.fits, P34 hs.fits hp' hb', P21 hs.fits, SeenR, GoR, h0, hg0, P35n, h3, h3', false_and]
        | true =>
          have t0 := T0 hg0
          simp only [go_sem, f5, P16, ht, h1, h2, P17, P19 hs, P20 hp, P20 hb, P33 hs.fits, P34 hs.fits hp' hb', P21 hs.fits, SeenR, GoR, h0, hg0, P35n, h3, h3', t0, false_and]
    · simp only [go_sem, f5, P16, ht, h1, h2, P17, P19 hs, P20 hp, P20 hb, P33 hs.fits, P34 hs.fits hp' hb', P21 hs.fits, SeenR, GoR, h0]
  · simp only [go_sem, f5, P16, ht, P17]
end Am.Mv
