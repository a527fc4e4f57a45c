/-
  A part of the proof: the texts E1, E2 of this seat, joined.
-/
import Derived.Test.YthffdgldmpceoaaWalkC
import Derived.KernelRfl
namespace Am.Cr
open Go Am
set_option maxRecDepth 100000
set_option maxHeartbeats 4000000
set_option linter.unusedSimpArgs false
set_option linter.unusedVariables false
variable {g1 g2 g3 g4 g5 : Bool × Bool} {f : Field}
/-- small lists -/
structure Field.Small (f : Field) : Prop where
  growth : f.growth.length ≤ 12
  wet : f.wet.length ≤ 12
  base : f.base.length ≤ 5
  crops : f.crops.length ≤ 12
  looks : f.looks.length ≤ 7
instance : Decidable f.Small := decidable_of_iff (f.growth.length ≤ 12 ∧ f.wet.length ≤ 12 ∧ f.base.length ≤ 5 ∧ f.crops.length ≤ 12 ∧ f.looks.length ≤ 7) ⟨fun h => ⟨h.1, h.2.1, h.2.2.1, h.2.2.2.1, h.2.2.2.2⟩, fun h => ⟨h.growth, h.wet, h.base, h.crops, h.looks⟩⟩
theorem lints {g g' : Bool × Bool} {a b : List Int} (ha : a.length < Big) {Q : V → Prop} : CallP tab 56 [.c (L g a), .c (L g' b)] Q ↔ Q (.c (.bool (decide (a = b)))) := CallP_of (by
  refine Val_X (fn := f56) rfl ?_
  simp only [go_sem, f56]
  refine ⟨fun h e => h (by rw [e]), fun h => ?_⟩
  refine RX_for a.length (fun k => [(5, .c (.int .i64 k))]) (fun _ => []) (fun k => ∀ i, i < k → a.getD i default = b.getD i default) (fun i h => by omega) (by simp only [go_sem] <;> rfl) ?_
  intro k hk hP
  by_cases h1 : k < a.length
  · have h2 : k < b.length := by omega
    simp only [go_sem, h1, h2, wrap_succ h1 ha, atI_nat]
    refine ⟨fun e hab => ?_, fun e i hi => ?_⟩
    · subst hab; exact e rfl
    · by_cases hik : i = k
      · subst hik; exact e
      · exact hP i (by omega)
  · simp only [go_sem, h1]
    apply List.ext_getElem h
    intro i hi hi'
    have := hP i (by omega)
    rwa [getD_lt _ _ _ hi, getD_lt _ _ _ hi'] at this)
end Am.Cr

namespace Am.Cr
open Go Am
set_option maxRecDepth 100000
set_option maxHeartbeats 4000000
set_option linter.unusedSimpArgs false
set_option linter.unusedVariables false
def oneF (n : Nat) : Field := ⟨4, [⟨10, 12⟩, ⟨8, 8⟩, ⟨6, 6⟩, ⟨4, 5⟩, ⟨2, 2⟩], [0, 2, 0, 1, 0], [20, 15], [], 2, 4, 50, ([⟨2, ⟨25, 25⟩⟩, ⟨1, ⟨18, 18⟩⟩] : List Lk).take n⟩
def oneV (n : Nat) : V := fieldV (false, false) (false, false) (false, false) (true, false) (false, false) (oneF n)
def dryT : Truth := ⟨[10, 8, 6, 4, 2], [0, 0, 0, 1, 0]⟩
def truthV (t : Truth) : V := .agg [L (false, false) t.growth, L (false, false) t.wet]
theorem toArg_oneV {h : List Obj} {n : Nat} : toArg h (oneV n) = some (oneV n) := by
  simp only [oneV, go_sem]
theorem objs_oneV {n : Nat} : objsV (oneV n) = [] := by
  simp only [oneV, go_sem]
theorem toArg_truthV {h : List Obj} {t : Truth} : toArg h (truthV t) = some (truthV t) := by
  simp only [truthV, go_sem]
theorem objs_truthV {t : Truth} : objsV (truthV t) = [] := by
  simp only [truthV, go_sem]
theorem lone {n : Nat} (hn : n ≤ 2) {Q : V → Prop} : CallP tab 6 [.c (.int .i64 n)] Q ↔ Q (oneV n) := CallP_of (by
  refine Val_X (fn := f6) rfl ?_
  have h0 : (0 : Int) ≤ n := by omega
  have : n = 0 ∨ n = 1 ∨ n = 2 := by omega
  have h12 : 1 ≤ 2 := by decide
  rcases this with rfl | rfl | rfl <;> (simp only [go_sem, f6, lbetween, h12] <;> rfl))
theorem ldry {Q : V → Prop} : CallP tab 4 [] Q ↔ Q (truthV dryT) := CallP_of (by
  refine Val_X (fn := f4) rfl ?_
  simp only [go_sem, f4]
  rfl)
theorem one_fits {n : Nat} : (oneF n).Fits := ⟨by show 5 ≤ 1000; decide, by show 5 ≤ 1000; decide, by show 2 ≤ 1000; decide, by show 0 ≤ 1000; decide, by
  show (List.take n _).length ≤ 1000
  rw [List.length_take]; simp; omega⟩
def worT : Truth := worstL (oneF 0) [1, 3]
set_option maxRecDepth 1000000
theorem w1 : PlayR false (oneF 0) dryT [1, 3] = .tup [.c (L (false, false) [Crop.mk 18 20 360, Crop.mk 5 15 75]), .c (.int .i64 0)] := by kernel_rfl
theorem w2 : BoundsR false (oneF 0) [2, 4] = .tup [.c (L (false, false) [Bound.mk ⟨24, 26⟩ 16 ⟨384, 416⟩, Bound.mk ⟨6, 7⟩ 15 ⟨90, 105⟩]), .c (.int .i64 0)] := by kernel_rfl
theorem w3 : WorthR (oneF 0) [1, 3] = .tup [.agg [.int .i64 255, .int .i64 490], .c (.int .i64 0)] := by kernel_rfl
theorem w4 (b : Bool) : BestR b (oneF 0) = .tup [.c (L (b, false) ([2, 4] : List Int)), .c (.int .i64 474), .c (.int .i64 0)] := by kernel_rfl
theorem w5 : StandR (oneF 0) 4 = .tup [.agg [.int .i64 30, .int .i64 33], .c (.int .i64 0)] := by kernel_rfl
theorem w6 (b : Bool × Bool) : WorstR b (oneF 0) [1, 3] = .tup [.agg [L (b.1, false) worT.growth, L (b.2, false) worT.wet], .c (.int .i64 0)] := by kernel_rfl
theorem w7 : FirstR (oneF 2) = .tup [.c (.int .i64 1), .c (.int .i64 0)] := by kernel_rfl
theorem w8 (b : Bool) : LeaveR b (oneF 2) = .tup [.c (L (b, false) ([0] : List Int)), .c (.int .i64 0)] := by kernel_rfl
theorem w9 : provesTruth (oneF 0) worT = true := by kernel_rfl
theorem lst2 {t : Bool} {a b : Int} : C.lst t [[.int .i64 a], [.int .i64 b]] = L (false, t) [a, b] := rfl
theorem lst1 {t : Bool} {a : Int} : C.lst t [[.int .i64 a]] = L (false, t) [a] := rfl
set_option maxRecDepth 100000
theorem awake_val : Val tab 17 [] (.c (.bool true)) := by
  have h1 := fun Q => cPlay (f := oneF 0) (g1 := (false, false)) (g2 := (false, false)) (g3 := (false, false)) (g4 := (true, false)) (g5 := (false, false)) (b6 := false) (b7 := false) (g := (false, true)) (t := dryT) (plan := [1, 3]) one_fits (by decide) (Q := Q)
  have h2 := fun Q => cBounds (f := oneF 0) (g1 := (false, false)) (g2 := (false, false)) (g3 := (false, false)) (g4 := (true, false)) (g5 := (false, false)) (g := (false, true)) (plan := [2, 4]) one_fits (by decide) (Q := Q)
  have h3 := fun Q => cWorth (f := oneF 0) (g1 := (false, false)) (g2 := (false, false)) (g3 := (false, false)) (g4 := (true, false)) (g5 := (false, false)) (g := (false, true)) (plan := [1, 3]) one_fits (by decide) (Q := Q)
  obtain ⟨b4, h4⟩ := vBest (f := oneF 0) (g1 := (false, false)) (g2 := (false, false)) (g3 := (false, false)) (g4 := (true, false)) (g5 := (false, false)) one_fits
  have h5 := fun Q => cStanding (f := oneF 0) (g1 := (false, false)) (g2 := (false, false)) (g3 := (false, false)) (g4 := (true, false)) (g5 := (false, false)) (week := 4) one_fits (Q := Q)
  obtain ⟨b6, h6⟩ := vWorst (f := oneF 0) (g1 := (false, false)) (g2 := (false, false)) (g3 := (false, false)) (g4 := (true, false)) (g5 := (false, false)) (g := (false, true)) (plan := [1, 3]) one_fits (by decide)
  have h7 := fun Q => cFirst (f := oneF 2) (g1 := (false, false)) (g2 := (false, false)) (g3 := (false, false)) (g4 := (true, false)) (g5 := (false, false)) one_fits (Q := Q)
  obtain ⟨b8, h8⟩ := vLeave (f := oneF 2) (g1 := (false, false)) (g2 := (false, false)) (g3 := (false, false)) (g4 := (true, false)) (g5 := (false, false)) one_fits
  have h9 := fun Q => cProveTruth (f := oneF 0) (g1 := (false, false)) (g2 := (false, false)) (g3 := (false, false)) (g4 := (true, false)) (g5 := (false, false)) (b6 := b6.1) (b7 := b6.2) (t := worT) one_fits (Q := Q)
  have h4' := fun Q => CallP_of h4 (Q := Q)
  have h6' := fun Q => CallP_of h6 (Q := Q)
  have h8' := fun Q => CallP_of h8 (Q := Q)
  rw [w1] at h1
  rw [w2] at h2
  rw [w3] at h3
  rw [w4] at h4'
  rw [w5] at h5
  rw [w6] at h6'
  rw [w7] at h7
  rw [w8] at h8'
  rw [w9] at h9
  change ∀ Q, CallP tab 5 [oneV 0, truthV dryT, _] Q ↔ _ at h1
  change ∀ Q, CallP tab 13 [oneV 0, _] Q ↔ _ at h2
  change ∀ Q, CallP tab 7 [oneV 0, _] Q ↔ _ at h3
  change ∀ Q, CallP tab 14 [oneV 0] Q ↔ _ at h4'
  change ∀ Q, CallP tab 8 [oneV 0, _] Q ↔ _ at h5
  change ∀ Q, CallP tab 55 [oneV 0, _] Q ↔ _ at h6'
  change ∀ Q, CallP tab 15 [oneV 2] Q ↔ _ at h7
  change ∀ Q, CallP tab 9 [oneV 2] Q ↔ _ at h8'
  change ∀ Q, CallP tab 11 [oneV 0, _] Q ↔ _ at h9
  have o0 := fun Q => lone (n := 0) (by decide) (Q := Q)
  have o2 := fun Q => lone (n := 2) (by decide) (Q := Q)
  change ∀ Q, CallP tab 6 [.c (.int .i64 0)] Q ↔ _ at o0
  change ∀ Q, CallP tab 6 [.c (.int .i64 2)] Q ↔ _ at o2
  have q1 := fun g g' b Q => lints (g := g) (g' := g') (a := [2, 4]) (b := b) (show 2 < Big by decide) (Q := Q)
  have q2 := fun g g' b Q => lints (g := g) (g' := g') (a := [0]) (b := b) (show 1 < Big by decide) (Q := Q)
  have x1 : atI [Crop.mk 18 20 360, Crop.mk 5 15 75] 0 = Crop.mk 18 20 360 := rfl
  have x2 : atI [Crop.mk 18 20 360, Crop.mk 5 15 75] 1 = Crop.mk 5 15 75 := rfl
  have x3 : atI [Bound.mk ⟨24, 26⟩ 16 ⟨384, 416⟩, Bound.mk ⟨6, 7⟩ 15 ⟨90, 105⟩] 0 = Bound.mk ⟨24, 26⟩ 16 ⟨384, 416⟩ := rfl
  refine Val_X (fn := f17) rfl ?_
  simp only [go_sem, f17, o0, o2, ldry, toArg_oneV, objs_oneV, toArg_truthV, objs_truthV, lst1, lst2, lbetween, h1, h2, h3, h4', h5, h6', h7, h8', h9, q1, q2, x1, x2, x3, decide_true]
theorem lawake {Q : V → Prop} : CallP tab 17 [] Q ↔ Q (.c (.bool true)) := CallP_of awake_val
end Am.Cr

