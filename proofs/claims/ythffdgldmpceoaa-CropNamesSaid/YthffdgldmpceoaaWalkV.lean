/-
  A part of the proof: the texts CN1, CN2 of this seat, joined.
-/
import Derived.Test.YthffdgldmpceoaaWalkE
namespace Am.Cr
open Go Am
set_option maxRecDepth 1000000
set_option maxHeartbeats 4000000
set_option linter.unusedSimpArgs false
set_option linter.unusedVariables false
abbrev fieldL (la : Int) (gr we ba cr : C) (ri : Int) (lk : C) : V := .agg [C.int .i64 la, gr, we, ba, cr, .int .i64 ri, .int .i64 4, .int .i64 50, lk]
abbrev grC (t : Bool) : C := .lst t [[.int .i64 10, .int .i64 12], [.int .i64 8, .int .i64 8], [.int .i64 6, .int .i64 6], [.int .i64 4, .int .i64 5], [.int .i64 2, .int .i64 2]]
abbrev weC (t : Bool) : C := .lst t [[.int .i64 0], [.int .i64 2], [.int .i64 0], [.int .i64 1], [.int .i64 0]]
abbrev baC (t : Bool) : C := .lst t [[.int .i64 20], [.int .i64 15]]
abbrev lk0 : C := .lst false []
abbrev lk1 (t : Bool) (d : Int) : C := .lst t [[.int .i64 d, .int .i64 25, .int .i64 25]]
abbrev lk2 : C := .lst false [[.int .i64 2, .int .i64 25, .int .i64 25], [.int .i64 1, .int .i64 18, .int .i64 18]]
abbrev oneL (lk : C) : V := fieldL 4 (grC false) (weC false) (baC false) .nils 2 lk
abbrev dryG : C := .lst false [[.int .i64 10], [.int .i64 8], [.int .i64 6], [.int .i64 4], [.int .i64 2]]
abbrev dryL : V := .agg [dryG, .lst false [[.int .i64 0], [.int .i64 0], [.int .i64 0], [.int .i64 1], [.int .i64 0]]]
abbrev wetT : Truth := ⟨[10, 8, 6, 4, 2], [0, 1, 0, 1, 0]⟩
abbrev wetL : V := .agg [dryG, .lst false [[.int .i64 0], [.int .i64 1], [.int .i64 0], [.int .i64 1], [.int .i64 0]]]
abbrev lateT : Truth := ⟨[10, 8, 6, 4, 2], [1, 0, 0, 1, 0]⟩
abbrev lateL : V := .agg [dryG, .lst false [[.int .i64 1], [.int .i64 0], [.int .i64 0], [.int .i64 1], [.int .i64 0]]]
abbrev fewT : Truth := ⟨[10, 8, 6, 4], [0, 0, 0, 1, 0]⟩
abbrev fewL : V := .agg [.lst false [[.int .i64 10], [.int .i64 8], [.int .i64 6], [.int .i64 4]], .lst false [[.int .i64 0], [.int .i64 0], [.int .i64 0], [.int .i64 1], [.int .i64 0]]]
abbrev pl (t : Bool) (a b : Int) : V := .c (.lst t [[.int .i64 a], [.int .i64 b]])
theorem one0L {Q : V → Prop} : CallP tab 6 [.c (.int .i64 0)] Q ↔ Q (oneL lk0) := lone (n := 0) (by decide)
theorem one1L {Q : V → Prop} : CallP tab 6 [.c (.int .i64 1)] Q ↔ Q (oneL (lk1 false 2)) := lone (n := 1) (by decide)
theorem one2L {Q : V → Prop} : CallP tab 6 [.c (.int .i64 2)] Q ↔ Q (oneL lk2) := lone (n := 2) (by decide)
theorem dryLL {Q : V → Prop} : CallP tab 4 [] Q ↔ Q dryL := ldry
theorem fitsF (f : Field) (h1 : f.growth.length ≤ 10) (h2 : f.wet.length ≤ 10) (h3 : f.base.length ≤ 10) (h4 : f.crops.length ≤ 10) (h5 : f.looks.length ≤ 10) : f.Fits := ⟨Nat.le_trans h1 (by decide), Nat.le_trans h2 (by decide), Nat.le_trans h3 (by decide), Nat.le_trans h4 (by decide), Nat.le_trans h5 (by decide)⟩
theorem v1 : PlayR false (oneF 0) wetT [1, 3] = .tup [.c (L (false, false) [Crop.mk 9 20 180, Crop.mk 5 15 75]), .c (.int .i64 0)] := by kernel_rfl
theorem v1C {t : Bool} {Q : V → Prop} : CallP tab 5 [oneL lk0, wetL, pl t 1 3] Q ↔ Q (.tup [.c (L (false, false) [Crop.mk 9 20 180, Crop.mk 5 15 75]), .c (.int .i64 0)]) := by
  have h := cPlay (f := oneF 0) (g1 := (false, false)) (g2 := (false, false)) (g3 := (false, false)) (g4 := (true, false)) (g5 := (false, false)) (b6 := false) (b7 := false) (t := wetT) (g := (false, t)) (plan := [1, 3]) one_fits (by decide) (Q := Q)
  rw [v1] at h
  exact h
theorem v2 : WorthR (oneF 0) [2, 4] = .tup [.agg [.int .i64 474, .int .i64 521], .c (.int .i64 0)] := by kernel_rfl
theorem v2C {t : Bool} {Q : V → Prop} : CallP tab 7 [oneL lk0, pl t 2 4] Q ↔ Q (.tup [.agg [.int .i64 474, .int .i64 521], .c (.int .i64 0)]) := by
  have h := cWorth (f := oneF 0) (g1 := (false, false)) (g2 := (false, false)) (g3 := (false, false)) (g4 := (true, false)) (g5 := (false, false)) (g := (false, t)) (plan := [2, 4]) one_fits (by decide) (Q := Q)
  rw [v2] at h
  exact h
theorem v3 : WorthR (oneF 0) [] = .tup [.agg [.int .i64 0, .int .i64 0], .c (.int .i64 0)] := by kernel_rfl
theorem v3C {Q : V → Prop} : CallP tab 7 [oneL lk0, .c .nils] Q ↔ Q (.tup [.agg [.int .i64 0, .int .i64 0], .c (.int .i64 0)]) := by
  have h := cWorth (f := oneF 0) (g1 := (false, false)) (g2 := (false, false)) (g3 := (false, false)) (g4 := (true, false)) (g5 := (false, false)) (g := (true, false)) (plan := []) one_fits (by decide) (Q := Q)
  rw [v3] at h
  exact h
theorem v5 : WorthR (oneF 1) [2, 4] = .tup [.agg [.int .i64 490, .int .i64 505], .c (.int .i64 0)] := by kernel_rfl
theorem v5C {t : Bool} {Q : V → Prop} : CallP tab 7 [oneL (lk1 false 2), pl t 2 4] Q ↔ Q (.tup [.agg [.int .i64 490, .int .i64 505], .c (.int .i64 0)]) := by
  have h := cWorth (f := oneF 1) (g1 := (false, false)) (g2 := (false, false)) (g3 := (false, false)) (g4 := (true, false)) (g5 := (false, false)) (g := (false, t)) (plan := [2, 4]) one_fits (by decide) (Q := Q)
  rw [v5] at h
  exact h
theorem v4 : StandR (oneF 0) 2 = .tup [.agg [.int .i64 24, .int .i64 26], .c (.int .i64 0)] := by kernel_rfl
theorem v4C {Q : V → Prop} : CallP tab 8 [oneL lk0, .c (.int .i64 2)] Q ↔ Q (.tup [.agg [.int .i64 24, .int .i64 26], .c (.int .i64 0)]) := by
  have h := cStanding (f := oneF 0) (g1 := (false, false)) (g2 := (false, false)) (g3 := (false, false)) (g4 := (true, false)) (g5 := (false, false)) (week := 2) one_fits (Q := Q)
  rw [v4] at h
  exact h
theorem v6 (b : Bool) : LeaveR b (oneF 1) = .tup [.c (L (b, false) ([] : List Int)), .c (.int .i64 0)] := by kernel_rfl
theorem v6C : ∃ b : Bool, ∀ {Q : V → Prop}, CallP tab 9 [oneL (lk1 false 2)] Q ↔ Q (.tup [.c (L (b, false) ([] : List Int)), .c (.int .i64 0)]) := by
  obtain ⟨b, h⟩ := vLeave (f := oneF 1) (g1 := (false, false)) (g2 := (false, false)) (g3 := (false, false)) (g4 := (true, false)) (g5 := (false, false)) one_fits
  rw [v6] at h
  exact ⟨b, fun {Q} => CallP_of h (Q := Q)⟩
theorem v7 : provesTruth (oneF 0) wetT = true := by kernel_rfl
theorem v7C {Q : V → Prop} : CallP tab 11 [oneL lk0, wetL] Q ↔ Q (.c (.bool true)) := by
  have h := cProveTruth (f := oneF 0) (g1 := (false, false)) (g2 := (false, false)) (g3 := (false, false)) (g4 := (true, false)) (g5 := (false, false)) (b6 := false) (b7 := false) (t := wetT) one_fits (Q := Q)
  rw [v7] at h
  exact h
theorem v8 : provesTruth (oneF 1) wetT = false := by kernel_rfl
theorem v8C {Q : V → Prop} : CallP tab 11 [oneL (lk1 false 2), wetL] Q ↔ Q (.c (.bool false)) := by
  have h := cProveTruth (f := oneF 1) (g1 := (false, false)) (g2 := (false, false)) (g3 := (false, false)) (g4 := (true, false)) (g5 := (false, false)) (b6 := false) (b7 := false) (t := wetT) one_fits (Q := Q)
  rw [v8] at h
  exact h
theorem v9 : provesWorth (oneF 0) [2, 4] 474 = true := by kernel_rfl
theorem v9C {t : Bool} {Q : V → Prop} : CallP tab 12 [oneL lk0, pl t 2 4, .c (.int .i64 474)] Q ↔ Q (.c (.bool true)) := by
  have h := cProveWorth (f := oneF 0) (g1 := (false, false)) (g2 := (false, false)) (g3 := (false, false)) (g4 := (true, false)) (g5 := (false, false)) (g := (false, t)) (plan := [2, 4]) (worth := 474) one_fits (by decide) (Q := Q)
  rw [v9] at h
  exact h
theorem v10 : provesWorth (oneF 0) [2, 4] 475 = false := by kernel_rfl
theorem v10C {t : Bool} {Q : V → Prop} : CallP tab 12 [oneL lk0, pl t 2 4, .c (.int .i64 475)] Q ↔ Q (.c (.bool false)) := by
  have h := cProveWorth (f := oneF 0) (g1 := (false, false)) (g2 := (false, false)) (g3 := (false, false)) (g4 := (true, false)) (g5 := (false, false)) (g := (false, t)) (plan := [2, 4]) (worth := 475) one_fits (by decide) (Q := Q)
  rw [v10] at h
  exact h
theorem v11 : PlayR false (oneF 0) lateT [] = .tup [.c .nils, .c (.int .i64 2)] := by kernel_rfl
theorem v11C {Q : V → Prop} : CallP tab 5 [oneL lk0, lateL, .c .nils] Q ↔ Q (.tup [.c .nils, .c (.int .i64 2)]) := by
  have h := cPlay (f := oneF 0) (g1 := (false, false)) (g2 := (false, false)) (g3 := (false, false)) (g4 := (true, false)) (g5 := (false, false)) (b6 := false) (b7 := false) (t := lateT) (g := (true, false)) (plan := []) one_fits (by decide) (Q := Q)
  rw [v11] at h
  exact h
theorem v12 : PlayR false (oneF 0) fewT [] = .tup [.c .nils, .c (.int .i64 2)] := by kernel_rfl
theorem v12C {Q : V → Prop} : CallP tab 5 [oneL lk0, fewL, .c .nils] Q ↔ Q (.tup [.c .nils, .c (.int .i64 2)]) := by
  have h := cPlay (f := oneF 0) (g1 := (false, false)) (g2 := (false, false)) (g3 := (false, false)) (g4 := (true, false)) (g5 := (false, false)) (b6 := false) (b7 := false) (t := fewT) (g := (true, false)) (plan := []) one_fits (by decide) (Q := Q)
  rw [v12] at h
  exact h
theorem v13 : PlayR false (oneF 0) dryT [0, 1, 2] = .tup [.c .nils, .c (.int .i64 2)] := by kernel_rfl
theorem v13C {t : Bool} {Q : V → Prop} : CallP tab 5 [oneL lk0, dryL, .c (.lst t [[.int .i64 0], [.int .i64 1], [.int .i64 2]])] Q ↔ Q (.tup [.c .nils, .c (.int .i64 2)]) := by
  have h := cPlay (f := oneF 0) (g1 := (false, false)) (g2 := (false, false)) (g3 := (false, false)) (g4 := (true, false)) (g5 := (false, false)) (b6 := false) (b7 := false) (t := dryT) (g := (false, t)) (plan := [0, 1, 2]) one_fits (by decide) (Q := Q)
  rw [v13] at h
  exact h
theorem v14 : BoundsR false (oneF 2) [2, 1] = .tup [.c .nils, .c (.int .i64 2)] := by kernel_rfl
theorem v14C {t : Bool} {Q : V → Prop} : CallP tab 13 [oneL lk2, pl t 2 1] Q ↔ Q (.tup [.c .nils, .c (.int .i64 2)]) := by
  have h := cBounds (f := oneF 2) (g1 := (false, false)) (g2 := (false, false)) (g3 := (false, false)) (g4 := (true, false)) (g5 := (false, false)) (g := (false, t)) (plan := [2, 1]) one_fits (by decide) (Q := Q)
  rw [v14] at h
  exact h
theorem v15 : StandR (oneF 2) 5 = .tup [.agg [.int .i64 0, .int .i64 0], .c (.int .i64 2)] := by kernel_rfl
theorem v15C {Q : V → Prop} : CallP tab 8 [oneL lk2, .c (.int .i64 5)] Q ↔ Q (.tup [.agg [.int .i64 0, .int .i64 0], .c (.int .i64 2)]) := by
  have h := cStanding (f := oneF 2) (g1 := (false, false)) (g2 := (false, false)) (g3 := (false, false)) (g4 := (true, false)) (g5 := (false, false)) (week := 5) one_fits (Q := Q)
  rw [v15] at h
  exact h
theorem v16 (b : Bool) : BestR b (oneF 2) = .tup [.c .nils, .c (.int .i64 0), .c (.int .i64 11)] := by kernel_rfl
theorem v16C {Q : V → Prop} : CallP tab 14 [oneL lk2] Q ↔ Q (.tup [.c .nils, .c (.int .i64 0), .c (.int .i64 11)]) := by
  obtain ⟨b, h⟩ := vBest (f := oneF 2) (g1 := (false, false)) (g2 := (false, false)) (g3 := (false, false)) (g4 := (true, false)) (g5 := (false, false)) one_fits
  rw [v16] at h
  exact CallP_of h (Q := Q)
theorem v17 : FirstR (oneF 1) = .tup [.c (.int .i64 0), .c (.int .i64 7)] := by kernel_rfl
theorem v17C {Q : V → Prop} : CallP tab 15 [oneL (lk1 false 2)] Q ↔ Q (.tup [.c (.int .i64 0), .c (.int .i64 7)]) := by
  have h := cFirst (f := oneF 1) (g1 := (false, false)) (g2 := (false, false)) (g3 := (false, false)) (g4 := (true, false)) (g5 := (false, false))  one_fits (Q := Q)
  rw [v17] at h
  exact h
theorem u1 : checkField (⟨10, [⟨10, 12⟩, ⟨8, 8⟩, ⟨6, 6⟩, ⟨4, 5⟩, ⟨2, 2⟩], [0, 2, 0, 1, 0], [20, 15], [], 2, 4, 50, [⟨2, ⟨25, 25⟩⟩]⟩ : Field) = 3 := by kernel_rfl
theorem u1C {t1 t2 t3 t5 : Bool} {Q : V → Prop} : CallP tab 16 [fieldL 10 (grC t1) (weC t2) (baC t3) .nils 2 (lk1 t5 2)] Q ↔ Q (.c (.int .i64 3)) := by
  have h := cCheckField (f := (⟨10, [⟨10, 12⟩, ⟨8, 8⟩, ⟨6, 6⟩, ⟨4, 5⟩, ⟨2, 2⟩], [0, 2, 0, 1, 0], [20, 15], [], 2, 4, 50, [⟨2, ⟨25, 25⟩⟩]⟩ : Field)) (g1 := (false, t1)) (g2 := (false, t2)) (g3 := (false, t3)) (g4 := (true, false)) (g5 := (false, t5)) (fitsF _ (by decide) (by decide) (by decide) (by decide) (by decide)) (Q := Q)
  rw [u1] at h
  exact h
theorem u2 : checkField (⟨4, [⟨0, 51⟩, ⟨8, 8⟩, ⟨6, 6⟩, ⟨4, 5⟩, ⟨2, 2⟩], [0, 2, 0, 1, 0], [20, 15], [], 2, 4, 50, [⟨2, ⟨25, 25⟩⟩]⟩ : Field) = 1 := by kernel_rfl
theorem u2C {t1 t2 t3 t5 : Bool} {Q : V → Prop} : CallP tab 16 [fieldL 4 (.lst t1 [[.int .i64 0, .int .i64 51], [.int .i64 8, .int .i64 8], [.int .i64 6, .int .i64 6], [.int .i64 4, .int .i64 5], [.int .i64 2, .int .i64 2]]) (weC t2) (baC t3) .nils 2 (lk1 t5 2)] Q ↔ Q (.c (.int .i64 1)) := by
  have h := cCheckField (f := (⟨4, [⟨0, 51⟩, ⟨8, 8⟩, ⟨6, 6⟩, ⟨4, 5⟩, ⟨2, 2⟩], [0, 2, 0, 1, 0], [20, 15], [], 2, 4, 50, [⟨2, ⟨25, 25⟩⟩]⟩ : Field)) (g1 := (false, t1)) (g2 := (false, t2)) (g3 := (false, t3)) (g4 := (true, false)) (g5 := (false, t5)) (fitsF _ (by decide) (by decide) (by decide) (by decide) (by decide)) (Q := Q)
  rw [u2] at h
  exact h
theorem u3 : checkField (⟨4, [⟨10, 12⟩, ⟨8, 8⟩, ⟨6, 6⟩, ⟨4, 5⟩, ⟨2, 2⟩], [3, 2, 0, 1, 0], [20, 15], [], 2, 4, 50, [⟨2, ⟨25, 25⟩⟩]⟩ : Field) = 1 := by kernel_rfl
theorem u3C {t1 t2 t3 t5 : Bool} {Q : V → Prop} : CallP tab 16 [fieldL 4 (grC t1) (.lst t2 [[.int .i64 3], [.int .i64 2], [.int .i64 0], [.int .i64 1], [.int .i64 0]]) (baC t3) .nils 2 (lk1 t5 2)] Q ↔ Q (.c (.int .i64 1)) := by
  have h := cCheckField (f := (⟨4, [⟨10, 12⟩, ⟨8, 8⟩, ⟨6, 6⟩, ⟨4, 5⟩, ⟨2, 2⟩], [3, 2, 0, 1, 0], [20, 15], [], 2, 4, 50, [⟨2, ⟨25, 25⟩⟩]⟩ : Field)) (g1 := (false, t1)) (g2 := (false, t2)) (g3 := (false, t3)) (g4 := (true, false)) (g5 := (false, t5)) (fitsF _ (by decide) (by decide) (by decide) (by decide) (by decide)) (Q := Q)
  rw [u3] at h
  exact h
theorem u4 : checkField (⟨4, [⟨10, 12⟩, ⟨8, 8⟩, ⟨6, 6⟩, ⟨4, 5⟩, ⟨2, 2⟩], [0, 2, 0, 1, 0], [20, 21], [], 2, 4, 50, [⟨2, ⟨25, 25⟩⟩]⟩ : Field) = 1 := by kernel_rfl
theorem u4C {t1 t2 t3 t5 : Bool} {Q : V → Prop} : CallP tab 16 [fieldL 4 (grC t1) (weC t2) (.lst t3 [[.int .i64 20], [.int .i64 21]]) .nils 2 (lk1 t5 2)] Q ↔ Q (.c (.int .i64 1)) := by
  have h := cCheckField (f := (⟨4, [⟨10, 12⟩, ⟨8, 8⟩, ⟨6, 6⟩, ⟨4, 5⟩, ⟨2, 2⟩], [0, 2, 0, 1, 0], [20, 21], [], 2, 4, 50, [⟨2, ⟨25, 25⟩⟩]⟩ : Field)) (g1 := (false, t1)) (g2 := (false, t2)) (g3 := (false, t3)) (g4 := (true, false)) (g5 := (false, t5)) (fitsF _ (by decide) (by decide) (by decide) (by decide) (by decide)) (Q := Q)
  rw [u4] at h
  exact h
theorem u5 : checkField (⟨4, [⟨10, 12⟩, ⟨8, 8⟩, ⟨6, 6⟩, ⟨4, 5⟩, ⟨2, 2⟩], [0, 2, 0, 1, 0], [20, 15], [], 0, 4, 50, [⟨2, ⟨25, 25⟩⟩]⟩ : Field) = 1 := by kernel_rfl
theorem u5C {t1 t2 t3 t5 : Bool} {Q : V → Prop} : CallP tab 16 [fieldL 4 (grC t1) (weC t2) (baC t3) .nils 0 (lk1 t5 2)] Q ↔ Q (.c (.int .i64 1)) := by
  have h := cCheckField (f := (⟨4, [⟨10, 12⟩, ⟨8, 8⟩, ⟨6, 6⟩, ⟨4, 5⟩, ⟨2, 2⟩], [0, 2, 0, 1, 0], [20, 15], [], 0, 4, 50, [⟨2, ⟨25, 25⟩⟩]⟩ : Field)) (g1 := (false, t1)) (g2 := (false, t2)) (g3 := (false, t3)) (g4 := (true, false)) (g5 := (false, t5)) (fitsF _ (by decide) (by decide) (by decide) (by decide) (by decide)) (Q := Q)
  rw [u5] at h
  exact h
theorem u6 : checkField (⟨4, [⟨10, 12⟩, ⟨8, 8⟩, ⟨6, 6⟩, ⟨4, 5⟩, ⟨2, 2⟩], [0, 2, 0, 1, 0], [20, 15], [0, 1, 2], 2, 4, 50, [⟨2, ⟨25, 25⟩⟩]⟩ : Field) = 1 := by kernel_rfl
theorem u6C {t1 t2 t3 t4 t5 : Bool} {Q : V → Prop} : CallP tab 16 [fieldL 4 (grC t1) (weC t2) (baC t3) (.lst t4 [[.int .i64 0], [.int .i64 1], [.int .i64 2]]) 2 (lk1 t5 2)] Q ↔ Q (.c (.int .i64 1)) := by
  have h := cCheckField (f := (⟨4, [⟨10, 12⟩, ⟨8, 8⟩, ⟨6, 6⟩, ⟨4, 5⟩, ⟨2, 2⟩], [0, 2, 0, 1, 0], [20, 15], [0, 1, 2], 2, 4, 50, [⟨2, ⟨25, 25⟩⟩]⟩ : Field)) (g1 := (false, t1)) (g2 := (false, t2)) (g3 := (false, t3)) (g4 := (false, t4)) (g5 := (false, t5)) (fitsF _ (by decide) (by decide) (by decide) (by decide) (by decide)) (Q := Q)
  rw [u6] at h
  exact h
theorem u7 : checkField (⟨4, [⟨10, 12⟩, ⟨8, 8⟩, ⟨6, 6⟩, ⟨4, 5⟩, ⟨2, 2⟩], [0, 2, 0, 1, 0], [20, 15], [], 2, 4, 50, [⟨5, ⟨25, 25⟩⟩]⟩ : Field) = 1 := by kernel_rfl
theorem u7C {t1 t2 t3 t5 : Bool} {Q : V → Prop} : CallP tab 16 [fieldL 4 (grC t1) (weC t2) (baC t3) .nils 2 (lk1 t5 5)] Q ↔ Q (.c (.int .i64 1)) := by
  have h := cCheckField (f := (⟨4, [⟨10, 12⟩, ⟨8, 8⟩, ⟨6, 6⟩, ⟨4, 5⟩, ⟨2, 2⟩], [0, 2, 0, 1, 0], [20, 15], [], 2, 4, 50, [⟨5, ⟨25, 25⟩⟩]⟩ : Field)) (g1 := (false, t1)) (g2 := (false, t2)) (g3 := (false, t3)) (g4 := (true, false)) (g5 := (false, t5)) (fitsF _ (by decide) (by decide) (by decide) (by decide) (by decide)) (Q := Q)
  rw [u7] at h
  exact h
theorem u8 : checkField (⟨4, [⟨10, 12⟩, ⟨8, 8⟩, ⟨6, 6⟩, ⟨4, 5⟩, ⟨2, 2⟩], [0, 2, 0, 1, 0], [4, 3, 2, 1], [], 2, 4, 50, [⟨2, ⟨25, 25⟩⟩]⟩ : Field) = 3 := by kernel_rfl
theorem u8C {t1 t2 t3 t5 : Bool} {Q : V → Prop} : CallP tab 16 [fieldL 4 (grC t1) (weC t2) (.lst t3 [[.int .i64 4], [.int .i64 3], [.int .i64 2], [.int .i64 1]]) .nils 2 (lk1 t5 2)] Q ↔ Q (.c (.int .i64 3)) := by
  have h := cCheckField (f := (⟨4, [⟨10, 12⟩, ⟨8, 8⟩, ⟨6, 6⟩, ⟨4, 5⟩, ⟨2, 2⟩], [0, 2, 0, 1, 0], [4, 3, 2, 1], [], 2, 4, 50, [⟨2, ⟨25, 25⟩⟩]⟩ : Field)) (g1 := (false, t1)) (g2 := (false, t2)) (g3 := (false, t3)) (g4 := (true, false)) (g5 := (false, t5)) (fitsF _ (by decide) (by decide) (by decide) (by decide) (by decide)) (Q := Q)
  rw [u8] at h
  exact h
theorem u9 : checkField (⟨4, [⟨0, 49⟩, ⟨0, 10⟩, ⟨6, 6⟩, ⟨4, 5⟩, ⟨2, 2⟩], [0, 2, 0, 1, 0], [20, 15], [], 2, 4, 50, [⟨2, ⟨25, 25⟩⟩]⟩ : Field) = 3 := by kernel_rfl
theorem u9C {t1 t2 t3 t5 : Bool} {Q : V → Prop} : CallP tab 16 [fieldL 4 (.lst t1 [[.int .i64 0, .int .i64 49], [.int .i64 0, .int .i64 10], [.int .i64 6, .int .i64 6], [.int .i64 4, .int .i64 5], [.int .i64 2, .int .i64 2]]) (weC t2) (baC t3) .nils 2 (lk1 t5 2)] Q ↔ Q (.c (.int .i64 3)) := by
  have h := cCheckField (f := (⟨4, [⟨0, 49⟩, ⟨0, 10⟩, ⟨6, 6⟩, ⟨4, 5⟩, ⟨2, 2⟩], [0, 2, 0, 1, 0], [20, 15], [], 2, 4, 50, [⟨2, ⟨25, 25⟩⟩]⟩ : Field)) (g1 := (false, t1)) (g2 := (false, t2)) (g3 := (false, t3)) (g4 := (true, false)) (g5 := (false, t5)) (fitsF _ (by decide) (by decide) (by decide) (by decide) (by decide)) (Q := Q)
  rw [u9] at h
  exact h
theorem u10 : checkField (⟨0, [], [], [], [], 0, 0, 0, []⟩ : Field) = 1 := by kernel_rfl
theorem u10C {Q : V → Prop} : CallP tab 16 [.agg [.int .i64 0, .nils, .nils, .nils, .nils, .int .i64 0, .int .i64 0, .int .i64 0, .nils]] Q ↔ Q (.c (.int .i64 1)) := by
  have h := cCheckField (f := (⟨0, [], [], [], [], 0, 0, 0, []⟩ : Field)) (g1 := (true, false)) (g2 := (true, false)) (g3 := (true, false)) (g4 := (true, false)) (g5 := (true, false)) (fitsF _ (by decide) (by decide) (by decide) (by decide) (by decide)) (Q := Q)
  rw [u10] at h
  exact h
end Am.Cr

namespace Am.Cr
open Go Am
set_option maxRecDepth 1000000
set_option maxHeartbeats 4000000
set_option linter.unusedSimpArgs false
set_option linter.unusedVariables false
theorem FDry {H : List Obj} {Q : V → List Obj → Prop} : Fn tab (.f 4 [] H) Q ↔ Q (.agg [.sl (H.length + 1) 0 0 5, .sl (H.length + 2) 0 0 5]) (H ++ [.cells [.sl (H.length + 1) 0 0 5, .sl (H.length + 2) 0 0 5],
    .arr false 0 1 [[.int .i64 10], [.int .i64 8], [.int .i64 6], [.int .i64 4], [.int .i64 2]],
    .arr false 0 1 [[.int .i64 0], [.int .i64 0], [.int .i64 0], [.int .i64 1], [.int .i64 0]]]) := Fn_iff (by
  refine Fn_X (fn := f4) rfl rfl ?_
  simp only [go_sem, f4, disj_nil])
theorem FOne {H : List Obj} {Q : V → List Obj → Prop} : Fn tab (.f 6 [.c (.int .i64 1)] H) Q ↔ Q (.agg [C.int .i64 4, .sl (H.length + 2) 0 0 5, .sl (H.length + 3) 0 0 5, .sl (H.length + 4) 0 0 2, .nils, .int .i64 2, .int .i64 4, .int .i64 50, .sl (H.length + 1) 0 0 1]) (H ++ [.cells [C.int .i64 4, .sl (H.length + 2) 0 0 5, .sl (H.length + 3) 0 0 5, .sl (H.length + 4) 0 0 2, .nils, .int .i64 2, .int .i64 4, .int .i64 50, .sl (H.length + 1) 0 0 1],
    .arr false 0 3 [[.int .i64 2, .int .i64 25, .int .i64 25], [.int .i64 1, .int .i64 18, .int .i64 18]],
    .arr false 0 2 [[.int .i64 10, .int .i64 12], [.int .i64 8, .int .i64 8], [.int .i64 6, .int .i64 6], [.int .i64 4, .int .i64 5], [.int .i64 2, .int .i64 2]],
    .arr false 0 1 [[.int .i64 0], [.int .i64 2], [.int .i64 0], [.int .i64 1], [.int .i64 0]],
    .arr false 0 1 [[.int .i64 20], [.int .i64 15]]]) := Fn_iff (by
  refine Fn_X (fn := f6) rfl rfl ?_
  have h12 : 1 ≤ 2 := by decide
  simp only [go_sem, f6, lbetween, h12, disj_nil])
theorem CropNames_val : Val tab 3 [] (.c (.bool true)) := by
  obtain ⟨lb, hLeave⟩ := v6C
  have x0 : atI [Crop.mk 9 20 180, Crop.mk 5 15 75] 0 = Crop.mk 9 20 180 := rfl
  have h34 : 4 ≤ 5 := by decide
  refine Val_X (fn := f3) rfl ?_
  simp (maxSteps := 1000000) only [go_sem, f3, FOne, FDry, one0L, one1L, one2L, dryLL, lbetween, v1C, v2C, v3C, v4C, v5C, hLeave, v7C, v8C, v9C, v10C, v11C, v12C, v13C, v14C, v15C, v16C, v17C, u1C, u2C, u3C, u4C, u5C, u6C, u7C, u8C, u9C, u10C, x0, h34, lawake, disj_nil, List.length_cons, List.length_nil]
end Am.Cr

