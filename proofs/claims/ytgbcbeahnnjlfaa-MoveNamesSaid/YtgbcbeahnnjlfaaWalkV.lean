/-
  A part of the proof: the texts MN1, MN2 of this seat, joined.
-/
import Derived.Test.YtgbcbeahnnjlfaaWalkD
namespace Am.Mv
open Go Am Am.Tm
set_option maxRecDepth 1000000
set_option maxHeartbeats 4000000
set_option linter.unusedSimpArgs false
set_option linter.unusedVariables false
abbrev g0 : Bool × Bool := (false, false)
abbrev twoA (p : Int) : V := .agg [.int .i64 2, .int .i64 0, .int .i64 p, .int .i64 1, .int .i64 2, .lst false [[.int .i64 20, .int .i64 12, .int .i64 2], [.int .i64 30, .int .i64 10, .int .i64 4]], .lst false [[.lst [[.int .i64 0], [.int .i64 5]]], [.lst [[.int .i64 5], [.int .i64 0]]]]]
theorem twoC {p : Int} {Q : V → Prop} : CallP tab 13 [.c (.int .i64 p)] Q ↔ Q (twoA p) := P47
abbrev pl3 (t : Bool) (a b c : Int) : V := .c (.lst t [[.int .i64 a], [.int .i64 b], [.int .i64 c]])
abbrev pl2 (t : Bool) (a b : Int) : V := .c (.lst t [[.int .i64 a], [.int .i64 b]])
abbrev pl1 (t : Bool) (a : Int) : V := .c (.lst t [[.int .i64 a]])
theorem v1 : playR (twoL 10) [0, 0, 1] [] = .tup [.c (L (false, false) [Year.mk 20 2 28, Year.mk 12 2 38, Year.mk 30 9 59]), .c (.int .i64 0)] := by kernel_rfl
theorem v1C {t : Bool} {Q : V → Prop} : CallP tab 10 [twoA 10, pl3 t 0 0 1, .c .nils] Q ↔ Q (.tup [.c (L (false, false) [Year.mk 20 2 28, Year.mk 12 2 38, Year.mk 30 9 59]), .c (.int .i64 0)]) := by
  have h := P18 (l := twoL 10) (g1 := g0) (g2 := g0) (g3 := (false, t)) (g4 := (true, false)) (plan := [0, 0, 1]) (ws := []) two_fits (by decide) (by decide) (Q := Q)
  rw [v1] at h
  exact h
theorem v2 : playR (twoL 10) [0, 1, 0] [] = .tup [.c (L (false, false) [Year.mk 20 2 28, Year.mk 30 9 49, Year.mk 12 7 54]), .c (.int .i64 0)] := by kernel_rfl
theorem v2C {t : Bool} {Q : V → Prop} : CallP tab 10 [twoA 10, pl3 t 0 1 0, .c .nils] Q ↔ Q (.tup [.c (L (false, false) [Year.mk 20 2 28, Year.mk 30 9 49, Year.mk 12 7 54]), .c (.int .i64 0)]) := by
  have h := P18 (l := twoL 10) (g1 := g0) (g2 := g0) (g3 := (false, t)) (g4 := (true, false)) (plan := [0, 1, 0]) (ws := []) two_fits (by decide) (by decide) (Q := Q)
  rw [v2] at h
  exact h
theorem e1 : playR (twoL 10) [0, 0, 2] [] = .tup [.c .nils, .c (.int .i64 2)] := by kernel_rfl
theorem e1C {t : Bool} {Q : V → Prop} : CallP tab 10 [twoA 10, pl3 t 0 0 2, .c .nils] Q ↔ Q (.tup [.c .nils, .c (.int .i64 2)]) := by
  have h := P18 (l := twoL 10) (g1 := g0) (g2 := g0) (g3 := (false, t)) (g4 := (true, false)) (plan := [0, 0, 2]) (ws := []) two_fits (by decide) (by decide) (Q := Q)
  rw [e1] at h
  exact h
theorem e2 : playR (twoL 10) [0, 0, 1] [0, 1] = .tup [.c .nils, .c (.int .i64 2)] := by kernel_rfl
theorem e2C {t u : Bool} {Q : V → Prop} : CallP tab 10 [twoA 10, pl3 t 0 0 1, pl2 u 0 1] Q ↔ Q (.tup [.c .nils, .c (.int .i64 2)]) := by
  have h := P18 (l := twoL 10) (g1 := g0) (g2 := g0) (g3 := (false, t)) (g4 := (false, u)) (plan := [0, 0, 1]) (ws := [0, 1]) two_fits (by decide) (by decide) (Q := Q)
  rw [e2] at h
  exact h
theorem e3 : playR (twoL 8) [1, 0, 0] [] = .tup [.c .nils, .c (.int .i64 9)] := by kernel_rfl
theorem e3C {t : Bool} {Q : V → Prop} : CallP tab 10 [twoA 8, pl3 t 1 0 0, .c .nils] Q ↔ Q (.tup [.c .nils, .c (.int .i64 9)]) := by
  have h := P18 (l := twoL 8) (g1 := g0) (g2 := g0) (g3 := (false, t)) (g4 := (true, false)) (plan := [1, 0, 0]) (ws := []) two_fits (by decide) (by decide) (Q := Q)
  rw [e3] at h
  exact h
theorem v3 (b : Bool) : SureR b (twoL 10) [0, 0, 1] = .tup [.c (.int .i64 34), .c (L (b, false) ([2] : List Int)), .c (.int .i64 0)] := by kernel_rfl
theorem v3C : ∃ b : Bool, ∀ {Q : V → Prop}, CallP tab 14 [twoA 10, pl3 true 0 0 1] Q ↔ Q (.tup [.c (.int .i64 34), .c (L (b, false) ([2] : List Int)), .c (.int .i64 0)]) := by
  obtain ⟨b, h⟩ := V39 (l := twoL 10) (g1 := g0) (g2 := g0) (g3 := (false, true)) (plan := [0, 0, 1]) two_fits (by decide)
  have h' := fun Q => h (Q := Q)
  rw [v3] at h'
  exact ⟨b, fun {Q} => h' Q⟩
theorem v4 (b : Bool) : SureR b (twoL 10) [1, 0, 0] = .tup [.c (.int .i64 29), .c (L (b, false) ([0] : List Int)), .c (.int .i64 0)] := by kernel_rfl
theorem v4C : ∃ b : Bool, ∀ {Q : V → Prop}, CallP tab 14 [twoA 10, pl3 true 1 0 0] Q ↔ Q (.tup [.c (.int .i64 29), .c (L (b, false) ([0] : List Int)), .c (.int .i64 0)]) := by
  obtain ⟨b, h⟩ := V39 (l := twoL 10) (g1 := g0) (g2 := g0) (g3 := (false, true)) (plan := [1, 0, 0]) two_fits (by decide)
  have h' := fun Q => h (Q := Q)
  rw [v4] at h'
  exact ⟨b, fun {Q} => h' Q⟩
theorem e4 (b : Bool) : SureR b (twoL 8) [1, 0, 0] = .tup [.c (.int .i64 0), .c .nils, .c (.int .i64 9)] := by kernel_rfl
theorem e4C : ∃ b : Bool, ∀ {Q : V → Prop}, CallP tab 14 [twoA 8, pl3 true 1 0 0] Q ↔ Q (.tup [.c (.int .i64 0), .c .nils, .c (.int .i64 9)]) := by
  obtain ⟨b, h⟩ := V39 (l := twoL 8) (g1 := g0) (g2 := g0) (g3 := (false, true)) (plan := [1, 0, 0]) two_fits (by decide)
  have h' := fun Q => h (Q := Q)
  rw [e4] at h'
  exact ⟨b, fun {Q} => h' Q⟩
theorem v5 : WorthR (twoL 10) 1 = .tup [.c (.int .i64 18), .c (.int .i64 0)] := by kernel_rfl
theorem v5C {Q : V → Prop} : CallP tab 15 [twoA 10, .c (.int .i64 1)] Q ↔ Q (.tup [.c (.int .i64 18), .c (.int .i64 0)]) := by
  have h := P29 (l := twoL 10) (g1 := g0) (g2 := g0) (site := 1) two_fits (Q := Q)
  rw [v5] at h
  exact h
theorem e7 : WorthR (twoL 10) 2 = .tup [.c (.int .i64 0), .c (.int .i64 2)] := by kernel_rfl
theorem e7C {Q : V → Prop} : CallP tab 15 [twoA 10, .c (.int .i64 2)] Q ↔ Q (.tup [.c (.int .i64 0), .c (.int .i64 2)]) := by
  have h := P29 (l := twoL 10) (g1 := g0) (g2 := g0) (site := 2) two_fits (Q := Q)
  rw [e7] at h
  exact h
theorem v6 : GoR (twoL 10) [] [] = .tup [.c (.int .i64 0), .c (.int .i64 34), .c (.int .i64 0)] := by kernel_rfl
theorem v6C {Q : V → Prop} : CallP tab 16 [twoA 10, .c .nils, .c .nils] Q ↔ Q (.tup [.c (.int .i64 0), .c (.int .i64 34), .c (.int .i64 0)]) := by
  have h := P34 (l := twoL 10) (g1 := g0) (g2 := g0) (g3 := (true, false)) (g4 := (true, false)) (sites := []) (bad := []) two_fits (by decide) (by decide) (Q := Q)
  rw [v6] at h
  exact h
theorem v7 : GoR (twoL 10) [0, 0] [] = .tup [.c (.int .i64 1), .c (.int .i64 34), .c (.int .i64 0)] := by kernel_rfl
theorem v7C {t : Bool} {Q : V → Prop} : CallP tab 16 [twoA 10, pl2 t 0 0, .c .nils] Q ↔ Q (.tup [.c (.int .i64 1), .c (.int .i64 34), .c (.int .i64 0)]) := by
  have h := P34 (l := twoL 10) (g1 := g0) (g2 := g0) (g3 := (false, t)) (g4 := (true, false)) (sites := [0, 0]) (bad := []) two_fits (by decide) (by decide) (Q := Q)
  rw [v7] at h
  exact h
theorem e8 : GoR (twoL 10) [0, 0, 0] [] = .tup [.c (.int .i64 0), .c (.int .i64 0), .c (.int .i64 2)] := by kernel_rfl
theorem e8C {t : Bool} {Q : V → Prop} : CallP tab 16 [twoA 10, pl3 t 0 0 0, .c .nils] Q ↔ Q (.tup [.c (.int .i64 0), .c (.int .i64 0), .c (.int .i64 2)]) := by
  have h := P34 (l := twoL 10) (g1 := g0) (g2 := g0) (g3 := (false, t)) (g4 := (true, false)) (sites := [0, 0, 0]) (bad := []) two_fits (by decide) (by decide) (Q := Q)
  rw [e8] at h
  exact h
theorem e9 : GoR (twoL 10) [0] [1] = .tup [.c (.int .i64 0), .c (.int .i64 0), .c (.int .i64 2)] := by kernel_rfl
theorem e9C {t u : Bool} {Q : V → Prop} : CallP tab 16 [twoA 10, pl1 t 0, pl1 u 1] Q ↔ Q (.tup [.c (.int .i64 0), .c (.int .i64 0), .c (.int .i64 2)]) := by
  have h := P34 (l := twoL 10) (g1 := g0) (g2 := g0) (g3 := (false, t)) (g4 := (false, u)) (sites := [0]) (bad := [1]) two_fits (by decide) (by decide) (Q := Q)
  rw [e9] at h
  exact h
theorem e10 : GoR (twoL 8) [1] [] = .tup [.c (.int .i64 0), .c (.int .i64 0), .c (.int .i64 9)] := by kernel_rfl
theorem e10C {t : Bool} {Q : V → Prop} : CallP tab 16 [twoA 8, pl1 t 1, .c .nils] Q ↔ Q (.tup [.c (.int .i64 0), .c (.int .i64 0), .c (.int .i64 9)]) := by
  have h := P34 (l := twoL 8) (g1 := g0) (g2 := g0) (g3 := (false, t)) (g4 := (true, false)) (sites := [1]) (bad := []) two_fits (by decide) (by decide) (Q := Q)
  rw [e10] at h
  exact h
theorem v8 : proves (twoL 10) [0, 0, 1] 34 = true := by kernel_rfl
theorem v8C {t : Bool} {Q : V → Prop} : CallP tab 19 [twoA 10, pl3 t 0 0 1, .c (.int .i64 34)] Q ↔ Q (.c (.bool true)) := by
  have h := P45 (l := twoL 10) (g1 := g0) (g2 := g0) (g3 := (false, t)) (plan := [0, 0, 1]) (profit := 34) two_fits (by decide) (Q := Q)
  rw [v8] at h
  exact h
theorem v9 : proves (twoL 10) [0, 0, 1] 35 = false := by kernel_rfl
theorem v9C {t : Bool} {Q : V → Prop} : CallP tab 19 [twoA 10, pl3 t 0 0 1, .c (.int .i64 35)] Q ↔ Q (.c (.bool false)) := by
  have h := P45 (l := twoL 10) (g1 := g0) (g2 := g0) (g3 := (false, t)) (plan := [0, 0, 1]) (profit := 35) two_fits (by decide) (Q := Q)
  rw [v9] at h
  exact h
theorem v10 : proves (twoL 8) [1, 0, 0] 0 = false := by kernel_rfl
theorem v10C {t : Bool} {Q : V → Prop} : CallP tab 19 [twoA 8, pl3 t 1 0 0, .c (.int .i64 0)] Q ↔ Q (.c (.bool false)) := by
  have h := P45 (l := twoL 8) (g1 := g0) (g2 := g0) (g3 := (false, t)) (plan := [1, 0, 0]) (profit := 0) two_fits (by decide) (Q := Q)
  rw [v10] at h
  exact h
theorem v11 : proves (twoL 10) [0, 0] (-99) = false := by kernel_rfl
theorem v11C {t : Bool} {Q : V → Prop} : CallP tab 19 [twoA 10, pl2 t 0 0, .c (.int .i64 (-99))] Q ↔ Q (.c (.bool false)) := by
  have h := P45 (l := twoL 10) (g1 := g0) (g2 := g0) (g3 := (false, t)) (plan := [0, 0]) (profit := (-99)) two_fits (by decide) (Q := Q)
  rw [v11] at h
  exact h
theorem e5 (b : Bool) : BestR b (twoL 1) = .tup [.c .nils, .c (.int .i64 0), .c (.int .i64 10)] := by kernel_rfl
theorem e5C {Q : V → Prop} : CallP tab 20 [twoA 1] Q ↔ Q (.tup [.c .nils, .c (.int .i64 0), .c (.int .i64 10)]) := by
  obtain ⟨b, h⟩ := V27 (l := twoL 1) (g1 := g0) (g2 := g0) two_fits
  have h' := fun Q => h (Q := Q)
  rw [e5] at h'
  exact h' Q
theorem e6 : SeenR (twoL 1) = .tup [.c (.int .i64 0), .c (.int .i64 10)] := by kernel_rfl
theorem e6C {Q : V → Prop} : CallP tab 21 [twoA 1] Q ↔ Q (.tup [.c (.int .i64 0), .c (.int .i64 10)]) := by
  have h := P33 (l := twoL 1) (g1 := g0) (g2 := g0) two_fits (Q := Q)
  rw [e6] at h
  exact h
theorem u1 : checkLand (⟨5, 0, 10, 1, 2, [⟨20, 12, 2⟩, ⟨30, 10, 4⟩], [[0, 5], [5, 0]]⟩ : Land) = 3 := by kernel_rfl
theorem u1C {t1 t2 : Bool} {Q : V → Prop} : CallP tab 22 [.agg [.int .i64 5, .int .i64 0, .int .i64 10, .int .i64 1, .int .i64 2, .lst t1 [[.int .i64 20, .int .i64 12, .int .i64 2], [.int .i64 30, .int .i64 10, .int .i64 4]], .lst t2 [[.lst [[.int .i64 0], [.int .i64 5]]], [.lst [[.int .i64 5], [.int .i64 0]]]]]] Q ↔ Q (.c (.int .i64 3)) := by
  have h := P22 (last := 5) (home := 0) (purse := 10) (bad := 1) (rest := 2) (sites := [⟨20, 12, 2⟩, ⟨30, 10, 4⟩]) (roads := [[0, 5], [5, 0]]) (g1 := (false, t1)) (g2 := (false, t2)) (by refine ⟨?_, ?_, ?_⟩ <;> decide) (Q := Q)
  rw [u1] at h
  exact h
theorem u2 : checkLand (⟨2, 2, 10, 1, 2, [⟨20, 12, 2⟩, ⟨30, 10, 4⟩], [[0, 5], [5, 0]]⟩ : Land) = 1 := by kernel_rfl
theorem u2C {t1 t2 : Bool} {Q : V → Prop} : CallP tab 22 [.agg [.int .i64 2, .int .i64 2, .int .i64 10, .int .i64 1, .int .i64 2, .lst t1 [[.int .i64 20, .int .i64 12, .int .i64 2], [.int .i64 30, .int .i64 10, .int .i64 4]], .lst t2 [[.lst [[.int .i64 0], [.int .i64 5]]], [.lst [[.int .i64 5], [.int .i64 0]]]]]] Q ↔ Q (.c (.int .i64 1)) := by
  have h := P22 (last := 2) (home := 2) (purse := 10) (bad := 1) (rest := 2) (sites := [⟨20, 12, 2⟩, ⟨30, 10, 4⟩]) (roads := [[0, 5], [5, 0]]) (g1 := (false, t1)) (g2 := (false, t2)) (by refine ⟨?_, ?_, ?_⟩ <;> decide) (Q := Q)
  rw [u2] at h
  exact h
theorem u3 : checkLand (⟨2, 0, 10, 4, 2, [⟨20, 12, 2⟩, ⟨30, 10, 4⟩], [[0, 5], [5, 0]]⟩ : Land) = 1 := by kernel_rfl
theorem u3C {t1 t2 : Bool} {Q : V → Prop} : CallP tab 22 [.agg [.int .i64 2, .int .i64 0, .int .i64 10, .int .i64 4, .int .i64 2, .lst t1 [[.int .i64 20, .int .i64 12, .int .i64 2], [.int .i64 30, .int .i64 10, .int .i64 4]], .lst t2 [[.lst [[.int .i64 0], [.int .i64 5]]], [.lst [[.int .i64 5], [.int .i64 0]]]]]] Q ↔ Q (.c (.int .i64 1)) := by
  have h := P22 (last := 2) (home := 0) (purse := 10) (bad := 4) (rest := 2) (sites := [⟨20, 12, 2⟩, ⟨30, 10, 4⟩]) (roads := [[0, 5], [5, 0]]) (g1 := (false, t1)) (g2 := (false, t2)) (by refine ⟨?_, ?_, ?_⟩ <;> decide) (Q := Q)
  rw [u3] at h
  exact h
theorem u4 : checkLand (⟨2, 0, 10, 1, 0, [⟨20, 12, 2⟩, ⟨30, 10, 4⟩], [[0, 5], [5, 0]]⟩ : Land) = 1 := by kernel_rfl
theorem u4C {t1 t2 : Bool} {Q : V → Prop} : CallP tab 22 [.agg [.int .i64 2, .int .i64 0, .int .i64 10, .int .i64 1, .int .i64 0, .lst t1 [[.int .i64 20, .int .i64 12, .int .i64 2], [.int .i64 30, .int .i64 10, .int .i64 4]], .lst t2 [[.lst [[.int .i64 0], [.int .i64 5]]], [.lst [[.int .i64 5], [.int .i64 0]]]]]] Q ↔ Q (.c (.int .i64 1)) := by
  have h := P22 (last := 2) (home := 0) (purse := 10) (bad := 1) (rest := 0) (sites := [⟨20, 12, 2⟩, ⟨30, 10, 4⟩]) (roads := [[0, 5], [5, 0]]) (g1 := (false, t1)) (g2 := (false, t2)) (by refine ⟨?_, ?_, ?_⟩ <;> decide) (Q := Q)
  rw [u4] at h
  exact h
theorem u5 : checkLand (⟨2, 0, 10, 1, 2, [⟨20, 21, 2⟩, ⟨30, 10, 4⟩], [[0, 5], [5, 0]]⟩ : Land) = 1 := by kernel_rfl
theorem u5C {t1 t2 : Bool} {Q : V → Prop} : CallP tab 22 [.agg [.int .i64 2, .int .i64 0, .int .i64 10, .int .i64 1, .int .i64 2, .lst t1 [[.int .i64 20, .int .i64 21, .int .i64 2], [.int .i64 30, .int .i64 10, .int .i64 4]], .lst t2 [[.lst [[.int .i64 0], [.int .i64 5]]], [.lst [[.int .i64 5], [.int .i64 0]]]]]] Q ↔ Q (.c (.int .i64 1)) := by
  have h := P22 (last := 2) (home := 0) (purse := 10) (bad := 1) (rest := 2) (sites := [⟨20, 21, 2⟩, ⟨30, 10, 4⟩]) (roads := [[0, 5], [5, 0]]) (g1 := (false, t1)) (g2 := (false, t2)) (by refine ⟨?_, ?_, ?_⟩ <;> decide) (Q := Q)
  rw [u5] at h
  exact h
theorem u6 : checkLand (⟨2, 0, 10, 1, 2, [⟨20, 12, 2⟩, ⟨30, 10, 4⟩], [[0, 5]]⟩ : Land) = 1 := by kernel_rfl
theorem u6C {t1 t2 : Bool} {Q : V → Prop} : CallP tab 22 [.agg [.int .i64 2, .int .i64 0, .int .i64 10, .int .i64 1, .int .i64 2, .lst t1 [[.int .i64 20, .int .i64 12, .int .i64 2], [.int .i64 30, .int .i64 10, .int .i64 4]], .lst t2 [[.lst [[.int .i64 0], [.int .i64 5]]]]]] Q ↔ Q (.c (.int .i64 1)) := by
  have h := P22 (last := 2) (home := 0) (purse := 10) (bad := 1) (rest := 2) (sites := [⟨20, 12, 2⟩, ⟨30, 10, 4⟩]) (roads := [[0, 5]]) (g1 := (false, t1)) (g2 := (false, t2)) (by refine ⟨?_, ?_, ?_⟩ <;> decide) (Q := Q)
  rw [u6] at h
  exact h
theorem u7 : checkLand (⟨2, 0, 10, 1, 2, [⟨20, 12, 2⟩, ⟨30, 10, 4⟩], [[0, 5], [5, 1]]⟩ : Land) = 1 := by kernel_rfl
theorem u7C {t1 t2 : Bool} {Q : V → Prop} : CallP tab 22 [.agg [.int .i64 2, .int .i64 0, .int .i64 10, .int .i64 1, .int .i64 2, .lst t1 [[.int .i64 20, .int .i64 12, .int .i64 2], [.int .i64 30, .int .i64 10, .int .i64 4]], .lst t2 [[.lst [[.int .i64 0], [.int .i64 5]]], [.lst [[.int .i64 5], [.int .i64 1]]]]]] Q ↔ Q (.c (.int .i64 1)) := by
  have h := P22 (last := 2) (home := 0) (purse := 10) (bad := 1) (rest := 2) (sites := [⟨20, 12, 2⟩, ⟨30, 10, 4⟩]) (roads := [[0, 5], [5, 1]]) (g1 := (false, t1)) (g2 := (false, t2)) (by refine ⟨?_, ?_, ?_⟩ <;> decide) (Q := Q)
  rw [u7] at h
  exact h
theorem u8 : checkLand (⟨2, 0, 10, 1, 2, [⟨0, 0, 0⟩, ⟨0, 0, 0⟩, ⟨0, 0, 0⟩, ⟨0, 0, 0⟩, ⟨0, 0, 0⟩], [[0, 5], [5, 0]]⟩ : Land) = 3 := by kernel_rfl
theorem u8C {t1 t2 : Bool} {Q : V → Prop} : CallP tab 22 [.agg [.int .i64 2, .int .i64 0, .int .i64 10, .int .i64 1, .int .i64 2, .lst t1 [[.int .i64 0, .int .i64 0, .int .i64 0], [.int .i64 0, .int .i64 0, .int .i64 0], [.int .i64 0, .int .i64 0, .int .i64 0], [.int .i64 0, .int .i64 0, .int .i64 0], [.int .i64 0, .int .i64 0, .int .i64 0]], .lst t2 [[.lst [[.int .i64 0], [.int .i64 5]]], [.lst [[.int .i64 5], [.int .i64 0]]]]]] Q ↔ Q (.c (.int .i64 3)) := by
  have h := P22 (last := 2) (home := 0) (purse := 10) (bad := 1) (rest := 2) (sites := [⟨0, 0, 0⟩, ⟨0, 0, 0⟩, ⟨0, 0, 0⟩, ⟨0, 0, 0⟩, ⟨0, 0, 0⟩]) (roads := [[0, 5], [5, 0]]) (g1 := (false, t1)) (g2 := (false, t2)) (by refine ⟨?_, ?_, ?_⟩ <;> decide) (Q := Q)
  rw [u8] at h
  exact h
theorem u9 : checkLand (⟨0, 0, 0, 0, 0, [], []⟩ : Land) = 1 := by kernel_rfl
theorem u9C {Q : V → Prop} : CallP tab 22 [.agg [.int .i64 0, .int .i64 0, .int .i64 0, .int .i64 0, .int .i64 0, .nils, .nils]] Q ↔ Q (.c (.int .i64 1)) := by
  have h := P22 (last := 0) (home := 0) (purse := 0) (bad := 0) (rest := 0) (sites := []) (roads := []) (g1 := (true, false)) (g2 := (true, false)) (by refine ⟨?_, ?_, ?_⟩ <;> decide) (Q := Q)
  rw [u9] at h
  exact h
end Am.Mv

namespace Am.Mv
open Go Am Am.Tm
set_option maxRecDepth 1000000
set_option maxHeartbeats 4000000
set_option linter.unusedSimpArgs false
set_option linter.unusedVariables false
theorem FTwo {H : List Obj} {Q : V → List Obj → Prop} : Fn tab (.f 13 [.c (.int .i64 10)] H) Q ↔ Q (.agg [C.int .i64 2, .int .i64 0, .int .i64 10, .int .i64 1, .int .i64 2, .sl (H.length + 1) 0 0 2, .ls [.sl (H.length + 2) 0 0 2, .sl (H.length + 3) 0 0 2]]) (H ++ [.cells [C.int .i64 2, .int .i64 0, .int .i64 10, .int .i64 1, .int .i64 2, .sl (H.length + 1) 0 0 2, .ls [.sl (H.length + 2) 0 0 2, .sl (H.length + 3) 0 0 2]],
    .arr false 0 3 [[.int .i64 20, .int .i64 12, .int .i64 2], [.int .i64 30, .int .i64 10, .int .i64 4]],
    .arr false 0 1 [[.int .i64 0], [.int .i64 5]],
    .arr false 0 1 [[.int .i64 5], [.int .i64 0]]]) := Fn_iff (by
  refine Fn_X (fn := f13) rfl rfl ?_
  simp only [go_sem, f13])
theorem MoveNames_val : Val tab 4 [] (.c (.bool true)) := by
  obtain ⟨b1, k3⟩ := v3C
  obtain ⟨b2, k4⟩ := v4C
  obtain ⟨b3, k5⟩ := e4C
  have q1 : ∀ {b : Bool} {Q : V → Prop}, CallP tab 18 [.c (L (b, false) [(2 : Int)]), .c (.lst true [[.int .i64 2]])] Q ↔ Q (.c (.bool true)) := fun {b Q} => P31 (g := (b, false)) (g' := (false, true)) (a := [2]) (b := [2]) (show 1 < Big by decide) (Q := Q)
  have q2 : ∀ {b : Bool} {Q : V → Prop}, CallP tab 18 [.c (L (b, false) [(0 : Int)]), .c (.lst true [[.int .i64 0]])] Q ↔ Q (.c (.bool true)) := fun {b Q} => P31 (g := (b, false)) (g' := (false, true)) (a := [0]) (b := [0]) (show 1 < Big by decide) (Q := Q)
  have aw : ∀ {Q : V → Prop}, CallP tab 6 [] Q ↔ Q (.c (.bool true)) := fun {Q} => CallP_of awake_val
  have a0 : ∀ {x y z : Year}, atI [x, y, z] 0 = x := rfl
  have a1 : ∀ {x y z : Year}, atI [x, y, z] 1 = y := rfl
  have a2 : ∀ {x y z : Year}, atI [x, y, z] 2 = z := rfl
  have h12 : 1 ≤ 2 := by decide
  have h524' : (5 : Int) * 24 ≤ 2 ^ 40 := by decide
  have h524i : (5 : Int) * (24 : Nat) ≤ 2 ^ 40 := by decide
  have h524 : 5 * 24 ≤ 2 ^ 40 := by decide
  refine Val_X (fn := f4) rfl ?_
  simp (maxSteps := 1000000) only [go_sem, f4, FTwo, twoC, P48, bound, h12, h524, h524', h524i, v1C, v2C, e1C, e2C, e3C, k3, k4, k5, v5C, e7C, v6C, v7C, e8C, e9C, e10C, v8C, v9C, v10C, v11C, e5C, e6C, u1C, u2C, u3C, u4C, u5C, u6C, u7C, u8C, u9C, a0, a1, a2, q1, q2, aw, List.length_cons, List.length_nil]
end Am.Mv

