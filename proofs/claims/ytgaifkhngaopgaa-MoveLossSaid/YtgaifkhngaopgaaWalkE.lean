/-
  A part of the proof: the texts M17 of this seat, joined.
-/
import Derived.Test.YtgaifkhngaopgaaWalkD
import Derived.KernelRfl
namespace Am.Mv
open Go Am
set_option maxRecDepth 100000
set_option maxHeartbeats 4000000
set_option linter.unusedSimpArgs false
set_option linter.unusedVariables false
def twoL (p : Int) : Land := ⟨2, 0, p, 1, 2, [⟨20, 12, 2⟩, ⟨30, 10, 4⟩], [[0, 5], [5, 0]]⟩
def twoV (p : Int) : V := landV (false, false) (false, false) (twoL p)
theorem toArg_twoV {h : List Obj} {p : Int} : toArg h (twoV p) = some (twoV p) := rfl
theorem objs_twoV {p : Int} : objsV (twoV p) = [] := rfl
theorem P47 {p : Int} {Q : V → Prop} : CallP tab 47 [.c (.int .i64 p)] Q ↔ Q (twoV p) := CallP_of (by
  refine Val_X (fn := f47) rfl ?_
  simp only [go_sem, f47]
  rfl)
theorem P48 {a b c : Int} {Q : V → Prop} : CallP tab 48 [.c (.int .i64 a), .c (.int .i64 b), .c (.int .i64 c)] Q ↔ Q (.agg [.int .i64 a, .int .i64 b, .int .i64 c]) := CallP_of (by
  refine Val_X (fn := f48) rfl ?_
  simp only [go_sem, f48])
theorem two_fits {p : Int} : (twoL p).Fits := ⟨by show 2 < Big; decide, by show 2 < Big; decide, by
  intro r hr
  simp only [twoL, List.mem_cons, List.not_mem_nil, or_false] at hr
  rcases hr with rfl | rfl
  · show 2 < Big; decide
  · show 2 < Big; decide⟩
theorem lst0 {t : Bool} : C.lst t [] = L (false, t) ([] : List Int) := rfl
theorem lst1 {t : Bool} {a : Int} : C.lst t [[.int .i64 a]] = L (false, t) [a] := rfl
theorem lst2 {t : Bool} {a b : Int} : C.lst t [[.int .i64 a], [.int .i64 b]] = L (false, t) [a, b] := rfl
theorem lst3 {t : Bool} {a b c : Int} : C.lst t [[.int .i64 a], [.int .i64 b], [.int .i64 c]] = L (false, t) [a, b, c] := rfl
theorem w1 : playR (twoL 10) [0, 0, 1] [2] = .tup [.c (L (false, false) [Year.mk 20 2 28, Year.mk 12 2 38, Year.mk 15 9 44]), .c (.int .i64 0)] := by kernel_rfl
theorem w2 (b : Bool) : SureR b (twoL 10) [0, 1, 0] = .tup [.c (.int .i64 29), .c (L (b, false) ([1] : List Int)), .c (.int .i64 0)] := by kernel_rfl
theorem w3 (b : Bool) : BestR b (twoL 10) = .tup [.c (L (b, false) ([0, 0, 1] : List Int)), .c (.int .i64 34), .c (.int .i64 0)] := by kernel_rfl
theorem w4 : SeenR (twoL 10) = .tup [.c (.int .i64 34), .c (.int .i64 0)] := by kernel_rfl
theorem w5 : LateR (twoL 10) = .tup [.c (.int .i64 2), .c (.int .i64 0)] := by kernel_rfl
theorem w6 : WorthR (twoL 10) 0 = .tup [.c (.int .i64 26), .c (.int .i64 0)] := by kernel_rfl
theorem w7 : GoR (twoL 10) [0] [0] = .tup [.c (.int .i64 0), .c (.int .i64 39), .c (.int .i64 0)] := by kernel_rfl
theorem P31 {g g' : Bool × Bool} {a b : List Int} (ha : a.length < Big) {Q : V → Prop} : CallP tab 31 [.c (L g a), .c (L g' b)] Q ↔ Q (.c (.bool (decide (a = b)))) := CallP_of (by
  refine Val_X (fn := f31) rfl ?_
  simp only [go_sem, f31]
  refine ⟨fun h e => h (by rw [e]), fun h => ?_⟩
  refine RX_for a.length (fun k => [(5, .c (.int .i64 k))]) (fun _ => []) (fun k => ∀ i, i < k → a.getD i default = b.getD i default) (fun i h => by omega) (by simp only [go_sem] <;> rfl) ?_
  intro k hk hP
  by_cases h1 : k < a.length
  · have h2 : k < b.length := by omega
    simp only [go_sem, h1, h2, wrap_succ h1 ha, atI_nat]
    refine ⟨fun e hab => ?_, fun e i hi => ?_⟩
    · subst hab; exact e rfl
    · by_cases hik : i = k
      · subst hik; exact e
      · exact hP i (by omega)
  · simp only [go_sem, h1]
    apply List.ext_getElem h
    intro i hi hi'
    have := hP i (by omega)
    rwa [getD_lt _ _ _ hi, getD_lt _ _ _ hi'] at this)
theorem awake_val : Val tab 17 [] (.c (.bool true)) := by
  obtain ⟨b1, h2⟩ := V39 (l := twoL 10) (g1 := (false, false)) (g2 := (false, false)) (g3 := (false, true)) (plan := [0, 1, 0]) two_fits (by decide)
  obtain ⟨b2, h3⟩ := V27 (l := twoL 10) (g1 := (false, false)) (g2 := (false, false)) two_fits
  have h1 := fun Q => P18 (l := twoL 10) (g1 := (false, false)) (g2 := (false, false)) (g3 := (false, true)) (g4 := (false, true)) (plan := [0, 0, 1]) (ws := [2]) two_fits (by decide) (by decide) (Q := Q)
  have h4 := fun Q => P33 (l := twoL 10) (g1 := (false, false)) (g2 := (false, false)) two_fits (Q := Q)
  have h5 := fun Q => P28 (l := twoL 10) (g1 := (false, false)) (g2 := (false, false)) two_fits (Q := Q)
  have h6 := fun Q => P29 (l := twoL 10) (g1 := (false, false)) (g2 := (false, false)) (site := 0) two_fits (Q := Q)
  have h7 := fun Q => P34 (l := twoL 10) (g1 := (false, false)) (g2 := (false, false)) (g3 := (false, true)) (g4 := (false, true)) (sites := [0]) (bad := [0]) two_fits (by decide) (by decide) (Q := Q)
  have h2' := fun Q => h2 (Q := Q)
  have h3' := fun Q => h3 (Q := Q)
  rw [w1] at h1
  rw [w2] at h2'
  rw [w3] at h3'
  rw [w4] at h4
  rw [w5] at h5
  rw [w6] at h6
  rw [w7] at h7
  change ∀ Q, CallP tab 18 [twoV 10, _, _] Q ↔ _ at h1
  change ∀ Q, CallP tab 39 [twoV 10, _] Q ↔ _ at h2'
  change ∀ Q, CallP tab 27 [twoV 10] Q ↔ _ at h3'
  change ∀ Q, CallP tab 33 [twoV 10] Q ↔ _ at h4
  change ∀ Q, CallP tab 28 [twoV 10] Q ↔ _ at h5
  change ∀ Q, CallP tab 29 [twoV 10, _] Q ↔ _ at h6
  change ∀ Q, CallP tab 34 [twoV 10, _, _] Q ↔ _ at h7
  have q1 := fun g g' b Q => P31 (g := g) (g' := g') (a := [1]) (b := b) (show 1 < Big by decide) (Q := Q)
  have q2 := fun g g' b Q => P31 (g := g) (g' := g') (a := [0, 0, 1]) (b := b) (show 3 < Big by decide) (Q := Q)
  have q3 : atI [Year.mk 20 2 28, Year.mk 12 2 38, Year.mk 15 9 44] 2 = Year.mk 15 9 44 := rfl
  refine Val_X (fn := f17) rfl ?_
  simp only [go_sem, f17, P47, P48, toArg_twoV, objs_twoV, lst0, lst1, lst2, lst3, h1, h2', h3', h4, h5, h6, h7, q1, q2, q3, decide_true]
end Am.Mv
