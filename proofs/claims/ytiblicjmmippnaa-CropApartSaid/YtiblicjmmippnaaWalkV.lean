/-
  A part of the proof: the texts H4, H5, H6 of this seat, joined.
-/
import Derived.Test.YtiblicjmmippnaaWalkU
namespace Am.Cr
open Go Am
set_option maxRecDepth 100000
set_option maxHeartbeats 4000000
set_option linter.unusedSimpArgs false
set_option linter.unusedVariables false
variable {g1 g2 g3 g4 g5 : Bool × Bool} {f : Field}
theorem FNth1 (ho : RgsOk f.growth f.wet) {n : Nat} (hn : n ≤ 100000)  {Q : V → List Obj → Prop} (hQ : ∀ v H', v = .agg [.sl 6 f.growth.length 0 f.growth.length, .sl 7 f.growth.length 0 f.growth.length] → H' = [.cells (fieldC g1 g2 g3 g4 g5 f.last f.growth f.wet f.base f.crops f.ripe f.late f.trod f.looks), .none, .none] ++ [.cells (fieldC g1 g2 g3 g4 g5 f.last f.growth f.wet f.base f.crops f.ripe f.late f.trod f.looks), .cells [.sl 6 f.growth.length 0 f.growth.length, .sl 7 f.growth.length 0 f.growth.length], .cells [.sl 6 f.growth.length 0 f.growth.length, .sl 7 f.growth.length 0 f.growth.length], .arr false f.growth.length 1 ((nthT f n).growth.map Row.row), .arr false f.growth.length 1 ((nthT f n).wet.map Row.row)] → Q v H') : Fn tab (.f 27 [fieldV g1 g2 g3 g4 g5 f, .c (.int .i64 n)] [.cells (fieldC g1 g2 g3 g4 g5 f.last f.growth f.wet f.base f.crops f.ripe f.late f.trod f.looks), .none, .none]) Q := by
  refine Fn_X (fn := f27) rfl rfl ?_
  have hb := ho.b
  have hl := ho.l
  simp only [go_sem, f27]
  refine RX_for f.growth.length (fun k => [(1, .c (.int .i64 ((nthK f n k).2.2 : Nat))), (6, .c (.int .i64 k))]) (fun k => [.cells (fieldC g1 g2 g3 g4 g5 f.last f.growth f.wet f.base f.crops f.ripe f.late f.trod f.looks), .none, .none, .cells (fieldC g1 g2 g3 g4 g5 f.last f.growth f.wet f.base f.crops f.ripe f.late f.trod f.looks), .cells [.nils, .nils], .cells [.sl 6 k 0 k, .sl 7 k 0 k], .arr false k 1 ((nthK f n k).1.map Row.row), .arr false k 1 ((nthK f n k).2.1.map Row.row)]) (fun _ => True) trivial (by simp only [go_sem] <;> first | rfl | exact ⟨rfl, rfl⟩ | exact ⟨rfl, rfl, rfl⟩) ?_
  intro k hk _
  by_cases hlt : k < f.growth.length
  · have e4 : IntKind.i64.wrap ((k : Int) + 1) = ((k + 1 : Nat) : Int) := wrap_succ (n := 3000) (by omega) (by decide)
    have q2 : k < f.wet.length := by omega
    have hr := ho.g (f.growth.getD k default) (by rw [getD_lt _ _ _ hlt]; exact List.getElem_mem hlt)
    have hw := ho.w (f.wet.getD k default) (by rw [getD_lt _ _ _ q2]; exact List.getElem_mem q2)
    have hle := nthK_le (f := f) (n := n) (k := k)
    obtain ⟨hg1, hg2⟩ := nthK_len (f := f) (n := n) (k := k)
    have hz : sizeI (f.growth.getD k default).lo (f.growth.getD k default).hi = (szN (f.growth.getD k default) : Nat) := by
      unfold sizeI szN
      rw [wrapB (n := (f.growth.getD k default).hi - (f.growth.getD k default).lo) (by omega) (by omega), wrapB (by omega) (by omega)]; omega
    have hz1 : 1 ≤ szN (f.growth.getD k default) := by unfold szN; omega
    obtain ⟨z, hz0⟩ : ∃ z, z = szN (f.growth.getD k default) := ⟨_, rfl⟩
    obtain ⟨m, hm0⟩ : ∃ m, m = (nthK f n k).2.2 := ⟨_, rfl⟩
    rw [← hm0] at hle
    rw [← hz0] at hz hz1
    have hmod : m % z < z := Nat.mod_lt _ hz1
    have hdl : m / z ≤ m := Nat.div_le_self _ _
    have t1 : (m : Int).tmod (z : Int) = ((m % z : Nat) : Int) := rfl
    have t2 : (m : Int).tdiv (z : Int) = ((m / z : Nat) : Int) := rfl
    obtain ⟨md, hmd⟩ : ∃ md, md = m % z := ⟨_, rfl⟩
    obtain ⟨q, hq⟩ : ∃ q, q = m / z := ⟨_, rfl⟩
    have hst : nthK f n (k + 1) = ((nthK f n k).1 ++ [(f.growth.getD k default).lo + (md : Int)], (nthK f n k).2.1 ++ [if f.wet.getD k default = 2 then ((q % 2 : Nat) : Int) else f.wet.getD k default], if f.wet.getD k default = 2 then q / 2 else q) := by
      rw [hmd, hq, hz0, hm0]; rfl
    rw [← hmd] at t1 hmod
    rw [← hq] at t2 hdl
    have hz2 : z ≤ 51 := by rw [hz0]; unfold szN; omega
    have c1 : ¬ (z : Int) = 0 := by omega
    have f1 : IntKind.i64.wrap ((f.growth.getD k default).lo + (md : Int)) = (f.growth.getD k default).lo + (md : Int) := wrapB (by omega) (by omega)
    have f2 : IntKind.i64.wrap (q : Int) = (q : Int) := wrapB (by omega) (by omega)
    have b1 : (k + 1) * 8 ≤ 2 ^ 40 := by omega
    by_cases hw2 : f.wet.getD k default = 2
    · have t3 : (q : Int).tmod 2 = ((q % 2 : Nat) : Int) := rfl
      have t4 : (q : Int).tdiv 2 = ((q / 2 : Nat) : Int) := rfl
      have f3 : IntKind.i64.wrap ((q / 2 : Nat) : Int) = ((q / 2 : Nat) : Int) := wrapB (by omega) (by omega)
      rw [if_pos hw2, if_pos hw2] at hst
      simp only [go_sem, hlt, q2, atI_nat, ← hm0, rSize, hz, c1, t1, t2, t3, t4, f1, f2, f3, hw2, hg1, hg2, b1, e4, hst, List.map_append]
    · rw [if_neg hw2, if_neg hw2] at hst
      simp only [go_sem, hlt, q2, atI_nat, ← hm0, rSize, hz, c1, t1, t2, f1, f2, hw2, hg1, hg2, b1, e4, hst, List.map_append]
  · have : k = f.growth.length := by omega
    subst this
    obtain ⟨hg1, hg2⟩ := nthK_len (f := f) (n := n) (k := f.growth.length)
    simp only [go_sem, hlt, hg1, hg2]
    exact hQ _ _ rfl rfl
theorem FNth2 (ho : RgsOk f.growth f.wet) {n : Nat} (hn : n ≤ 100000) {l : Nat} {x y : List Int} {Q : V → List Obj → Prop} (hQ : ∀ v H', v = .agg [.sl 11 f.growth.length 0 f.growth.length, .sl 12 f.growth.length 0 f.growth.length] → H' = [.cells (fieldC g1 g2 g3 g4 g5 f.last f.growth f.wet f.base f.crops f.ripe f.late f.trod f.looks), .none, .none, .cells (fieldC g1 g2 g3 g4 g5 f.last f.growth f.wet f.base f.crops f.ripe f.late f.trod f.looks), .cells [.sl 6 l 0 l, .sl 7 l 0 l], .cells [.sl 6 l 0 l, .sl 7 l 0 l], .arr false l 1 (x.map Row.row), .arr false l 1 (y.map Row.row)] ++ [.cells (fieldC g1 g2 g3 g4 g5 f.last f.growth f.wet f.base f.crops f.ripe f.late f.trod f.looks), .cells [.sl 11 f.growth.length 0 f.growth.length, .sl 12 f.growth.length 0 f.growth.length], .cells [.sl 11 f.growth.length 0 f.growth.length, .sl 12 f.growth.length 0 f.growth.length], .arr false f.growth.length 1 ((nthT f n).growth.map Row.row), .arr false f.growth.length 1 ((nthT f n).wet.map Row.row)] → Q v H') : Fn tab (.f 27 [fieldV g1 g2 g3 g4 g5 f, .c (.int .i64 n)] [.cells (fieldC g1 g2 g3 g4 g5 f.last f.growth f.wet f.base f.crops f.ripe f.late f.trod f.looks), .none, .none, .cells (fieldC g1 g2 g3 g4 g5 f.last f.growth f.wet f.base f.crops f.ripe f.late f.trod f.looks), .cells [.sl 6 l 0 l, .sl 7 l 0 l], .cells [.sl 6 l 0 l, .sl 7 l 0 l], .arr false l 1 (x.map Row.row), .arr false l 1 (y.map Row.row)]) Q := by
  refine Fn_X (fn := f27) rfl rfl ?_
  have hb := ho.b
  have hl := ho.l
  simp only [go_sem, f27]
  refine RX_for f.growth.length (fun k => [(1, .c (.int .i64 ((nthK f n k).2.2 : Nat))), (6, .c (.int .i64 k))]) (fun k => [.cells (fieldC g1 g2 g3 g4 g5 f.last f.growth f.wet f.base f.crops f.ripe f.late f.trod f.looks), .none, .none, .cells (fieldC g1 g2 g3 g4 g5 f.last f.growth f.wet f.base f.crops f.ripe f.late f.trod f.looks), .cells [.sl 6 l 0 l, .sl 7 l 0 l], .cells [.sl 6 l 0 l, .sl 7 l 0 l], .arr false l 1 (x.map Row.row), .arr false l 1 (y.map Row.row), .cells (fieldC g1 g2 g3 g4 g5 f.last f.growth f.wet f.base f.crops f.ripe f.late f.trod f.looks), .cells [.nils, .nils], .cells [.sl 11 k 0 k, .sl 12 k 0 k], .arr false k 1 ((nthK f n k).1.map Row.row), .arr false k 1 ((nthK f n k).2.1.map Row.row)]) (fun _ => True) trivial (by simp only [go_sem] <;> first | rfl | exact ⟨rfl, rfl⟩ | exact ⟨rfl, rfl, rfl⟩) ?_
  intro k hk _
  by_cases hlt : k < f.growth.length
  · have e4 : IntKind.i64.wrap ((k : Int) + 1) = ((k + 1 : Nat) : Int) := wrap_succ (n := 3000) (by omega) (by decide)
    have q2 : k < f.wet.length := by omega
    have hr := ho.g (f.growth.getD k default) (by rw [getD_lt _ _ _ hlt]; exact List.getElem_mem hlt)
    have hw := ho.w (f.wet.getD k default) (by rw [getD_lt _ _ _ q2]; exact List.getElem_mem q2)
    have hle := nthK_le (f := f) (n := n) (k := k)
    obtain ⟨hg1, hg2⟩ := nthK_len (f := f) (n := n) (k := k)
    have hz : sizeI (f.growth.getD k default).lo (f.growth.getD k default).hi = (szN (f.growth.getD k default) : Nat) := by
      unfold sizeI szN
      rw [wrapB (n := (f.growth.getD k default).hi - (f.growth.getD k default).lo) (by omega) (by omega), wrapB (by omega) (by omega)]; omega
    have hz1 : 1 ≤ szN (f.growth.getD k default) := by unfold szN; omega
    obtain ⟨z, hz0⟩ : ∃ z, z = szN (f.growth.getD k default) := ⟨_, rfl⟩
    obtain ⟨m, hm0⟩ : ∃ m, m = (nthK f n k).2.2 := ⟨_, rfl⟩
    rw [← hm0] at hle
    rw [← hz0] at hz hz1
    have hmod : m % z < z := Nat.mod_lt _ hz1
    have hdl : m / z ≤ m := Nat.div_le_self _ _
    have t1 : (m : Int).tmod (z : Int) = ((m % z : Nat) : Int) := rfl
    have t2 : (m : Int).tdiv (z : Int) = ((m / z : Nat) : Int) := rfl
    obtain ⟨md, hmd⟩ : ∃ md, md = m % z := ⟨_, rfl⟩
    obtain ⟨q, hq⟩ : ∃ q, q = m / z := ⟨_, rfl⟩
    have hst : nthK f n (k + 1) = ((nthK f n k).1 ++ [(f.growth.getD k default).lo + (md : Int)], (nthK f n k).2.1 ++ [if f.wet.getD k default = 2 then ((q % 2 : Nat) : Int) else f.wet.getD k default], if f.wet.getD k default = 2 then q / 2 else q) := by
      rw [hmd, hq, hz0, hm0]; rfl
    rw [← hmd] at t1 hmod
    rw [← hq] at t2 hdl
    have hz2 : z ≤ 51 := by rw [hz0]; unfold szN; omega
    have c1 : ¬ (z : Int) = 0 := by omega
    have f1 : IntKind.i64.wrap ((f.growth.getD k default).lo + (md : Int)) = (f.growth.getD k default).lo + (md : Int) := wrapB (by omega) (by omega)
    have f2 : IntKind.i64.wrap (q : Int) = (q : Int) := wrapB (by omega) (by omega)
    have b1 : (k + 1) * 8 ≤ 2 ^ 40 := by omega
    by_cases hw2 : f.wet.getD k default = 2
    · have t3 : (q : Int).tmod 2 = ((q % 2 : Nat) : Int) := rfl
      have t4 : (q : Int).tdiv 2 = ((q / 2 : Nat) : Int) := rfl
      have f3 : IntKind.i64.wrap ((q / 2 : Nat) : Int) = ((q / 2 : Nat) : Int) := wrapB (by omega) (by omega)
      rw [if_pos hw2, if_pos hw2] at hst
      simp only [go_sem, hlt, q2, atI_nat, ← hm0, rSize, hz, c1, t1, t2, t3, t4, f1, f2, f3, hw2, hg1, hg2, b1, e4, hst, List.map_append]
    · rw [if_neg hw2, if_neg hw2] at hst
      simp only [go_sem, hlt, q2, atI_nat, ← hm0, rSize, hz, c1, t1, t2, f1, f2, hw2, hg1, hg2, b1, e4, hst, List.map_append]
  · have : k = f.growth.length := by omega
    subst this
    obtain ⟨hg1, hg2⟩ := nthK_len (f := f) (n := n) (k := f.growth.length)
    simp only [go_sem, hlt, hg1, hg2]
    exact hQ _ _ rfl rfl
end Am.Cr

namespace Am.Cr
open Go Am
set_option maxRecDepth 100000
set_option maxHeartbeats 4000000
set_option linter.unusedSimpArgs false
set_option linter.unusedVariables false
variable {g1 g2 g3 g4 g5 : Bool × Bool} {f : Field}
def mixL (a b : List Int) (j : Nat) : List Int := a.take j ++ b.drop j
theorem mix_len {a b : List Int} {j : Nat} (hl : a.length = b.length) : (mixL a b j).length = a.length := by
  unfold mixL; rw [List.length_append, List.length_take, List.length_drop]; omega
theorem mix_set {a b : List Int} {j : Nat} (h : j < a.length) (hl : a.length = b.length) : (mixL a b j).set j (a.getD j default) = mixL a b (j + 1) := by
  unfold mixL
  have e1 : (a.take j).length = j := by rw [List.length_take]; omega
  have e2 : b.drop j = b.getD j default :: b.drop (j + 1) := by rw [List.drop_eq_getElem_cons (by omega), getD_lt _ _ _ (by omega)]
  rw [List.set_append_right _ _ (by omega), e1, Nat.sub_self, e2, List.set_cons_zero, take_getD h default, List.append_assoc]; rfl
theorem mix_get {a b : List Int} {j i : Nat} (hl : a.length = b.length) (hi : i < a.length) : (mixL a b j).getD i default = if i < j then a.getD i default else b.getD i default := by
  unfold mixL
  by_cases h : i < j
  · rw [if_pos h, List.getD_eq_getElem?_getD, List.getD_eq_getElem?_getD, List.getElem?_append_left (by rw [List.length_take]; omega), List.getElem?_take, if_pos h]
  · rw [if_neg h, List.getD_eq_getElem?_getD, List.getD_eq_getElem?_getD]
    by_cases hj : j ≤ a.length
    · rw [List.getElem?_append_right (by rw [List.length_take]; omega), List.length_take, List.getElem?_drop]
      congr 2; omega
    · rw [List.getElem?_append_left (by rw [List.length_take]; omega), List.getElem?_take]
      omega
theorem mix_take {a b : List Int} {j k : Nat} (hk : k ≤ j) (hj : j ≤ a.length) : (mixL a b j).take k = a.take k := by
  unfold mixL
  rw [List.take_append_of_le_length (by rw [List.length_take]; omega), List.take_take, Nat.min_eq_left hk]
def mixT (t u : Truth) (j : Nat) : Truth := ⟨mixL t.growth u.growth j, mixL t.wet u.wet j⟩
theorem mix_isT {t u : Truth} (ht : IsT f t) (hu : IsT f u) (hwg : f.wet.length = f.growth.length) {j : Nat} : IsT f (mixT t u j) := by
  have a1 := ht.gl
  have a2 := ht.wl
  have a3 := hu.gl
  have a4 := hu.wl
  refine ⟨?_, ?_, fun i hi => ?_, fun i hi => ?_⟩
  · show (mixL _ _ _).length = _; rw [mix_len (by omega), a1]
  · show (mixL _ _ _).length = _; rw [mix_len (by omega), a2]
  · have hi : i < (mixL t.growth u.growth j).length := hi
    rw [mix_len (by omega)] at hi
    show _ ≤ (mixL t.growth u.growth j).getD i default ∧ (mixL t.growth u.growth j).getD i default ≤ _
    rw [mix_get (by omega) hi]
    split
    · exact ht.gr i hi
    · exact hu.gr i (by omega)
  · have hi : i < (mixL t.wet u.wet j).length := hi
    rw [mix_len (by omega)] at hi
    show _ ≤ (mixL t.wet u.wet j).getD i default ∧ (mixL t.wet u.wet j).getD i default ≤ _
    rw [mix_get (by omega) hi]
    split
    · exact ht.wr i hi
    · exact hu.wr i (by omega)
/-- a crop depends on nothing after its week -/
theorem crop_apart (hv : f.Valid) {t u : Truth} {p : List Int} (ht : TOk f t) (hu : TOk f u) (hp : POk f p) (hp' : ∀ {k}, k < p.length → POk f (p.take (k + 1))) {k : Nat} (hk : k < p.length) (hm : TOk f (mixT t u ((p.getD k default).toNat + 1))) :
    cropAt f (mixT t u ((p.getD k default).toNat + 1)) (p.take (k + 1)) k = cropAt f t p k := by
  have hk' : k < (p.take (k + 1)).length := by rw [List.length_take]; omega
  rw [cropAt_eq hv ht hp hk, cropAt_eq hv hm (hp' hk) hk']
  have hpg : ∀ j, j < k + 1 → (p.take (k + 1)).getD j default = p.getD j default := fun j hj => by
    rw [List.getD_eq_getElem?_getD, List.getD_eq_getElem?_getD, List.getElem?_take, if_pos hj]
  have e1 := hpg k (by omega)
  have e2 := hpg (k - 1) (by omega)
  have e3 : beg (p.take (k + 1)) k = beg p k := by unfold beg; rw [e2]
  obtain ⟨o1, o2, o3, o4⟩ := onF_bound ht hp hk
  have hlt := hp.at hk
  have hgl := ht.gl
  have hpre : ∀ m, m ≤ (p.getD k default).toNat + 1 → pre (mixT t u ((p.getD k default).toNat + 1)).growth m = pre t.growth m := fun m hm' => by
    show ((mixL t.growth u.growth _).take m).sum = (t.growth.take m).sum
    rw [mix_take hm' (by omega)]
  have e4 : onF (mixT t u ((p.getD k default).toNat + 1)) (p.take (k + 1)) k = onF t p k := by
    unfold onF
    rw [e1, e3, hpre _ (Nat.le_refl _), hpre _ o3]
  have e5 : ageF (p.take (k + 1)) k = ageF p k := by unfold ageF; rw [e1, e2]
  have hul := hu.gl
  have htw := ht.wl
  have huw := hu.wl
  have e6 : (mixT t u ((p.getD k default).toNat + 1)).wet.getD (p.getD k default).toNat default = t.wet.getD (p.getD k default).toNat default := by
    show (mixL t.wet u.wet _).getD _ default = _
    rw [mix_get (by omega) (by omega), if_pos (by omega)]
  have w : wgtF f (mixT t u ((p.getD k default).toNat + 1)) (p.take (k + 1)) k = wgtF f t p k := by
    unfold wgtF; rw [e4, e1, e6]
  have s : strF f (p.take (k + 1)) k = strF f p k := by unfold strF; rw [e5]
  rw [w, s]
end Am.Cr

namespace Am.Cr
open Go Am
set_option maxRecDepth 100000
set_option maxHeartbeats 4000000
set_option linter.unusedSimpArgs false
set_option linter.unusedVariables false
variable {g1 g2 g3 g4 g5 : Bool × Bool} {f : Field}
theorem CropApart_val {which other bits ai : Int} (hw0 : 0 ≤ which) (hw1 : which ≤ 65535) (ho0 : 0 ≤ other) (ho1 : other ≤ 65535) (hb0 : 0 ≤ bits) (hb1 : bits ≤ 65535) (ha0 : 0 ≤ ai) (ha1 : ai ≤ 255) : Val tab 10 [fieldV g1 g2 g3 g4 g5 f, .c (.int .u16 which), .c (.int .u16 other), .c (.int .u16 bits), .c (.int .u8 ai)] (.c (.bool true)) := by
  obtain ⟨wn, rfl⟩ : ∃ n : Nat, which = n := ⟨which.toNat, by omega⟩
  obtain ⟨on, rfl⟩ : ∃ n : Nat, other = n := ⟨other.toNat, by omega⟩
  obtain ⟨bn, rfl⟩ : ∃ n : Nat, bits = n := ⟨bits.toNat, by omega⟩
  obtain ⟨an, rfl⟩ : ∃ n : Nat, ai = n := ⟨ai.toNat, by omega⟩
  refine Val_X (fn := f10) rfl ?_
  cases hr : readyB f with
  | false => simp only [go_sem, f10, lready, hr, lawake]
  | true =>
    obtain ⟨hs, hv, h0, h100⟩ := ready_of hr
    have hW := hs.fits
    have hro := rgsOk_of hv
    have hpp := prodF_pos hv
    have hmr := manyR_eq hv
    have v1 := hv.growth
    have v2 := hv.wet
    have v4 := hv.last9
    have v5 := hv.base3
    obtain ⟨n, hn⟩ : ∃ n, n = wn % prodF f := ⟨_, rfl⟩
    obtain ⟨n', hn'⟩ : ∃ n, n = on % prodF f := ⟨_, rfl⟩
    have hnl : n < prodF f := by rw [hn]; exact Nat.mod_lt _ hpp
    have hnl' : n' < prodF f := by rw [hn']; exact Nat.mod_lt _ hpp
    have e1 : IntKind.i64.wrap (wn : Int) = (wn : Int) := wrapB (by omega) (by omega)
    have e1' : IntKind.i64.wrap (on : Int) = (on : Int) := wrapB (by omega) (by omega)
    have e1'' : IntKind.i64.wrap (an : Int) = (an : Int) := wrapB (by omega) (by omega)
    have e2 : (wn : Int).tmod ((prodF f : Nat) : Int) = (n : Int) := by rw [hn]; rfl
    have e2' : (on : Int).tmod ((prodF f : Nat) : Int) = (n' : Int) := by rw [hn']; rfl
    have e3 : ¬ ((prodF f : Nat) : Int) = 0 := by omega
    obtain ⟨p, hp0⟩ : ∃ p, p = plannedL f bn := ⟨_, rfl⟩
    have hpo : planOk f.last f.base p = true := by rw [hp0]; exact planned_ok hv
    have hPl := fun {Q : V → Prop} => lplanned (g1 := g1) (g2 := g2) (g3 := g3) (g4 := g4) (g5 := g5) hv (bits := bn) (by omega) (Q := Q)
    rw [← hp0] at hPl
    by_cases hp00 : p.length = 0
    · have hz : ((p.length : Nat) : Int) = 0 := by omega
      simp only [go_sem, f10, lready, hr, hPl, hz, lawake]
    have hz : ¬ ((p.length : Nat) : Int) = 0 := by omega
    obtain ⟨k, hk0⟩ : ∃ k, k = an % p.length := ⟨_, rfl⟩
    have hk : k < p.length := by rw [hk0]; exact Nat.mod_lt _ (by omega)
    have e4 : (an : Int).tmod ((p.length : Nat) : Int) = (k : Int) := by rw [hk0]; rfl
    simp only [go_sem, f10, lready, hr, hPl, hz, e1'', e4, rMany hro, hmr, e1, e2, e3]
    refine FNth1 (g1 := g1) (g2 := g2) (g3 := g3) (g4 := g4) (g5 := g5) hro (n := n) (by omega) ?_
    rintro v H' rfl rfl
    obtain ⟨t, ht⟩ : ∃ t, t = nthT f n := ⟨_, rfl⟩
    have hIt : IsT f t := by rw [ht]; exact nthT_isT hv
    rw [← ht]
    simp only [go_sem, rMany hro, hmr, e1', e2', e3]
    refine FNth2 (g1 := g1) (g2 := g2) (g3 := g3) (g4 := g4) (g5 := g5) hro (n := n') (by omega) (l := f.growth.length) (x := t.growth) (y := t.wet) ?_
    rintro v H' rfl rfl
    obtain ⟨u, hu⟩ : ∃ u, u = nthT f n' := ⟨_, rfl⟩
    have hIu : IsT f u := by rw [hu]; exact nthT_isT hv
    rw [← hu]
    simp only [go_sem]
    obtain ⟨pk, hpk⟩ : ∃ x, x = p.getD k default := ⟨_, rfl⟩
    have hT := tok_of hv hIt
    have hU := tok_of hv hIu
    have hP := pok_of hv hpo
    obtain ⟨pk0, pk1⟩ := hP.at hk
    rw [← hpk] at pk0 pk1
    have hTg := hT.gl
    have hTw := hT.wl
    have hUg := hU.gl
    have hUw := hU.wl
    have g10 := hT.l10
    have hwl := hro.l
    refine RX_for (pk + 1).toNat (fun j => [(15, .c (.int .i64 j))]) (fun j => [.cells (fieldC g1 g2 g3 g4 g5 f.last f.growth f.wet f.base f.crops f.ripe f.late f.trod f.looks), .cells [.sl 6 f.growth.length 0 f.growth.length, .sl 7 f.growth.length 0 f.growth.length], .cells [.sl 11 f.growth.length 0 f.growth.length, .sl 12 f.growth.length 0 f.growth.length], .cells (fieldC g1 g2 g3 g4 g5 f.last f.growth f.wet f.base f.crops f.ripe f.late f.trod f.looks), .cells [.sl 6 f.growth.length 0 f.growth.length, .sl 7 f.growth.length 0 f.growth.length], .cells [.sl 6 f.growth.length 0 f.growth.length, .sl 7 f.growth.length 0 f.growth.length], .arr false f.growth.length 1 (t.growth.map Row.row), .arr false f.growth.length 1 (t.wet.map Row.row), .cells (fieldC g1 g2 g3 g4 g5 f.last f.growth f.wet f.base f.crops f.ripe f.late f.trod f.looks), .cells [.sl 11 f.growth.length 0 f.growth.length, .sl 12 f.growth.length 0 f.growth.length], .cells [.sl 11 f.growth.length 0 f.growth.length, .sl 12 f.growth.length 0 f.growth.length], .arr false f.growth.length 1 ((mixL t.growth u.growth j).map Row.row), .arr false f.growth.length 1 ((mixL t.wet u.wet j).map Row.row)]) (fun _ => True) trivial (by simp only [go_sem] <;> first | rfl | exact ⟨rfl, rfl⟩ | exact ⟨rfl, rfl, rfl⟩) ?_
    intro j hj _
    have e5 : atI p (k : Int) = pk := by rw [atI_nat, hpk]
    by_cases hlt : (j : Int) ≤ pk
    · have e4 : IntKind.i64.wrap ((j : Int) + 1) = ((j + 1 : Nat) : Int) := wrap_succ (n := 3000) (by omega) (by decide)
      have i1 : j < t.growth.length := by omega
      have i2 : j < t.wet.length := by omega
      have i3 : j < f.growth.length := by omega
      have i4 : j < (pk + 1).toNat := by omega
      have s1 := mix_set (a := t.growth) (b := u.growth) i1 (by omega)
      have s2 := mix_set (a := t.wet) (b := u.wet) i2 (by omega)
      have n1 := nth_row (w := t.growth) (y := j) i1
      have n2 := nth_row (w := t.wet) (y := j) i2
      have n3 : nth (mixL t.growth u.growth j) j = some ((mixL t.growth u.growth j).getD j default) := nth_lt' (by rw [mix_len (by omega)]; exact i1)
      have n4 : nth (mixL t.wet u.wet j) j = some ((mixL t.wet u.wet j).getD j default) := nth_lt' (by rw [mix_len (by omega)]; exact i2)
      simp only [go_sem, hk, e5, hlt, i1, i2, i3, i4, n1, n2, n3, n4, setNth_map, atI_nat, e4, s1, s2]
    · have hje : j = (pk + 1).toNat := by omega
      have hpl := hP.l
      obtain ⟨pr, hpr⟩ : ∃ pr, pr = p.take (k + 1) := ⟨_, rfl⟩
      have hprl : pr.length = k + 1 := by rw [hpr, List.length_take]; omega
      have hplo : ∀ {k}, k < p.length → planOk f.last f.base (p.take (k + 1)) = true := fun {k} hk => planOk_of hv.last9 (by rw [List.length_take]; omega) (fun x hx => plan_mem hv.last9 hpo x (List.mem_of_mem_take hx)) ((plan_sorted hv.last9 hpo).sublist (List.take_sublist _ _))
      have hpro : planOk f.last f.base pr = true := by rw [hpr]; exact hplo hk
      have hIm : IsT f (mixT t u (pk.toNat + 1)) := mix_isT hIt hIu (by omega)
      have hM := tok_of hv hIm
      have hcr : cropAt f (mixT t u (pk.toNat + 1)) pr k = cropAt f t p k := by
        have := crop_apart hv hT hU hP (fun {k} hk => pok_of hv (hplo hk)) hk (by rw [← hpk]; exact hM)
        rw [← hpk, ← hpr] at this; exact this
      obtain ⟨m, hm⟩ : ∃ m, m = mixT t u (pk.toNat + 1) := ⟨_, rfl⟩
      have hm1 : mixL t.growth u.growth j = m.growth := by rw [hm, hje, show (pk + 1).toNat = pk.toNat + 1 by omega]; rfl
      have hm2 : mixL t.wet u.wet j = m.wet := by rw [hm, hje, show (pk + 1).toNat = pk.toNat + 1 by omega]; rfl
      rw [← hm] at hcr hIm hM
      have hMg := hM.gl
      have hMw := hM.wl
      have R1 := play_ok h0 (listed_isT hv hIt) hpo
      have R2 := play_ok h0 (listed_isT hv hIm) hpro
      have k1 := fun {Q : V → Prop} => cPlay (f := f) (g1 := (false, false)) (g2 := (false, false)) (g3 := (false, false)) (g4 := (false, false)) (g5 := (false, false)) (b6 := false) (b7 := false) (g := (false, false)) (t := t) (plan := p) hW (big_of (by omega)) (Q := Q)
      have k2 := fun {Q : V → Prop} => cPlay (f := f) (g1 := (false, false)) (g2 := (false, false)) (g3 := (false, false)) (g4 := (false, false)) (g5 := (false, false)) (b6 := false) (b7 := false) (g := (false, false)) (t := m) (plan := pr) hW (big_of (by omega)) (Q := Q)
      rw [R1] at k1
      rw [R2] at k2
      have k4 := fun {g : Bool × Bool} {Q : V → Prop} => llist (g := g) (a := p) (by omega) (Q := Q)
      have k5 := fun {b6 b7 : Bool × Bool} {Q : V → Prop} => lTruth (b6 := b6) (b7 := b7) (t := t) (by omega) (by omega) (Q := Q)
      have k6 := fun {b6 b7 : Bool × Bool} {Q : V → Prop} => lTruth (b6 := b6) (b7 := b7) (t := m) (by omega) (by omega) (Q := Q)
      have k7 := fun {g : Bool × Bool} {Q : V → Prop} => llist (g := g) (a := pr) (by omega) (Q := Q)
      rw [hm1, hm2]
      have t1 : takeN f.growth.length (t.growth.map (Row.row (α := Int))) = some (t.growth.map Row.row) := by rw [← hTg, takeN_L (Nat.le_refl _), List.take_length]
      have t2 : takeN f.growth.length (t.wet.map (Row.row (α := Int))) = some (t.wet.map Row.row) := by rw [← hTw, takeN_L (Nat.le_refl _), List.take_length]
      have t3 : takeN f.growth.length (m.growth.map (Row.row (α := Int))) = some (m.growth.map Row.row) := by rw [← hMg, takeN_L (Nat.le_refl _), List.take_length]
      have t4 : takeN f.growth.length (m.wet.map (Row.row (α := Int))) = some (m.wet.map Row.row) := by rw [← hMw, takeN_L (Nat.le_refl _), List.take_length]
      have hcl1 := cropsL_len (f := f) (t := t) (plan := p)
      have hcl2 := cropsL_len (f := f) (t := m) (plan := pr)
      rw [hprl] at hcl2
      have m4 : takeN (k + 1) (p.map (Row.row (α := Int))) = some (pr.map Row.row) := by rw [takeN_L (by omega), hpr]
      have w1 : IntKind.i64.wrap ((k : Int) + 1) = ((k + 1 : Nat) : Int) := wrap_succ (n := 3000) (by omega) (by decide)
      have m3 : k + 1 ≤ p.length := by omega
      have q1 : k < (cropsL f t p).length := by omega
      have q2 : k < (cropsL f m pr).length := by omega
      have q3 : k < k + 1 := by omega
      have c1 : (cropsL f t p).getD k default = cropAt f t p k := crops_getD hk
      have c2 : (cropsL f m pr).getD k default = cropAt f t p k := by rw [crops_getD (by omega), hcr]
      simp only [go_sem, hk, e5, hlt, lField hs, k1, k2, k4, k5, k6, k7, t1, t2, t3, t4, hcl1, hcl2, m3, m4, w1, q1, q2, q3, c1, c2, atI_nat, lawake]
end Am.Cr

