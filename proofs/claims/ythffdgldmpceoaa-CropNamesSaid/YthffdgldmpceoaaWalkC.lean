/-
  A part of the proof: the texts C16, C17, C18, C19, C20, C21 of this seat, joined.
-/
import Derived.Test.YthffdgldmpceoaaWalkB
namespace Am.Cr
open Go Am
set_option maxRecDepth 100000
set_option maxHeartbeats 4000000
set_option linter.unusedSimpArgs false
set_option linter.unusedVariables false
variable {g1 g2 g3 g4 g5 : Bool × Bool} {f : Field}
/-- the least worth of a plan in some truths, of which the first one is counted twice -/
def sureI (f : Field) (ts : List Truth) (plan : List Int) : Int := ts.foldl (fun m t => min m (worthI f t plan)) (worthI f (ts.getD 0 default) plan)
theorem LstIn.rd {own : Nat → Prop} {H : List Obj} {c : C} {w : List Int} (h : LstIn 1 own H c w) : RdI H c w := by
  cases h with
  | nils => exact .lst (true, false) []
  | sl o ver fr w ho hg =>
    have := RdI.sl (H := H) o ver fr 0 w.length w hg (by omega)
    rwa [List.drop_zero, List.take_length] at this
theorem map_out0 {H : List Obj} {mo : Nat} {trod : Int} {es es' : List (List D × List C)} {X : List Obj} (hm : getH H mo = mapO es) (hok : EsOk trod es') : Keep (fun o => o = mo) H (setH H mo (mapO es') ++ X) ∧ MapOk trod mo (setH H mo (mapO es') ++ X) := map_out (Y := []) (X := X) hm hok (by rw [List.append_nil])
theorem F83 {H : List Obj} {wo mo to tv : Nat} {tf : Bool} {ts : List Truth} {l : List Int} {cp : C} (hw : getH H wo = .cells (workC g1 g2 g3 g4 g5 f mo)) (hM : MapOk f.trod mo H) (ht : getH H to = .arr tf tv 2 (ts.map Row.row)) (hts : 0 < ts.length) (htl : ts.length ≤ 100000) (hW : ∀ t ∈ ts, Weeks f t l) (rp : RdI H cp l) :
    Fn tab (.f 43 [.c (.ptr wo 0), .c (.sl to tv 0 ts.length), .c cp] H) fun v H' => v = .c (.int .i64 (sureI f ts l)) ∧ Keep (fun o => o = mo) H H' ∧ MapOk f.trod mo H' := by
  refine Fn_X (fn := f43) rfl rfl ?_
  obtain ⟨es, hok, hm⟩ := hM
  have ltq := lt_of_getH (h := H) (o := to) (by rw [ht]; simp)
  have lm := lt_of_getH (h := H) (o := mo) (by rw [hm]; simp)
  have lw := lt_of_getH (h := H) (o := wo) (by rw [hw]; simp)
  have nwm : wo ≠ mo := by rintro rfl; rw [hw] at hm; cases hm
  have ntm : to ≠ mo := by rintro rfl; rw [ht] at hm; cases hm
  have hrp : ∀ H', Keep (fun o => o = mo) H H' → RdI H' cp l := fun H' hk => rp.agree fun o fr ver rows hg => hk.2 o (fun h => by rw [h, hm] at hg; cases hg) (lt_of_getH (by rw [hg]; simp))
  have hnth : ∀ k, k < ts.length → nth (ts.map (Row.row (α := Truth))) k = some (Row.row (ts.getD k default)) := fun k hk => by rw [nth_get]; simp [hk]
  have n0 := hnth 0 hts
  have i1 : (0 : Int) < ts.length := by omega
  simp only [go_sem, f43, ht, i1, n0]
  refine (F80 (es := es) (t := ts.getD 0 default) (plan := l) (f := f) (g1 := g1) (g2 := g2) (g3 := g3) (g4 := g4) (g5 := g5) hw hm hok (.lst (false, false) _) (.lst (false, false) _) rp (hW _ (by rw [getD_lt _ _ _ hts]; exact List.getElem_mem hts))).mono ?_
  rintro v H1 ⟨rfl, es1, X, hok1, hH1⟩
  obtain ⟨hk1, hm1⟩ := map_out (H' := H1) (Y := []) (X := X) hm hok1 (by rw [List.append_nil]; exact hH1)
  clear hH1
  have t1 := hk1.get ntm ht (by simp)
  simp only [go_sem]
  refine RX_whileU (α := Nat × List Obj) (fun x => [(7, .c (.int .i64 ((ts.take x.1).foldl (fun m t => min m (worthI f t l)) (worthI f (ts.getD 0 default) l)))), (18, .c (.int .i64 x.1))]) (fun x => x.2) (fun x => x.1 ≤ ts.length ∧ Keep (fun o => o = mo) H x.2 ∧ MapOk f.trod mo x.2) (fun x => ts.length - x.1) (0, H1) ⟨Nat.zero_le _, hk1, hm1⟩ (by simp only [go_sem] <;> rfl) ?_
  rintro ⟨k, H'⟩ ⟨hk, hK, hM⟩
  simp only at hk hK hM
  by_cases hlt : k < ts.length
  · have e4 : IntKind.i64.wrap ((k : Int) + 1) = ((k + 1 : Nat) : Int) := wrap_succ (n := 1000000) (by omega) (by decide)
    have t2 := hK.get ntm ht (by simp)
    have w2 := hK.get nwm hw (by simp)
    have k0 : (0 : Int) ≤ k := by omega
    have k1 : (k : Int) < ts.length := by omega
    have n2 := hnth k hlt
    have lt2 := lt_of_getH (h := H') (o := to) (by rw [t2]; simp)
    obtain ⟨es2, hok2, hm2⟩ := hM
    have lm2 := lt_of_getH (h := H') (o := mo) (by rw [hm2]; simp)
    simp only [go_sem, hlt, t2, k0, k1, n2, getH_left, lt2]
    have w3 := lt_of_getH (h := H') (o := wo) (by rw [w2]; simp)
    refine (F80 (es := es2) (t := ts.getD k default) (plan := l) (f := f) (g1 := g1) (g2 := g2) (g3 := g3) (g4 := g4) (g5 := g5) (getH_keep w2 (by simp)) (getH_keep hm2 (by simp)) hok2 (.lst (false, false) _) (.lst (false, false) _) ((hrp _ hK).append _) (hW _ (by rw [getD_lt _ _ _ hlt]; exact List.getElem_mem hlt))).mono ?_
    rintro v H2 ⟨rfl, es3, X3, hok3, rfl⟩
    have hst : (ts.take (k + 1)).foldl (fun m t => min m (worthI f t l)) (worthI f (ts.getD 0 default) l) = min ((ts.take k).foldl (fun m t => min m (worthI f t l)) (worthI f (ts.getD 0 default) l)) (worthI f (ts.getD k default) l) := by
      rw [take_getD hlt default, List.foldl_append]; rfl
    simp only [go_sem, setH_left, lm2, e4, cmin2, ← hst]
    exact ⟨(k + 1, _), ⟨by simp only; omega, hlt, hK.trans (map_out0 hm2 hok3).1, (map_out0 hm2 hok3).2⟩, ⟨rfl, rfl⟩, rfl⟩
  · have : k = ts.length := by omega
    subst this
    simp only [go_sem, hlt, List.take_length]
    exact ⟨rfl, hK, hM⟩
end Am.Cr

namespace Am.Cr
open Go Am
set_option maxRecDepth 100000
set_option maxHeartbeats 4000000
set_option linter.unusedSimpArgs false
set_option linter.unusedVariables false
variable {g1 g2 g3 g4 g5 : Bool × Bool} {f : Field}
/-- the numbers from one to another -/
def upTo (a b : Int) : List Int := (List.range (b + 1 - a).toNat).map fun (k : Nat) => a + k
/-- a plan, and all that go on from it, in lexicographic order -/
def plansD (last : Int) : Nat → List Int → Int → List (List Int)
  | 0, l, _ => [l]
  | k + 1, l, fr => l :: (upTo fr last).flatMap fun y => plansD last k (l ++ [y]) (y + 1)
structure DS where
  plan : List Int
  worth : Int
def dsStep (f : Field) (ts : List Truth) (s : DS) (l : List Int) : DS := if s.worth < sureI f ts l then ⟨l, sureI f ts l⟩ else s
abbrev dOwn (mo nb pb : Nat) (o : Nat) : Prop := o = mo ∨ o = nb ∨ o = pb
structure DInv (g1 g2 g3 g4 g5 : Bool × Bool) (f : Field) (wo mo wb tb nb pb fb ab to tv : Nat) (tf : Bool) (ts : List Truth) (s : DS) (H : List Obj) : Prop where
  hwb : getH H wb = .cells [.ptr wo 0]
  htb : getH H tb = .cells [.sl to tv 0 ts.length]
  hnb : getH H nb = .cells [.int .i64 s.worth]
  hpb : ∃ c, getH H pb = .cells [c] ∧ LstIn 1 (dOwn mo nb pb) H c s.plan
  hfb : getH H fb = .cells (fieldC g1 g2 g3 g4 g5 f.last f.growth f.wet f.base f.crops f.ripe f.late f.trod f.looks)
  hab : getH H ab = .cells [.fn 42 false [] [.ptr wb 0, .ptr tb 0, .ptr nb 0, .ptr pb 0, .ptr fb 0, .ptr ab 0]]
  hw : getH H wo = .cells (workC g1 g2 g3 g4 g5 f mo)
  hm : MapOk f.trod mo H
  ht : getH H to = .arr tf tv 2 (ts.map Row.row)
section
variable {wo mo wb tb nb pb fb ab to tv : Nat} {tf : Bool} {ts : List Truth}
/-- the places are not those that change -/
structure DNe (wo mo wb tb nb pb fb ab to : Nat) : Prop where
  a1 : wo ≠ mo
  a2 : wo ≠ nb
  a3 : wo ≠ pb
  b1 : wb ≠ mo
  b2 : wb ≠ nb
  b3 : wb ≠ pb
  c1 : tb ≠ mo
  c2 : tb ≠ nb
  c3 : tb ≠ pb
  d1 : fb ≠ mo
  d2 : fb ≠ nb
  d3 : fb ≠ pb
  e1 : ab ≠ mo
  e2 : ab ≠ nb
  e3 : ab ≠ pb
  f1 : to ≠ mo
  f2 : to ≠ nb
  f3 : to ≠ pb
  g1 : mo ≠ nb
  g2 : mo ≠ pb
  g3 : nb ≠ pb
theorem DInv.append {s : DS} {H X : List Obj} (h : DInv g1 g2 g3 g4 g5 f wo mo wb tb nb pb fb ab to tv tf ts s H) : DInv g1 g2 g3 g4 g5 f wo mo wb tb nb pb fb ab to tv tf ts s (H ++ X) := by
  obtain ⟨c, a, b⟩ := h.hpb
  exact ⟨getH_keep h.hwb (by simp), getH_keep h.htb (by simp), getH_keep h.hnb (by simp), ⟨c, getH_keep a (by simp), b.keep .append⟩, getH_keep h.hfb (by simp), getH_keep h.hab (by simp), getH_keep h.hw (by simp), h.hm.keep (own := fun _ => False) .append id, getH_keep h.ht (by simp)⟩
def bestA : ACode := (.seq (.region 0 [] [
    ⟨(some 12), .load none (.tmp 2), none, 0⟩,
    ⟨(some 13), .load none (.tmp 3), none, 0⟩,
    ⟨(some 14), .mov (.tmp 0), none, 0⟩,
    ⟨(some 15), .call 43 false [(.tmp 12), (.tmp 13), (.tmp 14)], none, 0⟩,
    ⟨(some 10), .mov (.tmp 15), none, 0⟩])
  (.seq (.region 0 [] [
    ⟨(some 16), .mov (.tmp 10), none, 0⟩,
    ⟨(some 17), .load none (.tmp 4), none, 0⟩,
    ⟨(some 18), .bin .gtr (.tmp 16) (.tmp 17), none, 0⟩])
  (.cond (.tmp 18)
    (.region 1 [] [
      ⟨(some 19), .mov (.tmp 0), none, 0⟩,
      ⟨(some 20), .clone 33 1 8 (.tmp 19), none, 0⟩,
      ⟨(some 21), .mov (.tmp 10), none, 1⟩,
      ⟨none, .store none (.tmp 5) (.tmp 20), none, 1⟩,
      ⟨none, .store none (.tmp 4) (.tmp 21), none, 1⟩])
    .skip)))
def bestB : ACode := (.seq (.seq (.region 0 [] [
    ⟨(some 22), .mov (.tmp 0), none, 0⟩,
    ⟨(some 23), .len (.tmp 22), none, 0⟩,
    ⟨(some 24), .faddr 3 (.tmp 6), none, 0⟩,
    ⟨(some 25), .load none (.tmp 24), none, 0⟩,
    ⟨(some 26), .len (.tmp 25), none, 0⟩,
    ⟨(some 27), .bin .eql (.tmp 23) (.tmp 26), none, 0⟩])
  (.cond (.tmp 27)
    .ret
    .skip))
  (.seq (.region 0 [] [
    ⟨(some 28), .mov (.tmp 1), none, 0⟩,
    ⟨(some 11), .mov (.tmp 28), none, 0⟩])
  (.block 0 (.loop ⟨[29, 30, 31, 32, 33, 34, 35, 36, 37, 38, 39, 40, 41, 42, 43], false, []⟩
      (.seq (.seq (.region 0 [] [
        ⟨(some 29), .mov (.tmp 11), none, 0⟩,
        ⟨(some 30), .faddr 0 (.tmp 6), none, 0⟩,
        ⟨(some 31), .load none (.tmp 30), none, 0⟩,
        ⟨(some 32), .bin .leq (.tmp 29) (.tmp 31), none, 0⟩])
      (.cond (.tmp 32)
        .skip
        (.exit 0)))
      (.seq (.block 1 (.region 3 [(0, 1), (0, 2), (0, 3), (1, 3), (2, 3), (0, 4), (1, 4), (2, 4), (0, 5), (0, 6), (1, 6), (2, 6), (3, 6), (4, 6), (5, 6), (0, 7), (1, 7), (2, 7), (3, 7), (4, 7), (5, 7)] [
          ⟨(some 35), .load none (.tmp 7), none, 0⟩,
          ⟨(some 36), .mov (.tmp 0), none, 0⟩,
          ⟨(some 37), .clone 33 1 8 (.tmp 36), none, 0⟩,
          ⟨(some 38), .mov (.tmp 11), none, 1⟩,
          ⟨(some 39), .bslice 1 1 [(.int .i64 0)] [(0, (.tmp 38))], none, 1⟩,
          ⟨(some 40), .append 1 8 (.tmp 37) (.tmp 39), none, 2⟩,
          ⟨(some 41), .mov (.tmp 11), none, 3⟩,
          ⟨(some 42), .bin .add (.tmp 41) (.cst (.c (.int .i64 1))), none, 3⟩,
          ⟨(some 43), .callv (.tmp 35) [(.tmp 40), (.tmp 42)], none, 3⟩]))
      (.region 0 [] [
        ⟨(some 33), .mov (.tmp 11), none, 0⟩,
        ⟨(some 34), .bin .add (.tmp 33) (.cst (.c (.int .i64 1))), none, 0⟩,
        ⟨(some 11), .mov (.tmp 34), none, 0⟩])))))))
theorem bestA_ok (ne : DNe wo mo wb tb nb pb fb ab to) (hts : 0 < ts.length) (htl : ts.length ≤ 100000) {l : List Int} (hW : ∀ t ∈ ts, Weeks f t l) (hl : l.length ≤ 1000) {v1 v8 v9 v10 v11 v12 v13 v14 v15 v16 v17 v18 v19 v20 v21 : V} {H : List Obj} {c : C} {s : DS} (hc : LstIn 1 (dOwn mo nb pb) H c l) (hi : DInv g1 g2 g3 g4 g5 f wo mo wb tb nb pb fb ab to tv tf ts s H) :
    RX tab bestA ([.c c, v1, .c (.ptr wb 0), .c (.ptr tb 0), .c (.ptr nb 0), .c (.ptr pb 0), .c (.ptr fb 0), .c (.ptr ab 0), v8, v9, v10, v11, v12, v13, v14, v15, v16, v17, v18, v19, v20, v21] ++ List.replicate 22 (.c .any)) H fun x s' H' => x = .normal ∧ (∃ v8 v9 v10 v11 v12 v13 v14 v15 v16 v17 v18 v19 v20 v21 : V, s' = [.c c, v1, .c (.ptr wb 0), .c (.ptr tb 0), .c (.ptr nb 0), .c (.ptr pb 0), .c (.ptr fb 0), .c (.ptr ab 0), v8, v9, v10, v11, v12, v13, v14, v15, v16, v17, v18, v19, v20, v21] ++ List.replicate 22 (.c .any)) ∧ Keep (dOwn mo nb pb) H H' ∧ DInv g1 g2 g3 g4 g5 f wo mo wb tb nb pb fb ab to tv tf ts (dsStep f ts s l) H' := by
  have e1 := hi.hwb
  have e2 := hi.htb
  have e3 := hi.hnb
  obtain ⟨cp, e4, e4'⟩ := hi.hpb
  simp only [go_sem, bestA, e1, e2]
  refine (F83 (f := f) (g1 := g1) (g2 := g2) (g3 := g3) (g4 := g4) (g5 := g5) (l := l) hi.hw hi.hm hi.ht hts htl hW (LstIn.rd hc)).mono ?_
  rintro v H1 ⟨rfl, hk, hM⟩
  have hk' : Keep (dOwn mo nb pb) H H1 := hk.mono fun o h => .inl h
  have w3 := hk.get (o := nb) ne.g1.symm e3 (by simp)
  have w4 := hk.get (o := pb) ne.g2.symm e4 (by simp)
  have l3 := lt_of_getH (h := H1) (o := nb) (by rw [w3]; simp)
  have l4 := lt_of_getH (h := H1) (o := pb) (by rw [w4]; simp)
  have hi1 : DInv g1 g2 g3 g4 g5 f wo mo wb tb nb pb fb ab to tv tf ts s H1 := ⟨hk.get ne.b1 hi.hwb (by simp), hk.get ne.c1 hi.htb (by simp), w3, ⟨cp, w4, e4'.keep hk'⟩, hk.get ne.d1 hi.hfb (by simp), hk.get ne.e1 hi.hab (by simp), hk.get ne.a1 hi.hw (by simp), hM, hk.get ne.f1 hi.ht (by simp)⟩
  have hr := (hc.keep hk').rows
  have hb : l.length * 8 ≤ 2 ^ 40 := by omega
  by_cases hs : s.worth < sureI f ts l
  · have hst : dsStep f ts s l = ⟨l, sureI f ts l⟩ := if_pos hs
    rw [hst]
    have gne := ne.g3
    have gne' := Ne.symm ne.g3
    have z0 : ¬ nb = H1.length := by omega
    have z1 : ¬ H1.length = nb := by omega
    have z2 : ¬ pb = H1.length := by omega
    have z3 : ¬ H1.length = pb := by omega
    simp only [go_sem, w3, w4, hs, gt_iff_lt, hr, hb, getH_left, setH_left, getH_setH, length_setH, l3, l4, gne, gne', z0, z1, z2, z3]
    refine ⟨⟨_, _, _, _, _, _, _, _, _, _, _, _, _, _, rfl, rfl, rfl, rfl, rfl, rfl, rfl, rfl, rfl, rfl, rfl, rfl, rfl, rfl⟩, ?_, ?_⟩
    · refine hk'.trans ⟨by simp [length_setH], fun o ho hl => ?_⟩
      simp only [dOwn, not_or] at ho
      simp only [getH_left, length_setH, hl, getH_setH, ho, false_and, if_false]
    · have hK : ∀ x y X, Keep (fun o => o = nb ∨ o = pb) H1 (setH (setH H1 pb x) nb y ++ X) := fun x y X => ⟨by simp [length_setH], fun o ho hl => by
        simp only [not_or] at ho
        simp only [getH_left, length_setH, hl, getH_setH, ho, false_and, if_false]⟩
      refine ⟨(hK _ _ _).get (by have := ne.b2; have := ne.b3; simp [*]) hi1.hwb (by simp), (hK _ _ _).get (by have := ne.c2; have := ne.c3; simp [*]) hi1.htb (by simp), ?_, ⟨_, ?_, .sl H1.length 0 false l (by have := lt_of_getH (h := H1) (o := mo) (by obtain ⟨es, _, h⟩ := hM; rw [h]; simp); simp only [dOwn]; omega) ?_⟩, (hK _ _ _).get (by have := ne.d2; have := ne.d3; simp [*]) hi1.hfb (by simp), (hK _ _ _).get (by have := ne.e2; have := ne.e3; simp [*]) hi1.hab (by simp), (hK _ _ _).get (by have := ne.a2; have := ne.a3; simp [*]) hi1.hw (by simp), hM.keep (hK _ _ _) (by have := ne.g1; have := ne.g2; simp [*]), (hK _ _ _).get (by have := ne.f2; have := ne.f3; simp [*]) hi1.ht (by simp)⟩
      · simp only [go_sem, getH_left, length_setH, getH_setH, l3, l4]
      · simp only [go_sem, getH_left, length_setH, getH_setH, l3, l4, gne, gne']
      · simp only [go_sem, getH_atL, getH_atL0, length_setH]
  · have hst : dsStep f ts s l = s := if_neg hs
    rw [hst]
    simp only [go_sem, w3, hs, gt_iff_lt]
    exact ⟨⟨_, _, _, _, _, _, _, _, _, _, _, _, _, _, rfl, rfl, rfl, rfl, rfl, rfl, rfl, rfl, rfl, rfl, rfl, rfl, rfl, rfl⟩, hk', hi1⟩
theorem lstIn_obj {own : Nat → Prop} {H : List Obj} {c : C} {l : List Int} (h : LstIn 1 own H c l) {x : Nat} (hx : H.length ≤ x) : memN x c.obj = false ∧ disj c.obj [x] = true := by
  cases h with
  | nils => exact ⟨rfl, rfl⟩
  | sl o ver fr w ho hg =>
    have := lt_of_getH (h := H) (o := o) (by rw [hg]; simp)
    have n1 : ¬ x = o := by omega
    have n2 : ¬ o = x := by omega
    simp only [memN, disj, C.obj, beqn_dec, n1, n2, decide_false, Bool.false_or, Bool.not_false, Bool.and_self, and_self]
theorem F82 (hv : f.Valid) (ne : DNe wo mo wb tb nb pb fb ab to) (hts : 0 < ts.length) (htl : ts.length ≤ 100000) (hT : ∀ t ∈ ts, IsT f t) : ∀ (k : Nat) (l : List Int) (fr : Int) (s : DS) (H : List Obj) (c : C), l.length + k = f.base.length → 0 ≤ fr → fr ≤ 1000 → (∀ i, i < l.length → 0 ≤ l.getD i default ∧ l.getD i default ≤ f.last) → LstIn 1 (dOwn mo nb pb) H c l → DInv g1 g2 g3 g4 g5 f wo mo wb tb nb pb fb ab to tv tf ts s H →
    Fn tab (.f 42 [.c c, .c (.int .i64 fr), .c (.ptr wb 0), .c (.ptr tb 0), .c (.ptr nb 0), .c (.ptr pb 0), .c (.ptr fb 0), .c (.ptr ab 0)] H) fun _ H' => Keep (dOwn mo nb pb) H H' ∧ DInv g1 g2 g3 g4 g5 f wo mo wb tb nb pb fb ab to tv tf ts ((plansD f.last k l fr).foldl (dsStep f ts) s) H' := by
  have v1 := hv.growth
  have v2 := hv.wet
  have v3 := hv.last0
  have v4 := hv.last9
  have v5 := hv.base3
  intro k
  induction k with
  | zero =>
    intro l fr s H c hlk f0 f1 hin hc hi
    have hWk : ∀ t ∈ ts, Weeks f t l := fun t ht => by
      have h1 := (hT t ht).gl
      have h2 := (hT t ht).wl
      exact ⟨by omega, fun i hi => by have := hin i hi; omega, by omega, by omega, by omega⟩
    refine Fn_X (fn := f42) rfl rfl ?_
    show RX tab (.seq bestA bestB) _ _ _
    rw [RX_seq]
    refine RC.mono (bestA_ok (v1 := .c (.int .i64 fr)) ne hts htl hWk (by omega) hc hi) ?_
    rintro x ⟨s', H'⟩ ⟨rfl, ⟨v8, v9, v10, v11, v12, v13, v14, v15, v16, v17, v18, v19, v20, v21, rfl⟩, hk, hi'⟩
    simp only at hk hi' ⊢
    have e1 := hi'.hfb
    have l1 : l.length = f.base.length := by omega
    have hlc := (LstIn.rd (hc.keep hk)).len
    simp only [go_sem, bestB, e1, hlc, l1]
    exact ⟨hk, hi'⟩
  | succ k ih =>
    intro l fr s H c hlk f0 f1 hin hc hi
    have hWk : ∀ t ∈ ts, Weeks f t l := fun t ht => by
      have h1 := (hT t ht).gl
      have h2 := (hT t ht).wl
      exact ⟨by omega, fun i hi => by have := hin i hi; omega, by omega, by omega, by omega⟩
    refine Fn_X (fn := f42) rfl rfl ?_
    show RX tab (.seq bestA bestB) _ _ _
    rw [RX_seq]
    refine RC.mono (bestA_ok (v1 := .c (.int .i64 fr)) ne hts htl hWk (by omega) hc hi) ?_
    rintro x ⟨s', H'⟩ ⟨rfl, ⟨v8, v9, v10, v11, v12, v13, v14, v15, v16, v17, v18, v19, v20, v21, rfl⟩, hk, hi'⟩
    simp only at hk hi' ⊢
    have e1 := hi'.hfb
    have l1 : ¬ l.length = f.base.length := by omega
    have hlc := (LstIn.rd (hc.keep hk)).len
    simp only [go_sem, bestB, e1, hlc, l1]
    let ys := upTo fr f.last
    have hyl : ys.length = (f.last + 1 - fr).toNat := by simp [ys, upTo]
    have hyk : ∀ j, j < ys.length → ys.getD j default = fr + j := by
      intro j hj
      rw [getD_lt _ _ _ hj]; simp [ys, upTo]
    refine RX_whileU (α := Nat × List Obj) (fun x => [(11, .c (.int .i64 (fr + x.1)))]) (fun x => x.2) (fun x => x.1 ≤ ys.length ∧ Keep (dOwn mo nb pb) H x.2 ∧ DInv g1 g2 g3 g4 g5 f wo mo wb tb nb pb fb ab to tv tf ts (((ys.take x.1).flatMap fun y => plansD f.last k (l ++ [y]) (y + 1)).foldl (dsStep f ts) (dsStep f ts s l)) x.2) (fun x => ys.length - x.1) (0, H') ⟨Nat.zero_le _, hk, hi'⟩ (by simp only [go_sem, Int.add_zero] <;> rfl) ?_
    rintro ⟨j, H2⟩ ⟨hj, hK, hD⟩
    simp only at hj hK hD
    have d1 := hD.hfb
    have d2 := hD.hab
    by_cases h1 : fr + j ≤ f.last
    · have hj1 : j < ys.length := by omega
      have hw4 : IntKind.i64.wrap (fr + j + 1) = fr + j + 1 := wrapB (by omega) (by omega)
      have hr := (hc.keep hK).rows
      have hb : l.length * 8 ≤ 2 ^ 40 := by omega
      have hb2 : (l.length + 1) * 8 ≤ 2 ^ 40 := by omega
      have l2 := lt_of_getH (h := H2) (o := ab) (by rw [d2]; simp)
      have z0 : ¬ ab = H2.length := by omega
      have z1 : ¬ H2.length = ab := by omega
      have z2 : ¬ ab = H2.length + 1 := by omega
      have z3 : ¬ H2.length + 1 = ab := by omega
      simp only [go_sem, h1, d1, d2, hr, hb, hb2, hw4, getH_left, l2, z0, z1, z2, z3]
      obtain ⟨m1, m2⟩ := lstIn_obj (hc.keep hK) (x := H2.length + 1) (by omega)
      have hlist : LstIn 1 (dOwn mo nb pb) (H2 ++ [.arr false 1 1 (l.map Row.row ++ [[.int .i64 (fr + j)]]), .arr false 0 1 [[.int .i64 (fr + j)]], .none]) (.sl H2.length 1 0 (l.length + 1)) (l ++ [fr + (j : Int)]) := by
        have e1 : l.map Row.row ++ [[D.int .i64 (fr + j)]] = (l ++ [fr + (j : Int)]).map Row.row := by rw [List.map_append]; rfl
        rw [e1, show l.length + 1 = (l ++ [fr + (j : Int)]).length by simp]
        have q1 := lt_of_getH (h := H2) (o := nb) (by rw [hD.hnb]; simp)
        obtain ⟨cp, q2, _⟩ := hD.hpb
        have q2 := lt_of_getH (h := H2) (o := pb) (by rw [q2]; simp)
        obtain ⟨es, _, q3⟩ := hD.hm
        have q3 := lt_of_getH (h := H2) (o := mo) (by rw [q3]; simp)
        exact .sl _ 1 false _ (by simp only [dOwn]; omega) (by rw [getH_at0]; rfl)
      refine (ih (l ++ [fr + (j : Int)]) (fr + j + 1) _ _ _ (by simp; omega) (by omega) (by omega) (fun i hi => ?_) hlist hD.append).mono ?_
      · by_cases hil : i < l.length
        · have := hin i hil
          rwa [show (l ++ [fr + (j : Int)]).getD i default = l.getD i default by simp [List.getD_eq_getElem?_getD, List.getElem?_append, hil]]
        · have : i = l.length := by simp at hi; omega
          subst this
          rw [show (l ++ [fr + (j : Int)]).getD l.length default = fr + j by simp [List.getD_eq_getElem?_getD]]
          omega
      · rintro v H3 ⟨hk3, hD3⟩
        simp only [go_sem, m1, m2, disj_nil, z0, z1, z2, z3]
        refine ⟨(j + 1, H3), ⟨by simp only; omega, by simp only; omega, hK.trans (Keep.append.trans hk3), ?_⟩, by simp only; omega, rfl⟩
        simp only
        rw [take_getD hj1 default, List.flatMap_append, List.foldl_append, hyk j hj1]
        simp only [List.flatMap_cons, List.flatMap_nil, List.append_nil]
        exact hD3
    · have hj2 : j = ys.length := by omega
      subst hj2
      rw [List.take_length] at hD
      simp only [go_sem, h1, d1]
      exact ⟨hK, hD⟩
end
end Am.Cr

namespace Am.Cr
open Go Am
set_option maxRecDepth 100000
set_option maxHeartbeats 4000000
set_option linter.unusedSimpArgs false
set_option linter.unusedVariables false
variable {g1 g2 g3 g4 g5 : Bool × Bool} {f : Field}
/-- how many lists there are -/
def prodN (rs : List Rg) : Nat := rs.foldr (fun r p => (r.hi + 1 - r.lo).toNat * p) 1
theorem listsF_len : ∀ {rs : List Rg} {w : List Int}, (listsF rs w).length = prodN rs
  | [], _ => rfl
  | r :: rs, w => by
    rw [listsF, List.length_flatMap]
    have : (List.map (fun (n : Nat) => (listsF rs (w ++ [r.lo + (n : Int)])).length) (List.range (r.hi + 1 - r.lo).toNat)) = List.replicate (r.hi + 1 - r.lo).toNat (prodN rs) := by
      rw [List.eq_replicate_iff]
      refine ⟨by simp, fun b hb => ?_⟩
      obtain ⟨n, _, rfl⟩ := List.mem_map.1 hb
      exact listsF_len
    rw [this]
    have hs : ∀ (a b : Nat), (List.replicate a b).sum = a * b := fun a b => by
      induction a with
      | zero => simp
      | succ a ih => rw [List.replicate_succ, List.sum_cons, ih, Nat.succ_mul, Nat.add_comm]
    rw [hs]; rfl
theorem prodN_pos {rs : List Rg} (h : ∀ r ∈ rs, r.lo ≤ r.hi) : 1 ≤ prodN rs := by
  induction rs with
  | nil => exact Nat.le_refl _
  | cons r rs ih =>
    have h1 := h r (by simp)
    have h2 := ih fun x hx => h x (by simp [hx])
    exact Nat.mul_pos (by omega) h2
theorem many_min : ∀ {rs : List Rg} {m : Nat}, (∀ r ∈ rs, -100000 ≤ r.lo ∧ r.lo ≤ r.hi ∧ r.hi ≤ 100000) → 1 ≤ m → m ≤ 2001 → rs.foldl (fun m r => min (IntKind.i64.wrap (m * sizeI r.lo r.hi)) 2001) (m : Int) = ((min (m * prodN rs) 2001 : Nat) : Int)
  | [], m, _, _, h => by
    simp only [List.foldl_nil, prodN, List.foldr_nil, Nat.mul_one]; omega
  | r :: rs, m, h, h1, h2 => by
    obtain ⟨a, b, c⟩ := h r (by simp)
    have hz : sizeI r.lo r.hi = ((r.hi + 1 - r.lo).toNat : Nat) := by
      unfold sizeI
      rw [wrapB (n := r.hi - r.lo) (by omega) (by omega), wrapB (by omega) (by omega)]; omega
    obtain ⟨z, hz'⟩ : ∃ z, z = (r.hi + 1 - r.lo).toNat := ⟨_, rfl⟩
    rw [← hz'] at hz
    have hz1 : 1 ≤ z := by omega
    have hz2 : z ≤ 200001 := by omega
    have hmz : m * z ≤ 2001 * 200001 := Nat.mul_le_mul h2 hz2
    have e : min (IntKind.i64.wrap ((m : Int) * sizeI r.lo r.hi)) 2001 = ((min (m * z) 2001 : Nat) : Int) := by
      have e2 : (m : Int) * (z : Int) = ((m * z : Nat) : Int) := by simp
      rw [hz, e2]
      generalize m * z = p at hmz ⊢
      rw [wrapB (n := (p : Int)) (by omega) (by omega)]; omega
    have hmz1 : 1 ≤ m * z := Nat.mul_pos h1 hz1
    rw [List.foldl_cons, e, many_min (fun x hx => h x (by simp [hx])) (by omega) (by omega)]
    have hp := prodN_pos (rs := rs) fun x hx => (h x (by simp [hx])).2.1
    have ep : prodN (r :: rs) = z * prodN rs := by rw [hz']; rfl
    rw [ep, ← Nat.mul_assoc]
    congr 1
    by_cases hc : m * z ≤ 2001
    · rw [Nat.min_eq_left hc]
    · have g1 : 2001 * 1 ≤ 2001 * prodN rs := Nat.mul_le_mul_left _ hp
      have g2 : 2001 * 1 ≤ m * z * prodN rs := Nat.mul_le_mul (by omega) hp
      rw [Nat.min_eq_right (by omega : 2001 ≤ m * z), Nat.min_eq_right (by omega), Nat.min_eq_right (by omega)]
theorem Field.Valid.prod (hv : f.Valid) : prodN (rangesL f.growth f.wet) ≤ 2000 ∧ manyL (rangesL f.growth f.wet) = prodN (rangesL f.growth f.wet) := by
  have h1 := hv.many
  have h2 := many_min (rs := rangesL f.growth f.wet) (m := 1) hv.rgs.2 (by omega) (by omega)
  have h3 : manyL (rangesL f.growth f.wet) = ((min (1 * prodN (rangesL f.growth f.wet)) 2001 : Nat) : Int) := h2
  rw [Nat.one_mul] at h3
  omega
theorem truths_len (hv : f.Valid) {out : List Int} : (truthsL f out).length ≤ 2000 := by
  have h1 := List.length_filter_le (fun t => rightL f out (standing t.growth f.crops)) ((listsA f).map (tOf f))
  have h2 : ((listsA f).map (tOf f)).length = prodN (rangesL f.growth f.wet) := by rw [List.length_map]; exact listsF_len
  have h3 := hv.prod.1
  unfold truthsL
  omega
def btAssign : ACode := (.region 1 [] [
        ⟨(some 7), .alloc [.nils, .nils], none, 0⟩,
        ⟨none, .store (some 2) (.tmp 7) (.tmp 19), none, 1⟩])
def btBody : ACode := (.block 1 (.region 4 [(0, 1), (0, 2), (0, 3), (0, 4), (1, 4), (2, 4), (3, 4), (0, 5), (1, 5), (2, 5), (3, 5), (0, 6), (0, 7), (0, 8)] [
          ⟨(some 20), .load none (.tmp 6), none, 0⟩,
          ⟨(some 21), .faddr 0 (.tmp 7), none, 0⟩,
          ⟨(some 22), .load none (.tmp 21), none, 0⟩,
          ⟨(some 23), .clone 33 1 8 (.tmp 22), none, 0⟩,
          ⟨(some 24), .faddr 1 (.tmp 7), none, 1⟩,
          ⟨(some 25), .load none (.tmp 24), none, 1⟩,
          ⟨(some 26), .clone 33 1 8 (.tmp 25), none, 1⟩,
          ⟨(some 27), .build [.nils, .nils] [(0, 1, (.tmp 23)), (1, 1, (.tmp 26))], none, 2⟩,
          ⟨(some 28), .bslice 2 1 [.nils, .nils] [(0, (.tmp 27))], none, 2⟩,
          ⟨(some 29), .append 2 48 (.tmp 20) (.tmp 28), none, 3⟩,
          ⟨none, .store none (.tmp 6) (.tmp 29), none, 4⟩]))
abbrev btOwn (m : Nat) (o : Nat) : Prop := o = m ∨ o = m + 3 ∨ m + 14 ≤ o
def TList (m : Nat) (H : List Obj) (c : C) (s : List Truth) : Prop := (s = [] ∧ c = .nils) ∨ ∃ o ver, c = .sl o ver 0 s.length ∧ getH H o = .arr false ver 2 (s.map Row.row) ∧ m + 14 ≤ o
structure btR (m : Nat) (lp : ALoop) (s : List Truth) (H : List Obj) : Prop where
  tc : ∃ c, getH H m = .cells [c] ∧ TList m H c s
  lp : getH H (m + 3) = .loop lp
theorem bt_yield (hv : f.Valid) {m : Nat} {RS : List Truth → List Obj → Prop} {lp : ALoop} {v0 v1 v2 v3 v4 v5 v7 v8 : V} {vs : List V}
    (hlp : lp = ⟨.ready, .normal, [v0, v1, v2, v3, v4, v5, .c (.ptr m 0), v7, v8] ++ vs, [19], btAssign, btBody⟩) {v9 v10 v11 v12 v13 v14 v15 v16 v17 v18 : V} (hvs : vs = [v9, v10, v11, v12, v13, v14, v15, v16, v17, v18] ++ List.replicate 16 (.c .any)) :
    TYield f (m + 14) (fun s _ => s.length < 100000) (btOwn m) (.yld (m + 3)) (btR m lp) RS (fun s t => (s ++ [t], true)) := by
  intro s H t c1 c2 hlen hC hIs r1 r2 hR
  rw [CallV_y]
  change Fn tab _ (yQ (btOwn m) H (btR m lp) RS (s ++ [t], true))
  have l5 := lt_of_getH (h := H) (o := m + 3) (by rw [hR.lp]; simp)
  refine Fn_y hR.lp (by rw [hlp]; rfl) ?_
  rw [show lp.assign = btAssign by rw [hlp], show lp.params = [19] by rw [hlp], show lp.slots = _ by rw [hlp]]
  subst hvs
  have kn1 := r1.kn [c2]
  have kn2 := r2.kn []
  have k0 : m < H.length := by omega
  have k1 : m + 3 < H.length := by omega
  simp only [go_sem, btAssign, setParams, assignX, hR.lp, kn1, kn2, getH_left, setH_left, k0, k1]
  refine ⟨lp, rfl, by rw [hlp], rfl, ?_⟩
  generalize hlb : ALoop.mk .busy _ _ _ _ _ = lb
  rw [show lp.body = btBody by rw [hlp]]
  have hlb1 : ∀ l : ALoop, Obj.loop lb = .loop l → ({ l with state := .ready, pending := .normal } : ALoop) = lp := fun l h => by cases h; rw [← hlb, hlp]
  clear hlb
  obtain ⟨H1, hH1⟩ : ∃ H1, H1 = setH H (m + 3) (.loop lb) := ⟨_, rfl⟩
  rw [← hH1]
  have len : H1.length = H.length := by rw [hH1, length_setH]
  have g' : ∀ o, o ≠ m + 3 → getH H1 o = getH H o := fun o ho => by rw [hH1, getH_setH, if_neg (fun h => ho h.1)]
  obtain ⟨ct, e1, e2⟩ := hR.tc
  have e1 := (g' m (by omega)).trans e1
  have e5 : getH H1 (m + 3) = .loop lb := by rw [hH1, getH_setH, if_pos ⟨rfl, l5⟩]
  have harr : ∀ fr ver rows, getH H (m + 3) ≠ .arr fr ver 1 rows := fun _ _ _ h => by rw [hR.lp] at h; cases h
  have q1 : RdI H1 c1 t.growth := by rw [hH1]; exact r1.set harr
  have q2 : RdI H1 c2 t.wet := by rw [hH1]; exact r2.set harr
  have hq := hlb1 lb rfl
  have x1 := rdi_rows q1
  have x2 := rdi_rows q2
  have hg := hIs.gl
  have hwl := hIs.wl
  have v1 := hv.growth
  have v2 := hv.wet
  have v4 := hv.last9
  have y1 : t.growth.length * 8 ≤ 2 ^ 40 := by omega
  have y2 : t.wet.length * 8 ≤ 2 ^ 40 := by omega
  rw [← len]
  have k0 : m < H1.length := by omega
  have k1 : m + 3 < H1.length := by omega
  have z0 : ¬ m = H1.length := by omega
  have z1 : ¬ H1.length = m := by omega
  have z2 : ¬ m = H1.length + 1 := by omega
  have z3 : ¬ H1.length + 1 = m := by omega
  have z4 : ¬ m = H1.length + 2 := by omega
  have z5 : ¬ H1.length + 2 = m := by omega
  have z6 : ¬ m = H1.length + 3 := by omega
  have z7 : ¬ H1.length + 3 = m := by omega
  have z8 : ¬ m = H1.length + 4 := by omega
  have z9 : ¬ H1.length + 4 = m := by omega
  have z10 : ¬ m + 3 = H1.length := by omega
  have z11 : ¬ H1.length = m + 3 := by omega
  have z12 : ¬ m + 3 = H1.length + 1 := by omega
  have z13 : ¬ H1.length + 1 = m + 3 := by omega
  have z14 : ¬ m + 3 = H1.length + 2 := by omega
  have z15 : ¬ H1.length + 2 = m + 3 := by omega
  have z16 : ¬ m + 3 = H1.length + 3 := by omega
  have z17 : ¬ H1.length + 3 = m + 3 := by omega
  have z18 : ¬ m + 3 = H1.length + 4 := by omega
  have z19 : ¬ H1.length + 4 = m + 3 := by omega
  have hgw : L (false, false) t.growth = L (false, false) t.growth := rfl
  rcases e2 with ⟨rfl, rfl⟩ | ⟨o, ver, rfl, e2, e3⟩
  · simp only [go_sem, btBody, getH_left, setH_left, getH_setH, length_setH, getH_atL, getH_atL0, setH_atL, setH_atL0, isHole_atL, isHole_atL0, disj_nil, k0, k1, z0, z1, z2, z3, z4, z5, z6, z7, z8, z9, z10, z11, z12, z13, z14, z15, z16, z17, z18, z19, e1, e5, kn1, kn2, x1, x2, y1, y2, bodyX]
    refine ⟨lb, rfl, ?_⟩
    rw [hq]
    refine yQ_true rfl ⟨by simp [length_setH]; omega, fun o ho hl => ?_⟩ ⟨⟨_, ?_, .inr ⟨H1.length + 4, 0, rfl, ?_, by omega⟩⟩, ?_⟩
    · simp only [btOwn, not_or] at ho
      simp only [getH_left, length_setH, show o < H1.length by omega, getH_setH, ho, false_and, if_false]
      rw [g' o ho.2.1]
    · simp only [go_sem, getH_left, length_setH, getH_setH, k0, k1, z0, z1, z2, z3, z4, z5, z6, z7, z8, z9, z10, z11, z12, z13, z14, z15, z16, z17, z18, z19, false_and]
    · simp only [go_sem, getH_atL, getH_atL0, length_setH]
    · simp only [go_sem, getH_left, length_setH, getH_setH, k0, k1, z0, z1, z2, z3, z4, z5, z6, z7, z8, z9, z10, z11, z12, z13, z14, z15, z16, z17, z18, z19, false_and]
  · have e2 := (g' o (by omega)).trans e2
    have lo := lt_of_getH (h := H1) (o := o) (by rw [e2]; simp)
    have w0 : ¬ o = m := by omega
    have w1 : ¬ m = o := by omega
    have w2 : ¬ o = m + 3 := by omega
    have w3 : ¬ m + 3 = o := by omega
    have w4 : ¬ o = H1.length := by omega
    have w5 : ¬ H1.length = o := by omega
    have w6 : ¬ o = H1.length + 1 := by omega
    have w7 : ¬ H1.length + 1 = o := by omega
    have w8 : ¬ o = H1.length + 2 := by omega
    have w9 : ¬ H1.length + 2 = o := by omega
    have w10 : ¬ o = H1.length + 3 := by omega
    have w11 : ¬ H1.length + 3 = o := by omega
    have y3 : (s.length + 1) * 48 ≤ 2 ^ 40 := by omega
    simp only [go_sem, btBody, getH_left, setH_left, getH_setH, length_setH, getH_atL, getH_atL0, setH_atL, setH_atL0, isHole_atL, isHole_atL0, disj_nil, k0, k1, z0, z1, z2, z3, z4, z5, z6, z7, z8, z9, z10, z11, z12, z13, z14, z15, z16, z17, z18, z19, e1, e5, kn1, kn2, x1, x2, y1, y2, bodyX, e2, lo, w0, w1, w2, w3, w4, w5, w6, w7, w8, w9, w10, w11, y3]
    refine ⟨lb, rfl, ?_⟩
    rw [hq]
    refine yQ_true rfl ⟨by simp [length_setH]; omega, fun o' ho hl => ?_⟩ ⟨⟨.sl o (ver + 1) 0 (s.length + 1), ?_, .inr ⟨o, ver + 1, by simp, ?_, e3⟩⟩, ?_⟩
    · simp only [btOwn, not_or] at ho
      have : ¬ o' = o := by omega
      simp only [getH_left, length_setH, show o' < H1.length by omega, getH_setH, ho, this, false_and, if_false]
      rw [g' o' ho.2.1]
    · simp only [go_sem, getH_left, length_setH, getH_setH, k0, k1, z0, z1, z2, z3, z4, z5, z6, z7, z8, z9, z10, z11, z12, z13, z14, z15, z16, z17, z18, z19, w0, w1, w2, w3, w4, w5, w6, w7, w8, w9, w10, w11, false_and]
    · simp only [go_sem, getH_left, length_setH, getH_setH, k0, k1, z0, z1, z2, z3, z4, z5, z6, z7, z8, z9, z10, z11, z12, z13, z14, z15, z16, z17, z18, z19, w0, w1, w2, w3, w4, w5, w6, w7, w8, w9, w10, w11, lo, false_and, List.map_append]
    · simp only [go_sem, getH_left, length_setH, getH_setH, k0, k1, z0, z1, z2, z3, z4, z5, z6, z7, z8, z9, z10, z11, z12, z13, z14, z15, z16, z17, z18, z19, w0, w1, w2, w3, w4, w5, w6, w7, w8, w9, w10, w11, false_and]
/-- the best plan, and its sure worth, as they are searched -/
def bestS (f : Field) : DS := (plansD f.last f.base.length [] 0).foldl (dsStep f (truthsL f [])) ⟨[], 0⟩
def BestR (b : Bool) (f : Field) : V := if askE f (planOk f.last f.base []) = 0 then .tup [.c (L (b, false) (bestS f).plan), .c (.int .i64 (bestS f).worth), .c (.int .i64 0)] else .tup [.c .nils, .c (.int .i64 0), .c (.int .i64 (askE f (planOk f.last f.base [])))]
theorem foldY_snoc {ts : List Truth} : ∀ {s : List Truth}, foldY (fun (s : List Truth) t => (s ++ [t], true)) s ts = (s ++ ts, true) := by
  induction ts with
  | nil => intro s; simp [foldY]
  | cons t ts ih => intro s; simp only [foldY, if_true, ih]; simp
theorem foldC_snoc {n : Nat} {ts : List Truth} : ∀ {s : List Truth}, s.length + ts.length ≤ n → FoldC (fun (s : List Truth) (_ : Truth) => s.length < n) (fun s t => (s ++ [t], true)) s ts := by
  induction ts with
  | nil => intro s _; trivial
  | cons t ts ih => intro s h; exact ⟨by simp at h; omega, fun _ => ih (by simp at h ⊢; omega)⟩
theorem listsF_in : ∀ {rs : List Rg} {w x : List Int}, x ∈ listsF rs w → ∃ y : List Int, x = w ++ y ∧ y.length = rs.length ∧ InR rs y
  | [], w, x, h => by
    simp only [listsF, List.mem_singleton] at h
    exact ⟨[], by simp [h], rfl, fun i hi => by simp at hi⟩
  | r :: rs, w, x, h => by
    simp only [listsF, List.mem_flatMap, List.mem_range] at h
    obtain ⟨n, hn, h⟩ := h
    obtain ⟨y, h1, h2, h3⟩ := listsF_in h
    refine ⟨(r.lo + (n : Int)) :: y, by simp [h1], by simp [h2], fun i hi => ?_⟩
    cases i with
    | zero => simp only [List.getD_cons_zero]; omega
    | succ i => simp only [List.getD_cons_succ]; exact h3 i (by simpa using hi)
theorem truths_isT {out : List Int} (hv : f.Valid) : ∀ t ∈ truthsL f out, IsT f t := by
  intro t ht
  simp only [truthsL, List.mem_filter, List.mem_map] at ht
  obtain ⟨⟨w, hw, rfl⟩, _⟩ := ht
  obtain ⟨y, h1, h2, h3⟩ := listsF_in hw
  rw [List.nil_append] at h1
  subst h1
  exact isT_of h2 h3
theorem vBest (hf : f.Fits) : ∃ b : Bool, Val tab 14 [fieldV g1 g2 g3 g4 g5 f] (BestR b f) := by
  suffices h : CallP tab 14 [fieldV g1 g2 g3 g4 g5 f] (fun v => ∃ b : Bool, v = BestR b f) by
    obtain ⟨v, hval, b, rfl⟩ := h
    exact ⟨b, hval⟩
  refine CallP_X (fn := f14) rfl ?_
  simp only [go_sem, f14]
  refine (F77 (g1 := g1) (g2 := g2) (g3 := g3) (g4 := g4) (g5 := g5) (c := .nils) (plan := []) hf (by decide) (.lst (true, false) []) ⟨(true, false), rfl⟩).mono ?_
  rintro v H' ⟨hk, hr⟩
  obtain ⟨X, rfl⟩ := hk.none_eq
  rcases hr with ⟨a, rfl⟩ | ⟨a, wo, mo, b1, b2, rfl, b3, b4⟩
  · simp only [go_sem, a]
    refine ⟨true, ?_⟩
    rw [BestR, if_neg a]
  · have hb := (ask_ok a).2.2
    have hv := valid_of (ask_ok a).1
    simp only [List.length_cons, List.length_nil] at b1 b2
    have nwm : wo ≠ mo := by rintro rfl; rw [b3] at b4; cases b4
    simp only [go_sem] at b3 b4
    rw [getH4 (.cells [.ptr wo 0]) b1] at b3
    rw [getH4 (.cells [.ptr wo 0]) b2] at b4
    have l1 := lt_of_getH (h := _) (o := mo) (by rw [b4]; simp)
    have l2 := lt_of_getH (h := _) (o := wo) (by rw [b3]; simp)
    simp only [List.length_cons] at l1 l2
    simp only [go_sem, F81 (oc := .nils) rfl]
    refine RX_range ?_
    generalize hlp : ALoop.mk .ready _ _ _ _ _ = lp
    simp only [Opd.ev, getS, CallV_fn, firstV, List.length_append, List.length_cons, List.length_nil, List.append_assoc, List.cons_append, List.nil_append, List.map_cons, List.map_nil, Nat.zero_add, Nat.reduceAdd, Nat.add_assoc, Bool.false_eq_true, if_false]
    have hy := bt_yield (f := f) (m := X.length + 4) hv (RS := fun _ _ => False) (lp := lp) hlp.symm rfl
    have gA : ∀ (o : Nat) (Y : List Obj) (a b c d : Obj), o < X.length + 4 → getH (a :: b :: c :: d :: (X ++ Y)) o = getH (a :: b :: c :: d :: X) o := fun o Y a b c d h => getH_left (h := a :: b :: c :: d :: X) (l := Y) (by simpa using h)
    have htl := truths_len (f := f) (out := []) hv
    refine (truths1_ok (n := X.length + 8) (wb := X.length + 5) (ob := X.length + 6) (oc := .nils) (out := []) (wo := wo) (mo := mo) (g1 := g1) (g2 := g2) (g3 := g3) (g4 := g4) (g5 := g5) (own := btOwn (X.length + 4)) hv (by simp) (big_of hf.crops) (by decide) rfl (by simp only [btOwn]; omega) (by simp only [btOwn]; omega) (by simp only [btOwn]; omega) (fun o h _ h' => by simp only [btOwn] at h'; omega) (fun s H H' hr hk => ?_) (fun s H H' hr hk => hr.elim) hy (by simp only [go_sem]) (by simp only [go_sem]) ((gA _ _ _ _ _ _ l2).trans b3) (fun H' _ => .lst (true, false) []) (s := []) ⟨⟨.nils, by simp only [go_sem], .inl ⟨rfl, rfl⟩⟩, by simp only [go_sem]⟩ (foldC_snoc (by simp; omega))).mono ?_
    · obtain ⟨c, o1, o2⟩ := hr.tc
      refine ⟨⟨c, hk.get (by omega) o1 (by simp), ?_⟩, hk.get (by omega) hr.lp (by simp)⟩
      rcases o2 with h | ⟨o, ver, h1, h2, h3⟩
      · exact .inl h
      · exact .inr ⟨o, ver, h1, hk.get (by omega) h2 (by simp), h3⟩
    · rintro v H' ⟨hk', hr⟩
      rw [foldY_snoc, List.nil_append] at hr
      rcases hr with ⟨_, b⟩ | ⟨h, _⟩
      · have l5 := lt_of_getH (h := H') (o := X.length + 4 + 3) (by rw [b.lp]; simp)
        refine ⟨lp, b.lp, by rw [← hlp]; simp, ?_⟩
        rw [show lp.pending = .normal by rw [← hlp]]
        obtain ⟨H2, hH2⟩ : ∃ H2, H2 = setH H' (X.length + 7) (.loop { lp with state := .exhausted, pending := .normal }) := ⟨_, rfl⟩
        have len2 : H2.length = H'.length := by rw [hH2, length_setH]
        have gg : ∀ o, o ≠ X.length + 7 → getH H2 o = getH H' o := fun o ho => by rw [hH2, getH_setH, if_neg (fun h => ho h.1)]
        have gt : ∀ o x, o < X.length + 4 → getH _ o = x → x ≠ .none → getH H2 o = x := fun o x ho hx hne => by
          rw [gg o (by omega)]
          exact hk'.get (by simp only [btOwn]; omega) hx hne
        have e0 := gt 0 (.cells (fieldC g1 g2 g3 g4 g5 f.last f.growth f.wet f.base f.crops f.ripe f.late f.trod f.looks)) (by omega) rfl (by simp)
        have e1 := gt 1 (.cells [.nils]) (by omega) rfl (by simp)
        have e2 := gt 2 (.cells [.int .i64 0]) (by omega) rfl (by simp)
        have e3 := gt 3 (.cells [.ptr wo 0]) (by omega) rfl (by simp)
        have ew := gt wo _ l2 ((gA _ _ _ _ _ _ l2).trans b3) (by simp)
        have em := gt mo _ l1 ((gA _ _ _ _ _ _ l1).trans b4) (by simp)
        rw [← hH2]
        have hne : truthsL f [] ≠ [] := by
          intro h
          rw [posB, h] at hb; cases hb
        obtain ⟨c, c1, c2⟩ := b.tc
        rcases c2 with ⟨c2, _⟩ | ⟨o, ver, rfl, c2, c3⟩
        · exact absurd c2 hne
        have e4 := (gg _ (by omega)).trans c1
        have e5 := (gg o (by omega)).trans c2
        have l0 := lt_of_getH (h := H2) (o := o) (by rw [e5]; simp)
        have hpos : 0 < (truthsL f []).length := List.length_pos_iff.2 hne
        have k0 : 0 < H2.length := by omega
        have k1 : 1 < H2.length := by omega
        have k2 : 2 < H2.length := by omega
        have k3 : 3 < H2.length := by omega
        have k4 : X.length + 4 < H2.length := by omega
        have k5 : wo < H2.length := by omega
        have k6 : mo < H2.length := by omega
        have k7 : o < H2.length := by omega
        have z0 : ¬ 0 = H2.length := by omega
        have z1 : ¬ H2.length = 0 := by omega
        have z2 : ¬ 1 = H2.length := by omega
        have z3 : ¬ H2.length = 1 := by omega
        have z4 : ¬ 2 = H2.length := by omega
        have z5 : ¬ H2.length = 2 := by omega
        have z6 : ¬ 3 = H2.length := by omega
        have z7 : ¬ H2.length = 3 := by omega
        have z8 : ¬ X.length + 4 = H2.length := by omega
        have z9 : ¬ H2.length = X.length + 4 := by omega
        have z10 : ¬ wo = H2.length := by omega
        have z11 : ¬ H2.length = wo := by omega
        have z12 : ¬ mo = H2.length := by omega
        have z13 : ¬ H2.length = mo := by omega
        have z14 : ¬ o = H2.length := by omega
        have z15 : ¬ H2.length = o := by omega
        simp only [go_sem, getH_left, setH_left, k0, k1, k2, k3, k4, k5, k6, k7, z0, z1, z2, z3, z4, z5, z6, z7, z8, z9, z10, z11, z12, z13, z14, z15, e0, e1, e2, e3, e4]
        have ne : DNe wo mo 3 (X.length + 4) 2 1 0 H2.length o := by constructor <;> omega
        refine (F82 (f := f) (g1 := g1) (g2 := g2) (g3 := g3) (g4 := g4) (g5 := g5) (tv := ver) (tf := false) (ts := truthsL f []) hv ne hpos (by omega) (truths_isT hv) f.base.length [] 0 ⟨[], 0⟩ _ .nils (by simp) (by omega) (by omega) (fun i hi => by simp at hi) .nils ⟨getH_keep e3 (by simp), getH_keep e4 (by simp), getH_keep e2 (by simp), ⟨.nils, getH_keep e1 (by simp), .nils⟩, getH_keep e0 (by simp), by simp only [go_sem], getH_keep ew (by simp), ⟨[], by intro e he; simp at he, getH_keep em (by simp)⟩, getH_keep e5 (by simp)⟩).mono ?_
        rintro v H3 ⟨hk3, hD⟩
        obtain ⟨cp, p1, p2⟩ := hD.hpb
        have p3 := hD.hnb
        have kn := p2.known
        have q1 := lt_of_getH (h := H3) (o := 1) (by rw [p1]; simp)
        have q2 := lt_of_getH (h := H3) (o := 2) (by rw [p3]; simp)
        obtain ⟨bb, hbb⟩ := p2.res
        have hz : ∀ W Z, toResC (setH (setH H3 1 W) 2 Z) cp = some (L (bb, false) (bestS f).plan) := fun W Z => hbb _ fun o ho => by
          simp only [dOwn, not_or] at ho
          rw [getH_setH, if_neg (fun h => by omega), getH_setH, if_neg (fun h => by omega)]
        simp only [go_sem, getH_setH, length_setH, q1, q2, p1, p3, kn, hz]
        refine ⟨bb, ?_⟩
        rw [BestR, if_pos a]; rfl
      · cases h
end Am.Cr

namespace Am.Cr
open Go Am
set_option maxRecDepth 100000
set_option maxHeartbeats 4000000
set_option linter.unusedSimpArgs false
set_option linter.unusedVariables false
variable {g1 g2 g3 g4 g5 : Bool × Bool} {f : Field}
/-- the field with other looks -/
def withL (f : Field) (l : List Lk) : Field := { f with looks := l }
theorem Field.Valid.withL (hv : f.Valid) {l : List Lk} (h1 : l.length ≤ 5) (h2 : ∀ k ∈ l, k ∈ f.looks) : (withL f l).Valid :=
  ⟨hv.last0, hv.last9, hv.base3, h1, hv.ripe, hv.late, hv.trod, hv.growth, hv.wet, hv.base, hv.crops, hv.growths, hv.wets, fun k hk => hv.looks k (h2 k hk), hv.many⟩
def firstO (f : Field) : Option Nat := (List.range f.looks.length).find? fun i => !posB (withL f (f.looks.take (i + 1))) []
def FirstR (f : Field) : V := if checkField f ≠ 0 then .tup [.c (.int .i64 0), .c (.int .i64 (checkField f))] else match firstO f with
  | some i => .tup [.c (.int .i64 i), .c (.int .i64 0)]
  | none => .tup [.c (.int .i64 0), .c (.int .i64 7)]
theorem find_range {n : Nat} {p : Nat → Bool} {k : Nat} (hk : k < n) (h1 : ∀ i, i < k → p i = false) (h2 : p k = true) : (List.range n).find? p = some k := by
  rw [List.find?_eq_some_iff_getElem]
  refine ⟨h2, k, by simpa using hk, by simp, fun j hj => by simpa using h1 j hj⟩
theorem cFirst (hf : f.Fits) {Q : V → Prop} : CallP tab 15 [fieldV g1 g2 g3 g4 g5 f] Q ↔ Q (FirstR f) := CallP_of (by
  refine Val_X (fn := f15) rfl ?_
  by_cases h0 : checkField f = 0
  · have hv := valid_of h0
    have h5 := hv.looks5
    have hR : FirstR f = match firstO f with
      | some i => .tup [.c (.int .i64 i), .c (.int .i64 0)]
      | none => .tup [.c (.int .i64 0), .c (.int .i64 7)] := by rw [FirstR, if_neg (by rw [h0]; simp)]
    rw [hR]
    simp only [go_sem, f15, cCheckField hf, h0, F51]
    let wk : List Lk → Obj := fun l => .cells [.int .i64 f.last, L g1 f.growth, L g2 f.wet, L g3 f.base, L g4 f.crops, .int .i64 f.ripe, .int .i64 f.late, .int .i64 f.trod, L (false, g5.2) l, .map 2]
    refine RX_whileU (α := Nat × Obj × List Obj) (fun x => [(17, .c (.int .i64 x.1))]) (fun x => .cells (fieldC g1 g2 g3 g4 g5 f.last f.growth f.wet f.base f.crops f.ripe f.late f.trod f.looks) :: .cells (fieldC g1 g2 g3 g4 g5 f.last f.growth f.wet f.base f.crops f.ripe f.late f.trod f.looks) :: .map true false [some .i64, none] [] :: x.2.1 :: x.2.2) (fun x => x.1 ≤ f.looks.length ∧ (∃ g l, x.2.1 = .cells (workC g1 g2 g3 g4 g (withL f l) 2)) ∧ ∀ i, i < x.1 → posB (withL f (f.looks.take (i + 1))) [] = true) (fun x => f.looks.length - x.1) (0, .cells (workC g1 g2 g3 g4 g5 f 2), []) ⟨Nat.zero_le _, ⟨g5, f.looks, rfl⟩, fun i hi => by simp at hi⟩ (by simp only [go_sem] <;> rfl) ?_
    rintro ⟨k, wc, X⟩ ⟨hk, ⟨g, l, rfl⟩, hp⟩
    simp only at hk hp
    by_cases hlt : k < f.looks.length
    · have e4 : IntKind.i64.wrap ((k : Int) + 1) = ((k + 1 : Nat) : Int) := wrap_succ (n := 3000) (by omega) (by decide)
      have hL : L g5 f.looks = .lst g5.2 (f.looks.map Row.row) := by
        rcases L_cases g5 f.looks with ⟨_, h, _⟩ | h
        · exact absurd hlt (by have := congrArg List.length h; simp only [List.length_nil] at this; omega)
        · exact h
      have k0 : (0 : Int) ≤ ((k + 1 : Nat) : Int) := by omega
      have k1 : k + 1 ≤ f.looks.length := by omega
      obtain ⟨rows, hrows⟩ : ∃ rows, rows = f.looks.map (Row.row (α := Lk)) := ⟨_, rfl⟩
      obtain ⟨rows', hrows'⟩ : ∃ rows', rows' = (f.looks.take (k + 1)).map (Row.row (α := Lk)) := ⟨_, rfl⟩
      have hpt : takeN (k + 1) rows = some rows' := by
        rw [hrows, takeN_take (by rw [List.length_map]; omega), hrows', List.map_take]
      have hh : headLen 3 rows = true := by rw [hrows]; exact headLen_map (sz := 3) (sz_lk) (l := f.looks)
      have hrl : rows.length = f.looks.length := by rw [hrows, List.length_map]
      have hL' : C.lst g5.2 rows' = L (false, g5.2) (f.looks.take (k + 1)) := by rw [hrows']; rfl
      have hv' : (withL f (f.looks.take (k + 1))).Valid := hv.withL (by rw [List.length_take]; omega) (fun x hx => List.mem_of_mem_take hx)
      simp only [fieldC]
      rw [hL, ← hrows]
      simp only [go_sem, hlt, e4, k0, k1, hpt, hh, hrl, withL]
      rw [hL']
      refine (F75 (f := withL f (f.looks.take (k + 1))) (g1 := g1) (g2 := g2) (g3 := g3) (g4 := g4) (g5 := (false, g5.2)) (wo := 3) (mo := 2) (out := []) hv' (big_of hf.crops) (by decide) rfl (.lst (true, false) [])).mono ?_
      rintro v H' ⟨rfl, hk'⟩
      obtain ⟨Y, rfl⟩ := hk'.none_eq
      cases hb : posB (withL f (f.looks.take (k + 1))) [] with
      | true =>
        simp only [go_sem, e4]
        refine ⟨(k + 1, _, _), ⟨by simp only; omega, hlt, ⟨(false, g5.2), f.looks.take (k + 1), rfl⟩, fun i hi => ?_⟩, rfl, rfl, rfl⟩
        by_cases hik : i = k
        · subst hik; exact hb
        · exact hp i (by simp only at hi; omega)
      | false =>
        have hn : firstO f = some k := find_range hlt (fun i hi => by rw [hp i hi]; rfl) (by rw [hb]; rfl)
        simp only [go_sem, hn]
    · have : k = f.looks.length := by omega
      subst this
      have hn : firstO f = none := by
        unfold firstO
        rw [List.find?_eq_none]
        intro i hi
        rw [hp i (by simpa using hi)]; simp
      simp only [go_sem, hlt, hn]
  · simp only [go_sem, f15, cCheckField hf, h0]
    rw [FirstR, if_pos h0])
end Am.Cr

namespace Am.Cr
open Go Am
set_option maxRecDepth 100000
set_option maxHeartbeats 4000000
set_option linter.unusedSimpArgs false
set_option linter.unusedVariables false
variable {g1 g2 g3 g4 g5 : Bool × Bool} {f : Field}
/-- all increasing lists that go on from one with so many more numbers below n -/
def combL (n : Int) : Nat → List Int → Int → List (List Int)
  | 0, w, _ => [w]
  | m + 1, w, fr => (upTo fr (n - ((m : Int) + 1))).flatMap fun y => combL n m (w ++ [y]) (y + 1)
/-- a list is tried: it is kept, and the search goes on if it is of no use -/
def lvStep (f : Field) (s w : List Int) : List Int × Bool := (w, !posB f w)
structure LInv (g1 g2 g3 g4 g5 : Bool × Bool) (f : Field) (wo mo ob wb fb lb : Nat) (s : List Int) (H : List Obj) : Prop where
  hob : ∃ c, getH H ob = .cells [c] ∧ LstIn 1 (fun o => o = ob) H c s
  hwb : getH H wb = .cells [.ptr wo 0]
  hfb : getH H fb = .cells (fieldC g1 g2 g3 g4 g5 f.last f.growth f.wet f.base f.crops f.ripe f.late f.trod f.looks)
  hlb : getH H lb = .cells [.fn 31 false [] [.ptr ob 0, .ptr wb 0, .ptr fb 0, .ptr lb 0]]
  hw : getH H wo = .cells (workC g1 g2 g3 g4 g5 f mo)
section
variable {wo mo ob wb fb lb : Nat}
theorem LInv.append {s : List Int} {H X : List Obj} (h : LInv g1 g2 g3 g4 g5 f wo mo ob wb fb lb s H) : LInv g1 g2 g3 g4 g5 f wo mo ob wb fb lb s (H ++ X) := by
  obtain ⟨c, a, b⟩ := h.hob
  exact ⟨⟨c, getH_keep a (by simp), b.keep .append⟩, getH_keep h.hwb (by simp), getH_keep h.hfb (by simp), getH_keep h.hlb (by simp), getH_keep h.hw (by simp)⟩
theorem F74 (hv : f.Valid) (hcr : f.crops.length ≤ 1000) (n1 : wb ≠ ob) (n2 : fb ≠ ob) (n3 : lb ≠ ob) (n4 : wo ≠ ob) : ∀ (m : Nat) (w : List Int) (fr : Int) (s : List Int) (H : List Obj) (c : C), w.length + m ≤ 1000 → 0 ≤ fr → fr ≤ 1000 → LstIn 1 (fun o => o = ob) H c w → LInv g1 g2 g3 g4 g5 f wo mo ob wb fb lb s H →
    Fn tab (.f 31 [.c c, .c (.int .i64 fr), .c (.int .i64 m), .c (.ptr ob 0), .c (.ptr wb 0), .c (.ptr fb 0), .c (.ptr lb 0)] H) fun v H' => v = .c (.bool (!(foldY (lvStep f) s (combL f.looks.length m w fr)).2)) ∧ Keep (fun o => o = ob) H H' ∧ LInv g1 g2 g3 g4 g5 f wo mo ob wb fb lb (foldY (lvStep f) s (combL f.looks.length m w fr)).1 H' := by
  have v5 := hv.looks5
  intro m
  induction m with
  | zero =>
    intro w fr s H c hwl f0 f1 hc hi
    refine Fn_X (fn := f31) rfl rfl ?_
    obtain ⟨c0, e1, e2⟩ := hi.hob
    have l1 := lt_of_getH (h := H) (o := ob) (by rw [e1]; simp)
    have e3 := hi.hwb
    have kn := hc.known
    simp only [go_sem, f31, e1, e3, kn, getH_setH, length_setH, l1, n1, false_and]
    have hK : Keep (fun o => o = ob) H (setH H ob (.cells [c])) := ⟨by rw [length_setH]; omega, fun o ho hl => by rw [getH_setH, if_neg (fun h => ho h.1)]⟩
    have hc' := hc.keep hK
    refine (F75 (f := f) (g1 := g1) (g2 := g2) (g3 := g3) (g4 := g4) (g5 := g5) (wo := wo) (mo := mo) (out := w) hv (big_of hcr) (big_of (by omega)) (hK.get n4 hi.hw (by simp)) (LstIn.rd hc')).mono ?_
    rintro v H' ⟨rfl, hk'⟩
    obtain ⟨Y, rfl⟩ := hk'.none_eq
    simp only [go_sem]
    have hfo : foldY (lvStep f) s (combL f.looks.length 0 w fr) = (w, !posB f w) := by
      simp only [combL, foldY, lvStep]
      by_cases h : posB f w = true <;> simp [h]
    rw [hfo]
    refine ⟨by simp, hK.trans Keep.append, LInv.append ⟨⟨c, by rw [getH_setH, if_pos ⟨rfl, l1⟩], hc'⟩, hK.get n1 hi.hwb (by simp), hK.get n2 hi.hfb (by simp), hK.get n3 hi.hlb (by simp), hK.get n4 hi.hw (by simp)⟩⟩
  | succ m ih =>
    intro w fr s H c hwl f0 f1 hc hi
    refine Fn_X (fn := f31) rfl rfl ?_
    have hm0 : ¬ ((m + 1 : Nat) : Int) = 0 := by omega
    simp only [go_sem, f31, hm0]
    let hi' : Int := f.looks.length - ((m : Int) + 1)
    let ys := upTo fr hi'
    let gg := fun y => combL f.looks.length m (w ++ [y]) (y + 1)
    have hcomb : combL f.looks.length (m + 1) w fr = ys.flatMap gg := rfl
    have hyl : ys.length = (hi' + 1 - fr).toNat := by simp [ys, upTo]
    have hyk : ∀ k, k < ys.length → ys.getD k default = fr + k := by
      intro k hk
      rw [getD_lt _ _ _ hk]; simp [ys, upTo]
    have hw2 : IntKind.i64.wrap ((f.looks.length : Int) - ((m + 1 : Nat) : Int)) = hi' := by rw [wrapB (by omega) (by omega)]; rfl
    have hw3 : IntKind.i64.wrap (((m + 1 : Nat) : Int) - 1) = m := by rw [wrapB (by omega) (by omega)]; omega
    refine RX_whileU (α := Nat × List Int × List Obj) (fun x => [(11, .c (.int .i64 (fr + x.1)))]) (fun x => x.2.2) (fun x => x.1 ≤ ys.length ∧ Keep (fun o => o = ob) H x.2.2 ∧ LInv g1 g2 g3 g4 g5 f wo mo ob wb fb lb x.2.1 x.2.2 ∧ foldY (lvStep f) s ((ys.take x.1).flatMap gg) = (x.2.1, true)) (fun x => ys.length - x.1) (0, s, H) ⟨Nat.zero_le _, Keep.refl, hi, by simp [foldY]⟩ (by simp only [go_sem, Int.add_zero] <;> rfl) ?_
    rintro ⟨k, s', H'⟩ ⟨hk, hK, hI, hf⟩
    simp only at hk hK hI hf
    have e3 := hI.hfb
    have e4 := hI.hlb
    have l4 := lt_of_getH (h := H') (o := lb) (by rw [e4]; simp)
    have z0 : ¬ lb = H'.length := by omega
    have z1 : ¬ H'.length = lb := by omega
    have z2 : ¬ lb = H'.length + 1 := by omega
    have z3 : ¬ H'.length + 1 = lb := by omega
    by_cases h1 : fr + k ≤ hi'
    · have hk1 : k < ys.length := by omega
      have hw4 : IntKind.i64.wrap (fr + k + 1) = fr + k + 1 := wrapB (by omega) (by omega)
      have hr := (hc.keep hK).rows
      have b1 : w.length * 8 ≤ 2 ^ 40 := by omega
      have b2 : (w.length + 1) * 8 ≤ 2 ^ 40 := by omega
      obtain ⟨m1, m2⟩ := lstIn_obj (hc.keep hK) (x := H'.length + 1) (by omega)
      simp only [go_sem, e3, e4, h1, hw2, hw3, hw4, hr, b1, b2, getH_left, l4, z0, z1, z2, z3]
      have hlist : LstIn 1 (fun o => o = ob) (H' ++ [.arr false 1 1 (w.map Row.row ++ [[.int .i64 (fr + k)]]), .arr false 0 1 [[.int .i64 (fr + k)]], .none]) (.sl H'.length 1 0 (w.length + 1)) (w ++ [fr + (k : Int)]) := by
        have e1 : w.map Row.row ++ [[D.int .i64 (fr + k)]] = (w ++ [fr + (k : Int)]).map Row.row := by rw [List.map_append]; rfl
        rw [e1, show w.length + 1 = (w ++ [fr + (k : Int)]).length by simp]
        obtain ⟨cp, q2, _⟩ := hI.hob
        have q2 := lt_of_getH (h := H') (o := ob) (by rw [q2]; simp)
        exact .sl _ 1 false _ (by omega) (by rw [getH_at0]; rfl)
      refine (ih (w ++ [fr + (k : Int)]) (fr + k + 1) s' _ _ (by simp; omega) (by omega) (by omega) hlist hI.append).mono ?_
      rintro v H3 ⟨rfl, hk3, hD3⟩
      have hfk : ∀ b, foldY (lvStep f) s' (gg (fr + k)) = b → foldY (lvStep f) s ((ys.take (k + 1)).flatMap gg) = b := by
        intro b hb
        rw [take_getD hk1 default, List.flatMap_append, foldY_append, hf, hyk k hk1]
        simp only [if_true, List.flatMap_cons, List.flatMap_nil, List.append_nil]
        exact hb
      have hstop : (foldY (lvStep f) s' (gg (fr + k))).2 = false → foldY (lvStep f) s (combL f.looks.length (m + 1) w fr) = ((foldY (lvStep f) s' (gg (fr + k))).1, false) := by
        intro hb
        have e : ys = ys.take (k + 1) ++ ys.drop (k + 1) := (List.take_append_drop _ _).symm
        rw [hcomb, e, List.flatMap_append, foldY_append, hfk _ rfl, if_neg (by rw [hb]; decide)]
      change LInv g1 g2 g3 g4 g5 f wo mo ob wb fb lb (foldY (lvStep f) s' (gg (fr + k))).1 H3 at hD3
      change callFX tab H'.length _ _ _ _ _ _ (.c (.bool (!(foldY (lvStep f) s' (gg (fr + k))).2))) H3
      cases hb : (foldY (lvStep f) s' (gg (fr + k))).2 with
      | true =>
        simp only [go_sem, m1, m2, disj_nil, z0, z1, z2, z3, hw4]
        refine ⟨(k + 1, _, H3), ⟨by simp only; omega, by simp only; omega, hK.trans (Keep.append.trans hk3), hD3, ?_⟩, by simp only; omega, rfl⟩
        simp only
        rw [hfk _ rfl]; exact Prod.ext rfl hb
      | false =>
        simp only [go_sem, m1, m2, disj_nil, z0, z1, z2, z3, hstop hb]
        exact ⟨hK.trans (Keep.append.trans hk3), hD3⟩
    · have hk' : k = ys.length := by omega
      subst hk'
      rw [List.take_length, ← hcomb] at hf
      simp only [go_sem, e3, hw2, h1, hf]
      exact ⟨hK, hI⟩
end
/-- all sets that are tried, in their order -/
def setsL (n : Nat) : List (List Int) := (List.range (n + 1)).flatMap fun m => combL n m [] 0
def leaveS (f : Field) : List Int := (foldY (lvStep f) [] (setsL f.looks.length)).1
def LeaveR (b : Bool) (f : Field) : V := if checkField f ≠ 0 then .tup [.c .nils, .c (.int .i64 (checkField f))] else .tup [.c (L (b, false) (leaveS f)), .c (.int .i64 0)]
theorem vLeave (hf : f.Fits) : ∃ b : Bool, Val tab 9 [fieldV g1 g2 g3 g4 g5 f] (LeaveR b f) := by
  suffices h : CallP tab 9 [fieldV g1 g2 g3 g4 g5 f] (fun v => ∃ b : Bool, v = LeaveR b f) by
    obtain ⟨v, hval, b, rfl⟩ := h
    exact ⟨b, hval⟩
  refine CallP_X (fn := f9) rfl ?_
  by_cases h0 : checkField f = 0
  · have hv := valid_of h0
    have v5 := hv.looks5
    have hR : ∀ b, LeaveR b f = .tup [.c (L (b, false) (leaveS f)), .c (.int .i64 0)] := fun b => by rw [LeaveR, if_neg (by rw [h0]; simp)]
    simp only [go_sem, f9, cCheckField hf, h0, F51, hR]
    have hw1 : IntKind.i64.wrap ((f.looks.length : Int) + 1) = ((f.looks.length + 1 : Nat) : Int) := by rw [wrapB (by omega) (by omega)]; omega
    rw [hw1]
    let gg := fun (m : Nat) => combL f.looks.length m [] 0
    refine RX_whileU (α := Nat × List Int × List Obj) (fun x => [(21, .c (.int .i64 x.1))]) (fun x => x.2.2) (fun x => x.1 ≤ f.looks.length + 1 ∧ LInv g1 g2 g3 g4 g5 f 4 3 5 1 0 6 x.2.1 x.2.2 ∧ foldY (lvStep f) [] ((List.range x.1).flatMap gg) = (x.2.1, true)) (fun x => f.looks.length + 1 - x.1) (0, [], _) ⟨Nat.zero_le _, ⟨⟨.nils, rfl, .nils⟩, rfl, rfl, rfl, rfl⟩, rfl⟩ (by simp only [go_sem] <;> rfl) ?_
    rintro ⟨k, s, H'⟩ ⟨hk, hI, hfo⟩
    simp only at hk hI hfo
    have e1 := hI.hlb
    by_cases hlt : k < f.looks.length + 1
    · have hlt' : (k : Int) < ((f.looks.length + 1 : Nat) : Int) := by omega
      have e4 : IntKind.i64.wrap ((k : Int) + 1) = ((k + 1 : Nat) : Int) := wrap_succ (n := 3000) (by omega) (by decide)
      simp only [go_sem, hlt', e1]
      refine (F74 (f := f) (g1 := g1) (g2 := g2) (g3 := g3) (g4 := g4) (g5 := g5) (wo := 4) (mo := 3) (ob := 5) (wb := 1) (fb := 0) (lb := 6) hv hf.crops (by decide) (by decide) (by decide) (by decide) k [] 0 s H' .nils (by simp; omega) (by omega) (by omega) .nils hI).mono ?_
      rintro v H2 ⟨rfl, hk2, hI2⟩
      change LInv g1 g2 g3 g4 g5 f 4 3 5 1 0 6 (foldY (lvStep f) s (gg k)).1 H2 at hI2
      change callFX tab H'.length _ _ _ _ _ _ (.c (.bool (!(foldY (lvStep f) s (gg k)).2))) H2
      have hfk : ∀ b, foldY (lvStep f) s (gg k) = b → foldY (lvStep f) [] ((List.range (k + 1)).flatMap gg) = b := by
        intro b hb
        rw [List.range_succ, List.flatMap_append, foldY_append, hfo]
        simp only [if_true, List.flatMap_cons, List.flatMap_nil, List.append_nil]
        exact hb
      cases hb : (foldY (lvStep f) s (gg k)).2 with
      | true =>
        simp only [go_sem, e4]
        refine ⟨(k + 1, _, H2), ⟨by simp only; omega, by simp only; omega, hI2, ?_⟩, rfl, rfl⟩
        rw [hfk _ rfl]; exact Prod.ext rfl hb
      | false =>
        have hst : leaveS f = (foldY (lvStep f) s (gg k)).1 := by
          have e : List.range (f.looks.length + 1) = List.range (k + 1) ++ (List.range (f.looks.length + 1)).drop (k + 1) := by
            have := List.take_append_drop (k + 1) (List.range (f.looks.length + 1))
            rw [List.take_range, Nat.min_eq_left (by omega)] at this
            exact this.symm
          unfold leaveS setsL
          rw [e, List.flatMap_append, foldY_append]
          have : foldY (lvStep f) [] ((List.range (k + 1)).flatMap fun m => combL f.looks.length m [] 0) = ((foldY (lvStep f) s (gg k)).1, false) := by
            rw [← hb]; exact hfk _ rfl
          rw [this]; rfl
        obtain ⟨c, d1, d2⟩ := hI2.hob
        obtain ⟨bb, hbb⟩ := d2.res
        have hz := hbb H2 (fun o _ => rfl)
        simp only [go_sem, d1, hz, hst]
        exact ⟨bb, rfl⟩
    · have hke : k = f.looks.length + 1 := by omega
      have hlt' : ¬ (k : Int) < ((f.looks.length + 1 : Nat) : Int) := by omega
      have hst : leaveS f = s := by
        unfold leaveS setsL
        rw [hke] at hfo
        change (foldY (lvStep f) [] ((List.range (f.looks.length + 1)).flatMap gg)).1 = s
        rw [hfo]
      obtain ⟨c, d1, d2⟩ := hI.hob
      obtain ⟨bb, hbb⟩ := d2.res
      have hz := hbb H' (fun o _ => rfl)
      simp only [go_sem, hlt', d1, hz, hst]
      exact ⟨bb, rfl⟩
  · have hR : LeaveR true f = .tup [.c .nils, .c (.int .i64 (checkField f))] := by rw [LeaveR, if_pos h0]
    simp only [go_sem, f9, cCheckField hf, h0]
    exact ⟨true, hR.symm⟩
end Am.Cr

namespace Am.Cr
open Go Am
set_option maxRecDepth 100000
set_option maxHeartbeats 4000000
set_option linter.unusedSimpArgs false
set_option linter.unusedVariables false
variable {g1 g2 g3 g4 g5 : Bool × Bool} {f : Field}
def sumLen (l : List (List Int)) : Nat := (l.map List.length).sum
theorem sumLen_take {l : List (List Int)} {k : Nat} (h : k < l.length) : sumLen (l.take (k + 1)) = sumLen (l.take k) + (l.getD k default).length := by
  rw [take_getD h default]; simp [sumLen]
theorem sumLen_le {l : List (List Int)} {k : Nat} : sumLen (l.take k) ≤ sumLen l := by
  have h : sumLen l = sumLen (l.take k) + sumLen (l.drop k) := by
    conv => lhs; rw [← List.take_append_drop k l]
    simp only [sumLen, List.map_append, List.sum_append]
  omega
theorem flat_take {l : List (List Int)} {k : Nat} (h : k < l.length) : (l.take (k + 1)).flatten = (l.take k).flatten ++ l.getD k default := by
  rw [take_getD h default, List.flatten_append]; simp
theorem flat_len {l : List (List Int)} : l.flatten.length = sumLen l := by simp [sumLen, List.length_flatten]
theorem sConcat {g : Bool × Bool} {ls : List (List Int)} (h1 : ls.length ≤ 1000) (h2 : sumLen ls ≤ 1000000) {Q : V → Prop} : CallP tab 57 [.c (L g ls)] Q ↔ Q (.c (L (false, false) ls.flatten)) := CallP_of (by
  refine Val_X (fn := f57) rfl ?_
  simp only [go_sem, f57]
  refine RX_forC ls.length (fun k => [(3, .c (.int .i64 (sumLen (ls.take k)))), (11, .c (.int .i64 k))]) (fun _ => True) rfl trivial (by simp only [go_sem] <;> rfl) ?_
  intro k hk _
  by_cases hlt : k < ls.length
  · have e4 : IntKind.i64.wrap ((k : Int) + 1) = ((k + 1 : Nat) : Int) := wrap_succ (n := 3000) (by omega) (by decide)
    have a1 := sumLen_take hlt
    have a2 := sumLen_le (l := ls) (k := k + 1)
    have e5 : IntKind.i64.wrap (((sumLen (ls.take k) : Nat) : Int) + ((ls.getD k default).length : Nat)) = ((sumLen (ls.take (k + 1)) : Nat) : Int) := by rw [a1, wrapB (by omega) (by omega)]; simp
    have e6 : ¬ ((sumLen (ls.take (k + 1)) : Nat) : Int) < 0 := by omega
    simp only [go_sem, hlt, atI_nat, e4, e5, e6]
  · have : k = ls.length := by omega
    subst this
    have b1 : sumLen ls * 8 ≤ 2 ^ 40 := by omega
    have b2 : (0 : Int) ≤ (sumLen ls : Nat) := by omega
    have b3 : ((sumLen ls : Nat) : Int) * 8 ≤ 2 ^ 40 := by omega
    simp only [go_sem, hlt, List.take_length, b1, b2, b3]
    refine RX_for ls.length (fun k => [(6, .c (.sl 0 k 0 (sumLen (ls.take k)))), (27, .c (.int .i64 k))]) (fun k => [.arr false k 1 ((ls.take k).flatten.map Row.row)]) (fun _ => True) trivial (by simp only [go_sem, List.take_zero] <;> exact ⟨rfl, rfl⟩) ?_
    intro k hk _
    by_cases hlt : k < ls.length
    · have e4 : IntKind.i64.wrap ((k : Int) + 1) = ((k + 1 : Nat) : Int) := wrap_succ (n := 3000) (by omega) (by decide)
      have a1 := sumLen_take hlt
      have a2 := sumLen_le (l := ls) (k := k + 1)
      have a3 := flat_take hlt
      have a4 := flat_len (l := ls.take k)
      have b4 : (sumLen (ls.take k) + (ls.getD k default).length) * 8 ≤ 2 ^ 40 := by omega
      simp only [go_sem, hlt, atI_nat, e4, a1, a3, a4, b4, List.map_append]
    · have : k = ls.length := by omega
      subst this
      have a4 := flat_len (l := ls)
      simp only [go_sem, hlt, List.take_length, a4])
theorem lstLL {t : Bool} {a b : List Int} : C.lst t [[.lst (a.map Row.row)], [.lst (b.map Row.row)]] = L (false, t) [a, b] := rfl
def listedB (f : Field) (t : Truth) : Bool := decide ((t.growth.length : Int) = IntKind.i64.wrap (f.last + 1)) && (decide ((t.wet.length : Int) = IntKind.i64.wrap (f.last + 1)) && (List.range (f.growth.length + f.wet.length)).all fun i => inR ((t.growth ++ t.wet).getD i default) ((rangesL f.growth f.wet).getD i default).lo ((rangesL f.growth f.wet).getD i default).hi)
theorem clisted (hf : f.Fits) (hl : (f.growth.length : Int) = IntKind.i64.wrap (f.last + 1)) (hl2 : (f.wet.length : Int) = IntKind.i64.wrap (f.last + 1)) {b6 b7 : Bool} {t : Truth} {Q : V → Prop} : CallP tab 18 [fieldV g1 g2 g3 g4 g5 f, .agg [L (b6, false) t.growth, L (b7, false) t.wet]] Q ↔ Q (.c (.bool (listedB f t))) := CallP_of (by
  refine Val_X (fn := f18) rfl ?_
  have c1 := hf.growth
  have c2 := hf.wet
  by_cases a1 : (t.growth.length : Int) = IntKind.i64.wrap (f.last + 1)
  · by_cases a2 : (t.wet.length : Int) = IntKind.i64.wrap (f.last + 1)
    · have hC := fun {g : Bool × Bool} {Q : V → Prop} => sConcat (g := g) (ls := [t.growth, t.wet]) (by simp) (by simp [sumLen]; omega) (Q := Q)
      have hfl : [t.growth, t.wet].flatten = t.growth ++ t.wet := by simp
      have hrn := fun {Q : V → Prop} => cranges (last := f.last) (ripe := f.ripe) (late := f.late) (trod := f.trod) (growth := f.growth) (wet := f.wet) (base := f.base) (crops := f.crops) (looks := f.looks) (g1 := g1) (g2 := g2) (g3 := g3) (g4 := g4) (g5 := g5) c1 c2 (Q := Q)
      have hlb : listedB f t = (List.range (f.growth.length + f.wet.length)).all fun i => inR ((t.growth ++ t.wet).getD i default) ((rangesL f.growth f.wet).getD i default).lo ((rangesL f.growth f.wet).getD i default).hi := by
        simp only [listedB, a1, a2, decide_true, Bool.true_and]
      have hrl := rangesL_len (f := f)
      simp only [go_sem, f18, cweeks, a1, a2, lstLL, hC, hfl, hrn]
      rw [hlb, ← hrl]
      have hcl : (t.growth ++ t.wet).length = (rangesL f.growth f.wet).length := by rw [hrl, List.length_append]; omega
      have hbig : (rangesL f.growth f.wet).length ≤ 3000 := by omega
      generalize rangesL f.growth f.wet = rs at hcl hbig ⊢
      generalize hco : t.growth ++ t.wet = co at hcl ⊢
      refine RX_forC rs.length (fun k => [(31, .c (.int .i64 k))]) (fun k => ∀ i, i < k → inR (co.getD i default) (rs.getD i default).lo (rs.getD i default).hi = true) rfl (fun i h => by omega) (by simp only [go_sem] <;> rfl) ?_
      intro k hk hP
      by_cases hlt : k < rs.length
      · have e4 : IntKind.i64.wrap ((k : Int) + 1) = ((k + 1 : Nat) : Int) := wrap_succ (n := 5000) (by omega) (by decide)
        have k0 : k < co.length := by omega
        simp only [go_sem, hlt, k0, atI_nat, e4, chas]
        refine ⟨fun h => ?_, fun h i hi => ?_⟩
        · rw [List.all_eq_false]
          exact ⟨k, by simpa using hlt, by rw [h]; simp⟩
        · by_cases hik : i = k
          · subst hik; exact h
          · exact hP i (by omega)
      · have : k = rs.length := by omega
        subst this
        simp only [go_sem, hlt]
        rw [List.all_eq_true]
        intro i hi
        exact hP i (by simpa using hi)
    · have : listedB f t = false := by simp only [listedB, a2, decide_false, Bool.false_and, Bool.and_false]
      simp only [go_sem, f18, cweeks, a1, a2, this]
  · have : listedB f t = false := by simp only [listedB, a1, decide_false, Bool.false_and]
    simp only [go_sem, f18, cweeks, a1, this])
/-- Play: the crops, the error -/
def PlayR (b : Bool) (f : Field) (t : Truth) (plan : List Int) : V := if checkField f ≠ 0 then .tup [.c .nils, .c (.int .i64 (checkField f))] else if listedB f t = false ∨ planOk f.last f.base plan = false then .tup [.c .nils, .c (.int .i64 2)] else .tup [.c (L (b, false) (cropsL f t plan)), .c (.int .i64 0)]
theorem isT_listed (hv : f.Valid) {t : Truth} (h : listedB f t = true) : IsT f t := by
  have v1 := hv.growth
  have v2 := hv.wet
  have v3 := hv.last0
  have v4 := hv.last9
  have hw : IntKind.i64.wrap (f.last + 1) = f.last + 1 := wrapB (by omega) (by omega)
  simp only [listedB, Bool.and_eq_true, decide_eq_true_eq, hw, List.all_eq_true, List.mem_range, inR_iff] at h
  obtain ⟨h1, h2, h3⟩ := h
  refine ⟨by omega, by omega, fun i hi => ?_, fun i hi => ?_⟩
  · have := h3 i (by omega)
    rw [show (t.growth ++ t.wet).getD i default = t.growth.getD i default by simp [List.getD_eq_getElem?_getD, List.getElem?_append, hi]] at this
    rwa [show (rangesL f.growth f.wet).getD i default = f.growth.getD i default by simp [rangesL, List.getD_eq_getElem?_getD, List.getElem?_append, show i < f.growth.length by omega]] at this
  · have hi' : i < f.wet.length := by omega
    have := h3 (f.growth.length + i) (by omega)
    rw [show (t.growth ++ t.wet).getD (f.growth.length + i) default = t.wet.getD i default by rw [show f.growth.length = t.growth.length by omega, List.getD_eq_getElem?_getD, List.getElem?_append_right (by omega)]; simp [List.getD_eq_getElem?_getD]] at this
    rwa [show (rangesL f.growth f.wet).getD (f.growth.length + i) default = wetR (f.wet.getD i default) by simp [rangesL, List.getD_eq_getElem?_getD, List.getElem?_append, hi']] at this
theorem cPlay (hf : f.Fits) {b6 b7 : Bool} {g : Bool × Bool} {t : Truth} {plan : List Int} (hp : plan.length < Big) {Q : V → Prop} : CallP tab 5 [fieldV g1 g2 g3 g4 g5 f, .agg [L (b6, false) t.growth, L (b7, false) t.wet], .c (L g plan)] Q ↔ Q (PlayR false f t plan) := CallP_of (by
  refine Val_X (fn := f5) rfl ?_
  by_cases h0 : checkField f = 0
  · have hv := valid_of h0
    have v1 := hv.growth
    have v2 := hv.wet
    have v3 := hv.last0
    have v4 := hv.last9
    have hw : IntKind.i64.wrap (f.last + 1) = f.last + 1 := wrapB (by omega) (by omega)
    have hLs := fun {Q : V → Prop} => clisted (g1 := g1) (g2 := g2) (g3 := g3) (g4 := g4) (g5 := g5) (f := f) hf (by omega) (by omega) (b6 := b6) (b7 := b7) (t := t) (Q := Q)
    have hPl := fun {Q : V → Prop} => cplan (last := f.last) (ripe := f.ripe) (late := f.late) (trod := f.trod) (growth := f.growth) (wet := f.wet) (base := f.base) (crops := f.crops) (looks := f.looks) (g1 := g1) (g2 := g2) (g3 := g3) (g4 := g4) (g5 := g5) (g := g) hp (Q := Q)
    rw [PlayR, if_neg (by rw [h0]; simp)]
    cases hl : listedB f t with
    | false =>
      rw [if_pos (.inl rfl)]
      simp only [go_sem, f5, cCheckField hf, h0, hLs, hl]
    | true =>
      cases hq : planOk f.last f.base plan with
      | false =>
        rw [if_pos (.inr rfl)]
        simp only [go_sem, f5, cCheckField hf, h0, hLs, hl, hPl, hq]
      | true =>
        rw [if_neg (by simp)]
        have hIs := isT_listed hv hl
        simp only [go_sem, f5, cCheckField hf, h0, hLs, hl, hPl, hq, F51]
        refine (F52 (t := t) (plan := plan) (f := f) (g1 := g1) (g2 := g2) (g3 := g3) (g4 := g4) (g5 := g5) (es := []) (wo := 4) (mo := 3) rfl rfl (by intro e he; simp at he) (.lst (b6, false) _) (.lst (b7, false) _) (.lst g plan) (weeks_of hv hIs hq)).mono ?_
        rintro v H' ⟨es1, X, hok1, rfl, rfl⟩
        have hcl := cropsL_len (f := f) (t := t) (plan := plan)
        simp only [go_sem, hcl]
  · rw [PlayR, if_pos h0]
    simp only [go_sem, f5, cCheckField hf, h0])
def provesTruth (f : Field) (t : Truth) : Bool := decide (checkField f = 0) && (listedB f t && f.looks.all fun k => inR (atI (standing t.growth f.crops) k.week) k.w.lo k.w.hi)
theorem vWork {Q : V → Prop} : CallP tab 20 [fieldV g1 g2 g3 g4 g5 f] Q ↔ Q (.c .any) := CallP_of (by
  refine Val_X (fn := f20) rfl ?_
  simp only [go_sem, f20])
theorem cProveTruth (hf : f.Fits) {b6 b7 : Bool} {t : Truth} {Q : V → Prop} : CallP tab 11 [fieldV g1 g2 g3 g4 g5 f, .agg [L (b6, false) t.growth, L (b7, false) t.wet]] Q ↔ Q (.c (.bool (provesTruth f t))) := CallP_of (by
  refine Val_X (fn := f11) rfl ?_
  by_cases h0 : checkField f = 0
  · have hv := valid_of h0
    have v1 := hv.growth
    have v2 := hv.wet
    have v3 := hv.last0
    have v4 := hv.last9
    have hw : IntKind.i64.wrap (f.last + 1) = f.last + 1 := wrapB (by omega) (by omega)
    have hLs := fun {Q : V → Prop} => clisted (g1 := g1) (g2 := g2) (g3 := g3) (g4 := g4) (g5 := g5) (f := f) hf (by omega) (by omega) (b6 := b6) (b7 := b7) (t := t) (Q := Q)
    cases hl : listedB f t with
    | false =>
      simp only [go_sem, f11, cCheckField hf, h0, hLs, hl, provesTruth]
    | true =>
      have hIs := isT_listed hv hl
      have hg := hIs.gl
      have hsl := standing_len (g := t.growth) (plan := f.crops)
      obtain ⟨own, hown⟩ : ∃ x, x = standing t.growth f.crops := ⟨_, rfl⟩
      have hP := fun {x : V} {g1 g2 g : Bool × Bool} {wt : List Int} {Q : V → Prop} => P54 (x := x) (g1 := g1) (g2 := g2) (g := g) (gr := t.growth) (wt := wt) (plan := f.crops) (by omega) (big_of hf.crops) (Q := Q)
      rw [← hown] at hP hsl
      have x1 := splice_all (xs := own.map intC) (l := (List.replicate 10 (0 : Int)).map intC) (by simp [hsl])
      rw [List.map_replicate] at x1
      simp only [List.replicate_succ, List.replicate_zero] at x1
      have hpt : provesTruth f t = f.looks.all fun k => inR (atI own k.week) k.w.lo k.w.hi := by simp only [provesTruth, h0, hl, decide_true, Bool.true_and, hown]
      simp only [go_sem, f11, cCheckField hf, h0, hLs, hl, vWork, hP, hsl, x1]
      have hall := fun {Q : V → List Obj → Prop} => All_of (G := tab) (k := 34) elemLk (kN := 65) (kC := 64) (kI := 79) rfl rfl rfl (g := g5) (l := f.looks) (big_of hf.looks) (f := 35) (a := false) (x := []) (y := [.ptr 2 0]) (h := [.cells (fieldC g1 g2 g3 g4 g5 f.last f.growth f.wet f.base f.crops f.ripe f.late f.trod f.looks), .cells [L (b6, false) t.growth, L (b7, false) t.wet], .cells (own.map intC)]) (fun k => inR (atI own k.week) k.w.lo k.w.hi) (fun z hz => by
        rw [CallV_fn]
        refine Fn_XD (fn := f65) rfl rfl ?_
        have hz' := hv.looks z hz
        have w0 : 0 ≤ z.week := hz'.1.1
        have w1 : z.week < 10 := by omega
        have w3 := takeN_ints1 (l := own) (i := z.week.toNat) (by omega)
        have hu : ∀ b, C.underL b (own.map intC) = true := fun b => underL_ints
        simp only [go_sem, f65, elemLk, w0, w1]
        refine Fn_X (fn := f35) rfl rfl ?_
        simp only [go_sem, f35, w0, w1, w3, chas, hu, List.take]
        rfl) (Q := Q)
      rw [hpt]
      refine hall.2 ?_
      simp only [go_sem]
  · simp only [go_sem, f11, cCheckField hf, h0, provesTruth])
end Am.Cr

