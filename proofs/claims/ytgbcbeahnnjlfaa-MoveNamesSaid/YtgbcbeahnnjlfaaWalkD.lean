/-
  A part of the proof: the texts M15, M16, M17 of this seat, joined.
-/
import Derived.Test.YtgbcbeahnnjlfaaWalkC
import Derived.KernelRfl
namespace Am.Mv
open Go Am Am.Tm
set_option maxRecDepth 100000
set_option maxHeartbeats 4000000
set_option linter.unusedSimpArgs false
set_option linter.unusedVariables false
variable {l : Land} {g1 g2 : Bool × Bool}
abbrev Ans := Int × Int × Bool
/-- one site, in the search from a spot on -/
def fromStep (l : Land) (rec : S → Int → Ans) (s : S) (bad : Int) (best : Ans) (k : Int) : Ans :=
  if costOf l.sites l.roads s.site k ≤ s.money then
    let a := rec (nextS l s k false) bad
    let a' : Ans := if a.2.2 = true ∧ 0 < bad then (k, min a.2.1 (rec (nextS l s k true) (bad - 1)).2.1, (rec (nextS l s k true) (bad - 1)).2.2) else a
    if a'.2.2 = true ∧ (best.2.2 = false ∨ best.2.1 < a'.2.1) then (k, a'.2.1, true) else best
  else best
def fromF (l : Land) : Nat → S → Int → Ans
  | 0, s, _ => (-1, s.money, true)
  | n + 1, s, bad => let r := (List.range l.sites.length).foldl (fun best (k : Nat) => fromStep l (fromF l n) s bad best (k : Int)) (0, 0, false)
    if r.2.2 = true then r else (0, 0, false)
def fromL (l : Land) (s : S) (bad : Int) : Ans := fromF l (l.last + 1 - s.year).toNat s bad
abbrev keyD (s : S) (b : Int) : List D := [.int .i64 s.year, .int .i64 s.site, .int .i64 s.money, .int .i64 s.so.t0, .int .i64 s.so.d0, .int .i64 s.so.t1, .int .i64 s.so.d1, .int .i64 s.so.t2, .int .i64 s.so.d2, .int .i64 s.so.t3, .int .i64 s.so.d3, .int .i64 b]
abbrev keyC (s : S) (b : Int) : List C := [.int .i64 s.year, .int .i64 s.site, .int .i64 s.money, .int .i64 s.so.t0, .int .i64 s.so.d0, .int .i64 s.so.t1, .int .i64 s.so.d1, .int .i64 s.so.t2, .int .i64 s.so.d2, .int .i64 s.so.t3, .int .i64 s.so.d3, .int .i64 b]
abbrev ansC (a : Ans) : List C := [.int .i64 a.1, .int .i64 a.2.1, .bool a.2.2]
attribute [go_sem] keyC ansC
theorem keyD_inj {s s' : S} {b b' : Int} (h : keyEq (keyD s b) (keyD s' b') = true) : s = s' ∧ b = b' := by
  simp only [keyD, keyEq, D.key, Bool.and_true, Bool.and_eq_true, beq_iff_eq] at h
  obtain ⟨h1, h2, h3, h4, h5, h6, h7, h8, h9, h10, h11, h12⟩ := h
  refine ⟨?_, h12⟩
  obtain ⟨_, _, _, ⟨_, _, _, _, _, _, _, _⟩⟩ := s
  obtain ⟨_, _, _, ⟨_, _, _, _, _, _, _, _⟩⟩ := s'
  simp only at h1 h2 h3 h4 h5 h6 h7 h8 h9 h10 h11
  subst h1; subst h2; subst h3; subst h4; subst h5; subst h6; subst h7; subst h8; subst h9; subst h10; subst h11
  rfl
def es_ok (l : Land) (es : List (List D × List C)) : Prop := ∀ e ∈ es, ∃ s b, e.1 = keyD s b ∧ e.2 = ansC (fromL l s b)
abbrev ks12 : List (Option IntKind) := [some .i64, some .i64, some .i64, some .i64, some .i64, some .i64, some .i64, some .i64, some .i64, some .i64, some .i64, some .i64]
def MapOk (l : Land) (H : List Obj) (mo : Nat) : Prop := ∃ es, getH H mo = .map true true ks12 es ∧ es_ok l es
theorem MapOk.append {H X : List Obj} {mo : Nat} (h : MapOk l H mo) : MapOk l (H ++ X) mo := by
  obtain ⟨es, a, b⟩ := h; exact ⟨es, getH_keep a (by simp), b⟩
abbrev milC (g1 g2 : Bool × Bool) (l : Land) (mo : Nat) : List C := [.int .i64 l.last, .int .i64 l.home, .int .i64 l.purse, .int .i64 l.bad, .int .i64 l.rest, L g1 l.sites, L g2 l.roads, .map mo]
attribute [go_sem] milC
theorem from_ok (hv : l.Valid) {ma mo : Nat} (hmm : ma ≠ mo) : ∀ (n : Nat) (s : S) (bad : Int) (H : List Obj), (l.last + 1 - s.year).toNat = n → 0 ≤ s.year → s.year ≤ l.last + 1 → 0 ≤ s.site → s.site < l.sites.length → s.so.Le s.year → 0 ≤ bad → bad ≤ 100 → getH H ma = .cells (milC g1 g2 l mo) → MapOk l H mo →
    Fn tab (.f 36 [.c (.ptr ma 0), .agg (keyC s bad)] H) fun v H' => v = .agg (ansC (fromL l s bad)) ∧ Keep (fun o => o = mo) H H' ∧ MapOk l H' mo := by
  intro n
  induction n with
  | zero =>
    intro s bad H hn y0 y1 s0 s1 hle b0 b1 hm hmap
    refine Fn_X (fn := f36) rfl rfl ?_
    have hgt : l.last < s.year := by omega
    have hm2 : ∀ X, getH (H ++ X) ma = .cells (milC g1 g2 l mo) := fun X => getH_keep hm (by simp)
    have lm := lt_of_getH (h := H) (o := ma) (by rw [hm]; simp)
    have q1 : ¬ ma = H.length := by omega
    have q2 : ¬ H.length = ma := by omega
    have e : fromL l s bad = (-1, s.money, true) := by rw [fromL, hn]; rfl
    rw [e]
    simp only [go_sem, f36, hm2, hgt, gt_iff_lt, q1, q2]
    exact ⟨Keep.append, hmap.append⟩
  | succ n ih =>
    intro s bad H hn y0 y1 s0 s1 hle b0 b1 hm hmap
    refine Fn_X (fn := f36) rfl rfl ?_
    have hgt : ¬ l.last < s.year := by omega
    have hm2 : ∀ X, getH (H ++ X) ma = .cells (milC g1 g2 l mo) := fun X => getH_keep hm (by simp)
    obtain ⟨es, hes, hok⟩ := hmap
    have hes2 : ∀ X, getH (H ++ X) mo = .map true true ks12 es := fun X => getH_keep hes (by simp)
    have lm := lt_of_getH (h := H) (o := ma) (by rw [hm]; simp)
    have lo := lt_of_getH (h := H) (o := mo) (by rw [hes]; simp)
    have q1 : ¬ ma = H.length := by omega
    have q2 : ¬ H.length = ma := by omega
    have q3 : ¬ mo = H.length := by omega
    have q4 : ¬ H.length = mo := by omega
    have q5 : ¬ H.length + 2 = ma := by omega
    have q6 : ¬ H.length + 2 = mo := by omega
    have q7 : ¬ ma = H.length + 2 := by omega
    have q8 : ¬ mo = H.length + 2 := by omega
    have q9 : ¬ H.length = H.length + 2 := by omega
    have q10 : ¬ H.length + 2 = H.length := by omega
    cases hfe : findE (keyD s bad) es with
    | some cs =>
      obtain ⟨e, he, hk, rfl⟩ := findE_mem hfe
      obtain ⟨s', b', h1, h2⟩ := hok e he
      rw [h1] at hk
      obtain ⟨rfl, rfl⟩ := keyD_inj hk
      rw [h2] at hfe
      simp only [keyD] at hfe
      simp only [go_sem, f36, hm2, hgt, gt_iff_lt, q1, q2, q3, q4, q5, q6, q7, q8, q9, q10, hes2, hfe]
      exact ⟨Keep.append, es, getH_keep hes (by simp), hok⟩
    | none =>
      simp only [keyD] at hfe
      simp only [go_sem, f36, hm2, hgt, gt_iff_lt, q1, q2, q3, q4, q5, q6, q7, q8, q9, q10, hes2, hfe]
      have hfu : fromL l s bad = fromF l (n + 1) s bad := by rw [fromL, hn]
      obtain ⟨n0, hn0⟩ : ∃ n0, n0 = H.length := ⟨_, rfl⟩
      have hrec : ∀ (k : Int) (b : Bool) (c : Int), fromL l (nextS l s k b) c = fromF l n (nextS l s k b) c := by
        intro k b c
        have hyr : (nextS l s k b).year = s.year + 1 := wrapB (by have := hv.last4; omega) (by have := hv.last4; omega)
        rw [fromL, hyr, show (l.last + 1 - (s.year + 1)).toNat = n by omega]
      refine RX_whileU (α := Nat × Ans × List Obj) (fun x => [(44, .c (.int .i64 x.1))]) (fun x => x.2.2) (fun x => x.1 ≤ l.sites.length ∧ Keep (fun o => o = mo ∨ o = n0 + 1) (H ++ [.cells (keyC s bad), .cells (ansC (0, 0, false)), .cells (ansC (0, 0, false))]) x.2.2 ∧ getH x.2.2 (n0 + 1) = .cells (ansC x.2.1) ∧ MapOk l x.2.2 mo ∧ x.2.1 = (List.range x.1).foldl (fun best (k : Nat) => fromStep l (fromF l n) s bad best (k : Int)) (0, 0, false)) (fun x => l.sites.length - x.1) (0, (0, 0, false), H ++ [.cells (keyC s bad), .cells (ansC (0, 0, false)), .cells (ansC (0, 0, false))]) ⟨Nat.zero_le _, Keep.refl, by rw [hn0]; simp only [go_sem], MapOk.append ⟨es, hes, hok⟩, rfl⟩ (by simp only [go_sem] <;> rfl) ?_
      rintro ⟨k, best, H1⟩ ⟨hk1, hK1, hb1, hmap1, hbest⟩
      simp only at hk1 hK1 hb1 hmap1 hbest
      have g0 : getH H1 n0 = .cells (keyC s bad) := hK1.get (by omega) (by rw [hn0]; simp only [go_sem]) (by simp)
      have gm : getH H1 ma = .cells (milC g1 g2 l mo) := hK1.get (by omega) (hm2 _) (by simp)
      have hl1 := hK1.1
      simp only [List.length_append, List.length_cons, List.length_nil] at hl1
      subst hn0
      by_cases hk : k < l.sites.length
      · have hn4 := hv.n4
        have hr := hv.roads
        have a5 := road_len hv s0 s1
        have p2 : s.site < l.roads.length := by omega
        have p3 : (k : Int) < (atI l.roads s.site).length := by omega
        have p4 : (k : Int) < 4 := by omega
        have p5 := (hle.taken (k : Int)).1
        have hwk : IntKind.i64.wrap ((k : Int) + 1) = ((k + 1 : Nat) : Int) := wrap_succ (n := 1000) (by omega) (by decide)
        have hyr : ∀ b, (nextS l s (k : Int) b).year = s.year + 1 := fun b => wrapB (by have := hv.last4; omega) (by have := hv.last4; omega)
        have g0x : ∀ X, getH (H1 ++ X) H.length = .cells (keyC s bad) := fun X => getH_keep g0 (by simp)
        have gmx : ∀ X, getH (H1 ++ X) ma = .cells (milC g1 g2 l mo) := fun X => getH_keep gm (by simp)
        have gbx : ∀ X, getH (H1 ++ X) (H.length + 1) = .cells (ansC best) := fun X => getH_keep hb1 (by simp)
        by_cases hc : costOf l.sites l.roads s.site (k : Int) ≤ s.money
        · have lm1 := lt_of_getH (h := H1) (o := ma) (by rw [gm]; simp)
          obtain ⟨es1, hes1, hok1⟩ := hmap1
          have u1 : ¬ ma = H1.length := by omega
          have u2 : ¬ ma = H1.length + 1 := by omega
          have u3 : ¬ ma = H1.length + 2 := by omega
          have u4 : ¬ mo = H1.length := by omega
          have u5 : ¬ mo = H1.length + 1 := by omega
          have u6 : ¬ mo = H1.length + 2 := by omega
          have u7 : ¬ H.length = H1.length := by omega
          have u8 : ¬ H.length = H1.length + 1 := by omega
          have u9 : ¬ H.length = H1.length + 2 := by omega
          have u10 : ¬ H.length + 1 = H1.length := by omega
          have u11 : ¬ H.length + 1 = H1.length + 1 := by omega
          have u12 : ¬ H.length + 1 = H1.length + 2 := by omega
          have u13 : ¬ H1.length = ma := by omega
          have u14 : ¬ H1.length = mo := by omega
          have u15 : ¬ H1.length = H.length := by omega
          have u16 : ¬ H1.length = H.length + 1 := by omega
          have u17 : ¬ H1.length = H1.length + 1 := by omega
          have u18 : ¬ H1.length = H1.length + 2 := by omega
          have u19 : ¬ H1.length + 1 = ma := by omega
          have u20 : ¬ H1.length + 1 = mo := by omega
          have u21 : ¬ H1.length + 1 = H.length := by omega
          have u22 : ¬ H1.length + 1 = H.length + 1 := by omega
          have u23 : ¬ H1.length + 1 = H1.length := by omega
          have u24 : ¬ H1.length + 1 = H1.length + 2 := by omega
          have u25 : ¬ H1.length + 2 = ma := by omega
          have u26 : ¬ H1.length + 2 = mo := by omega
          have u27 : ¬ H1.length + 2 = H.length := by omega
          have u28 : ¬ H1.length + 2 = H.length + 1 := by omega
          have u29 : ¬ H1.length + 2 = H1.length := by omega
          have u30 : ¬ H1.length + 2 = H1.length + 1 := by omega
          simp only [go_sem, hk, q1, q2, g0, gm, hb1, g0x, gmx, gbx, P74 s0 p2, P75 s0 p2, p3, p4, p5, hc, hwk, u1, u2, u3, u4, u5, u6, u7, u8, u9, u10, u11, u12, u13, u14, u15, u16, u17, u18, u19, u20, u21, u22, u23, u24, u25, u26, u27, u28, u29, u30]
          refine (ih (nextS l s (k : Int) false) bad _ (by rw [hyr]; omega) (by rw [hyr]; omega) (by rw [hyr]; omega) (by show 0 ≤ (k : Int); omega) (by show (k : Int) < _; omega) (by rw [hyr]; exact hle.after (by have := hv.last4; omega) _ _) b0 b1 (gmx _) (MapOk.append ⟨es1, hes1, hok1⟩)).mono ?_
          rintro v H2 ⟨rfl, hK2, hmap2⟩
          rw [hrec]
          generalize ha : fromF l n (nextS l s (k : Int) false) bad = a at *
          have hl2 := hK2.1
          simp only [List.length_append, List.length_cons, List.length_nil] at hl2
          have i0 : getH H2 H.length = .cells (keyC s bad) := hK2.get (by omega) (g0x _) (by simp)
          have i1 : getH H2 (H.length + 1) = .cells (ansC best) := hK2.get (by omega) (gbx _) (by simp)
          have im : getH H2 ma = .cells (milC g1 g2 l mo) := hK2.get (by omega) (gmx _) (by simp)
          have ib : getH H2 H1.length = .cells (nextS l s (k : Int) false).cs := hK2.get (by omega) (by rw [getH_at0]; rfl) (by simp)
          have ih2 : isHole H2 (H1.length + 2) = true := hK2.hole (by omega) (by simp) (by rw [getH_at]; rfl)
          have t0 : H.length < H2.length := by omega
          have t1 : H.length + 1 < H2.length := by omega
          have t2 : H1.length < H2.length := by omega
          have t3 : H1.length + 2 < H2.length := by omega
          have t4 : ma < H2.length := by omega
          have v1 : ¬ ma = H2.length := by omega
          have v2 : ¬ mo = H2.length := by omega
          have v3 : ¬ H.length = H2.length := by omega
          have v4 : ¬ H.length + 1 = H2.length := by omega
          have v5 : ¬ H1.length = H2.length := by omega
          have v6 : ¬ H1.length + 1 = H2.length := by omega
          have v7 : ¬ H1.length + 2 = H2.length := by omega
          have v8 : ¬ H2.length = ma := by omega
          have v9 : ¬ H2.length = mo := by omega
          have v10 : ¬ H2.length = H.length := by omega
          have v11 : ¬ H2.length = H.length + 1 := by omega
          have v12 : ¬ H2.length = H1.length := by omega
          have v13 : ¬ H2.length = H1.length + 1 := by omega
          have v14 : ¬ H2.length = H1.length + 2 := by omega
          obtain ⟨as, am, ai⟩ := a
          have hstep : ∀ b' : Ans, fromStep l (fromF l n) s bad best (k : Int) = b' → b' = (List.range (k + 1)).foldl (fun best (k : Nat) => fromStep l (fromF l n) s bad best (k : Int)) (0, 0, false) := by
            intro b' hb'
            simp only [List.range_succ, List.foldl_append, ← hbest, List.foldl_cons, List.foldl_nil, hb']
          have hK3 : Keep (fun o => o = mo ∨ o = H.length + 1) (H ++ [.cells (keyC s bad), .cells (ansC (0, 0, false)), .cells (ansC (0, 0, false))]) H2 := hK1.trans ⟨by omega, fun o ho hl => by rw [hK2.2 o (fun h => ho (.inl h)) (by simp only [List.length_append]; omega), getH_left (by omega)]⟩
          have hK4 : ∀ x y, Keep (fun o => o = mo ∨ o = H.length + 1) (H ++ [.cells (keyC s bad), .cells (ansC (0, 0, false)), .cells (ansC (0, 0, false))]) (setH (setH H2 (H1.length + 2) x) (H.length + 1) y) ∧ Keep (fun o => o = mo ∨ o = H.length + 1) (H ++ [.cells (keyC s bad), .cells (ansC (0, 0, false)), .cells (ansC (0, 0, false))]) (setH H2 (H1.length + 2) x) := by
            intro x y
            have a0 := hK3
            refine ⟨⟨by rw [length_setH, length_setH]; exact a0.1, fun o ho hl => ?_⟩, ⟨by rw [length_setH]; exact a0.1, fun o ho hl => ?_⟩⟩
            · have ho' := not_or.1 ho
              simp only [List.length_append, List.length_cons, List.length_nil] at hl
              rw [getH_setH, if_neg (fun h => ho'.2 h.1), getH_setH, if_neg (fun h => by omega)]
              exact a0.2 o ho (by simpa using hl)
            · simp only [List.length_append, List.length_cons, List.length_nil] at hl
              rw [getH_setH, if_neg (fun h => by omega)]
              exact a0.2 o ho (by simpa using hl)
          have hM4 : ∀ x y, MapOk l (setH (setH H2 (H1.length + 2) x) (H.length + 1) y) mo ∧ MapOk l (setH H2 (H1.length + 2) x) mo := by
            intro x y
            obtain ⟨es2, hes2', hok2⟩ := hmap2
            exact ⟨⟨es2, by rw [getH_setH, if_neg (fun h => by omega), getH_setH, if_neg (fun h => by omega)]; exact hes2', hok2⟩, ⟨es2, by rw [getH_setH, if_neg (fun h => by omega)]; exact hes2', hok2⟩⟩
          cases ai with
          | false =>
            simp only [go_sem, ih2, i0, i1, im, ib, getH_setH, getH_left, setH_left, length_setH, setH_twice, false_and, t0, t1, t2, t3, t4, u1, u2, u3, u4, u5, u6, u7, u8, u9, u10, u11, u12, u13, u14, u15, u16, u17, u18, u19, u20, u21, u22, u23, u24, u25, u26, u27, u28, u29, u30, v1, v2, v3, v4, v5, v6, v7, v8, v9, v10, v11, v12, v13, v14, hwk]
            have hs1 : fromStep l (fromF l n) s bad best (k : Int) = best := by simp [fromStep, hc, ha]
            refine ⟨(k + 1, best, _), ⟨by simp only; omega, hk, (hK4 _ .none).2, ?_, (hM4 _ .none).2, hstep _ hs1⟩, rfl, rfl⟩
            simp only [go_sem, getH_setH, false_and, i1, u1, u2, u3, u4, u5, u6, u7, u8, u9, u10, u11, u12, u13, u14, u15, u16, u17, u18, u19, u20, u21, u22, u23, u24, u25, u26, u27, u28, u29, u30]
          | true =>
            by_cases hbad : 0 < bad
            · have hbw : IntKind.i64.wrap (bad - 1) = bad - 1 := wrapB (by omega) (by omega)
              simp only [go_sem, ih2, i0, i1, im, ib, getH_setH, getH_left, setH_left, length_setH, setH_twice, false_and, t0, t1, t2, t3, t4, u1, u2, u3, u4, u5, u6, u7, u8, u9, u10, u11, u12, u13, u14, u15, u16, u17, u18, u19, u20, u21, u22, u23, u24, u25, u26, u27, u28, u29, u30, v1, v2, v3, v4, v5, v6, v7, v8, v9, v10, v11, v12, v13, v14, hbad, gt_iff_lt, hbw, P75 s0 p2, p3, p4, p5, hk]
              obtain ⟨es2, hes2', hok2⟩ := hmap2
              have lmo : mo < H2.length := by omega
              refine (ih (nextS l s (k : Int) true) (bad - 1) _ (by rw [hyr]; omega) (by rw [hyr]; omega) (by rw [hyr]; omega) (by show 0 ≤ (k : Int); omega) (by show (k : Int) < _; omega) (by rw [hyr]; exact hle.after (by have := hv.last4; omega) _ _) (by omega) (by omega) ?_ ?_).mono ?_
              · simp only [go_sem, getH_setH, getH_left, length_setH, false_and, im, t4, u1, u2, u3, u4, u5, u6, u7, u8, u9, u10, u11, u12, u13, u14, u15, u16, u17, u18, u19, u20, u21, u22, u23, u24, u25, u26, u27, u28, u29, u30]
              · exact ⟨es2, by simp only [go_sem, getH_setH, getH_left, length_setH, false_and, hes2', lmo, u1, u2, u3, u4, u5, u6, u7, u8, u9, u10, u11, u12, u13, u14, u15, u16, u17, u18, u19, u20, u21, u22, u23, u24, u25, u26, u27, u28, u29, u30], hok2⟩
              rintro v H3 ⟨rfl, hK5, hmap3⟩
              rw [hrec]
              generalize hb : fromF l n (nextS l s (k : Int) true) (bad - 1) = b at *
              have hl3 := hK5.1
              simp only [List.length_append, List.length_cons, List.length_nil, length_setH] at hl3
              have j0 : getH H3 H.length = .cells (keyC s bad) := hK5.get (by omega) (by simp only [go_sem, getH_setH, getH_left, length_setH, false_and, i0, t0, u1, u2, u3, u4, u5, u6, u7, u8, u9, u10, u11, u12, u13, u14, u15, u16, u17, u18, u19, u20, u21, u22, u23, u24, u25, u26, u27, u28, u29, u30]) (by simp)
              have j1 : getH H3 (H.length + 1) = .cells (ansC best) := hK5.get (by omega) (by simp only [go_sem, getH_setH, getH_left, length_setH, false_and, i1, t1, u1, u2, u3, u4, u5, u6, u7, u8, u9, u10, u11, u12, u13, u14, u15, u16, u17, u18, u19, u20, u21, u22, u23, u24, u25, u26, u27, u28, u29, u30]) (by simp)
              have jm : getH H3 ma = .cells (milC g1 g2 l mo) := hK5.get (by omega) (by simp only [go_sem, getH_setH, getH_left, length_setH, false_and, im, t4, u1, u2, u3, u4, u5, u6, u7, u8, u9, u10, u11, u12, u13, u14, u15, u16, u17, u18, u19, u20, u21, u22, u23, u24, u25, u26, u27, u28, u29, u30]) (by simp)
              have ja : getH H3 (H1.length + 2) = .cells [.int .i64 as, .int .i64 am, .bool true] := hK5.get (by omega) (by simp only [go_sem, getH_setH, getH_left, length_setH, false_and, t3, t2, u1, u2, u3, u4, u5, u6, u7, u8, u9, u10, u11, u12, u13, u14, u15, u16, u17, u18, u19, u20, u21, u22, u23, u24, u25, u26, u27, u28, u29, u30]) (by simp)
              have jh : isHole H3 H2.length = true := hK5.hole (by omega) (by simp [length_setH]) (by rw [show H2.length = (setH (setH H2 (H1.length + 2) (Obj.cells [C.int .i64 as, C.int .i64 am, C.bool true])) H1.length (Obj.cells (nextS l s (k : Int) true).cs)).length + 0 by simp [length_setH]]; rw [getH_at]; rfl)
              obtain ⟨bs, bm, bi⟩ := b
              have r0 : H.length < H3.length := by omega
              have r1 : H.length + 1 < H3.length := by omega
              have r2 : H1.length + 2 < H3.length := by omega
              have r3 : H2.length < H3.length := by omega
              have x1 : ¬ H.length = H3.length := by omega
              have x2 : ¬ H.length + 1 = H3.length := by omega
              have x3 : ¬ H1.length + 2 = H3.length := by omega
              have x4 : ¬ H2.length = H3.length := by omega
              have x5 : ¬ H3.length = H.length := by omega
              have x6 : ¬ H3.length = H.length + 1 := by omega
              have x7 : ¬ H3.length = H1.length + 2 := by omega
              have x8 : ¬ H3.length = H2.length := by omega
              have hKA : Keep (fun o => o = mo ∨ o = H.length + 1) (H ++ [.cells (keyC s bad), .cells (ansC (0, 0, false)), .cells (ansC (0, 0, false))]) H3 := by
                refine ⟨by simp only [List.length_append, List.length_cons, List.length_nil]; omega, fun o ho hl => ?_⟩
                have ho' := not_or.1 ho
                have hl' := hl
                simp only [List.length_append, List.length_cons, List.length_nil] at hl'
                rw [hK5.2 o ho'.1 (by simp only [List.length_append, length_setH]; omega), getH_left (by simp only [length_setH]; omega), getH_setH, if_neg (fun h => by omega), getH_setH, if_neg (fun h => by omega)]
                exact hK3.2 o ho hl
              obtain ⟨es3, hes3, hok3⟩ := hmap3
              have hend : ∀ (best' : Ans) H4, H3.length ≤ H4.length → (∀ o, o < H.length + 3 → o ≠ H.length + 1 → getH H4 o = getH H3 o) → getH H4 (H.length + 1) = .cells (ansC best') → fromStep l (fromF l n) s bad best (k : Int) = best' → ∃ y : Nat × Ans × List Obj, (l.sites.length - y.1 < l.sites.length - k ∧ y.1 ≤ l.sites.length ∧ Keep (fun o => o = mo ∨ o = H.length + 1) (H ++ [.cells (keyC s bad), .cells (ansC (0, 0, false)), .cells (ansC (0, 0, false))]) y.2.2 ∧ getH y.2.2 (H.length + 1) = .cells (ansC y.2.1) ∧ MapOk l y.2.2 mo ∧ y.2.1 = (List.range y.1).foldl (fun best (k : Nat) => fromStep l (fromF l n) s bad best (k : Int)) (0, 0, false)) ∧ k + 1 = y.1 ∧ H4 = y.2.2 := by
                intro best' H4 hl4 hk4 hg4 hs4
                refine ⟨(k + 1, best', H4), ⟨by simp only; omega, hk, ⟨by have := hKA.1; exact Nat.le_trans this hl4, fun o ho hl => ?_⟩, hg4, ⟨es3, by rw [hk4 mo (by omega) (by omega)]; exact hes3, hok3⟩, hstep _ hs4⟩, rfl, rfl⟩
                have hl' := hl
                simp only [List.length_append, List.length_cons, List.length_nil] at hl'
                rw [hk4 o (by omega) (fun h => ho (.inr h))]
                exact hKA.2 o ho hl
              have hs0 : fromStep l (fromF l n) s bad best (k : Int) = if bi = true ∧ (best.2.2 = false ∨ best.2.1 < min am bm) then ((k : Int), min am bm, true) else best := by
                simp only [fromStep, if_pos hc, ha, hb, hbad, and_self, if_true]
              have hset : ∀ x y X o, o < H.length + 3 → o ≠ H.length + 1 → getH (setH (setH H3 H2.length x) (H1.length + 2) y ++ X) o = getH H3 o := by
                intro x y X o h1 h2
                rw [getH_left (by simp only [length_setH]; omega), getH_setH, if_neg (fun h => by omega), getH_setH, if_neg (fun h => by omega)]
              have hset2 : ∀ x y z X o, o < H.length + 3 → o ≠ H.length + 1 → getH (setH (setH (setH H3 H2.length x) (H1.length + 2) y) (H.length + 1) z ++ X) o = getH H3 o := by
                intro x y z X o h1 h2
                rw [getH_left (by simp only [length_setH]; omega), getH_setH, if_neg (fun h => by omega), getH_setH, if_neg (fun h => by omega), getH_setH, if_neg (fun h => by omega)]
              cases bi with
              | false =>
                simp only [go_sem, getH_ge, setH_ge, isHole_ge, Nat.le_refl, P87p, jh, j0, j1, jm, ja, getH_setH, getH_left, setH_left, length_setH, setH_twice, false_and, r0, r1, r2, r3, u1, u2, u3, u4, u5, u6, u7, u8, u9, u10, u11, u12, u13, u14, u15, u16, u17, u18, u19, u20, u21, u22, u23, u24, u25, u26, u27, u28, u29, u30, v1, v2, v3, v4, v5, v6, v7, v8, v9, v10, v11, v12, v13, v14, x1, x2, x3, x4, x5, x6, x7, x8, hwk]
                refine hend best _ (by simp [length_setH]) (hset _ _ _) ?_ (by rw [hs0]; simp)
                simp only [go_sem, getH_left, length_setH, getH_setH, false_and, r1, j1, u1, u2, u3, u4, u5, u6, u7, u8, u9, u10, u11, u12, u13, u14, u15, u16, u17, u18, u19, u20, u21, u22, u23, u24, u25, u26, u27, u28, u29, u30, v1, v2, v3, v4, v5, v6, v7, v8, v9, v10, v11, v12, v13, v14, x1, x2, x3, x4, x5, x6, x7, x8]
              | true =>
                by_cases hbt : best.2.2 = false ∨ best.2.1 < min am bm
                · have hfin : ∀ H4, H4 = setH (setH (setH H3 H2.length (.cells [.int .i64 bs, .int .i64 bm, .bool true])) (H1.length + 2) (.cells [.int .i64 k, .int .i64 (min am bm), .bool true])) (H.length + 1) (.cells [.int .i64 k, .int .i64 (min am bm), .bool true]) ++ [.arr false 0 1 [[.int .i64 am], [.int .i64 bm]]] → ∃ y : Nat × Ans × List Obj, (l.sites.length - y.1 < l.sites.length - k ∧ y.1 ≤ l.sites.length ∧ Keep (fun o => o = mo ∨ o = H.length + 1) (H ++ [.cells (keyC s bad), .cells (ansC (0, 0, false)), .cells (ansC (0, 0, false))]) y.2.2 ∧ getH y.2.2 (H.length + 1) = .cells (ansC y.2.1) ∧ MapOk l y.2.2 mo ∧ y.2.1 = (List.range y.1).foldl (fun best (k : Nat) => fromStep l (fromF l n) s bad best (k : Int)) (0, 0, false)) ∧ k + 1 = y.1 ∧ H4 = y.2.2 := by
                    rintro H4 rfl
                    refine hend ((k : Int), min am bm, true) _ (by simp [length_setH]) (hset2 _ _ _ _) ?_ (by rw [hs0, if_pos ⟨rfl, hbt⟩])
                    simp only [go_sem, getH_left, length_setH, getH_setH, false_and, r1, j1, u1, u2, u3, u4, u5, u6, u7, u8, u9, u10, u11, u12, u13, u14, u15, u16, u17, u18, u19, u20, u21, u22, u23, u24, u25, u26, u27, u28, u29, u30, v1, v2, v3, v4, v5, v6, v7, v8, v9, v10, v11, v12, v13, v14, x1, x2, x3, x4, x5, x6, x7, x8]
                  obtain ⟨os, om, oi⟩ := best
                  cases oi with
                  | false =>
                    simp only [go_sem, getH_ge, setH_ge, isHole_ge, Nat.le_refl, P87p, jh, j0, j1, jm, ja, getH_setH, getH_left, setH_left, length_setH, setH_twice, false_and, r0, r1, r2, r3, u1, u2, u3, u4, u5, u6, u7, u8, u9, u10, u11, u12, u13, u14, u15, u16, u17, u18, u19, u20, u21, u22, u23, u24, u25, u26, u27, u28, u29, u30, v1, v2, v3, v4, v5, v6, v7, v8, v9, v10, v11, v12, v13, v14, x1, x2, x3, x4, x5, x6, x7, x8, hwk]
                    exact hfin _ rfl
                  | true =>
                    have hlt : om < min am bm := by
                      rcases hbt with h | h
                      · cases h
                      · exact h
                    simp only [go_sem, getH_ge, setH_ge, isHole_ge, Nat.le_refl, P87p, jh, j0, j1, jm, ja, getH_setH, getH_left, setH_left, length_setH, setH_twice, false_and, r0, r1, r2, r3, u1, u2, u3, u4, u5, u6, u7, u8, u9, u10, u11, u12, u13, u14, u15, u16, u17, u18, u19, u20, u21, u22, u23, u24, u25, u26, u27, u28, u29, u30, v1, v2, v3, v4, v5, v6, v7, v8, v9, v10, v11, v12, v13, v14, x1, x2, x3, x4, x5, x6, x7, x8, hwk, hlt, gt_iff_lt]
                    exact hfin _ rfl
                · have hbi : best.2.2 = true := by
                    cases h : best.2.2 with
                    | true => rfl
                    | false => exact absurd (.inl h) hbt
                  have hlt : ¬ best.2.1 < min am bm := fun h => hbt (.inr h)
                  simp only [go_sem, getH_ge, setH_ge, isHole_ge, Nat.le_refl, P87p, jh, j0, j1, jm, ja, getH_setH, getH_left, setH_left, length_setH, setH_twice, false_and, r0, r1, r2, r3, u1, u2, u3, u4, u5, u6, u7, u8, u9, u10, u11, u12, u13, u14, u15, u16, u17, u18, u19, u20, u21, u22, u23, u24, u25, u26, u27, u28, u29, u30, v1, v2, v3, v4, v5, v6, v7, v8, v9, v10, v11, v12, v13, v14, x1, x2, x3, x4, x5, x6, x7, x8, hwk, hlt, hbi, gt_iff_lt]
                  refine hend best _ (by simp [length_setH]) (hset _ _ _) ?_ (by rw [hs0, if_neg (fun h => hbt h.2)])
                  simp only [go_sem, getH_left, length_setH, getH_setH, false_and, r1, j1, u1, u2, u3, u4, u5, u6, u7, u8, u9, u10, u11, u12, u13, u14, u15, u16, u17, u18, u19, u20, u21, u22, u23, u24, u25, u26, u27, u28, u29, u30, v1, v2, v3, v4, v5, v6, v7, v8, v9, v10, v11, v12, v13, v14, x1, x2, x3, x4, x5, x6, x7, x8]
                  all_goals rw [hbi]
            · by_cases hbt : best.2.2 = false ∨ best.2.1 < am
              · have hs1 : fromStep l (fromF l n) s bad best (k : Int) = ((k : Int), am, true) := by
                  simp only [fromStep, if_pos hc, ha, hbad, and_false, if_false]
                  rw [if_pos ⟨trivial, hbt⟩]
                have hfin : ∀ H3, H3 = setH (setH H2 (H1.length + 2) (.cells [.int .i64 as, .int .i64 am, .bool true])) (H.length + 1) (.cells [.int .i64 k, .int .i64 am, .bool true]) → ∃ y : Nat × Ans × List Obj, (l.sites.length - y.1 < l.sites.length - k ∧ y.1 ≤ l.sites.length ∧ Keep (fun o => o = mo ∨ o = H.length + 1) (H ++ [.cells (keyC s bad), .cells (ansC (0, 0, false)), .cells (ansC (0, 0, false))]) y.2.2 ∧ getH y.2.2 (H.length + 1) = .cells (ansC y.2.1) ∧ MapOk l y.2.2 mo ∧ y.2.1 = (List.range y.1).foldl (fun best (k : Nat) => fromStep l (fromF l n) s bad best (k : Int)) (0, 0, false)) ∧ k + 1 = y.1 ∧ H3 = y.2.2 := by
                  rintro H3 rfl
                  refine ⟨(k + 1, ((k : Int), am, true), _), ⟨by simp only; omega, hk, (hK4 _ _).1, ?_, (hM4 _ _).1, hstep _ hs1⟩, rfl, rfl⟩
                  simp only [go_sem, getH_setH, length_setH, t1]
                obtain ⟨bs, bm, bi⟩ := best
                cases bi with
                | false =>
                  simp only [go_sem, ih2, i0, i1, im, ib, getH_setH, getH_left, setH_left, length_setH, setH_twice, false_and, t0, t1, t2, t3, t4, u1, u2, u3, u4, u5, u6, u7, u8, u9, u10, u11, u12, u13, u14, u15, u16, u17, u18, u19, u20, u21, u22, u23, u24, u25, u26, u27, u28, u29, u30, v1, v2, v3, v4, v5, v6, v7, v8, v9, v10, v11, v12, v13, v14, hbad, gt_iff_lt, hwk]
                  exact hfin _ rfl
                | true =>
                  have hlt : bm < am := by
                    rcases hbt with h | h
                    · cases h
                    · exact h
                  simp only [go_sem, ih2, i0, i1, im, ib, getH_setH, getH_left, setH_left, length_setH, setH_twice, false_and, t0, t1, t2, t3, t4, u1, u2, u3, u4, u5, u6, u7, u8, u9, u10, u11, u12, u13, u14, u15, u16, u17, u18, u19, u20, u21, u22, u23, u24, u25, u26, u27, u28, u29, u30, v1, v2, v3, v4, v5, v6, v7, v8, v9, v10, v11, v12, v13, v14, hbad, gt_iff_lt, hwk, hlt]
                  exact hfin _ rfl
              · have hs1 : fromStep l (fromF l n) s bad best (k : Int) = best := by
                  simp only [fromStep, if_pos hc, ha, hbad, and_false, if_false]
                  rw [if_neg (fun h => hbt h.2)]
                have hbi : best.2.2 = true := by
                  cases h : best.2.2 with
                  | true => rfl
                  | false => exact absurd (.inl h) hbt
                have hlt : ¬ best.2.1 < am := fun h => hbt (.inr h)
                simp only [go_sem, ih2, i0, i1, im, ib, getH_setH, getH_left, setH_left, length_setH, setH_twice, false_and, t0, t1, t2, t3, t4, u1, u2, u3, u4, u5, u6, u7, u8, u9, u10, u11, u12, u13, u14, u15, u16, u17, u18, u19, u20, u21, u22, u23, u24, u25, u26, u27, u28, u29, u30, v1, v2, v3, v4, v5, v6, v7, v8, v9, v10, v11, v12, v13, v14, hbad, gt_iff_lt, hwk, hlt, hbi]
                refine ⟨(k + 1, best, _), ⟨by simp only; omega, hk, (hK4 _ .none).2, ?_, (hM4 _ .none).2, hstep _ hs1⟩, rfl, rfl⟩
                simp only [go_sem, getH_setH, false_and, i1, u1, u2, u3, u4, u5, u6, u7, u8, u9, u10, u11, u12, u13, u14, u15, u16, u17, u18, u19, u20, u21, u22, u23, u24, u25, u26, u27, u28, u29, u30]
                all_goals rw [hbi]
        · simp only [go_sem, hk, q1, q2, g0, gm, hb1, P74 s0 p2, p3, hc, hwk]
          refine ⟨(k + 1, best, H1), ⟨by simp only; omega, hk, hK1, hb1, hmap1, ?_⟩, rfl, rfl⟩
          simp only [List.range_succ, List.foldl_append, ← hbest, List.foldl_cons, List.foldl_nil]
          simp only [fromStep]
          rw [if_neg hc]
      · have hk' : k = l.sites.length := by omega
        subst hk'
        have lm1 := lt_of_getH (h := H1) (o := ma) (by rw [gm]; simp)
        obtain ⟨es1, hes1, hok1⟩ := hmap1
        have w0 : H.length < H1.length := by omega
        have w1 : H.length + 1 < H1.length := by omega
        have z1 : ¬ ma = H.length + 1 := by omega
        have z2 : ¬ mo = H.length + 1 := by omega
        have z3 : ¬ H.length + 1 = mo := by omega
        have z4 : ¬ H.length = mo := by omega
        have z5 : ¬ ma = mo := hmm
        have z6 : ¬ H.length + 1 = ma := by omega
        have z7 : ¬ H.length + 1 = H.length := by omega
        have z8 : ¬ mo = ma := fun h => hmm h.symm
        have z9 : ¬ H.length = H.length + 1 := by omega
        have hres : ∀ (r : Ans), fromL l s bad = r → ∀ e ∈ putE (keyD s bad) (ansC r) es1, ∃ s b, e.1 = keyD s b ∧ e.2 = ansC (fromL l s b) := by
          intro r hr e he
          rcases putE_mem he with h | h
          · exact hok1 e h
          · exact ⟨s, bad, by rw [h], by rw [h, hr]⟩
        have hfold : fromL l s bad = if best.2.2 = true then best else (0, 0, false) := by
          rw [hfu, fromF, ← hbest]
        have hKe : ∀ H4 : List Obj, H1.length ≤ H4.length → (∀ o, o < H.length → o ≠ mo → getH H4 o = getH H1 o) → Keep (fun o => o = mo) H H4 := by
          intro H4 hl4 hk4
          refine ⟨by omega, fun o ho hl => ?_⟩
          rw [hk4 o hl ho, hK1.2 o (fun h => by omega) (by simp only [List.length_append]; omega), getH_left hl]
        obtain ⟨os, om, oi⟩ := best
        cases oi with
        | true =>
          have hfold : fromL l s bad = (os, om, true) := by rw [hfold]; rfl
          rw [hfold]
          simp only [go_sem, hk, hb1, gm, g0, hes1, getH_setH, length_setH, false_and, w0, w1, z1, z2, z3, z4, z5, z6, z7, z8, z9, setH_twice]
          refine ⟨hKe _ (by simp [length_setH]) (fun o h1 h2 => by rw [getH_setH, if_neg (fun h => by omega), getH_setH, if_neg (fun h => h2 h.1)]), _, (by rw [getH_setH, if_neg (fun h => z2 h.1), getH_setH, if_pos ⟨rfl, lt_of_getH (by rw [hes1]; simp)⟩]), hres _ hfold⟩
        | false =>
          have hfold : fromL l s bad = (0, 0, false) := by rw [hfold]; rfl
          rw [hfold]
          simp only [go_sem, hk, hb1, gm, g0, hes1, getH_setH, length_setH, false_and, w0, w1, z1, z2, z3, z4, z5, z6, z7, z8, z9, setH_twice]
          refine ⟨hKe _ (by simp [length_setH]) (fun o h1 h2 => by rw [getH_setH, if_neg (fun h => by omega), getH_setH, if_neg (fun h => h2 h.1), getH_setH, if_neg (fun h => by omega)]), _, (by rw [getH_setH, if_neg (fun h => z2 h.1), getH_setH, if_pos ⟨rfl, by rw [length_setH]; exact lt_of_getH (by rw [hes1]; simp)⟩]), hres _ hfold⟩
end Am.Mv

namespace Am.Mv
open Go Am Am.Tm
set_option maxRecDepth 100000
set_option maxHeartbeats 4000000
set_option linter.unusedSimpArgs false
set_option linter.unusedVariables false
variable {l : Land} {g1 g2 : Bool × Bool}
theorem stAt_year (l : Land) (bad plan : List Int) : ∀ k : Nat, k ≤ 1000 → (stAt l bad plan k).year = k
  | 0, _ => rfl
  | k + 1, h => by
    show IntKind.i64.wrap ((stAt l bad plan k).year + 1) = _
    rw [stAt_year l bad plan k (by omega)]
    exact wrap_succ (n := 10000) (by omega) (by decide)
def goA (l : Land) (sites bad : List Int) : Ans := fromL l (stAt l bad sites sites.length) (l.bad - bad.length)
def GoR (l : Land) (sites bad : List Int) : V :=
  if checkLand l = 0 then
    if (sites.length : Int) ≤ l.last ∧ sites.all (isSite l.sites) = true ∧ isWeather l bad sites.length = true then
      match failAt l bad sites with
      | some _ => .tup [.c (.int .i64 0), .c (.int .i64 0), .c (.int .i64 9)]
      | none => if (goA l sites bad).2.2 = true then .tup [.c (.int .i64 (goA l sites bad).1), .c (.int .i64 (IntKind.i64.wrap ((goA l sites bad).2.1 - l.purse))), .c (.int .i64 0)]
        else .tup [.c (.int .i64 0), .c (.int .i64 0), .c (.int .i64 10)]
    else .tup [.c (.int .i64 0), .c (.int .i64 0), .c (.int .i64 2)]
  else .tup [.c (.int .i64 0), .c (.int .i64 0), .c (.int .i64 (checkLand l))]
theorem P34 {g3 g4 : Bool × Bool} {sites bad : List Int} (hf : l.Fits) (hs : sites.length < Big) (hb : bad.length < Big) {Q : V → Prop} : CallP tab 16 [landV g1 g2 l, .c (L g3 sites), .c (L g4 bad)] Q ↔ Q (GoR l sites bad) := CallP_of (by
  refine Val_X (fn := f16) rfl ?_
  by_cases h0 : checkLand l = 0
  · have hv := valid_of h0
    have l4 := hv.last4
    have b0 := hv.bad0
    have b1 := hv.bad1
    by_cases h1 : (sites.length : Int) ≤ l.last
    · have h1' : ¬ l.last < (sites.length : Int) := by omega
      have h1'' : ¬ (sites.length : Int) > l.last := by omega
      by_cases h2 : sites.all (isSite l.sites) = true
      · by_cases h3 : isWeather l bad sites.length = true
        · have hsites := areSites_of h2
          have hbl : (bad.length : Int) ≤ l.bad := by
            have := h3
            simp only [isWeather, Bool.and_eq_true, decide_eq_true_eq] at this
            exact this.1
          have hw : IntKind.i64.wrap (l.bad - bad.length) = l.bad - bad.length := wrapB (by omega) (by omega)
          have hpl : sites.length ≤ 100 := by omega
          cases hfa : failAt l bad sites with
          | some k =>
            simp only [go_sem, f16, P22 hf, h0, F67s hs hf.sites, P52 hb, P53 hv hsites hpl hb, playC, hfa, h1, h1', h1'', h2, h3, GoR, and_false]
          | none =>
            have hy := stAt_year l bad sites sites.length (by omega)
            have hst := stAt_site hv (bad := bad) hsites sites.length (Nat.le_refl _)
            have hle := stAt_le l bad sites sites.length (by omega)
            rw [← hy] at hle
            simp only [go_sem, f16, P22 hf, h0, F67s hs hf.sites, P52 hb, P53 hv hsites hpl hb, playC, hfa, h1, h1', h1'', h2, h3, hw]
            refine (from_ok (g1 := g1) (g2 := g2) hv (ma := 4) (mo := 3) (by decide) _ (stAt l bad sites sites.length) (l.bad - bad.length) _ rfl (by rw [hy]; omega) (by rw [hy]; omega) hst.1 hst.2 hle (by omega) (by omega) rfl ⟨[], rfl, fun e he => by simp at he⟩).mono ?_
            rintro v H' ⟨rfl, hK, _⟩
            have hl := hK.1
            simp only [List.length_cons, List.length_nil] at hl
            have hh : isHole H' 5 = true := hK.hole (by decide) (by simp) rfl
            have e0 := hK.get (o := 0) (x := .cells [.int .i64 l.last, .int .i64 l.home, .int .i64 l.purse, .int .i64 l.bad, .int .i64 l.rest, L g1 l.sites, L g2 l.roads]) (by decide) rfl (by simp)
            have m5 : 5 < H'.length := by omega
            show NX tab _ _ _ _ _ _
            cases ha : (fromL l (stAt l bad sites sites.length) (l.bad - bad.length)).2.2 with
            | true =>
              have hc : ((sites.length : Int) ≤ l.last ∧ sites.all (isSite l.sites) = true ∧ isWeather l bad sites.length = true) := ⟨h1, h2, h3⟩
              simp only [go_sem, false_and, hh, e0, getH_setH, length_setH, setH_twice, m5, ha]
              simp only [GoR, h0, if_pos hc, hfa, goA, ha, if_true]
            | false =>
              have hc : ((sites.length : Int) ≤ l.last ∧ sites.all (isSite l.sites) = true ∧ isWeather l bad sites.length = true) := ⟨h1, h2, h3⟩
              simp only [go_sem, false_and, hh, e0, getH_setH, length_setH, setH_twice, m5, ha]
              simp only [GoR, h0, if_pos hc, hfa, goA, ha, if_true]
              rfl
        · simp only [go_sem, f16, P22 hf, h0, F67s hs hf.sites, P52 hb, h1, h1', h1'', h2, h3, GoR, and_false]
      · simp only [go_sem, f16, P22 hf, h0, F67s hs hf.sites, h1, h1', h1'', h2, GoR, false_and]
    · have h1'' : (sites.length : Int) > l.last := by omega
      simp only [go_sem, f16, P22 hf, h0, h1, h1'', GoR, false_and]
  · simp only [go_sem, f16, P22 hf, h0, GoR])
def SeenR (l : Land) : V := if checkLand l = 0 then
    if (goA l [] []).2.2 = true then .tup [.c (.int .i64 (IntKind.i64.wrap ((goA l [] []).2.1 - l.purse))), .c (.int .i64 0)] else .tup [.c (.int .i64 0), .c (.int .i64 10)]
  else .tup [.c (.int .i64 0), .c (.int .i64 (checkLand l))]
theorem P33 (hf : l.Fits) {Q : V → Prop} : CallP tab 21 [landV g1 g2 l] Q ↔ Q (SeenR l) := CallP_of (by
  refine Val_X (fn := f21) rfl ?_
  have P34' : ∀ {Q : V → Prop}, CallP tab 16 [landV g1 g2 l, .c .nils, .c .nils] Q ↔ Q (GoR l [] []) := by
    intro Q
    exact P34 (g1 := g1) (g2 := g2) (g3 := (true, true)) (g4 := (true, true)) hf (sites := []) (bad := []) (by decide) (by decide)
  by_cases h0 : checkLand l = 0
  · have hv := valid_of h0
    have hc : ((([] : List Int).length : Int) ≤ l.last ∧ ([] : List Int).all (isSite l.sites) = true ∧ isWeather l [] (([] : List Int).length) = true) := by
      refine ⟨hv.last0, rfl, ?_⟩
      have := hv.bad0
      simp [isWeather, weatherOk, this]
    have hfa : failAt l [] [] = none := rfl
    cases ha : (goA l [] []).2.2 with
    | true =>
      have hG : GoR l [] [] = .tup [.c (.int .i64 (goA l [] []).1), .c (.int .i64 (IntKind.i64.wrap ((goA l [] []).2.1 - l.purse))), .c (.int .i64 0)] := by
        unfold GoR; rw [if_pos h0, if_pos hc, hfa]; simp only [ha, if_true]
      simp only [go_sem, f21, P34', hG, h0, ha, SeenR]
    | false =>
      have hG : GoR l [] [] = .tup [.c (.int .i64 0), .c (.int .i64 0), .c (.int .i64 10)] := by
        unfold GoR; rw [if_pos h0, if_pos hc, hfa]; simp only [ha, if_true]; rfl
      simp only [go_sem, f21, P34', hG, h0, ha, SeenR]
  · have hG : GoR l [] [] = .tup [.c (.int .i64 0), .c (.int .i64 0), .c (.int .i64 (checkLand l))] := by
      unfold GoR; rw [if_neg h0]
    simp only [go_sem, f21, P34', hG, h0, SeenR])
end Am.Mv

namespace Am.Mv
open Go Am Am.Tm
set_option maxRecDepth 100000
set_option maxHeartbeats 4000000
set_option linter.unusedSimpArgs false
set_option linter.unusedVariables false
def twoL (p : Int) : Land := ⟨2, 0, p, 1, 2, [⟨20, 12, 2⟩, ⟨30, 10, 4⟩], [[0, 5], [5, 0]]⟩
def twoV (p : Int) : V := landV (false, false) (false, false) (twoL p)
theorem toArg_twoV {h : List Obj} {p : Int} : toArg h (twoV p) = some (twoV p) := rfl
theorem objs_twoV {p : Int} : objsV (twoV p) = [] := rfl
theorem P47 {p : Int} {Q : V → Prop} : CallP tab 13 [.c (.int .i64 p)] Q ↔ Q (twoV p) := CallP_of (by
  refine Val_X (fn := f13) rfl ?_
  simp only [go_sem, f13]
  rfl)
theorem P48 {a b c : Int} {Q : V → Prop} : CallP tab 17 [.c (.int .i64 a), .c (.int .i64 b), .c (.int .i64 c)] Q ↔ Q (.agg [.int .i64 a, .int .i64 b, .int .i64 c]) := CallP_of (by
  refine Val_X (fn := f17) rfl ?_
  simp only [go_sem, f17])
theorem two_fits {p : Int} : (twoL p).Fits := ⟨by show 2 < Big; decide, by show 2 < Big; decide, by
  intro r hr
  simp only [twoL, List.mem_cons, List.not_mem_nil, or_false] at hr
  rcases hr with rfl | rfl
  · show 2 < Big; decide
  · show 2 < Big; decide⟩
theorem lst0 {t : Bool} : C.lst t [] = L (false, t) ([] : List Int) := rfl
theorem lst1 {t : Bool} {a : Int} : C.lst t [[.int .i64 a]] = L (false, t) [a] := rfl
theorem lst2 {t : Bool} {a b : Int} : C.lst t [[.int .i64 a], [.int .i64 b]] = L (false, t) [a, b] := rfl
theorem lst3 {t : Bool} {a b c : Int} : C.lst t [[.int .i64 a], [.int .i64 b], [.int .i64 c]] = L (false, t) [a, b, c] := rfl
theorem w1 : playR (twoL 10) [0, 0, 1] [2] = .tup [.c (L (false, false) [Year.mk 20 2 28, Year.mk 12 2 38, Year.mk 15 9 44]), .c (.int .i64 0)] := by kernel_rfl
theorem w2 (b : Bool) : SureR b (twoL 10) [0, 1, 0] = .tup [.c (.int .i64 29), .c (L (b, false) ([1] : List Int)), .c (.int .i64 0)] := by kernel_rfl
theorem w3 (b : Bool) : BestR b (twoL 10) = .tup [.c (L (b, false) ([0, 0, 1] : List Int)), .c (.int .i64 34), .c (.int .i64 0)] := by kernel_rfl
theorem w4 : SeenR (twoL 10) = .tup [.c (.int .i64 34), .c (.int .i64 0)] := by kernel_rfl
theorem w5 : LateR (twoL 10) = .tup [.c (.int .i64 2), .c (.int .i64 0)] := by kernel_rfl
theorem w6 : WorthR (twoL 10) 0 = .tup [.c (.int .i64 26), .c (.int .i64 0)] := by kernel_rfl
theorem w7 : GoR (twoL 10) [0] [0] = .tup [.c (.int .i64 0), .c (.int .i64 39), .c (.int .i64 0)] := by kernel_rfl
theorem P31 {g g' : Bool × Bool} {a b : List Int} (ha : a.length < Big) {Q : V → Prop} : CallP tab 18 [.c (L g a), .c (L g' b)] Q ↔ Q (.c (.bool (decide (a = b)))) := CallP_of (by
  refine Val_X (fn := f18) rfl ?_
  simp only [go_sem, f18]
  refine ⟨fun h e => h (by rw [e]), fun h => ?_⟩
  refine RX_for a.length (fun k => [(5, .c (.int .i64 k))]) (fun _ => []) (fun k => ∀ i, i < k → a.getD i default = b.getD i default) (fun i h => by omega) (by simp only [go_sem] <;> rfl) ?_
  intro k hk hP
  by_cases h1 : k < a.length
  · have h2 : k < b.length := by omega
    simp only [go_sem, h1, h2, wrap_succ h1 ha, atI_nat]
    refine ⟨fun e hab => ?_, fun e i hi => ?_⟩
    · subst hab; exact e rfl
    · by_cases hik : i = k
      · subst hik; exact e
      · exact hP i (by omega)
  · simp only [go_sem, h1]
    apply List.ext_getElem h
    intro i hi hi'
    have := hP i (by omega)
    rwa [getD_lt _ _ _ hi, getD_lt _ _ _ hi'] at this)
theorem awake_val : Val tab 6 [] (.c (.bool true)) := by
  obtain ⟨b1, h2⟩ := V39 (l := twoL 10) (g1 := (false, false)) (g2 := (false, false)) (g3 := (false, true)) (plan := [0, 1, 0]) two_fits (by decide)
  obtain ⟨b2, h3⟩ := V27 (l := twoL 10) (g1 := (false, false)) (g2 := (false, false)) two_fits
  have h1 := fun Q => P18 (l := twoL 10) (g1 := (false, false)) (g2 := (false, false)) (g3 := (false, true)) (g4 := (false, true)) (plan := [0, 0, 1]) (ws := [2]) two_fits (by decide) (by decide) (Q := Q)
  have h4 := fun Q => P33 (l := twoL 10) (g1 := (false, false)) (g2 := (false, false)) two_fits (Q := Q)
  have h5 := fun Q => P28 (l := twoL 10) (g1 := (false, false)) (g2 := (false, false)) two_fits (Q := Q)
  have h6 := fun Q => P29 (l := twoL 10) (g1 := (false, false)) (g2 := (false, false)) (site := 0) two_fits (Q := Q)
  have h7 := fun Q => P34 (l := twoL 10) (g1 := (false, false)) (g2 := (false, false)) (g3 := (false, true)) (g4 := (false, true)) (sites := [0]) (bad := [0]) two_fits (by decide) (by decide) (Q := Q)
  have h2' := fun Q => h2 (Q := Q)
  have h3' := fun Q => h3 (Q := Q)
  rw [w1] at h1
  rw [w2] at h2'
  rw [w3] at h3'
  rw [w4] at h4
  rw [w5] at h5
  rw [w6] at h6
  rw [w7] at h7
  change ∀ Q, CallP tab 10 [twoV 10, _, _] Q ↔ _ at h1
  change ∀ Q, CallP tab 14 [twoV 10, _] Q ↔ _ at h2'
  change ∀ Q, CallP tab 20 [twoV 10] Q ↔ _ at h3'
  change ∀ Q, CallP tab 21 [twoV 10] Q ↔ _ at h4
  change ∀ Q, CallP tab 25 [twoV 10] Q ↔ _ at h5
  change ∀ Q, CallP tab 15 [twoV 10, _] Q ↔ _ at h6
  change ∀ Q, CallP tab 16 [twoV 10, _, _] Q ↔ _ at h7
  have q1 := fun g g' b Q => P31 (g := g) (g' := g') (a := [1]) (b := b) (show 1 < Big by decide) (Q := Q)
  have q2 := fun g g' b Q => P31 (g := g) (g' := g') (a := [0, 0, 1]) (b := b) (show 3 < Big by decide) (Q := Q)
  have q3 : atI [Year.mk 20 2 28, Year.mk 12 2 38, Year.mk 15 9 44] 2 = Year.mk 15 9 44 := rfl
  refine Val_X (fn := f6) rfl ?_
  simp only [go_sem, f6, P47, P48, toArg_twoV, objs_twoV, lst0, lst1, lst2, lst3, h1, h2', h3', h4, h5, h6, h7, q1, q2, q3, decide_true]
end Am.Mv

