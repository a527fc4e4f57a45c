/-
  A part of the proof: the texts Y4, Y5, Y10, Z1, Z4, Z7, Z8 of this seat, joined.
-/
import Derived.Test.YtblekjhhceknaaaWalkG
import Derived.Test.YtblekjhhceknaaaWalkF
namespace Am.Vt
open Go Am
set_option maxRecDepth 100000
set_option maxHeartbeats 4000000
set_option linter.unusedSimpArgs false
set_option linter.unusedVariables false
variable {g1 g2 g3 g4 gt : Bool × Bool} {v : Vat} {t : Truth}
theorem ask_t (h0 : checkVat v = 0) (hp : posB v [] = true) : askE v true = 0 := by simp [askE, h0, hp]
theorem ask_n (h0 : checkVat v = 0) (hp : posB v [] = false) : askE v true = 11 := by simp [askE, h0, hp]
end Am.Vt

namespace Am.Vt
open Go Am
set_option maxRecDepth 100000
set_option maxHeartbeats 4000000
set_option linter.unusedSimpArgs false
set_option linter.unusedVariables false
variable {g1 g2 g3 g4 gt : Bool × Bool} {v : Vat} {t : Truth}
end Am.Vt

namespace Am.Vt
open Go Am
set_option maxRecDepth 100000
set_option maxHeartbeats 4000000
set_option linter.unusedSimpArgs false
set_option linter.unusedVariables false
variable {g1 g2 g3 g4 gt : Bool × Bool} {v : Vat} {t : Truth}
end Am.Vt

namespace Am.Vt
open Go Am
set_option maxRecDepth 100000
set_option maxHeartbeats 4000000
set_option linter.unusedSimpArgs false
set_option linter.unusedVariables false
variable {g1 g2 g3 g4 gt : Bool × Bool} {v x : Vat} {t : Truth}
theorem pos_truths : posB v [] = true ↔ truthsL v [] ≠ [] := by
  unfold posB
  cases truthsL v [] <;> simp
end Am.Vt

namespace Am.Vt
open Go Am
set_option maxRecDepth 100000
set_option maxHeartbeats 4000000
set_option linter.unusedSimpArgs false
set_option linter.unusedVariables false
variable {g1 g2 g3 g4 gt : Bool × Bool} {v x : Vat} {t : Truth}
/-- a vat of which less is known -/
structure Wid (v x : Vat) : Prop where
  band : x.band = v.band
  dl : x.drift.length = v.drift.length
  s : ∀ t d, stAt x t d = stAt v t d
  t : ∀ t, IsT v t → IsT x t
  ll : x.looks.length = v.looks.length
  r : ∀ t (i : Nat), i < v.looks.length → rightB v t i = true → rightB x t i = true
theorem Wid.pos (h : Wid v x) (hv : v.Valid) (hx : x.Valid) {out : List Int} (hp : posB v out = true) : posB x out = true := by
  rw [pos_iff hv] at hp
  rw [pos_iff hx, h.ll]
  obtain ⟨t, h1, h2⟩ := hp
  exact ⟨t, h.t t h1, fun i hi => (h2 i hi).imp id (h.r t i hi)⟩
theorem Wid.mem (h : Wid v x) (hv : v.Valid) (hx : x.Valid) {t : Truth} (ht : t ∈ truthsL v []) : t ∈ truthsL x [] := by
  rw [mem_truths hv, rightL_iff] at ht
  rw [mem_truths hx, rightL_iff, h.ll]
  exact ⟨h.t t ht.1, fun i hi => (ht.2 i hi).imp id (h.r t i hi)⟩
theorem sh_len {a b : List Int} (h : shB a b = true) : a.length ≤ b.length := by
  rcases sh_iff.1 h with h | h <;> omega
theorem Wid.leave (h : Wid v x) (hv : v.Valid) (hx : x.Valid) : (leaveS x).length ≤ (leaveS v).length := by
  obtain ⟨a1, a2, a3⟩ := leave_ok hv
  obtain ⟨b1, b2, b3⟩ := leave_ok hx
  rw [h.ll] at b3
  rcases b3 _ a1 (h.pos hv hx a2) with e | e
  · rw [e]; exact Nat.le_refl _
  · exact sh_len e
/-- with fewer truths no bounds are wider -/
theorem sub_bd {A B : List Truth} {val : Truth → Int} (hm : ∀ t ∈ A, t ∈ B) (hne : A ≠ []) : (bdL val B).lo ≤ (bdL val A).lo ∧ (bdL val A).hi ≤ (bdL val B).hi := by
  obtain ⟨t0, ht0⟩ := List.exists_mem_of_ne_nil _ hne
  have hne' : B ≠ [] := fun e => by have := hm _ ht0; rw [e] at this; cases this
  obtain ⟨⟨a, a1, a2⟩, ⟨b, b1, b2⟩, _⟩ := bdL_IsRg (val := val) hne
  obtain ⟨_, _, c⟩ := bdL_IsRg (val := val) hne'
  have e1 := (c a (hm a a1)).1
  have e2 := (c b (hm b b1)).2
  omega
def insB (a b : Rg) : Prop := b.lo ≤ a.lo ∧ a.hi ≤ b.hi
theorem Wid.bd (h : Wid v x) (hv : v.Valid) (hx : x.Valid) (hne : truthsL v [] ≠ []) (d : Nat) : insB (bdAt v d).bal (bdAt x d).bal ∧ insB (bdAt v d).blue (bdAt x d).blue := by
  have hm : ∀ t ∈ truthsL v [], t ∈ truthsL x [] := fun t ht => h.mem hv hx ht
  unfold insB bdAt
  simp only [h.s]
  exact ⟨sub_bd hm hne, sub_bd hm hne⟩
theorem bounds_get {d : Nat} (h : d < v.drift.length) : (boundsL v).getD d default = bdAt v d := by
  rw [getD_lt _ _ _ (by rw [boundsL_len]; exact h)]; simp [boundsL]
end Am.Vt

namespace Am.Vt
open Go Am
set_option maxRecDepth 100000
set_option maxHeartbeats 8000000
set_option linter.unusedSimpArgs false
set_option linter.unusedVariables false
variable {g1 g2 g3 g4 gt : Bool × Bool} {v x : Vat} {t : Truth}
/-- a vat that is mirrored -/
def turnR (r : Rg) : Rg := ⟨-r.hi, -r.lo⟩
def turnF (f : Fd) : Fd := ⟨f.bran, f.lime, f.madder⟩
def turnK (k : Lk) : Lk := if k.bal = true then ⟨k.day, k.bal, turnR k.n⟩ else k
def mirV (v : Vat) : Vat := { v with start := turnR v.start, drift := v.drift.map turnR, feeds := v.feeds.map turnF, looks := v.looks.map turnK }
def mirT (t : Truth) : Truth := ⟨-t.start, t.blue, t.drift.map (fun n => -n)⟩
def mirS (s : St) : St := ⟨-s.bal, s.blue⟩
theorem map_id_of {α : Type} {f : α → α} (h : ∀ a, f (f a) = a) (l : List α) : (l.map f).map f = l := by
  rw [List.map_map]
  have : f ∘ f = id := funext h
  rw [this, List.map_id]
theorem turnR2 (r : Rg) : turnR (turnR r) = r := by cases r; simp [turnR]
theorem turnK2 (k : Lk) : turnK (turnK k) = k := by
  obtain ⟨a, b, c⟩ := k
  cases b <;> simp [turnK, turnR2]
theorem mirV2 : mirV (mirV v) = v := by
  cases v
  simp only [mirV, turnR2, map_id_of turnR2, map_id_of (f := turnF) (fun _ => rfl), map_id_of turnK2]
theorem mirT2 : mirT (mirT t) = t := by
  cases t
  simp only [mirT, Int.neg_neg, map_id_of (f := fun n : Int => -n) (fun n => Int.neg_neg n)]
theorem getD_mapD {α β : Type} {f : α → β} {l : List α} {d : Nat} {a : α} {b : β} (h : f a = b) : (l.map f).getD d b = f (l.getD d a) := by
  rw [List.getD_eq_getElem?_getD, List.getD_eq_getElem?_getD, List.getElem?_map]
  cases l[d]? with
  | none => exact h.symm
  | some y => rfl
theorem st_mir : ∀ {d : Nat}, stAt (mirV v) (mirT t) d = mirS (stAt v t d)
  | 0 => rfl
  | d + 1 => by
    have h1 : feedAt (mirV v) d = turnF (feedAt v d) := getD_mapD rfl
    have h2 : (mirT t).drift.getD d 0 = -(t.drift.getD d 0) := getD_mapD (a := (0 : Int)) rfl
    simp only [stAt, st_mir (d := d), h1, h2, turnF, mirS]
    congr 1
    omega
theorem isT_mir1 (h : IsT v t) : IsT (mirV v) (mirT t) := by
  refine ⟨?_, h.bl, by simp [mirT, mirV, h.dl], fun i hi => ?_⟩
  · have := h.st
    show -v.start.hi ≤ -t.start ∧ -t.start ≤ -v.start.lo
    omega
  · have hi' : i < t.drift.length := by simpa [mirT] using hi
    have := h.dr i hi'
    have e1 : (mirV v).drift.getD i default = turnR (v.drift.getD i default) := getD_mapD rfl
    have e2 : (mirT t).drift.getD i default = -(t.drift.getD i default) := getD_mapD (a := (default : Int)) rfl
    rw [e1, e2]
    simp only [turnR]
    omega
theorem play_mir : playL (mirV v) (mirT t) = (playL v t).map mirS := by
  have hl : (mirV v).drift.length = v.drift.length := by simp [mirV]
  unfold playL
  rw [hl, List.map_map]
  simp only [st_mir]
  rfl
theorem rightK_mir {k : Lk} {l : List St} : rightK (turnK k) (l.map mirS) = rightK k l := by
  obtain ⟨a, b, c⟩ := k
  have e : ∀ d : Int, atI (l.map mirS) d = mirS (atI l d) := fun d => getD_mapD rfl
  cases b
  · simp only [turnK, rightK, e, mirS]
    rfl
  · simp only [turnK, rightK, if_true, e, mirS, turnR, inR]
    rw [Bool.eq_iff_iff]
    simp only [Bool.and_eq_true, decide_eq_true_eq]
    omega
theorem right_mir {i : Nat} : rightB (mirV v) (mirT t) i = rightB v t i := by
  unfold rightB rightAt
  have e : (mirV v).looks.getD i default = turnK (v.looks.getD i default) := getD_mapD rfl
  rw [play_mir, e, rightK_mir]
theorem mir_looks : (mirV v).looks.length = v.looks.length := by simp [mirV]
theorem mem_mir1 (hv : v.Valid) (hx : (mirV v).Valid) (ht : t ∈ truthsL v []) : mirT t ∈ truthsL (mirV v) [] := by
  rw [mem_truths hv, rightL_iff] at ht
  rw [mem_truths hx, rightL_iff, mir_looks]
  refine ⟨isT_mir1 ht.1, fun i hi => ?_⟩
  rw [right_mir]
  exact ht.2 i hi
theorem mem_mir2 (hv : v.Valid) (hx : (mirV v).Valid) (ht : t ∈ truthsL (mirV v) []) : mirT t ∈ truthsL v [] := by
  have := mem_mir1 hx (by rw [mirV2]; exact hv) ht
  rwa [mirV2] at this
theorem pos_mir1 (hv : v.Valid) (hx : (mirV v).Valid) {out : List Int} (hp : posB v out = true) : posB (mirV v) out = true := by
  rw [pos_iff hv] at hp
  rw [pos_iff hx, mir_looks]
  obtain ⟨t, h1, h2⟩ := hp
  exact ⟨mirT t, isT_mir1 h1, fun i hi => by rw [right_mir]; exact h2 i hi⟩
theorem pos_mir (hv : v.Valid) (hx : (mirV v).Valid) {out : List Int} : posB (mirV v) out = posB v out := by
  rw [Bool.eq_iff_iff]
  refine ⟨fun h => ?_, pos_mir1 hv hx⟩
  have := pos_mir1 hx (by rw [mirV2]; exact hv) h
  rwa [mirV2] at this
theorem leave_mir (hv : v.Valid) (hx : (mirV v).Valid) : leaveS (mirV v) = leaveS v := by
  refine LeaveOk.uniq (v := v) ?_ (leave_ok hv)
  obtain ⟨h1, h2, h3⟩ := leave_ok hx
  rw [mir_looks] at h1 h3
  rw [pos_mir hv hx] at h2
  exact ⟨h1, h2, fun w hw hp => h3 w hw (by rw [pos_mir hv hx]; exact hp)⟩
theorem bd_neg {A B : List Truth} {f g : Truth → Int} (h1 : ∀ t ∈ A, mirT t ∈ B) (h2 : ∀ t ∈ B, mirT t ∈ A) (hfg : ∀ t, g (mirT t) = -f t) (hne : A ≠ []) : bdL g B = turnR (bdL f A) := by
  obtain ⟨t0, ht0⟩ := List.exists_mem_of_ne_nil _ hne
  have hne' : B ≠ [] := fun e => by have := h1 t0 ht0; rw [e] at this; cases this
  obtain ⟨⟨a, a1, a2⟩, ⟨b, b1, b2⟩, c⟩ := bdL_IsRg (val := f) hne
  refine (bdL_IsRg (val := g) hne').uniq (ts' := B) ⟨⟨mirT b, h1 b b1, ?_⟩, ⟨mirT a, h1 a a1, ?_⟩, fun t ht => ?_⟩ fun t => Iff.rfl
  · rw [hfg, b2]; rfl
  · rw [hfg, a2]; rfl
  · have := c _ (h2 t ht)
    have e := hfg (mirT t)
    rw [mirT2] at e
    simp only [turnR]
    omega
theorem bd_same {A B : List Truth} {f g : Truth → Int} (h1 : ∀ t ∈ A, mirT t ∈ B) (h2 : ∀ t ∈ B, mirT t ∈ A) (hfg : ∀ t, g (mirT t) = f t) (hne : A ≠ []) : bdL g B = bdL f A := by
  obtain ⟨t0, ht0⟩ := List.exists_mem_of_ne_nil _ hne
  have hne' : B ≠ [] := fun e => by have := h1 t0 ht0; rw [e] at this; cases this
  obtain ⟨⟨a, a1, a2⟩, ⟨b, b1, b2⟩, c⟩ := bdL_IsRg (val := f) hne
  refine (bdL_IsRg (val := g) hne').uniq (ts' := B) ⟨⟨mirT a, h1 a a1, ?_⟩, ⟨mirT b, h1 b b1, ?_⟩, fun t ht => ?_⟩ fun t => Iff.rfl
  · rw [hfg, a2]
  · rw [hfg, b2]
  · have := c _ (h2 t ht)
    have e := hfg (mirT t)
    rw [mirT2] at e
    omega
theorem bdAt_mir (hv : v.Valid) (hx : (mirV v).Valid) (hne : truthsL v [] ≠ []) {d : Nat} : bdAt (mirV v) d = ⟨turnR (bdAt v d).bal, (bdAt v d).blue⟩ := by
  unfold bdAt
  rw [bd_neg (A := truthsL v []) (f := fun t => (stAt v t (d + 1)).bal) (fun t ht => mem_mir1 hv hx ht) (fun t ht => mem_mir2 hv hx ht) (fun t => by rw [st_mir]; rfl) hne]
  rw [bd_same (A := truthsL v []) (f := fun t => (stAt v t (d + 1)).blue) (fun t ht => mem_mir1 hv hx ht) (fun t ht => mem_mir2 hv hx ht) (fun t => by rw [st_mir]; rfl) hne]
theorem ord_mir {n : Int} : ordB (mirV v) (-n) = ordB v n := by
  unfold ordB inR
  have : (mirV v).band = v.band := rfl
  rw [this, Bool.eq_iff_iff]
  simp only [Bool.and_eq_true, decide_eq_true_eq]
  omega
theorem shade_mir (hv : v.Valid) (hx : (mirV v).Valid) (hne : truthsL v [] ≠ []) {d m : Nat} : shadeRg (mirV v) d m = shadeRg v d m := by
  unfold shadeRg
  refine bd_same (fun t ht => mem_mir1 hv hx ht) (fun t ht => mem_mir2 hv hx ht) (fun t => ?_) hne
  rw [st_mir]
  unfold shadesL
  simp only [mirS, ord_mir]
  rfl
theorem bare_mir : ∀ {k : Nat}, bareS (mirT t) k = -bareS t k
  | 0 => rfl
  | k + 1 => by
    have h2 : (mirT t).drift.getD k 0 = -(t.drift.getD k 0) := getD_mapD (a := (0 : Int)) rfl
    simp only [bareS, bare_mir (k := k), h2]
    omega
theorem sumI_neg : ∀ {l : List Int}, sumI (l.map fun n => -n) = -sumI l
  | [] => rfl
  | a :: l => by rw [List.map_cons, sumI_cons, sumI_cons, sumI_neg]; omega
theorem reach_mir1 (hv : v.Valid) (hx : (mirV v).Valid) (hp : posB v [] = true) : (reachL v).length ≤ (reachL (mirV v)).length := by
  have hpx := pos_mir1 hv hx hp
  have hkl := keepL_len (v := v)
  have hle := reachL_len (v := v)
  have hka := keep_ask (v := v)
  have hkk := keep_keeps (v := v)
  rw [← keeps_eq hv (ts := truthsL v []) (fun t => Iff.rfl) hp (by omega), keepsR, List.all_eq_true] at hkk
  have hd : (mirV v).drift.length = v.drift.length := by simp [mirV]
  have hml : ((keepL v).map fun n => -n).length = (keepL v).length := List.length_map ..
  have ha : keepAsk (mirV v) ((keepL v).map fun n => -n) = true := by
    rw [keepAsk, Bool.and_eq_true, decide_eq_true_eq, List.all_eq_true] at hka ⊢
    refine ⟨by rw [hml, hd]; exact hka.1, fun y hy => ?_⟩
    obtain ⟨z, hz, rfl⟩ := List.mem_map.1 hy
    have := hka.2 z hz
    rw [inR_iff] at this ⊢
    omega
  have hk : keepsB (mirV v) ((keepL v).map fun n => -n) = true := by
    rw [← keeps_eq hx (ts := truthsL (mirV v) []) (fun t => Iff.rfl) hpx (by rw [hml, hd]; omega), keepsR, List.all_eq_true]
    intro d hd'
    rw [hml] at hd'
    have := hkk d hd'
    rw [keptB, List.all_eq_true] at this ⊢
    intro t ht
    have := this _ (mem_mir2 hv hx ht)
    rw [bare_mir, inR_iff] at this
    rw [← List.map_take, sumI_neg, inR_iff]
    have e : (mirV v).band = v.band := rfl
    rw [e]
    omega
  have := feed_le ha hk
  omega
theorem reach_mir (hv : v.Valid) (hx : (mirV v).Valid) (hp : posB v [] = true) : (reachL (mirV v)).length = (reachL v).length := by
  have h1 := reach_mir1 hv hx hp
  have h2 := reach_mir1 hx (by rw [mirV2]; exact hv) (pos_mir1 hv hx hp)
  rw [mirV2] at h2
  omega
theorem size_turn {r : Rg} : sizeI (turnR r).lo (turnR r).hi = sizeI r.lo r.hi := by
  unfold sizeI turnR
  rw [show -r.lo - -r.hi = r.hi - r.lo by omega]
theorem rgOf_turn {r : Rg} {n : Int} : rgOf (turnR r).lo (turnR r).hi (-n) n = rgOf r.lo r.hi (-n) n := by
  unfold rgOf turnR
  rw [Bool.eq_iff_iff]
  simp only [Bool.and_eq_true, decide_eq_true_eq]
  omega
theorem check_mir (hs : v.Valid) (h0 : checkVat v = 0) : checkVat (mirV v) = 0 := by
  have v5 := hs.looks5
  have v7 := hs.last7
  have hg := check_eq (v := v) (by omega) (by omega)
  rw [check_eq (v := mirV v) (by show ¬ v.last > 7; omega) (by rw [mir_looks]; omega)]
  have e1 : manyL (rangesL (mirV v)) = manyL (rangesL v) := by
    unfold manyL rangesL
    show (turnR v.start :: v.blue :: v.drift.map turnR).foldl _ 1 = _
    rw [List.foldl_cons, List.foldl_cons, List.foldl_map, List.foldl_cons, List.foldl_cons]
    simp only [size_turn]
  have e2 : goodB (mirV v) = goodB v := by
    unfold goodB numbersOk
    have a1 : (mirV v).drift.all (fun r => rgOf r.lo r.hi (-9) 9) = v.drift.all (fun r => rgOf r.lo r.hi (-9) 9) := by
      show (v.drift.map turnR).all _ = _
      rw [List.all_map]
      congr 1
      funext r
      exact rgOf_turn
    have a2 : (mirV v).feeds.all feedOk = v.feeds.all feedOk := by
      show (v.feeds.map turnF).all _ = _
      rw [List.all_map]
      congr 1
      funext f
      show (inR f.bran 0 9 && (inR f.lime 0 9 && inR f.madder 0 9)) = (inR f.lime 0 9 && (inR f.bran 0 9 && inR f.madder 0 9))
      rw [← Bool.and_assoc, Bool.and_comm (inR f.bran 0 9), Bool.and_assoc]
    have a3 : (mirV v).looks.all (lookOk (mirV v).last) = v.looks.all (lookOk v.last) := by
      show (v.looks.map turnK).all (lookOk v.last) = _
      rw [List.all_map]
      congr 1
      funext k
      obtain ⟨a, b, c⟩ := k
      cases b
      · rfl
      · show (inR a 0 v.last && rgOf (turnR c).lo (turnR c).hi (-5000) 5000) = (inR a 0 v.last && rgOf c.lo c.hi (-5000) 5000)
        rw [rgOf_turn]
    have a4 : rgOf (mirV v).start.lo (mirV v).start.hi (-50) 50 = rgOf v.start.lo v.start.hi (-50) 50 := rgOf_turn
    rw [a1, a2, a3, a4]
    simp only [mirV, List.length_map]
    rfl
  rw [e1, e2]
  exact hg.symm.trans h0
end Am.Vt

namespace Am.Vt
open Go Am
set_option maxRecDepth 100000
set_option maxHeartbeats 8000000
set_option linter.unusedSimpArgs false
set_option linter.unusedVariables false
variable {g1 g2 g3 g4 gt : Bool × Bool} {v x : Vat} {t : Truth}
theorem lturned {lo hi : Int} (h1 : -100000 ≤ lo ∧ lo ≤ 100000) (h2 : -100000 ≤ hi ∧ hi ≤ 100000) {Q : V → Prop} : CallP tab 35 [.agg [.int .i64 lo, .int .i64 hi]] Q ↔ Q (.agg [.int .i64 (-hi), .int .i64 (-lo)]) := CallP_of (by
  refine Val_X (fn := f35) rfl ?_
  have e1 : IntKind.i64.wrap (0 - lo) = -lo := by rw [wrapB (by omega) (by omega)]; omega
  have e2 : IntKind.i64.wrap (0 - hi) = -hi := by rw [wrapB (by omega) (by omega)]; omega
  simp only [go_sem, f35, e1, e2])
theorem take_map {α β : Type} [Inhabited α] {f : α → β} {l : List α} {k : Nat} (h : k < l.length) : (l.map f).take (k + 1) = (l.map f).take k ++ [f (l.getD k default)] := by
  rw [← List.map_take, take_getD h default, List.map_append, ← List.map_take]; rfl
theorem bdAt_bal (hv : v.Valid) (hne : truthsL v [] ≠ []) {d : Nat} (hd : d < v.drift.length) : (-100000 ≤ (bdAt v d).bal.lo ∧ (bdAt v d).bal.lo ≤ 100000) ∧ (-100000 ≤ (bdAt v d).bal.hi ∧ (bdAt v d).bal.hi ≤ 100000) := by
  obtain ⟨⟨a, a1, a2⟩, ⟨b, b1, b2⟩, _⟩ := bdL_IsRg (val := fun t => (stAt v t (d + 1)).bal) hne
  have h1 := (stAt_bd hv (truths_isT hv a a1) (d := d + 1) (by omega)).1
  have h2 := (stAt_bd hv (truths_isT hv b b1) (d := d + 1) (by omega)).1
  have v1 := hv.drift
  have v4 := hv.last7
  simp only at a2 b2
  unfold bdAt
  simp only
  omega
theorem VatMirror_val {day dips : Int} (d0 : 0 ≤ day) (d1 : day ≤ 255) (n0 : 0 ≤ dips) (n1 : dips ≤ 255) : Val tab 9 [vatV g1 g2 g3 g4 v, .c (.int .u8 day), .c (.int .u8 dips)] (.c (.bool true)) := by
  obtain ⟨dn, rfl⟩ : ∃ n : Nat, day = n := ⟨day.toNat, by omega⟩
  obtain ⟨nn, rfl⟩ : ∃ n : Nat, dips = n := ⟨dips.toNat, by omega⟩
  refine Val_X (fn := f9) rfl ?_
  cases hr : readyB v with
  | false => simp only [go_sem, f9, lready, hr, lawake]
  | true =>
    obtain ⟨hs, hv, h0, h150⟩ := ready_of hr
    have hf := hs.fits
    have v1 := hv.drift
    have v4 := hv.last7
    have v0 := hv.last0
    have v5 := hv.looks5
    have vst := hv.start
    have h0x := check_mir hv h0
    have hvx := valid_of h0x
    have kT := fun {Q : V → Prop} => lturned (lo := v.start.lo) (hi := v.start.hi) (by omega) (by omega) (Q := Q)
    simp only [go_sem, f9, lready, hr, kT, disj_nil]
    refine RX_for v.drift.length (fun k => [(8, .c (.int .i64 k))]) (fun k => [.cells (vatC g1 g2 g3 g4 v), .cells [.int .i64 v.last, .int .i64 v.band, .int .i64 (-v.start.hi), .int .i64 (-v.start.lo), .int .i64 v.blue.lo, .int .i64 v.blue.hi, .int .i64 v.gain, .int .i64 v.take, .sl 2 k 0 k, .sl 3 k 0 k, L g3 v.dips, .nils], .arr false k 2 (((v.drift.map turnR).take k).map Row.row), .arr false k 3 (((v.feeds.map turnF).take k).map Row.row)]) (fun _ => True) trivial (by simp only [go_sem, List.take_zero] <;> first | rfl | exact ⟨rfl, rfl⟩) ?_
    intro k hk _
    by_cases hlt : k < v.drift.length
    · have hf2 : k < v.feeds.length := by have := hv.feeds; omega
      have hl : ((v.drift.map turnR).take k).length = k := by rw [List.length_take, List.length_map]; omega
      have hl2 : ((v.feeds.map turnF).take k).length = k := by rw [List.length_take, List.length_map]; omega
      have b1 : (k + 1) * 16 ≤ 2 ^ 40 := by omega
      have b2 : (k + 1) * 24 ≤ 2 ^ 40 := by omega
      have e4 : IntKind.i64.wrap ((k : Int) + 1) = ((k + 1 : Nat) : Int) := wrap_succ (n := 3000) (by omega) (by decide)
      have hd := hv.driftO _ (getD_mem (d := default) hlt)
      have kD := fun {Q : V → Prop} => lturned (lo := (v.drift.getD k default).lo) (hi := (v.drift.getD k default).hi) (by omega) (by omega) (Q := Q)
      have t1 := take_map (f := turnR) hlt
      have t2 := take_map (f := turnF) hf2
      have r1 : (Row.row (turnR (v.drift.getD k default))) = [.int .i64 (-(v.drift.getD k default).hi), .int .i64 (-(v.drift.getD k default).lo)] := rfl
      have r2 : (Row.row (turnF (v.feeds.getD k default))) = [.int .i64 (v.feeds.getD k default).bran, .int .i64 (v.feeds.getD k default).lime, .int .i64 (v.feeds.getD k default).madder] := rfl
      simp only [go_sem, hlt, hf2, atI_nat, hl, hl2, b1, b2, e4, kD, t1, t2, r1, r2, List.map_append, disj_nil]
    · have : k = v.drift.length := by omega
      subst this
      have hfl : v.feeds.length = v.drift.length := by have := hv.feeds; omega
      have t1 : (v.drift.map turnR).take v.drift.length = v.drift.map turnR := List.take_of_length_le (by rw [List.length_map]; omega)
      have t2 : (v.feeds.map turnF).take v.drift.length = v.feeds.map turnF := List.take_of_length_le (by rw [List.length_map]; omega)
      simp only [go_sem, hlt, t1, t2, disj_nil]
      refine RX_for v.looks.length (fun k => [(10, .c (.int .i64 k))]) (fun k => [.cells (vatC g1 g2 g3 g4 v), .cells [.int .i64 v.last, .int .i64 v.band, .int .i64 (-v.start.hi), .int .i64 (-v.start.lo), .int .i64 v.blue.lo, .int .i64 v.blue.hi, .int .i64 v.gain, .int .i64 v.take, .sl 2 v.drift.length 0 v.drift.length, .sl 3 v.drift.length 0 v.drift.length, L g3 v.dips, .sl 4 k 0 k], .arr false v.drift.length 2 ((v.drift.map turnR).map Row.row), .arr false v.drift.length 3 ((v.feeds.map turnF).map Row.row), .arr false k 4 (((v.looks.map turnK).take k).map Row.row)]) (fun _ => True) trivial (by simp only [go_sem, List.take_zero] <;> first | rfl | exact ⟨rfl, rfl⟩) ?_
      intro k hk _
      by_cases hlt2 : k < v.looks.length
      · have hl : ((v.looks.map turnK).take k).length = k := by rw [List.length_take, List.length_map]; omega
        have b1 : (k + 1) * 32 ≤ 2 ^ 40 := by omega
        have e4 : IntKind.i64.wrap ((k : Int) + 1) = ((k + 1 : Nat) : Int) := wrap_succ (n := 3000) (by omega) (by decide)
        have hd := hv.looks _ (getD_mem (d := default) hlt2)
        have kD := fun {Q : V → Prop} => lturned (lo := (v.looks.getD k default).n.lo) (hi := (v.looks.getD k default).n.hi) (by omega) (by omega) (Q := Q)
        have t3 := take_map (f := turnK) hlt2
        cases hb : (v.looks.getD k default).bal with
        | false =>
          have r1 : (Row.row (turnK (v.looks.getD k default))) = [.int .i64 (v.looks.getD k default).day, .bool false, .int .i64 (v.looks.getD k default).n.lo, .int .i64 (v.looks.getD k default).n.hi] := by
            rw [turnK, if_neg (by rw [hb]; decide), ← hb]; rfl
          simp only [go_sem, hlt2, atI_nat, hl, b1, e4, kD, t3, hb, r1, List.map_append, disj_nil]
        | true =>
          have r1 : (Row.row (turnK (v.looks.getD k default))) = [.int .i64 (v.looks.getD k default).day, .bool true, .int .i64 (-(v.looks.getD k default).n.hi), .int .i64 (-(v.looks.getD k default).n.lo)] := by
            simp only [turnK, hb]; rfl
          simp only [go_sem, hlt2, atI_nat, hl, b1, e4, kD, t3, hb, r1, List.map_append, disj_nil]
      · have : k = v.looks.length := by omega
        subst this
        have t3 : (v.looks.map turnK).take v.looks.length = v.looks.map turnK := List.take_of_length_le (by rw [List.length_map]; omega)
        obtain ⟨x, hx0⟩ : ∃ x, x = mirV v := ⟨_, rfl⟩
        have x1 : x.last = v.last := by rw [hx0]; rfl
        have x2 : x.band = v.band := by rw [hx0]; rfl
        have x3 : x.start = ⟨-v.start.hi, -v.start.lo⟩ := by rw [hx0]; rfl
        have x4 : x.blue = v.blue := by rw [hx0]; rfl
        have x5 : x.gain = v.gain := by rw [hx0]; rfl
        have x6 : x.take = v.take := by rw [hx0]; rfl
        have x7 : x.drift = v.drift.map turnR := by rw [hx0]; rfl
        have x8 : x.feeds = v.feeds.map turnF := by rw [hx0]; rfl
        have x9 : x.dips = v.dips := by rw [hx0]; rfl
        have x10 : x.looks = v.looks.map turnK := by rw [hx0]; rfl
        have y1 : (v.drift.map turnR).length = v.drift.length := List.length_map ..
        have y2 : (v.feeds.map turnF).length = v.drift.length := by rw [List.length_map, hfl]
        have y3 : (v.looks.map turnK).length = v.looks.length := List.length_map ..
        have hsx : x.Small := ⟨by rw [x7, y1]; exact hs.drift, by rw [x8, y2]; exact hs.drift, by rw [x9]; exact hs.dips, by rw [x10, y3]; exact hs.looks⟩
        have hfx := hsx.fits
        have w1 : IntKind.i64.wrap (v.last + 1) = (v.drift.length : Nat) := by rw [wrapB (by omega) (by omega), v1]
        have w2 : IntKind.i64.wrap (dn : Int) = (dn : Int) := wrapB (by omega) (by omega)
        have w3 : IntKind.i64.wrap (nn : Int) = (nn : Int) := wrapB (by omega) (by omega)
        have w4 : ¬ ((v.drift.length : Nat) : Int) = 0 := by omega
        have w5 : (dn : Int).tmod (v.drift.length : Nat) = ((dn % v.drift.length : Nat) : Int) := rfl
        have w6 : (nn : Int).tmod 21 = ((nn % 21 : Nat) : Int) := rfl
        have hd : dn % v.drift.length < v.drift.length := Nat.mod_lt _ (by omega)
        obtain ⟨d, hd0⟩ : ∃ d, d = dn % v.drift.length := ⟨_, rfl⟩
        obtain ⟨n, hn0⟩ : ∃ n, n = nn % 21 := ⟨_, rfl⟩
        have hn : n ≤ 20 := by omega
        rw [← hd0] at hd w5
        rw [← hn0] at w6
        have kV := fun {g1 g2 g3 g4 : Bool × Bool} {Q : V → Prop} => lVat (g1 := g1) (g2 := g2) (g3 := g3) (g4 := g4) hs (Q := Q)
        simp only [vatV] at kV
        have kX := fun {g1 g2 g3 g4 : Bool × Bool} {Q : V → Prop} => lVat (g1 := g1) (g2 := g2) (g3 := g3) (g4 := g4) (v := x) hsx (Q := Q)
        simp only [vatW, vatV, x1, x2, x3, x4, x5, x6, x7, x8, x9, x10] at kX
        obtain ⟨c1, hv1⟩ := vLeave (v := v) (g1 := (false, false)) (g2 := (false, false)) (g3 := (false, false)) (g4 := (false, false)) hf
        have k1 := fun {Q : V → Prop} => CallP_of (Q := Q) hv1
        have hR1 : LeaveR c1 v = .tup [.c (L (c1, false) (leaveS v)), .c (.int .i64 0)] := if_neg (by rw [h0]; simp)
        rw [hR1] at k1
        simp only [vatV] at k1
        obtain ⟨c2, hv2⟩ := vLeave (v := x) (g1 := (false, false)) (g2 := (false, false)) (g3 := (false, false)) (g4 := (false, false)) hfx
        have k2 := fun {Q : V → Prop} => CallP_of (Q := Q) hv2
        have hR2 : LeaveR c2 x = .tup [.c (L (c2, false) (leaveS v)), .c (.int .i64 0)] := by
          rw [LeaveR, hx0, if_neg (by rw [h0x]; simp), leave_mir hv hvx]
        rw [hR2] at k2
        simp only [vatV, x1, x2, x3, x4, x5, x6, x7, x8, x9, x10] at k2
        have hlf : (leaveS v).length ≤ 5 := by have := (setsL_mem.1 (leave_ok hv).1).2.1; omega
        have k3 := fun {g g' : Bool × Bool} {Q : V → Prop} => lints (g := g) (g' := g') (a := leaveS v) (b := leaveS v) (big_of (by omega)) (Q := Q)
        have q1 := fun {Q : V → Prop} => cBounds (v := v) (g1 := (false, false)) (g2 := (false, false)) (g3 := (false, false)) (g4 := (false, false)) hf (Q := Q)
        have q2 := fun {Q : V → Prop} => cBounds (v := x) (g1 := (false, false)) (g2 := (false, false)) (g3 := (false, false)) (g4 := (false, false)) hfx (Q := Q)
        have q3 := fun {Q : V → Prop} => cShade (v := v) (g1 := (false, false)) (g2 := (false, false)) (g3 := (false, false)) (g4 := (false, false)) (day := (d : Int)) (many := (n : Int)) hf (Q := Q)
        have q4 := fun {Q : V → Prop} => cShade (v := x) (g1 := (false, false)) (g2 := (false, false)) (g3 := (false, false)) (g4 := (false, false)) (day := (d : Int)) (many := (n : Int)) hfx (Q := Q)
        have q5 := fun {Q : V → Prop} => cKeep (v := v) (g1 := (false, false)) (g2 := (false, false)) (g3 := (false, false)) (g4 := (false, false)) hf (Q := Q)
        have q6 := fun {Q : V → Prop} => cKeep (v := x) (g1 := (false, false)) (g2 := (false, false)) (g3 := (false, false)) (g4 := (false, false)) hfx (Q := Q)
        have hdi : (inR d 0 v.last && inR n 0 20) = true := by rw [Bool.and_eq_true, inR_iff, inR_iff]; omega
        have hdx : (inR d 0 x.last && inR n 0 20) = true := by rw [x1]; exact hdi
        have h0x' : checkVat x = 0 := by rw [hx0]; exact h0x
        cases hp : posB v [] with
        | false =>
          have hpx : posB x [] = false := by rw [hx0, pos_mir hv hvx]; exact hp
          have r1 : BoundsR v = .tup [.c .nils, .c (.int .i64 11)] := by rw [BoundsR, ask_n h0 hp, if_neg (by decide)]
          have r2 : BoundsR x = .tup [.c .nils, .c (.int .i64 11)] := by rw [BoundsR, ask_n h0x' hpx, if_neg (by decide)]
          have r3 : ShadeR v d n = .tup [.agg [.int .i64 0, .int .i64 0], .c (.int .i64 11)] := by rw [ShadeR, hdi, ask_n h0 hp, if_neg (by decide)]
          have r4 : ShadeR x d n = .tup [.agg [.int .i64 0, .int .i64 0], .c (.int .i64 11)] := by rw [ShadeR, hdx, ask_n h0x' hpx, if_neg (by decide)]
          have r5 : KeepR v = .tup [.c .nils, .c (.int .i64 11)] := by rw [KeepR, ask_n h0 hp, if_neg (by decide)]
          have r6 : KeepR x = .tup [.c .nils, .c (.int .i64 11)] := by rw [KeepR, ask_n h0x' hpx, if_neg (by decide)]
          rw [r1] at q1
          rw [r2] at q2
          rw [r3] at q3
          rw [r4] at q4
          rw [r5] at q5
          rw [r6] at q6
          simp only [vatV, x1, x2, x3, x4, x5, x6, x7, x8, x9, x10] at q1 q2 q3 q4 q5 q6
          simp (maxSteps := 1000000) only [go_sem, hlt2, t3, y1, y2, y3, kV, kX, k1, k2, k3, q1, q2, q3, q4, q5, q6, w1, w2, w3, w4, w5, w6, lawake, disj_nil]
        | true =>
          have hpx : posB x [] = true := by rw [hx0, pos_mir hv hvx]; exact hp
          have hne := pos_truths.1 hp
          have hre : (keepL x).length = (keepL v).length := by rw [keepL_len, keepL_len, hx0, reach_mir hv hvx hp]
          have hsh : shadeRg x d n = shadeRg v d n := by rw [hx0, shade_mir hv hvx hne]
          have r1 : BoundsR v = .tup [.c (L (false, false) (boundsL v)), .c (.int .i64 0)] := by rw [BoundsR, if_pos (ask_t h0 hp)]
          have r2 : BoundsR x = .tup [.c (L (false, false) (boundsL x)), .c (.int .i64 0)] := by rw [BoundsR, if_pos (ask_t h0x' hpx)]
          have r3 : ShadeR v d n = .tup [.agg [.int .i64 (shadeRg v d n).lo, .int .i64 (shadeRg v d n).hi], .c (.int .i64 0)] := by rw [ShadeR, hdi, if_pos (ask_t h0 hp)]; rfl
          have r4 : ShadeR x d n = .tup [.agg [.int .i64 (shadeRg v d n).lo, .int .i64 (shadeRg v d n).hi], .c (.int .i64 0)] := by rw [ShadeR, hdx, if_pos (ask_t h0x' hpx), ← hsh]; rfl
          have r5 : KeepR v = .tup [.c (L (false, false) (keepL v)), .c (.int .i64 0)] := by rw [KeepR, if_pos (ask_t h0 hp)]
          have r6 : KeepR x = .tup [.c (L (false, false) (keepL x)), .c (.int .i64 0)] := by rw [KeepR, if_pos (ask_t h0x' hpx)]
          rw [r1] at q1
          rw [r2] at q2
          rw [r3] at q3
          rw [r4] at q4
          rw [r5] at q5
          rw [r6] at q6
          simp only [vatV, x1, x2, x3, x4, x5, x6, x7, x8, x9, x10] at q1 q2 q3 q4 q5 q6
          have bl : (boundsL v).length = v.drift.length := boundsL_len
          have blx : (boundsL x).length = v.drift.length := by rw [boundsL_len, x7, y1]
          have bg : ∀ k, k < v.drift.length → (boundsL v).getD k default = bdAt v k := fun k hk => bounds_get hk
          have bgx : ∀ k, k < v.drift.length → (boundsL x).getD k default = ⟨turnR (bdAt v k).bal, (bdAt v k).blue⟩ := fun k hk => by rw [bounds_get (by rw [x7, y1]; exact hk), hx0, bdAt_mir hv hvx hne]
          generalize boundsL v = bv at *
          generalize boundsL x = bx at *
          generalize keepL v = kv at *
          generalize keepL x = kx at *
          simp (maxSteps := 1000000) only [go_sem, hlt2, t3, y1, y2, y3, kV, kX, k1, k2, k3, q1, q2, q3, q4, q5, q6, w1, w2, w3, w4, w5, w6, bl, blx, hre, lawake, disj_nil]
          refine RX_forC v.drift.length (fun k => [(30, .c (.int .i64 k))]) (fun _ => True) rfl trivial (by simp only [go_sem] <;> first | rfl | exact ⟨rfl, rfl⟩) ?_
          intro k hk _
          by_cases hk2 : k < v.drift.length
          · have e4 : IntKind.i64.wrap ((k : Int) + 1) = ((k + 1 : Nat) : Int) := wrap_succ (n := 3000) (by omega) (by decide)
            have hb := bdAt_bal hv hne hk2
            have g1 := bg k hk2
            have g2 := bgx k hk2
            generalize bdAt v k = B at *
            have n1 : IntKind.i64.wrap (0 - B.bal.hi) = -B.bal.hi := by rw [wrapB (by omega) (by omega)]; omega
            have n2 : IntKind.i64.wrap (0 - B.bal.lo) = -B.bal.lo := by rw [wrapB (by omega) (by omega)]; omega
            simp (maxSteps := 1000000) only [go_sem, hk2, bl, blx, atI_nat, g1, g2, turnR, n1, n2, lbetween, e4, disj_nil]
          · have : k = v.drift.length := by omega
            subst this
            simp (maxSteps := 1000000) only [go_sem, hk2, bl, lawake, disj_nil]
end Am.Vt

