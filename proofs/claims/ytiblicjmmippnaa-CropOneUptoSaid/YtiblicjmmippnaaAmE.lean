/-
  A part of the proof: the texts Am16, Am17, Am18 of this seat, joined.
-/
import Derived.Test.YtiblicjmmippnaaAmA
import Derived.Test.YtiblicjmmippnaaAmB
import Derived.Orders
/-
  AM16: WHAT AN OPERATION LOOKS AT. It depends on its own slots, and on the objects it names, alone.
-/
namespace Am
open Go
set_option linter.unusedVariables false
set_option linter.unusedSimpArgs false

/-- two lists of slots that agree on some -/
def AgS (s s' : List V) (l : List Nat) : Prop := ∀ t ∈ l, getS s' t = getS s t
theorem AgS.left {s s' : List V} {a b : List Nat} (h : AgS s s' (a ++ b)) : AgS s s' a := fun t ht => h t (List.mem_append_left _ ht)
theorem AgS.right {s s' : List V} {a b : List Nat} (h : AgS s s' (a ++ b)) : AgS s s' b := fun t ht => h t (List.mem_append_right _ ht)
theorem AgS.ev {s s' : List V} {x : Opd} (h : AgS s s' x.tmps) : x.ev s' = x.ev s := by
  cases x with
  | tmp t => exact h t (by simp [Opd.tmps])
  | cst v => rfl
theorem AgS.bound {s s' : List V} {d : Nat} {x : Option Opd} (h : AgS s s' (optTmps x)) : bound s' d x = bound s d x := by
  cases x with
  | none => rfl
  | some x => simp only [Am.bound, AgS.ev (x := x) h]
theorem AgS.oneCs {s s' : List V} : ∀ {l : List Opd}, AgS s s' (opdsTmps l) → oneCs s' l = oneCs s l
  | [], _ => rfl
  | x :: l, h => by simp only [Am.oneCs, AgS.ev (x := x) h.left, AgS.oneCs h.right]
theorem AgS.map {s s' : List V} : ∀ {l : List Opd}, AgS s s' (opdsTmps l) → l.map (·.ev s') = l.map (·.ev s)
  | [], _ => rfl
  | x :: l, h => by simp only [List.map_cons, AgS.ev (x := x) h.left, AgS.map h.right]
theorem AgS.fm {s s' : List V} : ∀ {l : List Opd}, AgS s s' (opdsTmps l) → (l.flatMap fun a => objsV (a.ev s')) = l.flatMap fun a => objsV (a.ev s)
  | [], _ => rfl
  | x :: l, h => by simp only [List.flatMap_cons, AgS.ev (x := x) h.left, AgS.fm h.right]
theorem AgS.buildC {s s' : List V} : ∀ {l : List (Nat × Nat × Opd)} {cs : List C}, AgS s s' (partsTmps l) → buildC s' l cs = buildC s l cs
  | [], _, _ => rfl
  | (a, b, x) :: l, cs, h => by
    simp only [Am.buildC, AgS.ev (x := x) h.left]
    split
    · split
      · cases splice a _ cs with
        | none => rfl
        | some y => exact AgS.buildC h.right
      · rfl
    · rfl
theorem AgS.setRows {s s' : List V} {h : List Obj} {sz : Nat} : ∀ {l : List (Nat × Opd)} {rows : List (List D)}, AgS s s' (partsTmpsS l) → setRows s' h sz l rows = setRows s h sz l rows
  | [], _, _ => rfl
  | (a, x) :: l, rows, g => by
    simp only [Am.setRows, AgS.ev (x := x) g.left]
    split
    · split
      · rw [AgS.setRows g.right]
      · rfl
    · rfl
theorem AgS.fmS {s s' : List V} : ∀ {l : List (Nat × Opd)}, AgS s s' (partsTmpsS l) → (l.flatMap fun p => objsV (p.2.ev s')) = l.flatMap fun p => objsV (p.2.ev s)
  | [], _ => rfl
  | (a, x) :: l, h => by simp only [List.flatMap_cons, AgS.ev (x := x) h.left, AgS.fmS h.right]

theorem opEv_slots {s s' : List V} {h : List Obj} {rid : Nat} {op : AOp} (g : AgS s s' op.tmps) : opEv rid s' h op = opEv rid s h op := by
  cases op <;> simp only [AOp.tmps] at g <;> simp only [opEv] <;>
    first
      | rfl
      | (simp only [AgS.ev g]; done)
      | (simp only [AgS.ev g]; rfl)
      | (simp only [AgS.ev g.left, AgS.ev g.right]; done)
      | (simp only [AgS.ev g.left, AgS.ev g.right.left, AgS.ev g.right.right]; done)
      | (simp only [AgS.ev g.left, AgS.bound g.right.left, AgS.bound g.right.right]; done)
      | (simp only [AgS.buildC g]; done)
      | (simp only [AgS.setRows g]; done)
      | skip
  case mkfn f x l =>
    cases x with
    | none => simp only [opEv, AgS.oneCs g.right]
    | some x => simp only [opEv, AgS.ev (x := x) g.left, AgS.oneCs g.right]
theorem readsOf_slots {s s' : List V} {op : AOp} (g : AgS s s' op.tmps) : readsOf s' op = readsOf s op := by
  cases op <;> simp only [AOp.tmps] at g <;> simp only [readsOf] <;>
    first
      | rfl
      | (simp only [AgS.ev g]; done)
      | (simp only [AgS.ev g.left]; done)
      | (simp only [AgS.ev g.left, AgS.ev g.right]; done)
      | (simp only [AgS.ev g.left, AgS.ev g.right.left, AgS.ev g.right.right]; done)
      | (simp only [AgS.fmS g]; done)
      | skip
  case call f p args => cases p <;> simp only [readsOf, AgS.fm g]
theorem wanted_slots {s s' : List V} {g : Option (Nat × Bool)} (h : AgS s s' (match g with | some (t, _) => [t] | none => [])) : wantedA s' g = wantedA s g := by
  cases g with
  | none => rfl
  | some p => simp only [wantedA, h p.1 (by simp)]

/-! ### objects -/

/-- two heaps that agree on some objects -/
def AgH (h h' : List Obj) (l : List Nat) : Prop := ∀ o ∈ l, getH h' o = getH h o
theorem AgH.left {s s' : List Obj} {a b : List Nat} (h : AgH s s' (a ++ b)) : AgH s s' a := fun t ht => h t (List.mem_append_left _ ht)
theorem AgH.right {s s' : List Obj} {a b : List Nat} (h : AgH s s' (a ++ b)) : AgH s s' b := fun t ht => h t (List.mem_append_right _ ht)

theorem AgH.loadC {h h' : List Obj} {n : Nat} {c : C} (g : AgH h h' c.obj) : loadC h' n c = loadC h n c := by
  cases c <;> simp only [Am.loadC] <;> (first | rfl | rw [g _ (by simp [C.obj])])
theorem AgH.toD {h h' : List Obj} {c : C} (g : AgH h h' c.obj) : toD h' c = toD h c := by
  cases c <;> simp only [Am.toD] <;> (first | rfl | rw [g _ (by simp [C.obj])] | skip)
  all_goals (rename_i t rows; cases t <;> rfl)
theorem AgH.toDs {h h' : List Obj} : ∀ {cs : List C}, AgH h h' (cs.flatMap C.obj) → toDs h' cs = toDs h cs
  | [], _ => rfl
  | c :: cs, g => by
    rw [List.flatMap_cons] at g
    simp only [Am.toDs, AgH.toD g.left, AgH.toDs g.right]
theorem AgH.sliceRows {h h' : List Obj} {c : C} (g : AgH h h' c.obj) : sliceRows h' c = sliceRows h c := by
  cases c <;> simp only [Am.sliceRows] <;> (first | rfl | rw [g _ (by simp [C.obj])])
theorem AgH.elemC {h h' : List Obj} {sz : Nat} {c : C} {n : Int} (g : AgH h h' c.obj) : elemC h' sz c n = elemC h sz c n := by
  cases c <;> simp only [Am.elemC] <;> (first | rfl | rw [g _ (by simp [C.obj])])
theorem AgH.storeC {h h' : List Obj} {a : C} {x : List C} (g : AgH h h' a.obj) (gx : AgH h h' (x.flatMap C.obj)) : storeC h' a x = storeC h a x := by
  cases a <;> simp only [Am.storeC] <;> (first | rfl | rw [g _ (by simp [C.obj]), AgH.toDs gx] | rw [g _ (by simp [C.obj])])
theorem toDs_indep {h h' : List Obj} : ∀ {cs : List C} {ds : List D}, toDs h cs = some (ds, []) → toDs h' cs = some (ds, [])
  | [], _, e => by cases e; rfl
  | c :: cs, ds, e => by
    simp only [toDs] at e ⊢
    split at e
    · rename_i d k ds' ks' e1 e2
      have e' := Option.some.inj e
      obtain ⟨a, b⟩ := Prod.mk.inj e'
      obtain ⟨rfl, rfl⟩ := List.append_eq_nil_iff.1 b
      rw [toDs_indep (h' := h') e2]
      have : toD h' c = some (d, []) := by
        cases c <;> simp only [toD] at e1 ⊢ <;> first | exact e1 | cases e1 | skip
        case lst t rows => cases t <;> simp only [toD] at e1 ⊢ <;> first | exact e1 | cases e1
        case sl =>
          split at e1
          · split at e1
            · cases hp : part _ _ _ <;> rw [hp] at e1 <;> cases e1
            · cases e1
          · cases e1
      rw [this, ← a]; rfl
    · cases e
theorem toD_kobj {h : List Obj} {c : C} {d : D} {ks : List Nat} (e : toD h c = some (d, ks)) : ∀ o ∈ ks, o ∈ c.obj := by
  cases c <;> simp only [toD] at e <;> first | (cases e; done) | (cases e; simp; done) | skip
  case lst t rows => cases t <;> simp only [toD] at e <;> cases e; simp
  case sl =>
    split at e
    · split at e
      · cases hp : part _ _ _ <;> rw [hp] at e <;> cases e
        simp [C.obj]
      · cases e
    · cases e
theorem toDs_kobj {h : List Obj} : ∀ {cs : List C} {ds : List D} {ks : List Nat}, toDs h cs = some (ds, ks) → ∀ o ∈ ks, o ∈ cs.flatMap C.obj
  | [], _, _, e => by cases e; simp
  | c :: cs, ds, ks, e => by
    simp only [toDs] at e
    split at e
    · rename_i d k ds' ks' e1 e2
      cases e
      intro o ho
      rw [List.flatMap_cons]
      rcases List.mem_append.1 ho with ho | ho
      · exact List.mem_append_left _ (toD_kobj e1 o ho)
      · exact List.mem_append_right _ (toDs_kobj e2 o ho)
    · cases e
theorem laid_objs {x : V} {l : List C} (h : x.laid = some l) : objsV x = l.flatMap C.obj := by
  cases x with
  | c x => simp only [V.laid] at h; split at h <;> cases h; simp [objsV]
  | agg cs => simp only [V.laid] at h; split at h <;> cases h; rfl
  | tup vs => cases h
theorem AgH.setRows {s : List V} {h h' : List Obj} {sz : Nat} : ∀ {l : List (Nat × Opd)} {rows : List (List D)}, AgH h h' (l.flatMap fun p => objsV (p.2.ev s)) → setRows s h' sz l rows = setRows s h sz l rows
  | [], _, _ => rfl
  | (a, x) :: l, rows, g => by
    rw [List.flatMap_cons] at g
    simp only [Am.setRows]
    have : ((x.ev s).laid).bind (Am.toDs h') = ((x.ev s).laid).bind (Am.toDs h) := by
      cases hl : (x.ev s).laid with
      | none => rfl
      | some cs =>
        simp only [Option.bind_some]
        refine AgH.toDs ?_
        have := g.left
        rwa [laid_objs hl] at this
    rw [this]
    split
    · split
      · rw [AgH.setRows g.right]
      · rfl
    · rfl
theorem setRows_kobj {s : List V} {h : List Obj} {sz : Nat} : ∀ {l : List (Nat × Opd)} {rows : List (List D)} {r}, setRows s h sz l rows = some r → ∀ o ∈ r.2, o ∈ l.flatMap fun p => objsV (p.2.ev s)
  | [], _, _, e => by cases e; simp
  | (a, x) :: l, rows, r, e => by
    simp only [Am.setRows] at e
    split at e
    · rename_i ds k hk
      split at e
      · cases hr : Am.setRows s h sz l (setNth rows a ds) with
        | none => rw [hr] at e; cases e
        | some r' =>
          rw [hr] at e; cases e
          intro o ho
          rw [List.flatMap_cons]
          rcases List.mem_append.1 ho with ho | ho
          · cases hl : (x.ev s).laid with
            | none => rw [hl] at hk; cases hk
            | some cs =>
              rw [hl] at hk
              exact List.mem_append_left _ (by rw [laid_objs hl]; exact toDs_kobj hk o ho)
          · exact List.mem_append_right _ (setRows_kobj hr o ho)
      · cases e
    · cases e
theorem AgH.freeze {h h' : List Obj} {ks : List Nat} (g : AgH h h' ks) : freeze h' ks = freeze h ks := by
  unfold Am.freeze
  apply List.map_congr_left
  intro o ho
  rw [g o ho]
theorem freeze_fst {h : List Obj} {ks : List Nat} : (freeze h ks).map (·.1) = ks := by
  unfold freeze
  rw [List.map_map]
  conv => rhs; rw [← List.map_id ks]
  apply List.map_congr_left
  intro o _
  simp only [Function.comp]
  split <;> rfl

theorem newV_heap {h h' : List Obj} {rid : Nat} {x : Obj} {c : C} {more : Wr} {z : V × Wr} (g : isHole h rid = true → isHole h' rid = true) (e : newV h rid x c more = some z) : newV h' rid x c more = some z := by
  unfold newV at e ⊢
  by_cases hh : isHole h rid = true
  · rw [if_pos (g hh)]; rw [if_pos hh] at e; exact e
  · rw [if_neg hh] at e; cases e

theorem opEv_heap {s : List V} {h h' : List Obj} {rid : Nat} {op : AOp} {z : V × Wr} (g : AgH h h' (readsOf s op)) (gh : rid ∈ z.2.map (·.1) → isHole h rid = true → isHole h' rid = true) (e : opEv rid s h op = some z) : opEv rid s h' op = some z := by
  have new : ∀ {x : Obj} {c : C} {more : Wr}, newV h rid x c more = some z → newV h' rid x c more = some z := fun {x c more} e => newV_heap (gh (by
    unfold newV at e
    split at e
    · cases e; simp
    · cases e)) e
  cases op <;> simp only [readsOf] at g <;> simp only [opEv] at e ⊢ <;> try exact e
  case alloc => exact new e
  case box =>
    split at e
    · exact new e
    · cases e
  case load n a =>
    split at e
    · rename_i c hc
      rw [hc] at g
      rw [AgH.loadC g]; exact e
    · cases e
  case store n a x =>
    split at e
    · rename_i p l hp hl
      rw [hp, laid_objs hl] at g
      rw [AgH.storeC g.left g.right]; exact e
    · cases e
  case iaddr sz x i =>
    split at e
    · rename_i c kk n hp hl
      rw [hp] at g
      rw [AgH.elemC g]; exact e
    · cases e
  case mkfn f x caps => cases x <;> exact e
  case bslice sz n zero parts =>
    cases hz : toDs h zero with
    | none => rw [hz] at e; cases e
    | some p =>
      obtain ⟨zs, k⟩ := p
      rw [hz] at e
      cases k with
      | cons => cases e
      | nil =>
        rw [toDs_indep (h' := h') hz]
        simp only at e ⊢
        split at e
        · rename_i hq
          rw [if_pos hq]
          rw [AgH.setRows g]
          cases hr : setRows s h sz parts (rowsOf n zs) with
          | none => rw [hr] at e; cases e
          | some r =>
            rw [hr] at e
            simp only [Option.bind_some] at e ⊢
            rw [AgH.freeze (fun o ho => g o (setRows_kobj hr o ho))]
            exact new e
        · cases e
  case mkslice sz by_ zero len =>
    split at e
    · rename_i k n zs hn hz
      rw [toDs_indep (h' := h') hz, hn]
      simp only at e ⊢
      split at e
      · rename_i hq; rw [if_pos hq]; exact new e
      · cases e
    · cases e
  case append sz by_ a x =>
    split at e
    · rename_i ca cb ha hb
      rw [ha, hb] at g
      have g1 : AgH h h' cb.obj := g.right
      have g2 : AgH h h' ca.obj := g.left
      rw [AgH.sliceRows g1]
      split at e
      · cases e
      · rename_i new' hr
        split at e
        · rename_i hq
          simp only [hq, if_true]
          split at e
          · split at e
            · rename_i hq2; rw [if_pos hq2]; exact new e
            · cases e
          · rename_i o ver off len
            rw [g2 o (by simp [C.obj])]; exact e
          · cases e
        · cases e
    · cases e
  case clone f sz by_ x =>
    split at e
    · rename_i b hb
      rw [hb] at g
      have g1 : AgH h h' b.obj := g
      rw [AgH.sliceRows g1]
      split at e
      · split at e
        · rename_i hq; simp only [hq, if_true]; exact new e
        · cases e
      · cases e
    · cases e
  case grow f sz by_ x =>
    split at e
    · split at e
      · rename_i hq; simp only [hq, and_self, if_true]; exact new e
      · cases e
    · cases e
  case slice sz x lo hi =>
    split at e
    · exact e
    · exact e
    · rename_i o ver off len hx
      rw [hx] at g
      rw [g o (by simp [objsV, C.obj])]; exact e
    · cases e
  case mkmap => exact new e
  case lookup ka va ks zero ok m k =>
    split at e
    · rename_i o key hm hk
      rw [hm] at g
      rw [toDs_indep (h' := h') hk, hm]
      simp only
      rw [g o (List.mem_append_left _ (by simp [objsV, C.obj]))]; exact e
    · cases e
  case mapupd ka va ks m k v =>
    split at e
    · rename_i o key l hm hk hl
      rw [hm] at g
      rw [toDs_indep (h' := h') hk, hm, hl]
      simp only
      rw [g o (List.mem_append_left _ (List.mem_append_left _ (by simp [objsV, C.obj])))]; exact e
    · cases e

theorem AgH.toArgC {h h' : List Obj} {c : C} (g : AgH h h' c.obj) : toArgC h' c = toArgC h c := by
  cases c <;> simp only [Am.toArgC] <;> (first | rfl | rw [g _ (by simp [C.obj])])
theorem AgH.toArgCs {h h' : List Obj} : ∀ {cs : List C}, AgH h h' (cs.flatMap C.obj) → toArgCs h' cs = toArgCs h cs
  | [], _ => rfl
  | c :: cs, g => by
    rw [List.flatMap_cons] at g
    simp only [Am.toArgCs, AgH.toArgC g.left, AgH.toArgCs g.right]
theorem AgH.toArg {h h' : List Obj} {v : V} (g : AgH h h' (objsV v)) : toArg h' v = toArg h v := by
  cases v with
  | c x => simp only [Am.toArg]; rw [AgH.toArgC g]
  | agg cs => simp only [Am.toArg]; rw [AgH.toArgCs g]
  | tup vs => rfl
theorem toArgs_heap {s : List V} {h h' : List Obj} : ∀ {l : List Opd}, AgH h h' (l.flatMap fun a => objsV (a.ev s)) → toArgs h' (l.map (·.ev s)) = toArgs h (l.map (·.ev s))
  | [], _ => rfl
  | x :: l, g => by
    rw [List.flatMap_cons] at g
    simp only [List.map_cons, Am.toArgs, AgH.toArg g.left, toArgs_heap g.right]
end Am
/-
  AM17: OPERATIONS WHOSE ORDER IS OPEN. In any order that keeps to the edges they leave the same.
-/
namespace Am
open Go
set_option linter.unusedVariables false
set_option linter.unusedSimpArgs false

theorem memN_iff {x : Nat} : ∀ {l : List Nat}, memN x l = true ↔ x ∈ l
  | [] => by simp [memN]
  | y :: l => by simp [memN, memN_iff (l := l), Nat.beq_eq]
theorem disj_iff : ∀ {a b : List Nat}, disj a b = true ↔ ∀ x ∈ a, x ∉ b
  | [], b => by simp [disj]
  | x :: a, b => by
    simp only [disj, Bool.and_eq_true, disj_iff (a := a), List.forall_mem_cons]
    constructor
    · rintro ⟨h1, h2⟩; exact ⟨(fun h => by rw [memN_iff.2 h] at h1; cases h1), h2⟩
    · rintro ⟨h1, h2⟩; exact ⟨by cases hm : memN x b with
        | true => exact (h1 (memN_iff.1 hm)).elim
        | false => rfl, h2⟩

theorem getH_applyW {h : List Obj} : ∀ {w : Wr} {o : Nat}, o ∉ w.map (·.1) → getH (applyW h w) o = getH h o := by
  intro w
  induction w generalizing h with
  | nil => intro o _; rfl
  | cons p w ih =>
    intro o ho
    simp only [List.map_cons, List.mem_cons, not_or] at ho
    rw [applyW, ih ho.2, getH_setH, if_neg (fun e => ho.1 e.1)]
theorem applyW_len {h : List Obj} : ∀ {w : Wr}, (applyW h w).length = h.length := by
  intro w
  induction w generalizing h with
  | nil => rfl
  | cons p w ih => rw [applyW, ih, setH_len]
theorem isHole_applyW {h : List Obj} {w : Wr} {o : Nat} (ho : o ∉ w.map (·.1)) : isHole (applyW h w) o = isHole h o := by
  have : isHole (applyW h w) o = true ↔ isHole h o = true := by rw [isHole_iff, isHole_iff, applyW_len, getH_applyW ho]
  cases h1 : isHole (applyW h w) o <;> cases h2 : isHole h o <;> simp_all
theorem setH_comm {h : List Obj} {i j : Nat} {x y : Obj} (hij : i ≠ j) : setH (setH h i x) j y = setH (setH h j y) i x := by
  induction h generalizing i j with
  | nil => cases i <;> cases j <;> rfl
  | cons a h ih =>
    cases i with
    | zero => cases j with
      | zero => exact (hij rfl).elim
      | succ j => rfl
    | succ i => cases j with
      | zero => rfl
      | succ j => simp only [setH]; rw [ih (fun e => hij (by rw [e]))]
theorem setS_comm {h : List V} {i j : Nat} {x y : V} (hij : i ≠ j) : setS (setS h i x) j y = setS (setS h j y) i x := by
  induction h generalizing i j with
  | nil => cases i <;> cases j <;> rfl
  | cons a h ih =>
    cases i with
    | zero => cases j with
      | zero => exact (hij rfl).elim
      | succ j => rfl
    | succ i => cases j with
      | zero => rfl
      | succ j => simp only [setS]; rw [ih (fun e => hij (by rw [e]))]
theorem applyW_setH {h : List Obj} {i : Nat} {x : Obj} : ∀ {w : Wr}, i ∉ w.map (·.1) → applyW (setH h i x) w = setH (applyW h w) i x := by
  intro w
  induction w generalizing h with
  | nil => intro _; rfl
  | cons p w ih =>
    intro ho
    simp only [List.map_cons, List.mem_cons, not_or] at ho
    simp only [applyW]
    rw [setH_comm ho.1, ih ho.2]
theorem applyW_comm {h : List Obj} : ∀ {a b : Wr}, (∀ x ∈ a.map (·.1), x ∉ b.map (·.1)) → applyW (applyW h a) b = applyW (applyW h b) a := by
  intro a
  induction a generalizing h with
  | nil => intro b _; rfl
  | cons p a ih =>
    intro b hd
    simp only [List.map_cons, List.forall_mem_cons] at hd
    simp only [applyW]
    rw [ih hd.2, applyW_setH hd.1]
theorem putD_comm {s : List V} {a b : Option Nat} {x y : V} (h : ∀ d e, a = some d → b = some e → d ≠ e) : putD (putD s a x) b y = putD (putD s b y) a x := by
  cases a with
  | none => rfl
  | some d => cases b with
    | none => rfl
    | some e => exact setS_comm (h d e rfl rfl)
theorem AgS.put {s : List V} {d : Option Nat} {v : V} {l : List Nat} (h : ∀ x, d = some x → x ∉ l) : AgS s (putD s d v) l := by
  intro t ht
  cases d with
  | none => rfl
  | some d =>
    simp only [putD]
    rw [getS_setS, if_neg]
    rintro ⟨rfl, _⟩
    exact h t rfl ht
theorem AgS.symm {s s' : List V} {l : List Nat} (h : AgS s s' l) : AgS s' s l := fun t ht => (h t ht).symm
theorem AgH.symm {s s' : List Obj} {l : List Nat} (h : AgH s s' l) : AgH s' s l := fun t ht => (h t ht).symm

theorem apartS_spec {a b : AOper} (h : apartS a b = true) : (∀ d, a.dst = some d → d ∉ b.tmps) ∧ (∀ d, b.dst = some d → d ∉ a.tmps) ∧ (∀ d e, a.dst = some d → b.dst = some e → d ≠ e) := by
  unfold apartS at h
  simp only [Bool.and_eq_true] at h
  obtain ⟨h1, h2⟩ := h
  refine ⟨fun d hd => ?_, fun d hd => ?_, fun d e hd he => ?_⟩
  · rw [hd] at h1
    simp only [Bool.and_eq_true, Bool.not_eq_true'] at h1
    intro hm; rw [memN_iff.2 hm] at h1; cases h1.1
  · rw [hd] at h2
    simp only [Bool.not_eq_true'] at h2
    intro hm; rw [memN_iff.2 hm] at h2; cases h2
  · rw [hd, he] at h1
    simp only [Bool.and_eq_true, Bool.not_eq_true'] at h1
    intro hm; subst hm
    have := h1.2
    simp at this

/-- ONE OPERATION: what it writes, and that it depends on no more than it says. -/
theorem evO_inv {r : Rec} {rb : Nat} {o : AOper} {s : List V} {h : List Obj} {st1 : St} {f : Foot} (e : evO r rb o ⟨s, h⟩ = some (st1, f)) :
    ∃ v, (∃ wr : Wr, st1 = ⟨putD s o.dst v, applyW h wr⟩ ∧ f.w = wr.map (·.1) ∧ f.all = none ∧
        ∀ s' h', AgS s s' o.tmps → AgH h h' f.r → (∀ x ∈ f.w, isHole h x = true → isHole h' x = true) → evO r rb o ⟨s', h'⟩ = some (⟨putD s' o.dst v, applyW h' wr⟩, f)) ∨
      (∃ h1, f = ⟨[], [], some (sameO h h1)⟩ ∧ st1 = ⟨putD s o.dst v, h1⟩ ∧ ∀ s', AgS s s' o.tmps → evO r rb o ⟨s', h⟩ = some (⟨putD s' o.dst v, h1⟩, f)) := by
  obtain ⟨dst, op, guard, rid⟩ := o
  cases hw : wantedA s guard with
  | none => simp only [evO, hw] at e; cases e
  | some b =>
    cases b with
    | false =>
      simp only [evO, hw] at e; cases e
      refine ⟨skipV, .inl ⟨[], rfl, rfl, rfl, fun s' h' hs _ _ => ?_⟩⟩
      have hw' : wantedA s' guard = some false := by rw [wanted_slots (AgS.right hs)]; exact hw
      simp only [evO, hw']; rfl
    | true =>
      by_cases hcall : op.isCall = false
      · rw [evO_eq hcall] at e
        simp only [evO0, hw] at e
        cases ho : opEv (rb + rid) s h op with
        | none => rw [ho] at e; cases e
        | some z =>
          obtain ⟨v, wr⟩ := z
          rw [ho] at e
          cases e
          refine ⟨v, .inl ⟨wr, rfl, rfl, rfl, fun s' h' hs hh hl => ?_⟩⟩
          have hs1 : AgS s s' op.tmps := AgS.left hs
          have hw' : wantedA s' guard = some true := by rw [wanted_slots (AgS.right hs)]; exact hw
          rw [evO_eq hcall]
          have h1 : opEv (rb + rid) s' h' op = some (v, wr) := by
            rw [opEv_slots hs1]
            exact opEv_heap hh (fun hm => hl _ hm) ho
          simp only [evO0, hw', h1, readsOf_slots hs1]
      · cases op <;> try (exact (hcall rfl).elim)
        case call f p args =>
          cases p with
          | true =>
            simp only [evO, hw] at e
            cases ha : toArgs h (args.map (·.ev s)) with
            | none => rw [ha] at e; cases e
            | some as =>
              rw [ha] at e
              simp only at e
              cases hr : r (.p f as) with
              | none => rw [hr] at e; cases e
              | some z =>
                rw [hr] at e
                cases e
                refine ⟨z.1, .inl ⟨[], rfl, rfl, rfl, fun s' h' hs hh _ => ?_⟩⟩
                have hs1 : AgS s s' (AOp.call f true args).tmps := AgS.left hs
                have hw' : wantedA s' guard = some true := by rw [wanted_slots (AgS.right hs)]; exact hw
                have h1 : toArgs h' (args.map (·.ev s')) = some as := by
                  rw [AgS.map hs1, ← ha]
                  exact toArgs_heap hh
                simp only [evO, hw', h1, hr, readsOf_slots hs1]
                rfl
          | false =>
            simp only [evO, hw] at e
            cases hr : r (.f f (args.map (·.ev s)) h) with
            | none => rw [hr] at e; cases e
            | some z =>
              rw [hr] at e
              cases e
              refine ⟨z.1, .inr ⟨z.2, rfl, rfl, fun s' hs => ?_⟩⟩
              have hs1 : AgS s s' (AOp.call f false args).tmps := AgS.left hs
              have hw' : wantedA s' guard = some true := by rw [wanted_slots (AgS.right hs)]; exact hw
              simp only [evO, hw', AgS.map hs1, hr]
        case callv f args =>
          simp only [evO, hw] at e
          cases hr : callV r (f.ev s) (args.map (·.ev s)) h with
          | none => rw [hr] at e; cases e
          | some z =>
            rw [hr] at e
            cases e
            refine ⟨z.1, .inr ⟨z.2, rfl, rfl, fun s' hs => ?_⟩⟩
            have hs1 : AgS s s' (AOp.callv f args).tmps := AgS.left hs
            have hw' : wantedA s' guard = some true := by rw [wanted_slots (AgS.right hs)]; exact hw
            simp only [evO, hw', AgS.ev hs1.left, AgS.map hs1.right, hr]

theorem allN_iff {s : Nat → Bool} : ∀ {l : List Nat}, allN s l = true ↔ ∀ x ∈ l, s x = true
  | [] => by simp [allN]
  | x :: l => by simp [allN, allN_iff (l := l)]
theorem sameO_iff {h h' : List Obj} {o : Nat} : sameO h h' o = true ↔ getH h' o = getH h o := by simp [sameO]

/-- TWO OPERATIONS APART leave the same in either order. -/
theorem evO_swap {r : Rec} {rb : Nat} {a b : AOper} {st st1 st2 : St} {fa fb : Foot} (ea : evO r rb a st = some (st1, fa)) (eb : evO r rb b st1 = some (st2, fb)) (hs : apartS a b = true) (hf : fa.apart fb = true) :
    ∃ st1', evO r rb b st = some (st1', fb) ∧ evO r rb a st1' = some (st2, fa) := by
  obtain ⟨s, h⟩ := st
  obtain ⟨h1, h2, h3⟩ := apartS_spec hs
  obtain ⟨va, ha⟩ := evO_inv ea
  unfold Foot.apart at hf
  rcases ha with ⟨wa, rfl, ha1, ha2, ha3⟩ | ⟨h', rfl, rfl, ha3⟩
  · obtain ⟨vb, hb⟩ := evO_inv eb
    rcases hb with ⟨wb, rfl, hb1, hb2, hb3⟩ | ⟨h', rfl, rfl, hb3⟩
    · rw [ha2, hb2] at hf
      simp only [Bool.and_eq_true, disj_iff] at hf
      obtain ⟨⟨d1, d2⟩, d3⟩ := hf
      rw [ha1] at d1 d2
      rw [hb1] at d1 d3
      refine ⟨_, hb3 s h (AgS.symm (AgS.put h1)) (fun o ho => (getH_applyW (fun hm => d2 o hm ho)).symm) (fun x hx hh => ?_), ?_⟩
      · rw [isHole_applyW] at hh
        · exact hh
        · intro hm; rw [hb1] at hx; exact d1 x hm hx
      · rw [ha3 _ _ (AgS.put h2) (fun o ho => getH_applyW (fun hm => d3 o ho hm)) (fun x hx hh => ?_)]
        · rw [putD_comm h3, applyW_comm d1]
        · rw [isHole_applyW]
          · exact hh
          · intro hm; rw [ha1] at hx; exact d1 x hx hm
    · rw [ha2] at hf
      simp only [Bool.and_eq_true, List.isEmpty_iff, allN_iff, sameO_iff] at hf
      have hwa : wa = [] := by
        have := hf.1; rw [ha1] at this; exact List.map_eq_nil_iff.1 this
      subst hwa
      refine ⟨_, hb3 s (AgS.symm (AgS.put h1)), ?_⟩
      have e := ha3 _ h' (AgS.put (d := b.dst) (v := vb) h2) (fun o ho => hf.2 o ho) (by rw [hf.1]; intro o ho; cases ho)
      rw [e, putD_comm h3]; rfl
  · obtain ⟨vb, hb⟩ := evO_inv eb
    rcases hb with ⟨wb, rfl, hb1, hb2, hb3⟩ | ⟨_, rfl, _, _⟩
    · rw [hb2] at hf
      simp only [Bool.and_eq_true, List.isEmpty_iff, allN_iff, sameO_iff] at hf
      have hwb : wb = [] := by
        have := hf.1; rw [hb1] at this; exact List.map_eq_nil_iff.1 this
      subst hwb
      refine ⟨_, hb3 s h (AgS.symm (AgS.put h1)) (fun o ho => (hf.2 o ho).symm) (by rw [hf.1]; intro o ho; cases ho), ?_⟩
      have := ha3 _ (AgS.put (d := b.dst) (v := vb) h2)
      rw [show applyW h [] = h from rfl, this, putD_comm h3]; rfl
    · exact absurd hf (by simp)

/-! ### orders -/

/-- the operations of a list of numbers, one after the other -/
def ExL (r : Rec) (rb : Nat) (ops : List AOper) (F : Nat → Foot) : List Nat → St → St → Prop
  | [], st, st' => st' = st
  | i :: L, st, st' => ∃ o st1, nth ops i = some o ∧ evO r rb o st = some (st1, F i) ∧ ExL r rb ops F L st1 st'

theorem ExL.append {r : Rec} {rb : Nat} {ops : List AOper} {F : Nat → Foot} : ∀ {A B : List Nat} {st st' : St}, ExL r rb ops F (A ++ B) st st' ↔ ∃ st1, ExL r rb ops F A st st1 ∧ ExL r rb ops F B st1 st'
  | [], B, st, st' => by simp [ExL]
  | a :: A, B, st, st' => by
    simp only [List.cons_append, ExL, ExL.append (A := A)]
    constructor
    · rintro ⟨o, s1, h1, h2, s2, h3, h4⟩; exact ⟨s2, ⟨o, s1, h1, h2, h3⟩, h4⟩
    · rintro ⟨s2, ⟨o, s1, h1, h2, h3⟩, h4⟩; exact ⟨o, s1, h1, h2, s2, h3, h4⟩

/-- two operations may change places -/
def Apart (ops : List AOper) (F : Nat → Foot) (i j : Nat) : Prop := ∀ a b, nth ops i = some a → nth ops j = some b → apartS a b = true ∧ (F i).apart (F j) = true

theorem ExL.front {r : Rec} {rb : Nat} {ops : List AOper} {F : Nat → Foot} {i : Nat} {B : List Nat} : ∀ {A : List Nat} {st st' : St}, (∀ j ∈ A, Apart ops F j i) → ExL r rb ops F (A ++ i :: B) st st' → ExL r rb ops F (i :: (A ++ B)) st st'
  | [], _, _, _, h => h
  | j :: A, st, st', hA, h => by
    obtain ⟨o, st1, h1, h2, h3⟩ := h
    have h4 := ExL.front (A := A) (fun k hk => hA k (List.mem_cons_of_mem _ hk)) h3
    obtain ⟨oi, st2, g1, g2, g3⟩ := h4
    obtain ⟨q1, q2⟩ := hA j (List.mem_cons_self ..) o oi h1 g1
    obtain ⟨st1', e1, e2⟩ := evO_swap h2 g2 q1 q2
    exact ⟨oi, st1', g1, e1, o, st2, h1, e2, g3⟩

/-- text order -/
theorem ExL.of_evOs {r : Rec} {rb : Nat} {ops : List AOper} : ∀ {os : List AOper} {i : Nat} {st : St} {fs : List (Nat × Foot)} {st' : St} {fs' : List (Nat × Foot)}, (∀ j o, nth os j = some o → nth ops (i + j) = some o) → evOs r rb i os st fs = some (st', fs') →
    ExL r rb ops (footAt fs') (List.range' i os.length) st st' ∧ ∀ j, j < i → footAt fs' j = footAt fs j
  | [], i, st, fs, st', fs', _, e => by cases e; exact ⟨rfl, fun _ _ => rfl⟩
  | o :: os, i, st, fs, st', fs', hn, e => by
    unfold evOs at e
    cases ho : evO r rb o st with
    | none => rw [ho] at e; cases e
    | some z =>
      obtain ⟨st1, f⟩ := z
      rw [ho] at e
      simp only at e
      obtain ⟨h1, h2⟩ := ExL.of_evOs (ops := ops) (i := i + 1) (fun j o hj => by have := hn (j + 1) o hj; rwa [show i + (j + 1) = i + 1 + j by omega] at this) e
      have hi : footAt fs' i = f := by rw [h2 i (by omega)]; simp [footAt]
      refine ⟨?_, fun j hj => ?_⟩
      · rw [List.length_cons, List.range'_succ]
        exact ⟨o, st1, hn 0 o rfl, by rw [hi]; exact ho, h1⟩
      · rw [h2 j (by omega)]
        simp only [footAt]
        rw [if_neg]
        simp; omega

theorem pairsOk_spec {fs : List (Nat × Foot)} : ∀ {ps : List (Nat × Nat)}, pairsOk fs ps = true → ∀ p ∈ ps, (footAt fs p.1).apart (footAt fs p.2) = true
  | [], _, p, hp => by cases hp
  | (i, j) :: ps, h, p, hp => by
    simp only [pairsOk, Bool.and_eq_true] at h
    rcases List.mem_cons.1 hp with rfl | hp
    · exact h.1
    · exact pairsOk_spec h.2 p hp
end Am
/-
  AM18: EVERY ORDER that the model may draw.
-/
namespace Am
open Go
set_option linter.unusedVariables false
set_option linter.unusedSimpArgs false

inductive Path (ops : Array Oper) : Nat → Nat → Prop where
  | edge {x : Nat} {o : Oper} {e : Edge} (ho : ops[x]? = some o) (he : e ∈ o.after) (hb : Region.binds .any e = true) : Path ops x e.on
  | trans {x y : Nat} {o : Oper} {e : Edge} (ho : ops[x]? = some o) (he : e ∈ o.after) (hb : Region.binds .any e = true) (hp : Path ops e.on y) : Path ops x y

theorem mask_spec (acc : Array Nat) : ∀ (l : List Edge) (s y : Nat), (l.foldl (fun s e => if Region.binds .any e then s ||| 2 ^ e.on ||| acc.getD e.on 0 else s) s).testBit y = true →
    s.testBit y = true ∨ ∃ e ∈ l, Region.binds .any e = true ∧ (e.on = y ∨ (acc.getD e.on 0).testBit y = true)
  | [], s, y, h => .inl h
  | e :: l, s, y, h => by
    rw [List.foldl_cons] at h
    rcases mask_spec acc l _ y h with h | ⟨e', h1, h2, h3⟩
    · by_cases hb : Region.binds .any e = true
      · rw [if_pos hb, Nat.testBit_or, Nat.testBit_or, Bool.or_eq_true, Bool.or_eq_true, Nat.testBit_two_pow, decide_eq_true_eq] at h
        rcases h with (h | h) | h
        · exact .inl h
        · exact .inr ⟨e, List.mem_cons_self .., hb, .inl h⟩
        · exact .inr ⟨e, List.mem_cons_self .., hb, .inr h⟩
      · rw [if_neg hb] at h; exact .inl h
    · exact .inr ⟨e', List.mem_cons_of_mem _ h1, h2, h3⟩

theorem before_spec (ops : Array Oper) : ∀ x y, ((Region.before ops).getD x 0).testBit y = true → Path ops x y := by
  have key : (Region.before ops).size = ops.size ∧ ∀ x y, ((Region.before ops).getD x 0).testBit y = true → Path ops x y := by
    unfold Region.before
    refine Array.foldl_induction (fun i (acc : Array Nat) => acc.size = i ∧ ∀ x y, (acc.getD x 0).testBit y = true → Path ops x y) ⟨rfl, fun x y h => by simp at h⟩ (fun i acc ih => ?_)
    obtain ⟨h1, h2⟩ := ih
    refine ⟨by simp [h1], fun x y h => ?_⟩
    have hi : ops[i.1]? = some ops[i] := by simp
    rw [Array.getD_eq_getD_getElem?, Array.getElem?_push] at h
    by_cases hx : x = acc.size
    · rw [if_pos hx] at h
      simp only [Option.getD_some] at h
      rw [← Array.foldl_toList] at h
      rcases mask_spec acc _ _ y h with h | ⟨e, h3, h4, h5⟩
      · simp at h
      · have hxi : x = i.1 := by omega
        subst hxi
        rcases h5 with rfl | h5
        · exact .edge hi (by simpa using h3) h4
        · exact .trans hi (by simpa using h3) h4 (h2 _ _ h5)
    · rw [if_neg hx, ← Array.getD_eq_getD_getElem?] at h
      exact h2 x y h
  exact key.2

/-- what is listed waits for nothing that is not -/
def Closed (ops : Array Oper) (listed : Array Bool) : Prop := ∀ x o, listed.getD x false = true → ops[x]? = some o → ∀ e ∈ o.after, Region.binds .any e = true → listed.getD e.on false = true

theorem Closed.path {ops : Array Oper} {listed : Array Bool} (hc : Closed ops listed) {x y : Nat} (hp : Path ops x y) : listed.getD x false = true → listed.getD y false = true := by
  induction hp with
  | edge ho he hb => exact fun h => hc _ _ h ho _ he hb
  | trans ho he hb _ ih => exact fun h => ih (hc _ _ h ho _ he hb)

/-- the operations that are not listed yet -/
def left (n : Nat) (listed : Array Bool) : List Nat := (List.range n).filter fun i => !listed.getD i true

theorem left_sorted (n : Nat) (listed : Array Bool) : (left n listed).Pairwise (· < ·) := List.Pairwise.filter _ (List.pairwise_lt_range ..)

theorem any_order {r : Rec} {rb : Nat} {aops : List AOper} {ops : Array Oper} {F : Nat → Foot} (hed : edgesOk ops = true) (hap : ∀ p ∈ openPairs ops, Apart aops F p.1 p.2) :
    ∀ (fuel t : Nat) (listed : Array Bool) (st st' : St), listed.size = ops.size → Closed ops listed → (left ops.size listed).length ≤ fuel → ExL r rb aops F (left ops.size listed) st st' →
      ExL r rb aops F (Region.linearise.go .any ops fuel t listed []) st st' := by
  intro fuel
  induction fuel with
  | zero =>
    intro t listed st st' _ _ hl h
    have : left ops.size listed = [] := List.eq_nil_of_length_eq_zero (by omega)
    rw [this] at h
    exact h
  | succ fuel ih =>
    intro t listed st st' hsz hcl hl h
    simp only [Region.linearise.go]
    change ExL r rb aops F (match (Region.ready .any ops listed)[t % (Region.ready .any ops listed).length]? with
      | some i => Region.linearise.go .any ops fuel (t / (Region.ready .any ops listed).length) (listed.setIfInBounds i true) [i]
      | none => [].reverse) st st'
    cases hi : (Region.ready .any ops listed)[t % (Region.ready .any ops listed).length]? with
    | none =>
      have hnil : Region.ready .any ops listed = [] := by
        cases hr : Region.ready .any ops listed with
        | nil => rfl
        | cons x xs =>
          rw [hr] at hi
          have hlt : t % (x :: xs).length < (x :: xs).length := Nat.mod_lt _ (by simp)
          simp at hi
          simp at hlt
          omega
      have hL : left ops.size listed = [] := by
        cases hL : left ops.size listed with
        | nil => rfl
        | cons i L =>
          have him : i ∈ left ops.size listed := by rw [hL]; exact List.mem_cons_self ..
          have hsort := left_sorted ops.size listed
          rw [hL] at hsort
          obtain ⟨h1, h2⟩ := List.mem_filter.1 him
          have hlt := List.mem_range.1 h1
          have hmem : i ∈ Region.ready .any ops listed := by
            rw [mem_ready]
            have ho : ops[i]? = some ops[i] := Array.getElem?_eq_getElem hlt
            refine ⟨by simpa using h2, _, ho, fun e he hb => ?_⟩
            have hbelow : e.on < i := by
              unfold edgesOk at hed
              have := List.all_eq_true.1 hed i h1
              rw [ho] at this
              simp only [Array.all_eq_true_iff_forall_mem] at this
              have := this e he
              rw [hb] at this
              simpa [Nat.blt_eq] using this
            cases hq : listed.getD e.on false with
            | true => rfl
            | false =>
              have hlt2 : e.on < listed.size := by omega
              have hq2 : listed.getD e.on true = false := by
                rw [Array.getD, dif_pos hlt2] at hq
                rw [Array.getD, dif_pos hlt2]
                exact hq
              have hm : e.on ∈ left ops.size listed := List.mem_filter.2 ⟨List.mem_range.2 (by omega), by rw [hq2]; rfl⟩
              rw [hL] at hm
              rcases List.mem_cons.1 hm with hm | hm
              · omega
              · have := (List.pairwise_cons.1 hsort).1 _ hm; omega
          rw [hnil] at hmem; cases hmem
      rw [hL] at h
      exact h
    | some i =>
      have himem := List.mem_of_getElem? hi
      obtain ⟨hun, o, ho, hall⟩ := mem_ready.1 himem
      have hlt : i < ops.size := (Array.getElem?_eq_some_iff.1 ho).1
      have hL : i ∈ left ops.size listed := List.mem_filter.2 ⟨List.mem_range.2 hlt, by simpa using hun⟩
      obtain ⟨A, B, hAB⟩ := List.append_of_mem hL
      have hsort := left_sorted ops.size listed
      rw [hAB] at hsort h
      have hA : ∀ j ∈ A, j < i := fun j hj => (List.pairwise_append.1 hsort).2.2 j hj i (List.mem_cons_self ..)
      have hB : ∀ j ∈ B, i < j := fun j hj => (List.pairwise_cons.1 (List.pairwise_append.1 hsort).2.1).1 j hj
      have hAun : ∀ j ∈ A, listed.getD j true = false := fun j hj => by
        have hm : j ∈ left ops.size listed := by rw [hAB]; exact List.mem_append_left _ hj
        simpa using (List.mem_filter.1 hm).2
      have hf := ExL.front (fun j hj => hap (j, i) (by
        unfold openPairs
        refine List.mem_flatMap.2 ⟨i, List.mem_range.2 hlt, List.mem_filterMap.2 ⟨j, List.mem_range.2 (hA j hj), ?_⟩⟩
        rw [if_neg]
        intro hbit
        have hp := before_spec ops i j hbit
        have hlj : listed.getD j false = true := by
          cases hp with
          | edge ho' he hb => rw [ho] at ho'; cases ho'; exact hall _ he hb
          | trans ho' he hb hp => rw [ho] at ho'; cases ho'; exact hcl.path hp (hall _ he hb)
        have h1 := hAun j hj
        have hjs : j < listed.size := by have := hA j hj; omega
        rw [Array.getD, dif_pos hjs] at hlj h1
        rw [hlj] at h1; cases h1)) h
      obtain ⟨oi, st1, g1, g2, g3⟩ := hf
      have hleft : left ops.size (listed.setIfInBounds i true) = A ++ B := by
        have e1 : left ops.size (listed.setIfInBounds i true) = (left ops.size listed).filter (fun j => decide (j ≠ i)) := by
          unfold left
          rw [List.filter_filter]
          apply List.filter_congr
          intro j hj
          by_cases hji : j = i
          · subst hji
            have : (listed.setIfInBounds j true).getD j true = true := by
              have : j < listed.size := by omega
              simp [this]
            rw [this]; simp
          · rw [getD_set_ne true (fun e => hji e.symm)]; simp [hji]
        rw [e1, hAB, List.filter_append, List.filter_cons]
        simp only [ne_eq, not_true_eq_false, decide_false, Bool.false_eq_true, if_false]
        rw [List.filter_eq_self.2 (fun j hj => by have := hA j hj; simp; omega), List.filter_eq_self.2 (fun j hj => by have := hB j hj; simp; omega)]
      have hrec := ih (t / (Region.ready .any ops listed).length) (listed.setIfInBounds i true) st1 st' (by simp [hsz]) (fun x o' hx ho' e he hb => by
          by_cases hxi : i = x
          · subst hxi
            rw [ho] at ho'; cases ho'
            exact getD_set_true (hall e he hb)
          · rw [getD_set_ne false hxi] at hx
            exact getD_set_true (hcl x o' hx ho' e he hb)) (by rw [hleft]; have := congrArg List.length hAB; simp at this ⊢; omega) (by rw [hleft]; exact g3)
      simp only []
      rw [linearise_go_acc, List.reverse_singleton, List.singleton_append]
      exact ⟨oi, st1, g1, g2, hrec⟩

theorem left_all (n : Nat) : left n (Array.replicate n false) = List.range n := by
  unfold left
  refine List.filter_eq_self.2 fun i hi => ?_
  have := List.mem_range.1 hi
  simp [this]

/-- A REGION, in each order that may be drawn. -/
theorem drawn_order {r : Rec} {rb : Nat} {aops : List AOper} {ops : Array Oper} {st st' : St} {fs : List (Nat × Foot)} (hlen : aops.length = ops.size) (hed : edgesOk ops = true) (hap : (openPairs ops).all (apartAt aops) = true) (hpo : pairsOk fs (openPairs ops) = true)
    (he : evOs r rb 0 aops st [] = some (st', fs)) (t : Nat) : ExL r rb aops (footAt fs) (Region.linearise .any ops t) st st' := by
  unfold Region.linearise
  refine any_order hed (fun p hp a b ha hb => ⟨?_, pairsOk_spec hpo p hp⟩) _ _ _ _ _ (by simp) (fun x o hx => by
    rw [Array.getD_eq_getD_getElem?, Array.getElem?_replicate] at hx
    split at hx <;> simp at hx) (by rw [left_all]; simp) ?_
  · have := List.all_eq_true.1 hap p hp
    unfold apartAt at this
    rw [ha, hb] at this
    exact this
  · rw [left_all, ← hlen, List.range_eq_range']
    exact (ExL.of_evOs (fun j o h => by rwa [Nat.zero_add]) he).1
theorem text_order {r : Rec} {rb : Nat} {aops : List AOper} {n : Nat} {st st' : St} {fs : List (Nat × Foot)} (hlen : aops.length = n) (he : evOs r rb 0 aops st [] = some (st', fs)) : ExL r rb aops (footAt fs) (List.range n) st st' := by
  rw [← hlen, List.range_eq_range']
  exact (ExL.of_evOs (fun j o h => by rwa [Nat.zero_add]) he).1
end Am
