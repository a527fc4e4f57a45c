/-
  A part of the proof: the texts G1, G2 of this seat, joined.
-/
import Derived.Test.YtiblicjmmippnaaWalkG2
import Derived.Test.YtiblicjmmippnaaWalkH
namespace Am.Cr
open Go Am
set_option maxRecDepth 100000
set_option maxHeartbeats 4000000
set_option linter.unusedSimpArgs false
set_option linter.unusedVariables false
/-! lists in lexicographic order -/
def lexB : List Int → List Int → Bool
  | [], [] => false
  | [], _ :: _ => true
  | _ :: _, [] => false
  | a :: as, b :: bs => if a = b then lexB as bs else decide (a < b)
theorem lex_irr : ∀ {a : List Int}, lexB a a = false
  | [] => rfl
  | a :: as => by simp [lexB, lex_irr (a := as)]
theorem lex_tri : ∀ {a b : List Int}, lexB a b = true ∨ a = b ∨ lexB b a = true
  | [], [] => .inr (.inl rfl)
  | [], _ :: _ => .inl rfl
  | _ :: _, [] => .inr (.inr rfl)
  | a :: as, b :: bs => by
    simp only [lexB]
    by_cases h : a = b
    · subst h
      rcases lex_tri (a := as) (b := bs) with h | h | h
      · exact .inl (by simp [h])
      · exact .inr (.inl (by rw [h]))
      · exact .inr (.inr (by simp [h]))
    · by_cases h2 : a < b
      · exact .inl (by simp [h, h2])
      · exact .inr (.inr (by rw [if_neg (fun e => h e.symm)]; simp; omega))
theorem lex_trans : ∀ {a b c : List Int}, lexB a b = true → lexB b c = true → lexB a c = true
  | [], [], _, h, _ => by cases h
  | [], _ :: _, [], _, h => by cases h
  | [], _ :: _, _ :: _, _, _ => rfl
  | _ :: _, [], _, h, _ => by cases h
  | _ :: _, _ :: _, [], _, h => by cases h
  | a :: as, b :: bs, c :: cs, h1, h2 => by
    simp only [lexB] at h1 h2 ⊢
    by_cases e1 : a = b
    · subst e1
      rw [if_pos rfl] at h1
      by_cases e2 : a = c
      · subst e2
        rw [if_pos rfl] at h2 ⊢
        exact lex_trans h1 h2
      · rw [if_neg e2] at h2 ⊢; exact h2
    · rw [if_neg e1] at h1
      have h1 := of_decide_eq_true h1
      by_cases e2 : b = c
      · subst e2
        rw [if_neg e1]; exact decide_eq_true h1
      · rw [if_neg e2] at h2
        have h2 := of_decide_eq_true h2
        rw [if_neg (by omega)]; exact decide_eq_true (by omega)
theorem lex_asym {a b : List Int} (h : lexB a b = true) : ¬ lexB b a = true := fun h' => by
  have := lex_trans h h'; rw [lex_irr] at this; cases this
theorem lex_pre : ∀ {l a b : List Int}, lexB (l ++ a) (l ++ b) = lexB a b
  | [], _, _ => rfl
  | x :: l, a, b => by simp [lexB, lex_pre (l := l)]
theorem lex_drop {a b : List Int} : ∀ {k : Nat}, k ≤ a.length → k ≤ b.length → (∀ i, i < k → a.getD i default = b.getD i default) → lexB a b = lexB (a.drop k) (b.drop k)
  | 0, _, _, _ => rfl
  | k + 1, h1, h2, h => by
    rw [lex_drop (k := k) (by omega) (by omega) fun i hi => h i (by omega)]
    have e1 : a.drop k = a.getD k default :: a.drop (k + 1) := by rw [List.drop_eq_getElem_cons (by omega), getD_lt _ _ _ (by omega)]
    have e2 : b.drop k = b.getD k default :: b.drop (k + 1) := by rw [List.drop_eq_getElem_cons (by omega), getD_lt _ _ _ (by omega)]
    rw [e1, e2, lexB, if_pos (h k (by omega))]
/-- shorter, or as long and before -/
def shB (a b : List Int) : Bool := decide (a.length < b.length) || (decide (a.length = b.length) && lexB a b)
theorem sh_iff {a b : List Int} : shB a b = true ↔ a.length < b.length ∨ (a.length = b.length ∧ lexB a b = true) := by simp [shB]
theorem sh_irr {a : List Int} : shB a a = false := by simp [shB, lex_irr]
theorem sh_tri {a b : List Int} : shB a b = true ∨ a = b ∨ shB b a = true := by
  rw [sh_iff, sh_iff]
  by_cases h1 : a.length < b.length
  · exact .inl (.inl h1)
  · by_cases h2 : b.length < a.length
    · exact .inr (.inr (.inl h2))
    · have e : a.length = b.length := by omega
      rcases lex_tri (a := a) (b := b) with h | h | h
      · exact .inl (.inr ⟨e, h⟩)
      · exact .inr (.inl h)
      · exact .inr (.inr (.inr ⟨e.symm, h⟩))
theorem sh_trans {a b c : List Int} (h1 : shB a b = true) (h2 : shB b c = true) : shB a c = true := by
  rw [sh_iff] at *
  rcases h1 with h1 | ⟨e1, h1⟩ <;> rcases h2 with h2 | ⟨e2, h2⟩
  · exact .inl (by omega)
  · exact .inl (by omega)
  · exact .inl (by omega)
  · exact .inr ⟨by omega, lex_trans h1 h2⟩
theorem sh_asym {a b : List Int} (h : shB a b = true) : ¬ shB b a = true := fun h' => by
  have := sh_trans h h'; rw [sh_irr] at this; cases this
theorem upTo_mem {a b x : Int} : x ∈ upTo a b ↔ a ≤ x ∧ x ≤ b := by
  simp only [upTo, List.mem_map, List.mem_range]
  constructor
  · rintro ⟨k, hk, rfl⟩; omega
  · rintro ⟨h1, h2⟩; exact ⟨(x - a).toNat, by omega, by omega⟩
theorem upTo_sorted {a b : Int} : (upTo a b).Pairwise (· < ·) := by
  unfold upTo
  rw [List.pairwise_map]
  exact (List.pairwise_lt_range (n := (b + 1 - a).toNat)).imp fun h => by omega
theorem combL_mem {n : Int} : ∀ {m : Nat} {w : List Int} {fr : Int} {x : List Int}, x ∈ combL n m w fr ↔ ∃ s : List Int, x = w ++ s ∧ s.length = m ∧ s.Pairwise (· < ·) ∧ ∀ y ∈ s, fr ≤ y ∧ y < n
  | 0, w, fr, x => by
    simp only [combL, List.mem_singleton]
    constructor
    · rintro rfl; exact ⟨[], by simp⟩
    · rintro ⟨s, rfl, hs, _⟩
      rw [List.length_eq_zero_iff.1 hs, List.append_nil]
  | m + 1, w, fr, x => by
    simp only [combL, List.mem_flatMap, upTo_mem]
    constructor
    · rintro ⟨y, ⟨hy1, hy2⟩, hx⟩
      obtain ⟨s, rfl, hs, hp, hm⟩ := (combL_mem (m := m)).1 hx
      refine ⟨y :: s, by simp, by simp [hs], ?_, ?_⟩
      · rw [List.pairwise_cons]; exact ⟨fun z hz => by have := hm z hz; omega, hp⟩
      · intro z hz
        rcases List.mem_cons.1 hz with rfl | hz
        · exact ⟨hy1, by omega⟩
        · have := hm z hz; omega
    · rintro ⟨s, rfl, hs, hp, hm⟩
      cases s with
      | nil => simp at hs
      | cons y s =>
        rw [List.pairwise_cons] at hp
        have hy := hm y (by simp)
        have hsl : s.length = m := by simpa using hs
        have key : ∀ (s : List Int) (y : Int), s.Pairwise (· < ·) → (∀ z ∈ s, y < z ∧ z < n) → y + s.length < n ∨ s = [] := by
          intro s
          induction s with
          | nil => intro y _ _; exact .inr rfl
          | cons z s ih =>
            intro y hp hz
            rw [List.pairwise_cons] at hp
            have h0 := hz z (by simp)
            rcases ih z hp.2 (fun u hu => ⟨hp.1 u hu, (hz u (by simp [hu])).2⟩) with h | h
            · left; simp only [List.length_cons]; omega
            · subst h; left; simp; omega
        refine ⟨y, ⟨hy.1, ?_⟩, (combL_mem (m := m)).2 ⟨s, by simp, hsl, hp.2, fun z hz => ?_⟩⟩
        · rcases key s y hp.2 (fun z hz => ⟨hp.1 z hz, (hm z (by simp [hz])).2⟩) with h | h
          · omega
          · subst h; simp at hsl; omega
        · have := hp.1 z hz
          have := hm z (by simp [hz]); omega
theorem combL_sorted {n : Int} : ∀ {m : Nat} {w : List Int} {fr : Int}, (combL n m w fr).Pairwise fun a b => lexB a b = true
  | 0, w, fr => by simp [combL]
  | m + 1, w, fr => by
    simp only [combL]
    rw [List.pairwise_flatMap]
    refine ⟨fun y _ => combL_sorted, ?_⟩
    refine upTo_sorted.imp ?_
    intro y y' hyy x hx x' hx'
    obtain ⟨s, rfl, _⟩ := combL_mem.1 hx
    obtain ⟨s', rfl, _⟩ := combL_mem.1 hx'
    rw [List.append_assoc, List.append_assoc, lex_pre]
    simp only [List.singleton_append, lexB]
    rw [if_neg (by omega)]; exact decide_eq_true hyy
theorem setsL_mem {n : Nat} {x : List Int} : x ∈ setsL n ↔ x.Pairwise (· < ·) ∧ x.length ≤ n ∧ ∀ y ∈ x, 0 ≤ y ∧ y < n := by
  simp only [setsL, List.mem_flatMap, List.mem_range]
  constructor
  · rintro ⟨m, hm, hx⟩
    obtain ⟨s, rfl, hs, hp, hy⟩ := combL_mem.1 hx
    exact ⟨hp, by omega, hy⟩
  · rintro ⟨hp, hl, hy⟩
    exact ⟨x.length, by omega, combL_mem.2 ⟨x, by simp, rfl, hp, hy⟩⟩
theorem setsL_sorted {n : Nat} : (setsL n).Pairwise fun a b => shB a b = true := by
  unfold setsL
  rw [List.pairwise_flatMap]
  constructor
  · intro m _
    refine List.Pairwise.imp_of_mem ?_ combL_sorted
    intro a b ha hb hab
    obtain ⟨s, rfl, hs, _⟩ := combL_mem.1 ha
    obtain ⟨s', rfl, hs', _⟩ := combL_mem.1 hb
    rw [sh_iff]; exact .inr ⟨by first | omega | (simp; omega), hab⟩
  · refine List.pairwise_lt_range.imp ?_
    intro m m' hmm a ha b hb
    obtain ⟨s, rfl, hs, _⟩ := combL_mem.1 ha
    obtain ⟨s', rfl, hs', _⟩ := combL_mem.1 hb
    rw [sh_iff]; exact .inl (by first | omega | (simp; omega))
theorem plansD_mem {last : Int} : ∀ {k : Nat} {l : List Int} {fr : Int} {x : List Int}, x ∈ plansD last k l fr ↔ ∃ s : List Int, x = l ++ s ∧ s.length ≤ k ∧ s.Pairwise (· < ·) ∧ ∀ y ∈ s, fr ≤ y ∧ y ≤ last
  | 0, l, fr, x => by
    simp only [plansD, List.mem_singleton]
    constructor
    · rintro rfl; exact ⟨[], by simp⟩
    · rintro ⟨s, rfl, hs, _⟩
      rw [List.length_eq_zero_iff.1 (by omega : s.length = 0), List.append_nil]
  | k + 1, l, fr, x => by
    simp only [plansD, List.mem_cons, List.mem_flatMap, upTo_mem]
    constructor
    · rintro (rfl | ⟨y, ⟨hy1, hy2⟩, hx⟩)
      · exact ⟨[], by simp⟩
      · obtain ⟨s, rfl, hs, hp, hm⟩ := (plansD_mem (k := k)).1 hx
        refine ⟨y :: s, by simp, by simp [hs], ?_, ?_⟩
        · rw [List.pairwise_cons]; exact ⟨fun z hz => by have := hm z hz; omega, hp⟩
        · intro z hz
          rcases List.mem_cons.1 hz with rfl | hz
          · exact ⟨hy1, hy2⟩
          · have := hm z hz; omega
    · rintro ⟨s, rfl, hs, hp, hm⟩
      cases s with
      | nil => left; simp
      | cons y s =>
        right
        rw [List.pairwise_cons] at hp
        refine ⟨y, hm y (by simp), (plansD_mem (k := k)).2 ⟨s, by simp, by simpa using hs, hp.2, fun z hz => ?_⟩⟩
        have h1 := hp.1 z hz
        have h2 := hm z (by simp [hz])
        omega
theorem plansD_sorted {last : Int} : ∀ {k : Nat} {l : List Int} {fr : Int}, (plansD last k l fr).Pairwise fun a b => lexB a b = true
  | 0, l, fr => by simp [plansD]
  | k + 1, l, fr => by
    simp only [plansD, List.pairwise_cons]
    constructor
    · intro x hx
      rw [List.mem_flatMap] at hx
      obtain ⟨y, _, hx⟩ := hx
      obtain ⟨s, rfl, _⟩ := plansD_mem.1 hx
      have := lex_pre (l := l) (a := []) (b := y :: s)
      rw [List.append_nil] at this
      rw [List.append_assoc]; exact this
    · rw [List.pairwise_flatMap]
      refine ⟨fun y _ => plansD_sorted, ?_⟩
      refine upTo_sorted.imp ?_
      intro y y' hyy x hx x' hx'
      obtain ⟨s, rfl, _⟩ := plansD_mem.1 hx
      obtain ⟨s', rfl, _⟩ := plansD_mem.1 hx'
      rw [List.append_assoc, List.append_assoc, lex_pre]
      simp only [List.singleton_append, lexB]
      rw [if_neg (by omega)]; exact decide_eq_true hyy
end Am.Cr
namespace Am.Cr
open Go Am
set_option maxRecDepth 100000
set_option maxHeartbeats 4000000
set_option linter.unusedSimpArgs false
set_option linter.unusedVariables false
variable {f : Field}
theorem sorted_ext : ∀ {a b : List Int}, a.Pairwise (· < ·) → b.Pairwise (· < ·) → (∀ x, x ∈ a ↔ x ∈ b) → a = b
  | [], [], _, _, _ => rfl
  | [], y :: b, _, _, h => by have := (h y).2 (by simp); cases this
  | x :: a, [], _, _, h => by have := (h x).1 (by simp); cases this
  | x :: a, y :: b, h1, h2, h => by
    rw [List.pairwise_cons] at h1 h2
    have e : x = y := by
      have hx := (h x).1 (by simp)
      have hy := (h y).2 (by simp)
      rcases List.mem_cons.1 hx with hx | hx
      · exact hx
      · rcases List.mem_cons.1 hy with hy | hy
        · exact hy.symm
        · have := h2.1 _ hx; have := h1.1 _ hy; omega
    subst e
    rw [sorted_ext h1.2 h2.2 fun z => ?_]
    constructor
    · intro hz
      rcases List.mem_cons.1 ((h z).1 (by simp [hz])) with h3 | h3
      · have := h1.1 _ hz; omega
      · exact h3
    · intro hz
      rcases List.mem_cons.1 ((h z).2 (by simp [hz])) with h3 | h3
      · have := h2.1 _ hz; omega
      · exact h3
theorem bitsF_mem {n i : Nat} : (i : Int) ∈ bitsF n ↔ i < 62 ∧ n.testBit i = true := by
  unfold bitsF bitsP
  simp only [List.mem_map, List.mem_filter, List.mem_range]
  constructor
  · rintro ⟨j, ⟨h1, h2⟩, e⟩
    have : j = i := Int.ofNat.inj e
    subst this; exact ⟨h1, h2⟩
  · rintro ⟨h1, h2⟩; exact ⟨i, ⟨h1, h2⟩, rfl⟩
theorem bitsF_sorted {n : Nat} : (bitsF n).Pairwise (· < ·) := bitsP_sorted
theorem lt_of_bit {n k i : Nat} (h : n < 2 ^ k) (hb : n.testBit i = true) : i < k := by
  by_cases hi : i < k
  · exact hi
  · rw [Nat.testBit_lt_two_pow (Nat.lt_of_lt_of_le h (Nat.pow_le_pow_right (by omega) (by omega)))] at hb; cases hb
/-- each increasing list is that of some bits -/
theorem bits_of {n : Nat} (h62 : n ≤ 62) {w : List Int} (hs : w.Pairwise (· < ·)) (hm : ∀ y ∈ w, 0 ≤ y ∧ y < n) : ∃ b, b < 2 ^ n ∧ bitsF b = w := by
  refine ⟨maskN (fun i => decide ((i : Int) ∈ w)) n, maskN_lt, sorted_ext bitsF_sorted hs fun x => ?_⟩
  constructor
  · intro h
    obtain ⟨i, rfl, _, _⟩ := bitsP_mem h
    rw [bitsF_mem, maskN_bit] at h
    have := h.2
    rw [Bool.and_eq_true] at this
    exact of_decide_eq_true this.2
  · intro h
    obtain ⟨h0, h1⟩ := hm x h
    obtain ⟨i, rfl⟩ : ∃ i : Nat, x = i := ⟨x.toNat, by omega⟩
    rw [bitsF_mem, maskN_bit]
    exact ⟨by omega, by simp [h]; omega⟩
theorem bitsF_in {n b : Nat} (hb : b < 2 ^ n) : ∀ y ∈ bitsF b, 0 ≤ y ∧ y < n := by
  intro y hy
  obtain ⟨i, rfl, _, h2⟩ := bitsP_mem hy
  have := lt_of_bit hb h2
  omega
theorem bitsF_len {n b : Nat} (h62 : n ≤ 62) (hb : b < 2 ^ n) : (bitsF b).length ≤ n := by
  have : bitsF b = bitsP b n := bitsP_end h62 hb
  rw [this]; exact bitsP_len
def canB (f : Field) (m : Nat) : Bool := (List.range (prodF f)).any fun n => decide (maskT f (nthT f n) &&& m = m)
theorem can_iff (hv : f.Valid) {m : Nat} (hm : m < 2 ^ f.looks.length) : canB f m = true ↔ ∃ t, IsT f t ∧ ∀ i, m.testBit i = true → rightB f t i = true := by
  have key : ∀ t, maskT f t &&& m = m ↔ ∀ i, m.testBit i = true → rightB f t i = true := by
    intro t
    constructor
    · intro h i hi
      have : (maskT f t &&& m).testBit i = true := by rw [h]; exact hi
      rw [Nat.testBit_and, maskT, maskN_bit, hi] at this
      simp at this; exact this.2
    · intro h
      refine Nat.eq_of_testBit_eq fun i => ?_
      rw [Nat.testBit_and, maskT, maskN_bit]
      cases hi : m.testBit i with
      | false => simp
      | true => simp [h i hi, lt_of_bit hm hi]
  simp only [canB, List.any_eq_true, List.mem_range, decide_eq_true_eq]
  constructor
  · rintro ⟨n, _, h⟩; exact ⟨nthT f n, nthT_isT hv, (key _).1 h⟩
  · rintro ⟨t, h1, h2⟩
    obtain ⟨n, hn, rfl⟩ := isT_nth hv h1
    exact ⟨n, hn, (key _).2 h2⟩
theorem rightL_iff {out : List Int} {t : Truth} : rightL f out (standing t.growth f.crops) = true ↔ ∀ i : Nat, i < f.looks.length → (i : Int) ∈ out ∨ rightB f t i = true := by
  simp only [rightL, List.all_eq_true, List.mem_range, rightAt, rightB, Bool.or_eq_true, decide_eq_true_eq, List.not_mem_nil, decide_false, Bool.false_or]
theorem pos_iff (hv : f.Valid) {out : List Int} : posB f out = true ↔ ∃ t, IsT f t ∧ ∀ i : Nat, i < f.looks.length → (i : Int) ∈ out ∨ rightB f t i = true := by
  have : posB f out = true ↔ ∃ t, t ∈ truthsL f out := by
    unfold posB
    cases truthsL f out with
    | nil => simp
    | cons t ts => simp
  rw [this]
  constructor
  · rintro ⟨t, h⟩
    rw [truthsL, List.mem_filter, mem_listsA hv, rightL_iff] at h
    exact ⟨t, h⟩
  · rintro ⟨t, h⟩
    refine ⟨t, ?_⟩
    rw [truthsL, List.mem_filter, mem_listsA hv, rightL_iff]
    exact h
/-! the smallest set -/
def LeaveOk (f : Field) (l : List Int) : Prop := l ∈ setsL f.looks.length ∧ posB f l = true ∧ ∀ w ∈ setsL f.looks.length, posB f w = true → w = l ∨ shB l w = true
theorem LeaveOk.uniq {a b : List Int} (h : LeaveOk f a) (h' : LeaveOk f b) : a = b := by
  rcases h.2.2 b h'.1 h'.2.1 with e | e
  · exact e.symm
  · rcases h'.2.2 a h.1 h.2.1 with e' | e'
    · exact e'
    · exact absurd e' (sh_asym e)
theorem lv_fold : ∀ {L : List (List Int)} {s : List Int}, (L.Pairwise fun a b => shB a b = true) → (∃ w ∈ L, posB f w = true) → (foldY (lvStep f) s L).1 ∈ L ∧ posB f (foldY (lvStep f) s L).1 = true ∧ ∀ w ∈ L, posB f w = true → w = (foldY (lvStep f) s L).1 ∨ shB (foldY (lvStep f) s L).1 w = true
  | [], s, _, h => by obtain ⟨w, hw, _⟩ := h; cases hw
  | x :: L, s, hp, h => by
    rw [List.pairwise_cons] at hp
    cases hx : posB f x with
    | true =>
      have e : foldY (lvStep f) s (x :: L) = (x, false) := by simp [foldY, lvStep, hx]
      rw [e]
      refine ⟨by simp, hx, fun w hw _ => ?_⟩
      rcases List.mem_cons.1 hw with rfl | hw
      · exact .inl rfl
      · exact .inr (hp.1 _ hw)
    | false =>
      have e : foldY (lvStep f) s (x :: L) = foldY (lvStep f) x L := by simp [foldY, lvStep, hx]
      rw [e]
      have hne : ∀ w, w ∈ x :: L → posB f w = true → w ∈ L := fun w hw hpw => by
        rcases List.mem_cons.1 hw with rfl | hw
        · rw [hx] at hpw; cases hpw
        · exact hw
      obtain ⟨a, b, c⟩ := lv_fold (s := x) hp.2 (by obtain ⟨w, hw, hpw⟩ := h; exact ⟨w, hne w hw hpw, hpw⟩)
      exact ⟨by simp [a], b, fun w hw hpw => c w (hne w hw hpw) hpw⟩
theorem leave_ok (hv : f.Valid) : LeaveOk f (leaveS f) := by
  refine lv_fold setsL_sorted ⟨bitsF (2 ^ f.looks.length - 1), ?_, ?_⟩
  · have v5 := hv.looks5
    have hb : 2 ^ f.looks.length - 1 < 2 ^ f.looks.length := by have : 1 ≤ 2 ^ f.looks.length := Nat.pow_pos (by omega); omega
    rw [setsL_mem]
    exact ⟨bitsF_sorted, bitsF_len (by omega) hb, bitsF_in hb⟩
  · have v5 := hv.looks5
    rw [pos_iff hv]
    refine ⟨nthT f 0, nthT_isT hv, fun i hi => .inl ?_⟩
    rw [bitsF_mem, Nat.testBit_two_pow_sub_one]
    exact ⟨by omega, by simp [hi]⟩
/-- the reference's search -/
def lvR (f : Field) : Nat → List Int
  | 0 => bitsF (2 ^ f.looks.length - 1)
  | k + 1 => if (shB (bitsF k) (lvR f k) && canB f (andn (2 ^ f.looks.length - 1) k)) = true then bitsF k else lvR f k
theorem can_pos (hv : f.Valid) {b : Nat} (hb : b < 2 ^ f.looks.length) : canB f (andn (2 ^ f.looks.length - 1) b) = true ↔ posB f (bitsF b) = true := by
  have v5 := hv.looks5
  have h1 : 1 ≤ 2 ^ f.looks.length := Nat.pow_pos (by omega)
  have h2 : 2 ^ f.looks.length ≤ 2 ^ 5 := Nat.pow_le_pow_right (by omega) v5
  have hle : andn (2 ^ f.looks.length - 1) b ≤ 2 ^ f.looks.length - 1 := andn_le
  have hbit : ∀ i, (andn (2 ^ f.looks.length - 1) b).testBit i = true ↔ i < f.looks.length ∧ ¬ b.testBit i = true := fun i => by
    rw [andn_bit (by omega) (by omega), Nat.testBit_two_pow_sub_one]; simp
  rw [can_iff hv (by omega), pos_iff hv]
  constructor
  · rintro ⟨t, h, h'⟩
    refine ⟨t, h, fun i hi => ?_⟩
    by_cases hbi : b.testBit i = true
    · left; rw [bitsF_mem]; exact ⟨by omega, hbi⟩
    · right; exact h' i ((hbit i).2 ⟨hi, hbi⟩)
  · rintro ⟨t, h, h'⟩
    refine ⟨t, h, fun i hi => ?_⟩
    obtain ⟨hi, hbi⟩ := (hbit i).1 hi
    rcases h' i hi with h3 | h3
    · rw [bitsF_mem] at h3; exact absurd h3.2 hbi
    · exact h3
theorem lvR_ok (hv : f.Valid) : ∀ {k : Nat}, k ≤ 2 ^ f.looks.length → lvR f k ∈ setsL f.looks.length ∧ posB f (lvR f k) = true ∧ ∀ b, b < k → posB f (bitsF b) = true → bitsF b = lvR f k ∨ shB (lvR f k) (bitsF b) = true
  | 0, _ => by
    have v5 := hv.looks5
    have hb : 2 ^ f.looks.length - 1 < 2 ^ f.looks.length := by have : 1 ≤ 2 ^ f.looks.length := Nat.pow_pos (by omega); omega
    refine ⟨?_, ?_, fun b hb => by omega⟩
    · rw [setsL_mem]
      exact ⟨bitsF_sorted, bitsF_len (by omega) hb, bitsF_in hb⟩
    · show posB f (bitsF _) = true
      rw [pos_iff hv]
      refine ⟨nthT f 0, nthT_isT hv, fun i hi => .inl ?_⟩
      rw [bitsF_mem, Nat.testBit_two_pow_sub_one]
      exact ⟨by omega, by simp [hi]⟩
  | k + 1, hk => by
    have v5 := hv.looks5
    obtain ⟨i1, i2, i3⟩ := lvR_ok hv (k := k) (by omega)
    have hc := can_pos hv (b := k) (by omega)
    by_cases h : (shB (bitsF k) (lvR f k) && canB f (andn (2 ^ f.looks.length - 1) k)) = true
    · have e : lvR f (k + 1) = bitsF k := if_pos h
      rw [Bool.and_eq_true] at h
      rw [e]
      refine ⟨?_, hc.1 h.2, fun b hb hpb => ?_⟩
      · rw [setsL_mem]
        exact ⟨bitsF_sorted, bitsF_len (by omega) (by omega), bitsF_in (by omega)⟩
      · by_cases hbk : b = k
        · subst hbk; exact .inl rfl
        · right
          rcases i3 b (by omega) hpb with h3 | h3
          · rw [h3]; exact h.1
          · exact sh_trans h.1 h3
    · have e : lvR f (k + 1) = lvR f k := if_neg h
      rw [e]
      refine ⟨i1, i2, fun b hb hpb => ?_⟩
      by_cases hbk : b = k
      · subst hbk
        rcases sh_tri (a := bitsF b) (b := lvR f b) with h3 | h3 | h3
        · exact absurd (by rw [Bool.and_eq_true]; exact ⟨h3, hc.2 hpb⟩) h
        · exact .inl h3
        · exact .inr h3
      · exact i3 b (by omega) hpb
theorem leave_ref (hv : f.Valid) : lvR f (2 ^ f.looks.length) = leaveS f := by
  have v5 := hv.looks5
  obtain ⟨i1, i2, i3⟩ := lvR_ok hv (Nat.le_refl _)
  refine LeaveOk.uniq ⟨i1, i2, fun w hw hpw => ?_⟩ (leave_ok hv)
  rw [setsL_mem] at hw
  obtain ⟨b, hb, rfl⟩ := bits_of (by omega) hw.1 hw.2.2
  exact i3 b hb hpw
/-! the first wrong look -/
theorem pos_with (hv : f.Valid) {i : Nat} (hi : i < f.looks.length) : posB (withL f (f.looks.take (i + 1))) [] = canB f (2 ^ (i + 1) - 1) := by
  have v5 := hv.looks5
  have h1 : 1 ≤ 2 ^ (i + 1) := Nat.pow_pos (by omega)
  have h2 : 2 ^ (i + 1) ≤ 2 ^ f.looks.length := Nat.pow_le_pow_right (by omega) (by omega)
  rw [Bool.eq_iff_iff, can_iff hv (by omega)]
  have hlen : (withL f (f.looks.take (i + 1))).looks.length = i + 1 := by show (f.looks.take (i + 1)).length = _; rw [List.length_take]; omega
  have hv' : (withL f (f.looks.take (i + 1))).Valid := Field.Valid.withL hv (by rw [List.length_take]; omega) fun k hk => List.mem_of_mem_take hk
  rw [pos_iff hv', hlen]
  have hr : ∀ t j, j < i + 1 → rightB (withL f (f.looks.take (i + 1))) t j = rightB f t j := fun t j hj => by
    have e : (f.looks.take (i + 1)).getD j default = f.looks.getD j default := by
      rw [List.getD_eq_getElem?_getD, List.getD_eq_getElem?_getD, List.getElem?_take, if_pos hj]
    show (decide ((j : Int) ∈ ([] : List Int)) || inR (atI (standing t.growth f.crops) ((f.looks.take (i + 1)).getD j default).week) ((f.looks.take (i + 1)).getD j default).w.lo ((f.looks.take (i + 1)).getD j default).w.hi) = _
    rw [e]; rfl
  constructor
  · rintro ⟨t, ht, h⟩
    refine ⟨t, ⟨ht.1, ht.2, ht.3, ht.4⟩, fun j hj => ?_⟩
    rw [Nat.testBit_two_pow_sub_one] at hj
    have hj := of_decide_eq_true hj
    rcases h j hj with h3 | h3
    · cases h3
    · rwa [hr t j hj] at h3
  · rintro ⟨t, ht, h⟩
    refine ⟨t, ⟨ht.1, ht.2, ht.3, ht.4⟩, fun j hj => .inr ?_⟩
    rw [hr t j hj]
    exact h j (by rw [Nat.testBit_two_pow_sub_one]; exact decide_eq_true hj)
theorem first_ref (hv : f.Valid) : firstO f = (List.range f.looks.length).find? fun i => !canB f (2 ^ (i + 1) - 1) := by
  unfold firstO
  have : ∀ l : List Nat, (∀ i ∈ l, i < f.looks.length) → l.find? (fun i => !posB (withL f (f.looks.take (i + 1))) []) = l.find? fun i => !canB f (2 ^ (i + 1) - 1) := by
    intro l
    induction l with
    | nil => intro _; rfl
    | cons x l ih =>
      intro h
      rw [List.find?_cons, List.find?_cons, pos_with hv (h x (by simp)), ih fun i hi => h i (by simp [hi])]
  exact this _ fun i hi => List.mem_range.1 hi
end Am.Cr
