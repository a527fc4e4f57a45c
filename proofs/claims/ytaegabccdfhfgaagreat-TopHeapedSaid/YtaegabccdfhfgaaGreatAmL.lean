/-
  A part of the proof: the texts Am41 of this seat, joined.
-/
import Derived.Test.YtaegabccdfhfgaaGreatAmG
import Derived.Shelf.Spec.SlicesGrow
namespace Am
open Go Go.Proofs Go.Shelf
set_option linter.unusedVariables false
variable {P:Program} {cfg:Cfg}
theorem grow_of_lays {ρ:Ren} (L:Lays8.n4 P ρ) (i0:TypeInfo) (z:Value) (hi0:P.info? (ρ.t 25)=some i0) (hz0:i0.zero=some z) (hs0:0<i0.size) (hzs:z.cells.size=i0.size) {n:Nat} (hn:n*i0.bytes≤2^40) (hn2:n≤2^40) (w:World) (cs:List Frame) :
    ∃(a:Option Addr) (cap:Nat) (w':World),
    (∃fr,Steps P (lone (Frame.enter P (ρ.f 4) #[.slice none 0 0,.int .i64 n] .normal) cs w) (lone fr cs w')∧fr.leaving P w' (.returned (.slice a 0 cap))∧fr.fn=ρ.f 4)∧Still w w'∧(∀b,b<w.heap.size→w'.heap[b]?=w.heap[b]?) ∧
    ((a=none∧cap=0)∨∃b arr T,w.heap.size≤b∧a=some ⟨b,0,none⟩∧w'.heap[b]?=some (.cells arr T (0,0))∧cap*i0.size≤arr.size):=by
  by_cases h0:n=0
  · subst h0
    obtain ⟨e,w',fr,⟨rfl,rfl⟩,hc,hf,hl⟩:=Any8.slices_Grow_room L none 0 0 0 w (Nat.le_refl _) (by omega) (by omega) (by omega) cs
    exact ⟨none,0,w',⟨fr,hc,hl,hf⟩,Still.refl _,fun _ _=>rfl,.inl ⟨rfl,rfl⟩⟩
  · obtain ⟨e,w',fr,⟨rfl,rfl⟩,hc,hf,hl⟩:=Any8.slices_Grow_grow L i0 z hi0 hz0 hs0 none 0 0 n [] w (Nat.le_refl _) (by omega) (by rw [Nat.zero_add];omega) (by omega) (by simp) (fun _=>rfl) (fun a h=>by cases h) cs
    have hge:=grownCap_ge w (0+n) 0 (ρ.t 25)
    refine ⟨_,_,_,⟨fr,hc,hl,hf⟩,?_,fun b hb=>?_,.inr ⟨w.heap.size,#[]++Builtin.zeroCells z.cells (0+n-0)++Builtin.zeroCells z.cells (grownCap w (0+n) 0 (ρ.t 25)-(0+n)),ρ.t 25,Nat.le_refl _,rfl,?_,?_⟩⟩
    · exact (Still.drew w _).push rfl
    · exact pushBlk_old w.drew _ hb
    · exact pushBlk_get w.drew _
    · simp only [Array.size_append,zeroCells_size,hzs]
      have:grownCap w (0+n) 0 (ρ.t 25)*i0.size=(0+n-0)*i0.size+(grownCap w (0+n) 0 (ρ.t 25)-(0+n))*i0.size:=by rw [←Nat.add_mul];congr 1;omega
      rw [this];simp
end Am
