/-
  No cell of these rows narrows 'for every input' (looked for: loops, veiled, ifaces, maps, wideKeys, modest, calm, conditions, laid).
  DERIVED. THE GIVEN ROWS OF THIS SEAT. 8 by the template 'for every input the law returns true; each argument reads behind the call as it read before'; 0 by the template 'total and deterministic' (their statements: YtiblicjmmippnaaGreatTotals.lean).
  GIVEN WITH THE SEED: the statements are not yours to turn. If you find one false, say at which input.
  Laid BY PROGRAM, IN A SANDBOX (cutbox-rows.mjs): the forced cells as the released guide's own fill.sh prints them over the translation 7232a7e328f39fcb… (all of the seat's roots in one cut). By AI agents, Wed Nov 11 2026. No macro, syntax, notation, axiom, sorry.
-/
import Derived.Test.YtiblicjmmippnaaGreatChecked
import GoSem.Claim
import GoSem.ClaimJoined
import GoSem.ClaimMapViews
import Derived.JoinedTies
import Derived.KernelRfl
namespace Go.Proofs.YtiblicjmmippnaaGreat
/- THE CELL 'sum', in the pinned program and in every row, IS THE sha256 OF THE DUMP (.gsa) THAT YtiblicjmmippnaaGreatProg.lean LOADS. Nothing in Lean hashes anything: it is a label: what it is worth is what the hold of that sum in a sandbox is worth. -/
noncomputable def Tryz.pinned : Pinned := { name := "ytiblicjmmippnaagreat", sum := "7232a7e328f39fcb58c42393f49e27fc62ca5cc9bc29b5915c016bbe09af84ac", checked := Tryz.checked }
namespace Rows
def none {H : Type} : Left H := { results := [], args := [] }

/-- 'isatislaw02.CropBounds': WHATEVER THE INPUT: true; the input reads as it did. -/
def cropBoundsSpec : ChangeSpec := { name := "cropBounds", fn := fun _ => fun
  | [d1, d2] => { results := [.lit (.bool true)], args := [d1, d2] }
  | _ => none }
def cropBoundsRow : OpenClaim := { program := "ytiblicjmmippnaagreat", sum := "7232a7e328f39fcb58c42393f49e27fc62ca5cc9bc29b5915c016bbe09af84ac", func := "isatis/isatislaw02.CropBounds", spec := "cropBounds", unfollowed := true, recurses := true, plainKeys := false, apart := false }
def CropBoundsSaid : Prop := cropBoundsRow.holds Tryz.pinned (OpenSpec.ofChange cropBoundsSpec)

/-- ITS FALSE NEIGHBOUR: 'it returns false'. Refute it at one input. -/
def cropBoundsWrong : ChangeSpec := { name := "cropBounds", fn := fun _ => fun
  | [d1, d2] => { results := [.lit (.bool false)], args := [d1, d2] }
  | _ => none }
def CropBoundsWrongFalsely : Prop := cropBoundsRow.holds Tryz.pinned (OpenSpec.ofChange cropBoundsWrong)

/-- 'isatislaw02.CropStands': WHATEVER THE INPUT: true; the input reads as it did. -/
def cropStandsSpec : ChangeSpec := { name := "cropStands", fn := fun _ => fun
  | [d1, d2] => { results := [.lit (.bool true)], args := [d1, d2] }
  | _ => none }
def cropStandsRow : OpenClaim := { program := "ytiblicjmmippnaagreat", sum := "7232a7e328f39fcb58c42393f49e27fc62ca5cc9bc29b5915c016bbe09af84ac", func := "isatis/isatislaw02.CropStands", spec := "cropStands", unfollowed := true, recurses := true, plainKeys := false, apart := false }
def CropStandsSaid : Prop := cropStandsRow.holds Tryz.pinned (OpenSpec.ofChange cropStandsSpec)

/-- ITS FALSE NEIGHBOUR: 'it returns false'. Refute it at one input. -/
def cropStandsWrong : ChangeSpec := { name := "cropStands", fn := fun _ => fun
  | [d1, d2] => { results := [.lit (.bool false)], args := [d1, d2] }
  | _ => none }
def CropStandsWrongFalsely : Prop := cropStandsRow.holds Tryz.pinned (OpenSpec.ofChange cropStandsWrong)

/-- 'isatislaw02.CropBest': WHATEVER THE INPUT: true; the input reads as it did. -/
def cropBestSpec : ChangeSpec := { name := "cropBest", fn := fun _ => fun
  | [d] => { results := [.lit (.bool true)], args := [d] }
  | _ => none }
def cropBestRow : OpenClaim := { program := "ytiblicjmmippnaagreat", sum := "7232a7e328f39fcb58c42393f49e27fc62ca5cc9bc29b5915c016bbe09af84ac", func := "isatis/isatislaw02.CropBest", spec := "cropBest", unfollowed := true, recurses := true, plainKeys := false, apart := false }
def CropBestSaid : Prop := cropBestRow.holds Tryz.pinned (OpenSpec.ofChange cropBestSpec)

/-- ITS FALSE NEIGHBOUR: 'it returns false'. Refute it at one input. -/
def cropBestWrong : ChangeSpec := { name := "cropBest", fn := fun _ => fun
  | [d] => { results := [.lit (.bool false)], args := [d] }
  | _ => none }
def CropBestWrongFalsely : Prop := cropBestRow.holds Tryz.pinned (OpenSpec.ofChange cropBestWrong)

/-- 'isatislaw02.CropLeaves': WHATEVER THE INPUT: true; the input reads as it did. -/
def cropLeavesSpec : ChangeSpec := { name := "cropLeaves", fn := fun _ => fun
  | [d] => { results := [.lit (.bool true)], args := [d] }
  | _ => none }
def cropLeavesRow : OpenClaim := { program := "ytiblicjmmippnaagreat", sum := "7232a7e328f39fcb58c42393f49e27fc62ca5cc9bc29b5915c016bbe09af84ac", func := "isatis/isatislaw02.CropLeaves", spec := "cropLeaves", unfollowed := true, recurses := true, plainKeys := false, apart := false }
def CropLeavesSaid : Prop := cropLeavesRow.holds Tryz.pinned (OpenSpec.ofChange cropLeavesSpec)

/-- ITS FALSE NEIGHBOUR: 'it returns false'. Refute it at one input. -/
def cropLeavesWrong : ChangeSpec := { name := "cropLeaves", fn := fun _ => fun
  | [d] => { results := [.lit (.bool false)], args := [d] }
  | _ => none }
def CropLeavesWrongFalsely : Prop := cropLeavesRow.holds Tryz.pinned (OpenSpec.ofChange cropLeavesWrong)

/-- 'isatislaw02.CropEnds': WHATEVER THE INPUT: true; the input reads as it did. -/
def cropEndsSpec : ChangeSpec := { name := "cropEnds", fn := fun _ => fun
  | [d1, d2] => { results := [.lit (.bool true)], args := [d1, d2] }
  | _ => none }
def cropEndsRow : OpenClaim := { program := "ytiblicjmmippnaagreat", sum := "7232a7e328f39fcb58c42393f49e27fc62ca5cc9bc29b5915c016bbe09af84ac", func := "isatis/isatislaw02.CropEnds", spec := "cropEnds", unfollowed := true, recurses := true, plainKeys := false, apart := false }
def CropEndsSaid : Prop := cropEndsRow.holds Tryz.pinned (OpenSpec.ofChange cropEndsSpec)

/-- ITS FALSE NEIGHBOUR: 'it returns false'. Refute it at one input. -/
def cropEndsWrong : ChangeSpec := { name := "cropEnds", fn := fun _ => fun
  | [d1, d2] => { results := [.lit (.bool false)], args := [d1, d2] }
  | _ => none }
def CropEndsWrongFalsely : Prop := cropEndsRow.holds Tryz.pinned (OpenSpec.ofChange cropEndsWrong)

/-- 'isatislaw02.CropWorst': WHATEVER THE INPUT: true; the input reads as it did. -/
def cropWorstSpec : ChangeSpec := { name := "cropWorst", fn := fun _ => fun
  | [d1, d2, d3] => { results := [.lit (.bool true)], args := [d1, d2, d3] }
  | _ => none }
def cropWorstRow : OpenClaim := { program := "ytiblicjmmippnaagreat", sum := "7232a7e328f39fcb58c42393f49e27fc62ca5cc9bc29b5915c016bbe09af84ac", func := "isatis/isatislaw02.CropWorst", spec := "cropWorst", unfollowed := true, recurses := true, plainKeys := false, apart := false }
def CropWorstSaid : Prop := cropWorstRow.holds Tryz.pinned (OpenSpec.ofChange cropWorstSpec)

/-- ITS FALSE NEIGHBOUR: 'it returns false'. Refute it at one input. -/
def cropWorstWrong : ChangeSpec := { name := "cropWorst", fn := fun _ => fun
  | [d1, d2, d3] => { results := [.lit (.bool false)], args := [d1, d2, d3] }
  | _ => none }
def CropWorstWrongFalsely : Prop := cropWorstRow.holds Tryz.pinned (OpenSpec.ofChange cropWorstWrong)

/-- 'isatislaw02.CropTruth': WHATEVER THE INPUT: true; the input reads as it did. -/
def cropTruthSpec : ChangeSpec := { name := "cropTruth", fn := fun _ => fun
  | [d1, d2, d3, d4] => { results := [.lit (.bool true)], args := [d1, d2, d3, d4] }
  | _ => none }
def cropTruthRow : OpenClaim := { program := "ytiblicjmmippnaagreat", sum := "7232a7e328f39fcb58c42393f49e27fc62ca5cc9bc29b5915c016bbe09af84ac", func := "isatis/isatislaw02.CropTruth", spec := "cropTruth", unfollowed := true, recurses := true, plainKeys := false, apart := false }
def CropTruthSaid : Prop := cropTruthRow.holds Tryz.pinned (OpenSpec.ofChange cropTruthSpec)

/-- ITS FALSE NEIGHBOUR: 'it returns false'. Refute it at one input. -/
def cropTruthWrong : ChangeSpec := { name := "cropTruth", fn := fun _ => fun
  | [d1, d2, d3, d4] => { results := [.lit (.bool false)], args := [d1, d2, d3, d4] }
  | _ => none }
def CropTruthWrongFalsely : Prop := cropTruthRow.holds Tryz.pinned (OpenSpec.ofChange cropTruthWrong)

/-- 'isatislaw02.CropGreatest': WHATEVER THE INPUT: true; the input reads as it did. -/
def cropGreatestSpec : ChangeSpec := { name := "cropGreatest", fn := fun _ => fun
  | [d1, d2, d3] => { results := [.lit (.bool true)], args := [d1, d2, d3] }
  | _ => none }
def cropGreatestRow : OpenClaim := { program := "ytiblicjmmippnaagreat", sum := "7232a7e328f39fcb58c42393f49e27fc62ca5cc9bc29b5915c016bbe09af84ac", func := "isatis/isatislaw02.CropGreatest", spec := "cropGreatest", unfollowed := true, recurses := true, plainKeys := false, apart := false }
def CropGreatestSaid : Prop := cropGreatestRow.holds Tryz.pinned (OpenSpec.ofChange cropGreatestSpec)

/-- ITS FALSE NEIGHBOUR: 'it returns false'. Refute it at one input. -/
def cropGreatestWrong : ChangeSpec := { name := "cropGreatest", fn := fun _ => fun
  | [d1, d2, d3] => { results := [.lit (.bool false)], args := [d1, d2, d3] }
  | _ => none }
def CropGreatestWrongFalsely : Prop := cropGreatestRow.holds Tryz.pinned (OpenSpec.ofChange cropGreatestWrong)

/- THE SECOND FORM. 'bulk': how many values and letters a reading holds, each counted each time it is reached (what is shared counts as often as it is met; a slice's spare places count too). A statement '..UptoSaid' is the law's where the arguments, and the package variables that the reading takes, are together of bulk at most 1048576: NARROWER than '..Said'. Prove '..Said' where nothing that the law and all that it calls make is longer than what came in: it says more and counts as full. Else prove '..UptoSaid'. A law counts once. -/
mutual
def uptoBulk {H : Type} : DataW H → Nat
  | .lit (.string bytes) => bytes.length + 1
  | .lit _ => 1
  | .nil => 1
  | .ptr d => uptoBulk d + 1
  | .slice elems spare => uptoBulkAll elems + uptoBulkAll spare + 1
  | .agg parts => uptoBulkAll parts + 1
  | .iface _ d => uptoBulk d + 1
  | .map entries => uptoBulkEntries entries + 1
  | .held _ => 1
def uptoBulkAll {H : Type} : List (DataW H) → Nat
  | [] => 0
  | d :: r => uptoBulk d + uptoBulkAll r
def uptoBulkEntries {H : Type} : List (Lit × DataW H) → Nat
  | [] => 0
  | x :: r => uptoBulkEntry x + uptoBulkEntries r
def uptoBulkEntry {H : Type} : Lit × DataW H → Nat
  | (.string bytes, d) => bytes.length + uptoBulk d + 1
  | (_, d) => uptoBulk d + 1
 end
def uptoSmall : (H : Type) → List (DataW H) → Bool := fun _ ds => decide (uptoBulkAll ds ≤ 1048576)
def OpenSpec.upto (s : _root_.Go.ChangeSpec) : _root_.Go.OpenSpec := { _root_.Go.OpenSpec.ofChange s with cond := some uptoSmall }

/-- 'isatislaw02.CropBounds', WHERE WHAT IT READS IS OF BULK AT MOST 1048576: true; the input reads as it did. -/
def cropBoundsUptoRow : OpenClaim := { program := "ytiblicjmmippnaagreat", sum := "7232a7e328f39fcb58c42393f49e27fc62ca5cc9bc29b5915c016bbe09af84ac", func := "isatis/isatislaw02.CropBounds", spec := "cropBounds", unfollowed := true, recurses := true, plainKeys := false, apart := false, narrowed := true }
def CropBoundsUptoSaid : Prop := cropBoundsUptoRow.holds Tryz.pinned (OpenSpec.upto cropBoundsSpec)

/-- 'isatislaw02.CropStands', WHERE WHAT IT READS IS OF BULK AT MOST 1048576: true; the input reads as it did. -/
def cropStandsUptoRow : OpenClaim := { program := "ytiblicjmmippnaagreat", sum := "7232a7e328f39fcb58c42393f49e27fc62ca5cc9bc29b5915c016bbe09af84ac", func := "isatis/isatislaw02.CropStands", spec := "cropStands", unfollowed := true, recurses := true, plainKeys := false, apart := false, narrowed := true }
def CropStandsUptoSaid : Prop := cropStandsUptoRow.holds Tryz.pinned (OpenSpec.upto cropStandsSpec)

/-- 'isatislaw02.CropBest', WHERE WHAT IT READS IS OF BULK AT MOST 1048576: true; the input reads as it did. -/
def cropBestUptoRow : OpenClaim := { program := "ytiblicjmmippnaagreat", sum := "7232a7e328f39fcb58c42393f49e27fc62ca5cc9bc29b5915c016bbe09af84ac", func := "isatis/isatislaw02.CropBest", spec := "cropBest", unfollowed := true, recurses := true, plainKeys := false, apart := false, narrowed := true }
def CropBestUptoSaid : Prop := cropBestUptoRow.holds Tryz.pinned (OpenSpec.upto cropBestSpec)

/-- 'isatislaw02.CropLeaves', WHERE WHAT IT READS IS OF BULK AT MOST 1048576: true; the input reads as it did. -/
def cropLeavesUptoRow : OpenClaim := { program := "ytiblicjmmippnaagreat", sum := "7232a7e328f39fcb58c42393f49e27fc62ca5cc9bc29b5915c016bbe09af84ac", func := "isatis/isatislaw02.CropLeaves", spec := "cropLeaves", unfollowed := true, recurses := true, plainKeys := false, apart := false, narrowed := true }
def CropLeavesUptoSaid : Prop := cropLeavesUptoRow.holds Tryz.pinned (OpenSpec.upto cropLeavesSpec)

/-- 'isatislaw02.CropEnds', WHERE WHAT IT READS IS OF BULK AT MOST 1048576: true; the input reads as it did. -/
def cropEndsUptoRow : OpenClaim := { program := "ytiblicjmmippnaagreat", sum := "7232a7e328f39fcb58c42393f49e27fc62ca5cc9bc29b5915c016bbe09af84ac", func := "isatis/isatislaw02.CropEnds", spec := "cropEnds", unfollowed := true, recurses := true, plainKeys := false, apart := false, narrowed := true }
def CropEndsUptoSaid : Prop := cropEndsUptoRow.holds Tryz.pinned (OpenSpec.upto cropEndsSpec)

/-- 'isatislaw02.CropWorst', WHERE WHAT IT READS IS OF BULK AT MOST 1048576: true; the input reads as it did. -/
def cropWorstUptoRow : OpenClaim := { program := "ytiblicjmmippnaagreat", sum := "7232a7e328f39fcb58c42393f49e27fc62ca5cc9bc29b5915c016bbe09af84ac", func := "isatis/isatislaw02.CropWorst", spec := "cropWorst", unfollowed := true, recurses := true, plainKeys := false, apart := false, narrowed := true }
def CropWorstUptoSaid : Prop := cropWorstUptoRow.holds Tryz.pinned (OpenSpec.upto cropWorstSpec)

/-- 'isatislaw02.CropTruth', WHERE WHAT IT READS IS OF BULK AT MOST 1048576: true; the input reads as it did. -/
def cropTruthUptoRow : OpenClaim := { program := "ytiblicjmmippnaagreat", sum := "7232a7e328f39fcb58c42393f49e27fc62ca5cc9bc29b5915c016bbe09af84ac", func := "isatis/isatislaw02.CropTruth", spec := "cropTruth", unfollowed := true, recurses := true, plainKeys := false, apart := false, narrowed := true }
def CropTruthUptoSaid : Prop := cropTruthUptoRow.holds Tryz.pinned (OpenSpec.upto cropTruthSpec)

/-- 'isatislaw02.CropGreatest', WHERE WHAT IT READS IS OF BULK AT MOST 1048576: true; the input reads as it did. -/
def cropGreatestUptoRow : OpenClaim := { program := "ytiblicjmmippnaagreat", sum := "7232a7e328f39fcb58c42393f49e27fc62ca5cc9bc29b5915c016bbe09af84ac", func := "isatis/isatislaw02.CropGreatest", spec := "cropGreatest", unfollowed := true, recurses := true, plainKeys := false, apart := false, narrowed := true }
def CropGreatestUptoSaid : Prop := cropGreatestUptoRow.holds Tryz.pinned (OpenSpec.upto cropGreatestSpec)

end Rows
end Go.Proofs.YtiblicjmmippnaaGreat
