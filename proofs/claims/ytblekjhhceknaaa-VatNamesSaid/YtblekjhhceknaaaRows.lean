/-
  No cell of these rows narrows 'for every input' (looked for: loops, veiled, ifaces, maps, wideKeys, modest, calm, conditions, laid).
  DERIVED. THE GIVEN ROWS OF THIS SEAT. 7 by the template 'for every input the law returns true; each argument reads behind the call as it read before'; 0 by the template 'total and deterministic' (their statements: YtblekjhhceknaaaTotals.lean).
  GIVEN WITH THE SEED: the statements are not yours to turn. If you find one false, say at which input.
  Laid BY PROGRAM, IN A SANDBOX (cutbox-rows.mjs): the forced cells as the released guide's own fill.sh prints them over the translation e30a5e97b897d01b… (all of the seat's roots in one cut). By AI agents, Wed Nov 11 2026. No macro, syntax, notation, axiom, sorry.
-/
import Derived.Test.YtblekjhhceknaaaChecked
import GoSem.Claim
import GoSem.ClaimJoined
import GoSem.ClaimMapViews
import Derived.JoinedTies
import Derived.KernelRfl
namespace Go.Proofs.Ytblekjhhceknaaa
/- THE CELL 'sum', in the pinned program and in every row, IS THE sha256 OF THE DUMP (.gsa) THAT YtblekjhhceknaaaProg.lean LOADS. Nothing in Lean hashes anything: it is a label: what it is worth is what the hold of that sum in a sandbox is worth. -/
noncomputable def Try.pinned : Pinned := { name := "ytblekjhhceknaaa", sum := "e30a5e97b897d01b996a32645be73ee455dd1ca7f782fd79c346acb7425ca1f3", checked := Try.checked }
namespace Rows
def none {H : Type} : Left H := { results := [], args := [] }

/-- 'isatislaw06.VatNames': WHATEVER THE INPUT: true; the input reads as it did. -/
def vatNamesSpec : ChangeSpec := { name := "vatNames", fn := fun _ => fun
  | [] => { results := [.lit (.bool true)], args := [] }
  | _ => none }
def vatNamesRow : OpenClaim := { program := "ytblekjhhceknaaa", sum := "e30a5e97b897d01b996a32645be73ee455dd1ca7f782fd79c346acb7425ca1f3", func := "isatis/isatislaw06.VatNames", spec := "vatNames", unfollowed := true, recurses := true, plainKeys := false, apart := false }
def VatNamesSaid : Prop := vatNamesRow.holds Try.pinned (OpenSpec.ofChange vatNamesSpec)

/-- ITS FALSE NEIGHBOUR: 'it returns false'. Refute it at one input. -/
def vatNamesWrong : ChangeSpec := { name := "vatNames", fn := fun _ => fun
  | [] => { results := [.lit (.bool false)], args := [] }
  | _ => none }
def VatNamesWrongFalsely : Prop := vatNamesRow.holds Try.pinned (OpenSpec.ofChange vatNamesWrong)

/-- 'isatislaw06.VatBlue': WHATEVER THE INPUT: true; the input reads as it did. -/
def vatBlueSpec : ChangeSpec := { name := "vatBlue", fn := fun _ => fun
  | [d1, d2, d3, d4, d5] => { results := [.lit (.bool true)], args := [d1, d2, d3, d4, d5] }
  | _ => none }
def vatBlueRow : OpenClaim := { program := "ytblekjhhceknaaa", sum := "e30a5e97b897d01b996a32645be73ee455dd1ca7f782fd79c346acb7425ca1f3", func := "isatis/isatislaw06.VatBlue", spec := "vatBlue", unfollowed := true, recurses := true, plainKeys := false, apart := false }
def VatBlueSaid : Prop := vatBlueRow.holds Try.pinned (OpenSpec.ofChange vatBlueSpec)

/-- ITS FALSE NEIGHBOUR: 'it returns false'. Refute it at one input. -/
def vatBlueWrong : ChangeSpec := { name := "vatBlue", fn := fun _ => fun
  | [d1, d2, d3, d4, d5] => { results := [.lit (.bool false)], args := [d1, d2, d3, d4, d5] }
  | _ => none }
def VatBlueWrongFalsely : Prop := vatBlueRow.holds Try.pinned (OpenSpec.ofChange vatBlueWrong)

/-- 'isatislaw06.VatBand': WHATEVER THE INPUT: true; the input reads as it did. -/
def vatBandSpec : ChangeSpec := { name := "vatBand", fn := fun _ => fun
  | [d1, d2, d3] => { results := [.lit (.bool true)], args := [d1, d2, d3] }
  | _ => none }
def vatBandRow : OpenClaim := { program := "ytblekjhhceknaaa", sum := "e30a5e97b897d01b996a32645be73ee455dd1ca7f782fd79c346acb7425ca1f3", func := "isatis/isatislaw06.VatBand", spec := "vatBand", unfollowed := true, recurses := true, plainKeys := false, apart := false }
def VatBandSaid : Prop := vatBandRow.holds Try.pinned (OpenSpec.ofChange vatBandSpec)

/-- ITS FALSE NEIGHBOUR: 'it returns false'. Refute it at one input. -/
def vatBandWrong : ChangeSpec := { name := "vatBand", fn := fun _ => fun
  | [d1, d2, d3] => { results := [.lit (.bool false)], args := [d1, d2, d3] }
  | _ => none }
def VatBandWrongFalsely : Prop := vatBandRow.holds Try.pinned (OpenSpec.ofChange vatBandWrong)

/-- 'isatislaw06.VatMore': WHATEVER THE INPUT: true; the input reads as it did. -/
def vatMoreSpec : ChangeSpec := { name := "vatMore", fn := fun _ => fun
  | [d1, d2, d3] => { results := [.lit (.bool true)], args := [d1, d2, d3] }
  | _ => none }
def vatMoreRow : OpenClaim := { program := "ytblekjhhceknaaa", sum := "e30a5e97b897d01b996a32645be73ee455dd1ca7f782fd79c346acb7425ca1f3", func := "isatis/isatislaw06.VatMore", spec := "vatMore", unfollowed := true, recurses := true, plainKeys := false, apart := false }
def VatMoreSaid : Prop := vatMoreRow.holds Try.pinned (OpenSpec.ofChange vatMoreSpec)

/-- ITS FALSE NEIGHBOUR: 'it returns false'. Refute it at one input. -/
def vatMoreWrong : ChangeSpec := { name := "vatMore", fn := fun _ => fun
  | [d1, d2, d3] => { results := [.lit (.bool false)], args := [d1, d2, d3] }
  | _ => none }
def VatMoreWrongFalsely : Prop := vatMoreRow.holds Try.pinned (OpenSpec.ofChange vatMoreWrong)

/-- 'isatislaw06.VatWider': WHATEVER THE INPUT: true; the input reads as it did. -/
def vatWiderSpec : ChangeSpec := { name := "vatWider", fn := fun _ => fun
  | [d1, d2, d3] => { results := [.lit (.bool true)], args := [d1, d2, d3] }
  | _ => none }
def vatWiderRow : OpenClaim := { program := "ytblekjhhceknaaa", sum := "e30a5e97b897d01b996a32645be73ee455dd1ca7f782fd79c346acb7425ca1f3", func := "isatis/isatislaw06.VatWider", spec := "vatWider", unfollowed := true, recurses := true, plainKeys := false, apart := false }
def VatWiderSaid : Prop := vatWiderRow.holds Try.pinned (OpenSpec.ofChange vatWiderSpec)

/-- ITS FALSE NEIGHBOUR: 'it returns false'. Refute it at one input. -/
def vatWiderWrong : ChangeSpec := { name := "vatWider", fn := fun _ => fun
  | [d1, d2, d3] => { results := [.lit (.bool false)], args := [d1, d2, d3] }
  | _ => none }
def VatWiderWrongFalsely : Prop := vatWiderRow.holds Try.pinned (OpenSpec.ofChange vatWiderWrong)

/-- 'isatislaw06.VatFirst': WHATEVER THE INPUT: true; the input reads as it did. -/
def vatFirstSpec : ChangeSpec := { name := "vatFirst", fn := fun _ => fun
  | [d] => { results := [.lit (.bool true)], args := [d] }
  | _ => none }
def vatFirstRow : OpenClaim := { program := "ytblekjhhceknaaa", sum := "e30a5e97b897d01b996a32645be73ee455dd1ca7f782fd79c346acb7425ca1f3", func := "isatis/isatislaw06.VatFirst", spec := "vatFirst", unfollowed := true, recurses := true, plainKeys := false, apart := false }
def VatFirstSaid : Prop := vatFirstRow.holds Try.pinned (OpenSpec.ofChange vatFirstSpec)

/-- ITS FALSE NEIGHBOUR: 'it returns false'. Refute it at one input. -/
def vatFirstWrong : ChangeSpec := { name := "vatFirst", fn := fun _ => fun
  | [d] => { results := [.lit (.bool false)], args := [d] }
  | _ => none }
def VatFirstWrongFalsely : Prop := vatFirstRow.holds Try.pinned (OpenSpec.ofChange vatFirstWrong)

/-- 'isatislaw06.VatMirror': WHATEVER THE INPUT: true; the input reads as it did. -/
def vatMirrorSpec : ChangeSpec := { name := "vatMirror", fn := fun _ => fun
  | [d1, d2, d3] => { results := [.lit (.bool true)], args := [d1, d2, d3] }
  | _ => none }
def vatMirrorRow : OpenClaim := { program := "ytblekjhhceknaaa", sum := "e30a5e97b897d01b996a32645be73ee455dd1ca7f782fd79c346acb7425ca1f3", func := "isatis/isatislaw06.VatMirror", spec := "vatMirror", unfollowed := true, recurses := true, plainKeys := false, apart := false }
def VatMirrorSaid : Prop := vatMirrorRow.holds Try.pinned (OpenSpec.ofChange vatMirrorSpec)

/-- ITS FALSE NEIGHBOUR: 'it returns false'. Refute it at one input. -/
def vatMirrorWrong : ChangeSpec := { name := "vatMirror", fn := fun _ => fun
  | [d1, d2, d3] => { results := [.lit (.bool false)], args := [d1, d2, d3] }
  | _ => none }
def VatMirrorWrongFalsely : Prop := vatMirrorRow.holds Try.pinned (OpenSpec.ofChange vatMirrorWrong)

/- THE SECOND FORM. 'bulk': how many values and letters a reading holds, each counted each time it is reached (what is shared counts as often as it is met; a slice's spare places count too). A statement '..UptoSaid' is the law's where the arguments, and the package variables that the reading takes, are together of bulk at most 1048576: NARROWER than '..Said'. Prove '..Said' where nothing that the law and all that it calls make is longer than what came in: it says more and counts as full. Else prove '..UptoSaid'. A law counts once. -/
mutual
def uptoBulk {H : Type} : DataW H → Nat
  | .lit (.string bytes) => bytes.length + 1
  | .lit _ => 1
  | .nil => 1
  | .ptr d => uptoBulk d + 1
  | .slice elems spare => uptoBulkAll elems + uptoBulkAll spare + 1
  | .agg parts => uptoBulkAll parts + 1
  | .iface _ d => uptoBulk d + 1
  | .map entries => uptoBulkEntries entries + 1
  | .held _ => 1
def uptoBulkAll {H : Type} : List (DataW H) → Nat
  | [] => 0
  | d :: r => uptoBulk d + uptoBulkAll r
def uptoBulkEntries {H : Type} : List (Lit × DataW H) → Nat
  | [] => 0
  | x :: r => uptoBulkEntry x + uptoBulkEntries r
def uptoBulkEntry {H : Type} : Lit × DataW H → Nat
  | (.string bytes, d) => bytes.length + uptoBulk d + 1
  | (_, d) => uptoBulk d + 1
 end
def uptoSmall : (H : Type) → List (DataW H) → Bool := fun _ ds => decide (uptoBulkAll ds ≤ 1048576)
def OpenSpec.upto (s : _root_.Go.ChangeSpec) : _root_.Go.OpenSpec := { _root_.Go.OpenSpec.ofChange s with cond := some uptoSmall }

/-- 'isatislaw06.VatNames', WHERE WHAT IT READS IS OF BULK AT MOST 1048576: true; the input reads as it did. -/
def vatNamesUptoRow : OpenClaim := { program := "ytblekjhhceknaaa", sum := "e30a5e97b897d01b996a32645be73ee455dd1ca7f782fd79c346acb7425ca1f3", func := "isatis/isatislaw06.VatNames", spec := "vatNames", unfollowed := true, recurses := true, plainKeys := false, apart := false, narrowed := true }
def VatNamesUptoSaid : Prop := vatNamesUptoRow.holds Try.pinned (OpenSpec.upto vatNamesSpec)

/-- 'isatislaw06.VatBlue', WHERE WHAT IT READS IS OF BULK AT MOST 1048576: true; the input reads as it did. -/
def vatBlueUptoRow : OpenClaim := { program := "ytblekjhhceknaaa", sum := "e30a5e97b897d01b996a32645be73ee455dd1ca7f782fd79c346acb7425ca1f3", func := "isatis/isatislaw06.VatBlue", spec := "vatBlue", unfollowed := true, recurses := true, plainKeys := false, apart := false, narrowed := true }
def VatBlueUptoSaid : Prop := vatBlueUptoRow.holds Try.pinned (OpenSpec.upto vatBlueSpec)

/-- 'isatislaw06.VatBand', WHERE WHAT IT READS IS OF BULK AT MOST 1048576: true; the input reads as it did. -/
def vatBandUptoRow : OpenClaim := { program := "ytblekjhhceknaaa", sum := "e30a5e97b897d01b996a32645be73ee455dd1ca7f782fd79c346acb7425ca1f3", func := "isatis/isatislaw06.VatBand", spec := "vatBand", unfollowed := true, recurses := true, plainKeys := false, apart := false, narrowed := true }
def VatBandUptoSaid : Prop := vatBandUptoRow.holds Try.pinned (OpenSpec.upto vatBandSpec)

/-- 'isatislaw06.VatMore', WHERE WHAT IT READS IS OF BULK AT MOST 1048576: true; the input reads as it did. -/
def vatMoreUptoRow : OpenClaim := { program := "ytblekjhhceknaaa", sum := "e30a5e97b897d01b996a32645be73ee455dd1ca7f782fd79c346acb7425ca1f3", func := "isatis/isatislaw06.VatMore", spec := "vatMore", unfollowed := true, recurses := true, plainKeys := false, apart := false, narrowed := true }
def VatMoreUptoSaid : Prop := vatMoreUptoRow.holds Try.pinned (OpenSpec.upto vatMoreSpec)

/-- 'isatislaw06.VatWider', WHERE WHAT IT READS IS OF BULK AT MOST 1048576: true; the input reads as it did. -/
def vatWiderUptoRow : OpenClaim := { program := "ytblekjhhceknaaa", sum := "e30a5e97b897d01b996a32645be73ee455dd1ca7f782fd79c346acb7425ca1f3", func := "isatis/isatislaw06.VatWider", spec := "vatWider", unfollowed := true, recurses := true, plainKeys := false, apart := false, narrowed := true }
def VatWiderUptoSaid : Prop := vatWiderUptoRow.holds Try.pinned (OpenSpec.upto vatWiderSpec)

/-- 'isatislaw06.VatFirst', WHERE WHAT IT READS IS OF BULK AT MOST 1048576: true; the input reads as it did. -/
def vatFirstUptoRow : OpenClaim := { program := "ytblekjhhceknaaa", sum := "e30a5e97b897d01b996a32645be73ee455dd1ca7f782fd79c346acb7425ca1f3", func := "isatis/isatislaw06.VatFirst", spec := "vatFirst", unfollowed := true, recurses := true, plainKeys := false, apart := false, narrowed := true }
def VatFirstUptoSaid : Prop := vatFirstUptoRow.holds Try.pinned (OpenSpec.upto vatFirstSpec)

/-- 'isatislaw06.VatMirror', WHERE WHAT IT READS IS OF BULK AT MOST 1048576: true; the input reads as it did. -/
def vatMirrorUptoRow : OpenClaim := { program := "ytblekjhhceknaaa", sum := "e30a5e97b897d01b996a32645be73ee455dd1ca7f782fd79c346acb7425ca1f3", func := "isatis/isatislaw06.VatMirror", spec := "vatMirror", unfollowed := true, recurses := true, plainKeys := false, apart := false, narrowed := true }
def VatMirrorUptoSaid : Prop := vatMirrorUptoRow.holds Try.pinned (OpenSpec.upto vatMirrorSpec)

end Rows
end Go.Proofs.Ytblekjhhceknaaa
