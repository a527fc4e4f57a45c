/-
  No cell of these rows narrows 'for every input' (looked for: loops, veiled, ifaces, maps, wideKeys, modest, calm, conditions, laid).
  DERIVED. THE GIVEN ROWS OF THIS SEAT. 11 by the template 'for every input the law returns true; each argument reads behind the call as it read before'; 0 by the template 'total and deterministic' (their statements: YtblekjhhceknaaaGreatTotals.lean).
  GIVEN WITH THE SEED: the statements are not yours to turn. If you find one false, say at which input.
  Laid BY PROGRAM, IN A SANDBOX (cutbox-rows.mjs): the forced cells as the released guide's own fill.sh prints them over the translation 93995e4fe54bba55… (all of the seat's roots in one cut). By AI agents, Wed Nov 11 2026. No macro, syntax, notation, axiom, sorry.
-/
import Derived.Test.YtblekjhhceknaaaGreatChecked
import GoSem.Claim
import GoSem.ClaimJoined
import GoSem.ClaimMapViews
import Derived.JoinedTies
import Derived.KernelRfl
namespace Go.Proofs.YtblekjhhceknaaaGreat
/- THE CELL 'sum', in the pinned program and in every row, IS THE sha256 OF THE DUMP (.gsa) THAT YtblekjhhceknaaaGreatProg.lean LOADS. Nothing in Lean hashes anything: it is a label: what it is worth is what the hold of that sum in a sandbox is worth. -/
noncomputable def Tryz.pinned : Pinned := { name := "ytblekjhhceknaaagreat", sum := "93995e4fe54bba5502ab962273ad6ed4cef0f6dfa25d76d0010caab8f0442dc6", checked := Tryz.checked }
namespace Rows
def none {H : Type} : Left H := { results := [], args := [] }

/-- 'isatislaw06.VatPlays': WHATEVER THE INPUT: true; the input reads as it did. -/
def vatPlaysSpec : ChangeSpec := { name := "vatPlays", fn := fun _ => fun
  | [d1, d2] => { results := [.lit (.bool true)], args := [d1, d2] }
  | _ => none }
def vatPlaysRow : OpenClaim := { program := "ytblekjhhceknaaagreat", sum := "93995e4fe54bba5502ab962273ad6ed4cef0f6dfa25d76d0010caab8f0442dc6", func := "isatis/isatislaw06.VatPlays", spec := "vatPlays", unfollowed := true, recurses := true, plainKeys := false, apart := false }
def VatPlaysSaid : Prop := vatPlaysRow.holds Tryz.pinned (OpenSpec.ofChange vatPlaysSpec)

/-- ITS FALSE NEIGHBOUR: 'it returns false'. Refute it at one input. -/
def vatPlaysWrong : ChangeSpec := { name := "vatPlays", fn := fun _ => fun
  | [d1, d2] => { results := [.lit (.bool false)], args := [d1, d2] }
  | _ => none }
def VatPlaysWrongFalsely : Prop := vatPlaysRow.holds Tryz.pinned (OpenSpec.ofChange vatPlaysWrong)

/-- 'isatislaw06.VatShades': WHATEVER THE INPUT: true; the input reads as it did. -/
def vatShadesSpec : ChangeSpec := { name := "vatShades", fn := fun _ => fun
  | [d1, d2, d3, d4] => { results := [.lit (.bool true)], args := [d1, d2, d3, d4] }
  | _ => none }
def vatShadesRow : OpenClaim := { program := "ytblekjhhceknaaagreat", sum := "93995e4fe54bba5502ab962273ad6ed4cef0f6dfa25d76d0010caab8f0442dc6", func := "isatis/isatislaw06.VatShades", spec := "vatShades", unfollowed := true, recurses := true, plainKeys := false, apart := false }
def VatShadesSaid : Prop := vatShadesRow.holds Tryz.pinned (OpenSpec.ofChange vatShadesSpec)

/-- ITS FALSE NEIGHBOUR: 'it returns false'. Refute it at one input. -/
def vatShadesWrong : ChangeSpec := { name := "vatShades", fn := fun _ => fun
  | [d1, d2, d3, d4] => { results := [.lit (.bool false)], args := [d1, d2, d3, d4] }
  | _ => none }
def VatShadesWrongFalsely : Prop := vatShadesRow.holds Tryz.pinned (OpenSpec.ofChange vatShadesWrong)

/-- 'isatislaw06.VatBounds': WHATEVER THE INPUT: true; the input reads as it did. -/
def vatBoundsSpec : ChangeSpec := { name := "vatBounds", fn := fun _ => fun
  | [d1, d2] => { results := [.lit (.bool true)], args := [d1, d2] }
  | _ => none }
def vatBoundsRow : OpenClaim := { program := "ytblekjhhceknaaagreat", sum := "93995e4fe54bba5502ab962273ad6ed4cef0f6dfa25d76d0010caab8f0442dc6", func := "isatis/isatislaw06.VatBounds", spec := "vatBounds", unfollowed := true, recurses := true, plainKeys := false, apart := false }
def VatBoundsSaid : Prop := vatBoundsRow.holds Tryz.pinned (OpenSpec.ofChange vatBoundsSpec)

/-- ITS FALSE NEIGHBOUR: 'it returns false'. Refute it at one input. -/
def vatBoundsWrong : ChangeSpec := { name := "vatBounds", fn := fun _ => fun
  | [d1, d2] => { results := [.lit (.bool false)], args := [d1, d2] }
  | _ => none }
def VatBoundsWrongFalsely : Prop := vatBoundsRow.holds Tryz.pinned (OpenSpec.ofChange vatBoundsWrong)

/-- 'isatislaw06.VatKeeps': WHATEVER THE INPUT: true; the input reads as it did. -/
def vatKeepsSpec : ChangeSpec := { name := "vatKeeps", fn := fun _ => fun
  | [d1, d2] => { results := [.lit (.bool true)], args := [d1, d2] }
  | _ => none }
def vatKeepsRow : OpenClaim := { program := "ytblekjhhceknaaagreat", sum := "93995e4fe54bba5502ab962273ad6ed4cef0f6dfa25d76d0010caab8f0442dc6", func := "isatis/isatislaw06.VatKeeps", spec := "vatKeeps", unfollowed := true, recurses := true, plainKeys := false, apart := false }
def VatKeepsSaid : Prop := vatKeepsRow.holds Tryz.pinned (OpenSpec.ofChange vatKeepsSpec)

/-- ITS FALSE NEIGHBOUR: 'it returns false'. Refute it at one input. -/
def vatKeepsWrong : ChangeSpec := { name := "vatKeeps", fn := fun _ => fun
  | [d1, d2] => { results := [.lit (.bool false)], args := [d1, d2] }
  | _ => none }
def VatKeepsWrongFalsely : Prop := vatKeepsRow.holds Tryz.pinned (OpenSpec.ofChange vatKeepsWrong)

/-- 'isatislaw06.VatShows': WHATEVER THE INPUT: true; the input reads as it did. -/
def vatShowsSpec : ChangeSpec := { name := "vatShows", fn := fun _ => fun
  | [d1, d2] => { results := [.lit (.bool true)], args := [d1, d2] }
  | _ => none }
def vatShowsRow : OpenClaim := { program := "ytblekjhhceknaaagreat", sum := "93995e4fe54bba5502ab962273ad6ed4cef0f6dfa25d76d0010caab8f0442dc6", func := "isatis/isatislaw06.VatShows", spec := "vatShows", unfollowed := true, recurses := true, plainKeys := false, apart := false }
def VatShowsSaid : Prop := vatShowsRow.holds Tryz.pinned (OpenSpec.ofChange vatShowsSpec)

/-- ITS FALSE NEIGHBOUR: 'it returns false'. Refute it at one input. -/
def vatShowsWrong : ChangeSpec := { name := "vatShows", fn := fun _ => fun
  | [d1, d2] => { results := [.lit (.bool false)], args := [d1, d2] }
  | _ => none }
def VatShowsWrongFalsely : Prop := vatShowsRow.holds Tryz.pinned (OpenSpec.ofChange vatShowsWrong)

/-- 'isatislaw06.VatLeaves': WHATEVER THE INPUT: true; the input reads as it did. -/
def vatLeavesSpec : ChangeSpec := { name := "vatLeaves", fn := fun _ => fun
  | [d] => { results := [.lit (.bool true)], args := [d] }
  | _ => none }
def vatLeavesRow : OpenClaim := { program := "ytblekjhhceknaaagreat", sum := "93995e4fe54bba5502ab962273ad6ed4cef0f6dfa25d76d0010caab8f0442dc6", func := "isatis/isatislaw06.VatLeaves", spec := "vatLeaves", unfollowed := true, recurses := true, plainKeys := false, apart := false }
def VatLeavesSaid : Prop := vatLeavesRow.holds Tryz.pinned (OpenSpec.ofChange vatLeavesSpec)

/-- ITS FALSE NEIGHBOUR: 'it returns false'. Refute it at one input. -/
def vatLeavesWrong : ChangeSpec := { name := "vatLeaves", fn := fun _ => fun
  | [d] => { results := [.lit (.bool false)], args := [d] }
  | _ => none }
def VatLeavesWrongFalsely : Prop := vatLeavesRow.holds Tryz.pinned (OpenSpec.ofChange vatLeavesWrong)

/-- 'isatislaw06.VatTruth': WHATEVER THE INPUT: true; the input reads as it did. -/
def vatTruthSpec : ChangeSpec := { name := "vatTruth", fn := fun _ => fun
  | [d1, d2, d3, d4] => { results := [.lit (.bool true)], args := [d1, d2, d3, d4] }
  | _ => none }
def vatTruthRow : OpenClaim := { program := "ytblekjhhceknaaagreat", sum := "93995e4fe54bba5502ab962273ad6ed4cef0f6dfa25d76d0010caab8f0442dc6", func := "isatis/isatislaw06.VatTruth", spec := "vatTruth", unfollowed := true, recurses := true, plainKeys := false, apart := false }
def VatTruthSaid : Prop := vatTruthRow.holds Tryz.pinned (OpenSpec.ofChange vatTruthSpec)

/-- ITS FALSE NEIGHBOUR: 'it returns false'. Refute it at one input. -/
def vatTruthWrong : ChangeSpec := { name := "vatTruth", fn := fun _ => fun
  | [d1, d2, d3, d4] => { results := [.lit (.bool false)], args := [d1, d2, d3, d4] }
  | _ => none }
def VatTruthWrongFalsely : Prop := vatTruthRow.holds Tryz.pinned (OpenSpec.ofChange vatTruthWrong)

/-- 'isatislaw06.VatEnds': WHATEVER THE INPUT: true; the input reads as it did. -/
def vatEndsSpec : ChangeSpec := { name := "vatEnds", fn := fun _ => fun
  | [d1, d2, d3] => { results := [.lit (.bool true)], args := [d1, d2, d3] }
  | _ => none }
def vatEndsRow : OpenClaim := { program := "ytblekjhhceknaaagreat", sum := "93995e4fe54bba5502ab962273ad6ed4cef0f6dfa25d76d0010caab8f0442dc6", func := "isatis/isatislaw06.VatEnds", spec := "vatEnds", unfollowed := true, recurses := true, plainKeys := false, apart := false }
def VatEndsSaid : Prop := vatEndsRow.holds Tryz.pinned (OpenSpec.ofChange vatEndsSpec)

/-- ITS FALSE NEIGHBOUR: 'it returns false'. Refute it at one input. -/
def vatEndsWrong : ChangeSpec := { name := "vatEnds", fn := fun _ => fun
  | [d1, d2, d3] => { results := [.lit (.bool false)], args := [d1, d2, d3] }
  | _ => none }
def VatEndsWrongFalsely : Prop := vatEndsRow.holds Tryz.pinned (OpenSpec.ofChange vatEndsWrong)

/-- 'isatislaw06.VatMost': WHATEVER THE INPUT: true; the input reads as it did. -/
def vatMostSpec : ChangeSpec := { name := "vatMost", fn := fun _ => fun
  | [d1, d2, d3, d4] => { results := [.lit (.bool true)], args := [d1, d2, d3, d4] }
  | _ => none }
def vatMostRow : OpenClaim := { program := "ytblekjhhceknaaagreat", sum := "93995e4fe54bba5502ab962273ad6ed4cef0f6dfa25d76d0010caab8f0442dc6", func := "isatis/isatislaw06.VatMost", spec := "vatMost", unfollowed := true, recurses := true, plainKeys := false, apart := false }
def VatMostSaid : Prop := vatMostRow.holds Tryz.pinned (OpenSpec.ofChange vatMostSpec)

/-- ITS FALSE NEIGHBOUR: 'it returns false'. Refute it at one input. -/
def vatMostWrong : ChangeSpec := { name := "vatMost", fn := fun _ => fun
  | [d1, d2, d3, d4] => { results := [.lit (.bool false)], args := [d1, d2, d3, d4] }
  | _ => none }
def VatMostWrongFalsely : Prop := vatMostRow.holds Tryz.pinned (OpenSpec.ofChange vatMostWrong)

/-- 'isatislaw06.VatProof': WHATEVER THE INPUT: true; the input reads as it did. -/
def vatProofSpec : ChangeSpec := { name := "vatProof", fn := fun _ => fun
  | [d1, d2, d3, d4, d5, d6] => { results := [.lit (.bool true)], args := [d1, d2, d3, d4, d5, d6] }
  | _ => none }
def vatProofRow : OpenClaim := { program := "ytblekjhhceknaaagreat", sum := "93995e4fe54bba5502ab962273ad6ed4cef0f6dfa25d76d0010caab8f0442dc6", func := "isatis/isatislaw06.VatProof", spec := "vatProof", unfollowed := true, recurses := true, plainKeys := false, apart := false }
def VatProofSaid : Prop := vatProofRow.holds Tryz.pinned (OpenSpec.ofChange vatProofSpec)

/-- ITS FALSE NEIGHBOUR: 'it returns false'. Refute it at one input. -/
def vatProofWrong : ChangeSpec := { name := "vatProof", fn := fun _ => fun
  | [d1, d2, d3, d4, d5, d6] => { results := [.lit (.bool false)], args := [d1, d2, d3, d4, d5, d6] }
  | _ => none }
def VatProofWrongFalsely : Prop := vatProofRow.holds Tryz.pinned (OpenSpec.ofChange vatProofWrong)

/-- 'isatislaw06.VatLeft': WHATEVER THE INPUT: true; the input reads as it did. -/
def vatLeftSpec : ChangeSpec := { name := "vatLeft", fn := fun _ => fun
  | [d1, d2] => { results := [.lit (.bool true)], args := [d1, d2] }
  | _ => none }
def vatLeftRow : OpenClaim := { program := "ytblekjhhceknaaagreat", sum := "93995e4fe54bba5502ab962273ad6ed4cef0f6dfa25d76d0010caab8f0442dc6", func := "isatis/isatislaw06.VatLeft", spec := "vatLeft", unfollowed := true, recurses := true, plainKeys := false, apart := false }
def VatLeftSaid : Prop := vatLeftRow.holds Tryz.pinned (OpenSpec.ofChange vatLeftSpec)

/-- ITS FALSE NEIGHBOUR: 'it returns false'. Refute it at one input. -/
def vatLeftWrong : ChangeSpec := { name := "vatLeft", fn := fun _ => fun
  | [d1, d2] => { results := [.lit (.bool false)], args := [d1, d2] }
  | _ => none }
def VatLeftWrongFalsely : Prop := vatLeftRow.holds Tryz.pinned (OpenSpec.ofChange vatLeftWrong)

/- THE SECOND FORM. 'bulk': how many values and letters a reading holds, each counted each time it is reached (what is shared counts as often as it is met; a slice's spare places count too). A statement '..UptoSaid' is the law's where the arguments, and the package variables that the reading takes, are together of bulk at most 1048576: NARROWER than '..Said'. Prove '..Said' where nothing that the law and all that it calls make is longer than what came in: it says more and counts as full. Else prove '..UptoSaid'. A law counts once. -/
mutual
def uptoBulk {H : Type} : DataW H → Nat
  | .lit (.string bytes) => bytes.length + 1
  | .lit _ => 1
  | .nil => 1
  | .ptr d => uptoBulk d + 1
  | .slice elems spare => uptoBulkAll elems + uptoBulkAll spare + 1
  | .agg parts => uptoBulkAll parts + 1
  | .iface _ d => uptoBulk d + 1
  | .map entries => uptoBulkEntries entries + 1
  | .held _ => 1
def uptoBulkAll {H : Type} : List (DataW H) → Nat
  | [] => 0
  | d :: r => uptoBulk d + uptoBulkAll r
def uptoBulkEntries {H : Type} : List (Lit × DataW H) → Nat
  | [] => 0
  | x :: r => uptoBulkEntry x + uptoBulkEntries r
def uptoBulkEntry {H : Type} : Lit × DataW H → Nat
  | (.string bytes, d) => bytes.length + uptoBulk d + 1
  | (_, d) => uptoBulk d + 1
 end
def uptoSmall : (H : Type) → List (DataW H) → Bool := fun _ ds => decide (uptoBulkAll ds ≤ 1048576)
def OpenSpec.upto (s : _root_.Go.ChangeSpec) : _root_.Go.OpenSpec := { _root_.Go.OpenSpec.ofChange s with cond := some uptoSmall }

/-- 'isatislaw06.VatPlays', WHERE WHAT IT READS IS OF BULK AT MOST 1048576: true; the input reads as it did. -/
def vatPlaysUptoRow : OpenClaim := { program := "ytblekjhhceknaaagreat", sum := "93995e4fe54bba5502ab962273ad6ed4cef0f6dfa25d76d0010caab8f0442dc6", func := "isatis/isatislaw06.VatPlays", spec := "vatPlays", unfollowed := true, recurses := true, plainKeys := false, apart := false, narrowed := true }
def VatPlaysUptoSaid : Prop := vatPlaysUptoRow.holds Tryz.pinned (OpenSpec.upto vatPlaysSpec)

/-- 'isatislaw06.VatShades', WHERE WHAT IT READS IS OF BULK AT MOST 1048576: true; the input reads as it did. -/
def vatShadesUptoRow : OpenClaim := { program := "ytblekjhhceknaaagreat", sum := "93995e4fe54bba5502ab962273ad6ed4cef0f6dfa25d76d0010caab8f0442dc6", func := "isatis/isatislaw06.VatShades", spec := "vatShades", unfollowed := true, recurses := true, plainKeys := false, apart := false, narrowed := true }
def VatShadesUptoSaid : Prop := vatShadesUptoRow.holds Tryz.pinned (OpenSpec.upto vatShadesSpec)

/-- 'isatislaw06.VatBounds', WHERE WHAT IT READS IS OF BULK AT MOST 1048576: true; the input reads as it did. -/
def vatBoundsUptoRow : OpenClaim := { program := "ytblekjhhceknaaagreat", sum := "93995e4fe54bba5502ab962273ad6ed4cef0f6dfa25d76d0010caab8f0442dc6", func := "isatis/isatislaw06.VatBounds", spec := "vatBounds", unfollowed := true, recurses := true, plainKeys := false, apart := false, narrowed := true }
def VatBoundsUptoSaid : Prop := vatBoundsUptoRow.holds Tryz.pinned (OpenSpec.upto vatBoundsSpec)

/-- 'isatislaw06.VatKeeps', WHERE WHAT IT READS IS OF BULK AT MOST 1048576: true; the input reads as it did. -/
def vatKeepsUptoRow : OpenClaim := { program := "ytblekjhhceknaaagreat", sum := "93995e4fe54bba5502ab962273ad6ed4cef0f6dfa25d76d0010caab8f0442dc6", func := "isatis/isatislaw06.VatKeeps", spec := "vatKeeps", unfollowed := true, recurses := true, plainKeys := false, apart := false, narrowed := true }
def VatKeepsUptoSaid : Prop := vatKeepsUptoRow.holds Tryz.pinned (OpenSpec.upto vatKeepsSpec)

/-- 'isatislaw06.VatShows', WHERE WHAT IT READS IS OF BULK AT MOST 1048576: true; the input reads as it did. -/
def vatShowsUptoRow : OpenClaim := { program := "ytblekjhhceknaaagreat", sum := "93995e4fe54bba5502ab962273ad6ed4cef0f6dfa25d76d0010caab8f0442dc6", func := "isatis/isatislaw06.VatShows", spec := "vatShows", unfollowed := true, recurses := true, plainKeys := false, apart := false, narrowed := true }
def VatShowsUptoSaid : Prop := vatShowsUptoRow.holds Tryz.pinned (OpenSpec.upto vatShowsSpec)

/-- 'isatislaw06.VatLeaves', WHERE WHAT IT READS IS OF BULK AT MOST 1048576: true; the input reads as it did. -/
def vatLeavesUptoRow : OpenClaim := { program := "ytblekjhhceknaaagreat", sum := "93995e4fe54bba5502ab962273ad6ed4cef0f6dfa25d76d0010caab8f0442dc6", func := "isatis/isatislaw06.VatLeaves", spec := "vatLeaves", unfollowed := true, recurses := true, plainKeys := false, apart := false, narrowed := true }
def VatLeavesUptoSaid : Prop := vatLeavesUptoRow.holds Tryz.pinned (OpenSpec.upto vatLeavesSpec)

/-- 'isatislaw06.VatTruth', WHERE WHAT IT READS IS OF BULK AT MOST 1048576: true; the input reads as it did. -/
def vatTruthUptoRow : OpenClaim := { program := "ytblekjhhceknaaagreat", sum := "93995e4fe54bba5502ab962273ad6ed4cef0f6dfa25d76d0010caab8f0442dc6", func := "isatis/isatislaw06.VatTruth", spec := "vatTruth", unfollowed := true, recurses := true, plainKeys := false, apart := false, narrowed := true }
def VatTruthUptoSaid : Prop := vatTruthUptoRow.holds Tryz.pinned (OpenSpec.upto vatTruthSpec)

/-- 'isatislaw06.VatEnds', WHERE WHAT IT READS IS OF BULK AT MOST 1048576: true; the input reads as it did. -/
def vatEndsUptoRow : OpenClaim := { program := "ytblekjhhceknaaagreat", sum := "93995e4fe54bba5502ab962273ad6ed4cef0f6dfa25d76d0010caab8f0442dc6", func := "isatis/isatislaw06.VatEnds", spec := "vatEnds", unfollowed := true, recurses := true, plainKeys := false, apart := false, narrowed := true }
def VatEndsUptoSaid : Prop := vatEndsUptoRow.holds Tryz.pinned (OpenSpec.upto vatEndsSpec)

/-- 'isatislaw06.VatMost', WHERE WHAT IT READS IS OF BULK AT MOST 1048576: true; the input reads as it did. -/
def vatMostUptoRow : OpenClaim := { program := "ytblekjhhceknaaagreat", sum := "93995e4fe54bba5502ab962273ad6ed4cef0f6dfa25d76d0010caab8f0442dc6", func := "isatis/isatislaw06.VatMost", spec := "vatMost", unfollowed := true, recurses := true, plainKeys := false, apart := false, narrowed := true }
def VatMostUptoSaid : Prop := vatMostUptoRow.holds Tryz.pinned (OpenSpec.upto vatMostSpec)

/-- 'isatislaw06.VatProof', WHERE WHAT IT READS IS OF BULK AT MOST 1048576: true; the input reads as it did. -/
def vatProofUptoRow : OpenClaim := { program := "ytblekjhhceknaaagreat", sum := "93995e4fe54bba5502ab962273ad6ed4cef0f6dfa25d76d0010caab8f0442dc6", func := "isatis/isatislaw06.VatProof", spec := "vatProof", unfollowed := true, recurses := true, plainKeys := false, apart := false, narrowed := true }
def VatProofUptoSaid : Prop := vatProofUptoRow.holds Tryz.pinned (OpenSpec.upto vatProofSpec)

/-- 'isatislaw06.VatLeft', WHERE WHAT IT READS IS OF BULK AT MOST 1048576: true; the input reads as it did. -/
def vatLeftUptoRow : OpenClaim := { program := "ytblekjhhceknaaagreat", sum := "93995e4fe54bba5502ab962273ad6ed4cef0f6dfa25d76d0010caab8f0442dc6", func := "isatis/isatislaw06.VatLeft", spec := "vatLeft", unfollowed := true, recurses := true, plainKeys := false, apart := false, narrowed := true }
def VatLeftUptoSaid : Prop := vatLeftUptoRow.holds Tryz.pinned (OpenSpec.upto vatLeftSpec)

end Rows
end Go.Proofs.YtblekjhhceknaaaGreat
