/-
  No cell of these rows narrows 'for every input' (looked for: loops, veiled, ifaces, maps, wideKeys, modest, calm, conditions, laid).
  DERIVED. THE GIVEN ROWS OF THIS SEAT. 12 by the template 'for every input the law returns true; each argument reads behind the call as it read before'; 0 by the template 'total and deterministic' (their statements: YtphjbeffckignaaGreatTotals.lean).
  GIVEN WITH THE SEED: the statements are not yours to turn. If you find one false, say at which input.
  Laid BY PROGRAM, IN A SANDBOX (cutbox-rows.mjs): the forced cells as the released guide's own fill.sh prints them over the translation d9f0ced523a1c106… (all of the seat's roots in one cut). By AI agents, Wed Nov 11 2026. No macro, syntax, notation, axiom, sorry.
-/
import Derived.Test.YtphjbeffckignaaGreatChecked
import GoSem.Claim
import GoSem.ClaimJoined
import GoSem.ClaimMapViews
import Derived.JoinedTies
import Derived.KernelRfl
namespace Go.Proofs.YtphjbeffckignaaGreat
/- THE CELL 'sum', in the pinned program and in every row, IS THE sha256 OF THE DUMP (.gsa) THAT YtphjbeffckignaaGreatProg.lean LOADS. Nothing in Lean hashes anything: it is a label: what it is worth is what the hold of that sum in a sandbox is worth. -/
noncomputable def Tryz.pinned : Pinned := { name := "ytphjbeffckignaagreat", sum := "d9f0ced523a1c1069cea47d90175e64422f2c1384d34d6dc4c0b706cca51ed28", checked := Tryz.checked }
namespace Rows
def none {H : Type} : Left H := { results := [], args := [] }

/-- 'isatislaw07.PiecePlays': WHATEVER THE INPUT: true; the input reads as it did. -/
def piecePlaysSpec : ChangeSpec := { name := "piecePlays", fn := fun _ => fun
  | [d1, d2, d3] => { results := [.lit (.bool true)], args := [d1, d2, d3] }
  | _ => none }
def piecePlaysRow : OpenClaim := { program := "ytphjbeffckignaagreat", sum := "d9f0ced523a1c1069cea47d90175e64422f2c1384d34d6dc4c0b706cca51ed28", func := "isatis/isatislaw07.PiecePlays", spec := "piecePlays", unfollowed := true, recurses := true, plainKeys := false, apart := false }
def PiecePlaysSaid : Prop := piecePlaysRow.holds Tryz.pinned (OpenSpec.ofChange piecePlaysSpec)

/-- ITS FALSE NEIGHBOUR: 'it returns false'. Refute it at one input. -/
def piecePlaysWrong : ChangeSpec := { name := "piecePlays", fn := fun _ => fun
  | [d1, d2, d3] => { results := [.lit (.bool false)], args := [d1, d2, d3] }
  | _ => none }
def PiecePlaysWrongFalsely : Prop := piecePlaysRow.holds Tryz.pinned (OpenSpec.ofChange piecePlaysWrong)

/-- 'isatislaw07.PieceDips': WHATEVER THE INPUT: true; the input reads as it did. -/
def pieceDipsSpec : ChangeSpec := { name := "pieceDips", fn := fun _ => fun
  | [d1, d2, d3] => { results := [.lit (.bool true)], args := [d1, d2, d3] }
  | _ => none }
def pieceDipsRow : OpenClaim := { program := "ytphjbeffckignaagreat", sum := "d9f0ced523a1c1069cea47d90175e64422f2c1384d34d6dc4c0b706cca51ed28", func := "isatis/isatislaw07.PieceDips", spec := "pieceDips", unfollowed := true, recurses := true, plainKeys := false, apart := false }
def PieceDipsSaid : Prop := pieceDipsRow.holds Tryz.pinned (OpenSpec.ofChange pieceDipsSpec)

/-- ITS FALSE NEIGHBOUR: 'it returns false'. Refute it at one input. -/
def pieceDipsWrong : ChangeSpec := { name := "pieceDips", fn := fun _ => fun
  | [d1, d2, d3] => { results := [.lit (.bool false)], args := [d1, d2, d3] }
  | _ => none }
def PieceDipsWrongFalsely : Prop := pieceDipsRow.holds Tryz.pinned (OpenSpec.ofChange pieceDipsWrong)

/-- 'isatislaw07.PieceProves': WHATEVER THE INPUT: true; the input reads as it did. -/
def pieceProvesSpec : ChangeSpec := { name := "pieceProves", fn := fun _ => fun
  | [d1, d2, d3, d4] => { results := [.lit (.bool true)], args := [d1, d2, d3, d4] }
  | _ => none }
def pieceProvesRow : OpenClaim := { program := "ytphjbeffckignaagreat", sum := "d9f0ced523a1c1069cea47d90175e64422f2c1384d34d6dc4c0b706cca51ed28", func := "isatis/isatislaw07.PieceProves", spec := "pieceProves", unfollowed := true, recurses := true, plainKeys := false, apart := false }
def PieceProvesSaid : Prop := pieceProvesRow.holds Tryz.pinned (OpenSpec.ofChange pieceProvesSpec)

/-- ITS FALSE NEIGHBOUR: 'it returns false'. Refute it at one input. -/
def pieceProvesWrong : ChangeSpec := { name := "pieceProves", fn := fun _ => fun
  | [d1, d2, d3, d4] => { results := [.lit (.bool false)], args := [d1, d2, d3, d4] }
  | _ => none }
def PieceProvesWrongFalsely : Prop := pieceProvesRow.holds Tryz.pinned (OpenSpec.ofChange pieceProvesWrong)

/-- 'isatislaw07.PieceLater': WHATEVER THE INPUT: true; the input reads as it did. -/
def pieceLaterSpec : ChangeSpec := { name := "pieceLater", fn := fun _ => fun
  | [d1, d2, d3, d4, d5] => { results := [.lit (.bool true)], args := [d1, d2, d3, d4, d5] }
  | _ => none }
def pieceLaterRow : OpenClaim := { program := "ytphjbeffckignaagreat", sum := "d9f0ced523a1c1069cea47d90175e64422f2c1384d34d6dc4c0b706cca51ed28", func := "isatis/isatislaw07.PieceLater", spec := "pieceLater", unfollowed := true, recurses := true, plainKeys := false, apart := false }
def PieceLaterSaid : Prop := pieceLaterRow.holds Tryz.pinned (OpenSpec.ofChange pieceLaterSpec)

/-- ITS FALSE NEIGHBOUR: 'it returns false'. Refute it at one input. -/
def pieceLaterWrong : ChangeSpec := { name := "pieceLater", fn := fun _ => fun
  | [d1, d2, d3, d4, d5] => { results := [.lit (.bool false)], args := [d1, d2, d3, d4, d5] }
  | _ => none }
def PieceLaterWrongFalsely : Prop := pieceLaterRow.holds Tryz.pinned (OpenSpec.ofChange pieceLaterWrong)

/-- 'isatislaw07.PieceMatch': WHATEVER THE INPUT: true; the input reads as it did. -/
def pieceMatchSpec : ChangeSpec := { name := "pieceMatch", fn := fun _ => fun
  | [d1, d2, d3, d4, d5] => { results := [.lit (.bool true)], args := [d1, d2, d3, d4, d5] }
  | _ => none }
def pieceMatchRow : OpenClaim := { program := "ytphjbeffckignaagreat", sum := "d9f0ced523a1c1069cea47d90175e64422f2c1384d34d6dc4c0b706cca51ed28", func := "isatis/isatislaw07.PieceMatch", spec := "pieceMatch", unfollowed := true, recurses := true, plainKeys := false, apart := false }
def PieceMatchSaid : Prop := pieceMatchRow.holds Tryz.pinned (OpenSpec.ofChange pieceMatchSpec)

/-- ITS FALSE NEIGHBOUR: 'it returns false'. Refute it at one input. -/
def pieceMatchWrong : ChangeSpec := { name := "pieceMatch", fn := fun _ => fun
  | [d1, d2, d3, d4, d5] => { results := [.lit (.bool false)], args := [d1, d2, d3, d4, d5] }
  | _ => none }
def PieceMatchWrongFalsely : Prop := pieceMatchRow.holds Tryz.pinned (OpenSpec.ofChange pieceMatchWrong)

/-- 'isatislaw07.PieceRights': WHATEVER THE INPUT: true; the input reads as it did. -/
def pieceRightsSpec : ChangeSpec := { name := "pieceRights", fn := fun _ => fun
  | [d1, d2, d3, d4] => { results := [.lit (.bool true)], args := [d1, d2, d3, d4] }
  | _ => none }
def pieceRightsRow : OpenClaim := { program := "ytphjbeffckignaagreat", sum := "d9f0ced523a1c1069cea47d90175e64422f2c1384d34d6dc4c0b706cca51ed28", func := "isatis/isatislaw07.PieceRights", spec := "pieceRights", unfollowed := true, recurses := true, plainKeys := false, apart := false }
def PieceRightsSaid : Prop := pieceRightsRow.holds Tryz.pinned (OpenSpec.ofChange pieceRightsSpec)

/-- ITS FALSE NEIGHBOUR: 'it returns false'. Refute it at one input. -/
def pieceRightsWrong : ChangeSpec := { name := "pieceRights", fn := fun _ => fun
  | [d1, d2, d3, d4] => { results := [.lit (.bool false)], args := [d1, d2, d3, d4] }
  | _ => none }
def PieceRightsWrongFalsely : Prop := pieceRightsRow.holds Tryz.pinned (OpenSpec.ofChange pieceRightsWrong)

/-- 'isatislaw07.PieceNames': WHATEVER THE INPUT: true; the input reads as it did. -/
def pieceNamesSpec : ChangeSpec := { name := "pieceNames", fn := fun _ => fun
  | [] => { results := [.lit (.bool true)], args := [] }
  | _ => none }
def pieceNamesRow : OpenClaim := { program := "ytphjbeffckignaagreat", sum := "d9f0ced523a1c1069cea47d90175e64422f2c1384d34d6dc4c0b706cca51ed28", func := "isatis/isatislaw07.PieceNames", spec := "pieceNames", unfollowed := true, recurses := true, plainKeys := false, apart := false }
def PieceNamesSaid : Prop := pieceNamesRow.holds Tryz.pinned (OpenSpec.ofChange pieceNamesSpec)

/-- ITS FALSE NEIGHBOUR: 'it returns false'. Refute it at one input. -/
def pieceNamesWrong : ChangeSpec := { name := "pieceNames", fn := fun _ => fun
  | [] => { results := [.lit (.bool false)], args := [] }
  | _ => none }
def PieceNamesWrongFalsely : Prop := pieceNamesRow.holds Tryz.pinned (OpenSpec.ofChange pieceNamesWrong)

/-- 'isatislaw07.PieceTruth': WHATEVER THE INPUT: true; the input reads as it did. -/
def pieceTruthSpec : ChangeSpec := { name := "pieceTruth", fn := fun _ => fun
  | [d1, d2, d3] => { results := [.lit (.bool true)], args := [d1, d2, d3] }
  | _ => none }
def pieceTruthRow : OpenClaim := { program := "ytphjbeffckignaagreat", sum := "d9f0ced523a1c1069cea47d90175e64422f2c1384d34d6dc4c0b706cca51ed28", func := "isatis/isatislaw07.PieceTruth", spec := "pieceTruth", unfollowed := true, recurses := true, plainKeys := false, apart := false }
def PieceTruthSaid : Prop := pieceTruthRow.holds Tryz.pinned (OpenSpec.ofChange pieceTruthSpec)

/-- ITS FALSE NEIGHBOUR: 'it returns false'. Refute it at one input. -/
def pieceTruthWrong : ChangeSpec := { name := "pieceTruth", fn := fun _ => fun
  | [d1, d2, d3] => { results := [.lit (.bool false)], args := [d1, d2, d3] }
  | _ => none }
def PieceTruthWrongFalsely : Prop := pieceTruthRow.holds Tryz.pinned (OpenSpec.ofChange pieceTruthWrong)

/-- 'isatislaw07.PieceWider': WHATEVER THE INPUT: true; the input reads as it did. -/
def pieceWiderSpec : ChangeSpec := { name := "pieceWider", fn := fun _ => fun
  | [d1, d2, d3, d4] => { results := [.lit (.bool true)], args := [d1, d2, d3, d4] }
  | _ => none }
def pieceWiderRow : OpenClaim := { program := "ytphjbeffckignaagreat", sum := "d9f0ced523a1c1069cea47d90175e64422f2c1384d34d6dc4c0b706cca51ed28", func := "isatis/isatislaw07.PieceWider", spec := "pieceWider", unfollowed := true, recurses := true, plainKeys := false, apart := false }
def PieceWiderSaid : Prop := pieceWiderRow.holds Tryz.pinned (OpenSpec.ofChange pieceWiderSpec)

/-- ITS FALSE NEIGHBOUR: 'it returns false'. Refute it at one input. -/
def pieceWiderWrong : ChangeSpec := { name := "pieceWider", fn := fun _ => fun
  | [d1, d2, d3, d4] => { results := [.lit (.bool false)], args := [d1, d2, d3, d4] }
  | _ => none }
def PieceWiderWrongFalsely : Prop := pieceWiderRow.holds Tryz.pinned (OpenSpec.ofChange pieceWiderWrong)

/-- 'isatislaw07.PieceLook': WHATEVER THE INPUT: true; the input reads as it did. -/
def pieceLookSpec : ChangeSpec := { name := "pieceLook", fn := fun _ => fun
  | [d1, d2, d3, d4] => { results := [.lit (.bool true)], args := [d1, d2, d3, d4] }
  | _ => none }
def pieceLookRow : OpenClaim := { program := "ytphjbeffckignaagreat", sum := "d9f0ced523a1c1069cea47d90175e64422f2c1384d34d6dc4c0b706cca51ed28", func := "isatis/isatislaw07.PieceLook", spec := "pieceLook", unfollowed := true, recurses := true, plainKeys := false, apart := false }
def PieceLookSaid : Prop := pieceLookRow.holds Tryz.pinned (OpenSpec.ofChange pieceLookSpec)

/-- ITS FALSE NEIGHBOUR: 'it returns false'. Refute it at one input. -/
def pieceLookWrong : ChangeSpec := { name := "pieceLook", fn := fun _ => fun
  | [d1, d2, d3, d4] => { results := [.lit (.bool false)], args := [d1, d2, d3, d4] }
  | _ => none }
def PieceLookWrongFalsely : Prop := pieceLookRow.holds Tryz.pinned (OpenSpec.ofChange pieceLookWrong)

/-- 'isatislaw07.PieceHopeless': WHATEVER THE INPUT: true; the input reads as it did. -/
def pieceHopelessSpec : ChangeSpec := { name := "pieceHopeless", fn := fun _ => fun
  | [d1, d2, d3] => { results := [.lit (.bool true)], args := [d1, d2, d3] }
  | _ => none }
def pieceHopelessRow : OpenClaim := { program := "ytphjbeffckignaagreat", sum := "d9f0ced523a1c1069cea47d90175e64422f2c1384d34d6dc4c0b706cca51ed28", func := "isatis/isatislaw07.PieceHopeless", spec := "pieceHopeless", unfollowed := true, recurses := true, plainKeys := false, apart := false }
def PieceHopelessSaid : Prop := pieceHopelessRow.holds Tryz.pinned (OpenSpec.ofChange pieceHopelessSpec)

/-- ITS FALSE NEIGHBOUR: 'it returns false'. Refute it at one input. -/
def pieceHopelessWrong : ChangeSpec := { name := "pieceHopeless", fn := fun _ => fun
  | [d1, d2, d3] => { results := [.lit (.bool false)], args := [d1, d2, d3] }
  | _ => none }
def PieceHopelessWrongFalsely : Prop := pieceHopelessRow.holds Tryz.pinned (OpenSpec.ofChange pieceHopelessWrong)

/-- 'isatislaw07.PieceSum': WHATEVER THE INPUT: true; the input reads as it did. -/
def pieceSumSpec : ChangeSpec := { name := "pieceSum", fn := fun _ => fun
  | [d1, d2, d3] => { results := [.lit (.bool true)], args := [d1, d2, d3] }
  | _ => none }
def pieceSumRow : OpenClaim := { program := "ytphjbeffckignaagreat", sum := "d9f0ced523a1c1069cea47d90175e64422f2c1384d34d6dc4c0b706cca51ed28", func := "isatis/isatislaw07.PieceSum", spec := "pieceSum", unfollowed := true, recurses := true, plainKeys := false, apart := false }
def PieceSumSaid : Prop := pieceSumRow.holds Tryz.pinned (OpenSpec.ofChange pieceSumSpec)

/-- ITS FALSE NEIGHBOUR: 'it returns false'. Refute it at one input. -/
def pieceSumWrong : ChangeSpec := { name := "pieceSum", fn := fun _ => fun
  | [d1, d2, d3] => { results := [.lit (.bool false)], args := [d1, d2, d3] }
  | _ => none }
def PieceSumWrongFalsely : Prop := pieceSumRow.holds Tryz.pinned (OpenSpec.ofChange pieceSumWrong)

/- THE SECOND FORM. 'bulk': how many values and letters a reading holds, each counted each time it is reached (what is shared counts as often as it is met; a slice's spare places count too). A statement '..UptoSaid' is the law's where the arguments, and the package variables that the reading takes, are together of bulk at most 1048576: NARROWER than '..Said'. Prove '..Said' where nothing that the law and all that it calls make is longer than what came in: it says more and counts as full. Else prove '..UptoSaid'. A law counts once. -/
mutual
def uptoBulk {H : Type} : DataW H → Nat
  | .lit (.string bytes) => bytes.length + 1
  | .lit _ => 1
  | .nil => 1
  | .ptr d => uptoBulk d + 1
  | .slice elems spare => uptoBulkAll elems + uptoBulkAll spare + 1
  | .agg parts => uptoBulkAll parts + 1
  | .iface _ d => uptoBulk d + 1
  | .map entries => uptoBulkEntries entries + 1
  | .held _ => 1
def uptoBulkAll {H : Type} : List (DataW H) → Nat
  | [] => 0
  | d :: r => uptoBulk d + uptoBulkAll r
def uptoBulkEntries {H : Type} : List (Lit × DataW H) → Nat
  | [] => 0
  | x :: r => uptoBulkEntry x + uptoBulkEntries r
def uptoBulkEntry {H : Type} : Lit × DataW H → Nat
  | (.string bytes, d) => bytes.length + uptoBulk d + 1
  | (_, d) => uptoBulk d + 1
 end
def uptoSmall : (H : Type) → List (DataW H) → Bool := fun _ ds => decide (uptoBulkAll ds ≤ 1048576)
def OpenSpec.upto (s : _root_.Go.ChangeSpec) : _root_.Go.OpenSpec := { _root_.Go.OpenSpec.ofChange s with cond := some uptoSmall }

/-- 'isatislaw07.PiecePlays', WHERE WHAT IT READS IS OF BULK AT MOST 1048576: true; the input reads as it did. -/
def piecePlaysUptoRow : OpenClaim := { program := "ytphjbeffckignaagreat", sum := "d9f0ced523a1c1069cea47d90175e64422f2c1384d34d6dc4c0b706cca51ed28", func := "isatis/isatislaw07.PiecePlays", spec := "piecePlays", unfollowed := true, recurses := true, plainKeys := false, apart := false, narrowed := true }
def PiecePlaysUptoSaid : Prop := piecePlaysUptoRow.holds Tryz.pinned (OpenSpec.upto piecePlaysSpec)

/-- 'isatislaw07.PieceDips', WHERE WHAT IT READS IS OF BULK AT MOST 1048576: true; the input reads as it did. -/
def pieceDipsUptoRow : OpenClaim := { program := "ytphjbeffckignaagreat", sum := "d9f0ced523a1c1069cea47d90175e64422f2c1384d34d6dc4c0b706cca51ed28", func := "isatis/isatislaw07.PieceDips", spec := "pieceDips", unfollowed := true, recurses := true, plainKeys := false, apart := false, narrowed := true }
def PieceDipsUptoSaid : Prop := pieceDipsUptoRow.holds Tryz.pinned (OpenSpec.upto pieceDipsSpec)

/-- 'isatislaw07.PieceProves', WHERE WHAT IT READS IS OF BULK AT MOST 1048576: true; the input reads as it did. -/
def pieceProvesUptoRow : OpenClaim := { program := "ytphjbeffckignaagreat", sum := "d9f0ced523a1c1069cea47d90175e64422f2c1384d34d6dc4c0b706cca51ed28", func := "isatis/isatislaw07.PieceProves", spec := "pieceProves", unfollowed := true, recurses := true, plainKeys := false, apart := false, narrowed := true }
def PieceProvesUptoSaid : Prop := pieceProvesUptoRow.holds Tryz.pinned (OpenSpec.upto pieceProvesSpec)

/-- 'isatislaw07.PieceLater', WHERE WHAT IT READS IS OF BULK AT MOST 1048576: true; the input reads as it did. -/
def pieceLaterUptoRow : OpenClaim := { program := "ytphjbeffckignaagreat", sum := "d9f0ced523a1c1069cea47d90175e64422f2c1384d34d6dc4c0b706cca51ed28", func := "isatis/isatislaw07.PieceLater", spec := "pieceLater", unfollowed := true, recurses := true, plainKeys := false, apart := false, narrowed := true }
def PieceLaterUptoSaid : Prop := pieceLaterUptoRow.holds Tryz.pinned (OpenSpec.upto pieceLaterSpec)

/-- 'isatislaw07.PieceMatch', WHERE WHAT IT READS IS OF BULK AT MOST 1048576: true; the input reads as it did. -/
def pieceMatchUptoRow : OpenClaim := { program := "ytphjbeffckignaagreat", sum := "d9f0ced523a1c1069cea47d90175e64422f2c1384d34d6dc4c0b706cca51ed28", func := "isatis/isatislaw07.PieceMatch", spec := "pieceMatch", unfollowed := true, recurses := true, plainKeys := false, apart := false, narrowed := true }
def PieceMatchUptoSaid : Prop := pieceMatchUptoRow.holds Tryz.pinned (OpenSpec.upto pieceMatchSpec)

/-- 'isatislaw07.PieceRights', WHERE WHAT IT READS IS OF BULK AT MOST 1048576: true; the input reads as it did. -/
def pieceRightsUptoRow : OpenClaim := { program := "ytphjbeffckignaagreat", sum := "d9f0ced523a1c1069cea47d90175e64422f2c1384d34d6dc4c0b706cca51ed28", func := "isatis/isatislaw07.PieceRights", spec := "pieceRights", unfollowed := true, recurses := true, plainKeys := false, apart := false, narrowed := true }
def PieceRightsUptoSaid : Prop := pieceRightsUptoRow.holds Tryz.pinned (OpenSpec.upto pieceRightsSpec)

/-- 'isatislaw07.PieceNames', WHERE WHAT IT READS IS OF BULK AT MOST 1048576: true; the input reads as it did. -/
def pieceNamesUptoRow : OpenClaim := { program := "ytphjbeffckignaagreat", sum := "d9f0ced523a1c1069cea47d90175e64422f2c1384d34d6dc4c0b706cca51ed28", func := "isatis/isatislaw07.PieceNames", spec := "pieceNames", unfollowed := true, recurses := true, plainKeys := false, apart := false, narrowed := true }
def PieceNamesUptoSaid : Prop := pieceNamesUptoRow.holds Tryz.pinned (OpenSpec.upto pieceNamesSpec)

/-- 'isatislaw07.PieceTruth', WHERE WHAT IT READS IS OF BULK AT MOST 1048576: true; the input reads as it did. -/
def pieceTruthUptoRow : OpenClaim := { program := "ytphjbeffckignaagreat", sum := "d9f0ced523a1c1069cea47d90175e64422f2c1384d34d6dc4c0b706cca51ed28", func := "isatis/isatislaw07.PieceTruth", spec := "pieceTruth", unfollowed := true, recurses := true, plainKeys := false, apart := false, narrowed := true }
def PieceTruthUptoSaid : Prop := pieceTruthUptoRow.holds Tryz.pinned (OpenSpec.upto pieceTruthSpec)

/-- 'isatislaw07.PieceWider', WHERE WHAT IT READS IS OF BULK AT MOST 1048576: true; the input reads as it did. -/
def pieceWiderUptoRow : OpenClaim := { program := "ytphjbeffckignaagreat", sum := "d9f0ced523a1c1069cea47d90175e64422f2c1384d34d6dc4c0b706cca51ed28", func := "isatis/isatislaw07.PieceWider", spec := "pieceWider", unfollowed := true, recurses := true, plainKeys := false, apart := false, narrowed := true }
def PieceWiderUptoSaid : Prop := pieceWiderUptoRow.holds Tryz.pinned (OpenSpec.upto pieceWiderSpec)

/-- 'isatislaw07.PieceLook', WHERE WHAT IT READS IS OF BULK AT MOST 1048576: true; the input reads as it did. -/
def pieceLookUptoRow : OpenClaim := { program := "ytphjbeffckignaagreat", sum := "d9f0ced523a1c1069cea47d90175e64422f2c1384d34d6dc4c0b706cca51ed28", func := "isatis/isatislaw07.PieceLook", spec := "pieceLook", unfollowed := true, recurses := true, plainKeys := false, apart := false, narrowed := true }
def PieceLookUptoSaid : Prop := pieceLookUptoRow.holds Tryz.pinned (OpenSpec.upto pieceLookSpec)

/-- 'isatislaw07.PieceHopeless', WHERE WHAT IT READS IS OF BULK AT MOST 1048576: true; the input reads as it did. -/
def pieceHopelessUptoRow : OpenClaim := { program := "ytphjbeffckignaagreat", sum := "d9f0ced523a1c1069cea47d90175e64422f2c1384d34d6dc4c0b706cca51ed28", func := "isatis/isatislaw07.PieceHopeless", spec := "pieceHopeless", unfollowed := true, recurses := true, plainKeys := false, apart := false, narrowed := true }
def PieceHopelessUptoSaid : Prop := pieceHopelessUptoRow.holds Tryz.pinned (OpenSpec.upto pieceHopelessSpec)

/-- 'isatislaw07.PieceSum', WHERE WHAT IT READS IS OF BULK AT MOST 1048576: true; the input reads as it did. -/
def pieceSumUptoRow : OpenClaim := { program := "ytphjbeffckignaagreat", sum := "d9f0ced523a1c1069cea47d90175e64422f2c1384d34d6dc4c0b706cca51ed28", func := "isatis/isatislaw07.PieceSum", spec := "pieceSum", unfollowed := true, recurses := true, plainKeys := false, apart := false, narrowed := true }
def PieceSumUptoSaid : Prop := pieceSumUptoRow.holds Tryz.pinned (OpenSpec.upto pieceSumSpec)

end Rows
end Go.Proofs.YtphjbeffckignaaGreat
