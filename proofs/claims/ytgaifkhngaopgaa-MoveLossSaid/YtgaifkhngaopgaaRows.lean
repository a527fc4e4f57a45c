/-
  No cell of these rows narrows 'for every input' (looked for: loops, veiled, ifaces, maps, wideKeys, modest, calm, conditions, laid).
  DERIVED. THE GIVEN ROWS OF THIS SEAT. 13 by the template 'for every input the law returns true; each argument reads behind the call as it read before'; 0 by the template 'total and deterministic' (their statements: YtgaifkhngaopgaaTotals.lean).
  GIVEN WITH THE SEED: the statements are not yours to turn. If you find one false, say at which input.
  Laid BY PROGRAM, IN A SANDBOX (cutbox-rows.mjs): the forced cells as the released guide's own fill.sh prints them over the translation 696969770b3474f1… (all of the seat's roots in one cut). By AI agents, Wed Nov 11 2026. No macro, syntax, notation, axiom, sorry.
-/
import Derived.Test.YtgaifkhngaopgaaChecked
import GoSem.Claim
import GoSem.ClaimJoined
import GoSem.ClaimMapViews
import Derived.JoinedTies
import Derived.KernelRfl
namespace Go.Proofs.Ytgaifkhngaopgaa
/- THE CELL 'sum', in the pinned program and in every row, IS THE sha256 OF THE DUMP (.gsa) THAT YtgaifkhngaopgaaProg.lean LOADS. Nothing in Lean hashes anything: it is a label: what it is worth is what the hold of that sum in a sandbox is worth. -/
noncomputable def Try.pinned : Pinned := { name := "ytgaifkhngaopgaa", sum := "696969770b3474f137a64c0a3efd32760db0aedfe66d42ff6fee2214e0bc1208", checked := Try.checked }
namespace Rows
def none {H : Type} : Left H := { results := [], args := [] }

/-- 'isatislaw11.MovePlays': WHATEVER THE INPUT: true; the input reads as it did. -/
def movePlaysSpec : ChangeSpec := { name := "movePlays", fn := fun _ => fun
  | [d1, d2, d3] => { results := [.lit (.bool true)], args := [d1, d2, d3] }
  | _ => none }
def movePlaysRow : OpenClaim := { program := "ytgaifkhngaopgaa", sum := "696969770b3474f137a64c0a3efd32760db0aedfe66d42ff6fee2214e0bc1208", func := "isatis/isatislaw11.MovePlays", spec := "movePlays", unfollowed := true, recurses := true, plainKeys := false, apart := false }
def MovePlaysSaid : Prop := movePlaysRow.holds Try.pinned (OpenSpec.ofChange movePlaysSpec)

/-- ITS FALSE NEIGHBOUR: 'it returns false'. Refute it at one input. -/
def movePlaysWrong : ChangeSpec := { name := "movePlays", fn := fun _ => fun
  | [d1, d2, d3] => { results := [.lit (.bool false)], args := [d1, d2, d3] }
  | _ => none }
def MovePlaysWrongFalsely : Prop := movePlaysRow.holds Try.pinned (OpenSpec.ofChange movePlaysWrong)

/-- 'isatislaw11.MoveBest': WHATEVER THE INPUT: true; the input reads as it did. -/
def moveBestSpec : ChangeSpec := { name := "moveBest", fn := fun _ => fun
  | [d1, d2] => { results := [.lit (.bool true)], args := [d1, d2] }
  | _ => none }
def moveBestRow : OpenClaim := { program := "ytgaifkhngaopgaa", sum := "696969770b3474f137a64c0a3efd32760db0aedfe66d42ff6fee2214e0bc1208", func := "isatis/isatislaw11.MoveBest", spec := "moveBest", unfollowed := true, recurses := true, plainKeys := false, apart := false }
def MoveBestSaid : Prop := moveBestRow.holds Try.pinned (OpenSpec.ofChange moveBestSpec)

/-- ITS FALSE NEIGHBOUR: 'it returns false'. Refute it at one input. -/
def moveBestWrong : ChangeSpec := { name := "moveBest", fn := fun _ => fun
  | [d1, d2] => { results := [.lit (.bool false)], args := [d1, d2] }
  | _ => none }
def MoveBestWrongFalsely : Prop := moveBestRow.holds Try.pinned (OpenSpec.ofChange moveBestWrong)

/-- 'isatislaw11.MoveSeen': WHATEVER THE INPUT: true; the input reads as it did. -/
def moveSeenSpec : ChangeSpec := { name := "moveSeen", fn := fun _ => fun
  | [d1, d2, d3] => { results := [.lit (.bool true)], args := [d1, d2, d3] }
  | _ => none }
def moveSeenRow : OpenClaim := { program := "ytgaifkhngaopgaa", sum := "696969770b3474f137a64c0a3efd32760db0aedfe66d42ff6fee2214e0bc1208", func := "isatis/isatislaw11.MoveSeen", spec := "moveSeen", unfollowed := true, recurses := true, plainKeys := false, apart := false }
def MoveSeenSaid : Prop := moveSeenRow.holds Try.pinned (OpenSpec.ofChange moveSeenSpec)

/-- ITS FALSE NEIGHBOUR: 'it returns false'. Refute it at one input. -/
def moveSeenWrong : ChangeSpec := { name := "moveSeen", fn := fun _ => fun
  | [d1, d2, d3] => { results := [.lit (.bool false)], args := [d1, d2, d3] }
  | _ => none }
def MoveSeenWrongFalsely : Prop := moveSeenRow.holds Try.pinned (OpenSpec.ofChange moveSeenWrong)

/-- 'isatislaw11.MoveTruth': WHATEVER THE INPUT: true; the input reads as it did. -/
def moveTruthSpec : ChangeSpec := { name := "moveTruth", fn := fun _ => fun
  | [d1, d2] => { results := [.lit (.bool true)], args := [d1, d2] }
  | _ => none }
def moveTruthRow : OpenClaim := { program := "ytgaifkhngaopgaa", sum := "696969770b3474f137a64c0a3efd32760db0aedfe66d42ff6fee2214e0bc1208", func := "isatis/isatislaw11.MoveTruth", spec := "moveTruth", unfollowed := true, recurses := true, plainKeys := false, apart := false }
def MoveTruthSaid : Prop := moveTruthRow.holds Try.pinned (OpenSpec.ofChange moveTruthSpec)

/-- ITS FALSE NEIGHBOUR: 'it returns false'. Refute it at one input. -/
def moveTruthWrong : ChangeSpec := { name := "moveTruth", fn := fun _ => fun
  | [d1, d2] => { results := [.lit (.bool false)], args := [d1, d2] }
  | _ => none }
def MoveTruthWrongFalsely : Prop := moveTruthRow.holds Try.pinned (OpenSpec.ofChange moveTruthWrong)

/-- 'isatislaw11.MoveLoss': WHATEVER THE INPUT: true; the input reads as it did. -/
def moveLossSpec : ChangeSpec := { name := "moveLoss", fn := fun _ => fun
  | [d1, d2] => { results := [.lit (.bool true)], args := [d1, d2] }
  | _ => none }
def moveLossRow : OpenClaim := { program := "ytgaifkhngaopgaa", sum := "696969770b3474f137a64c0a3efd32760db0aedfe66d42ff6fee2214e0bc1208", func := "isatis/isatislaw11.MoveLoss", spec := "moveLoss", unfollowed := true, recurses := true, plainKeys := false, apart := false }
def MoveLossSaid : Prop := moveLossRow.holds Try.pinned (OpenSpec.ofChange moveLossSpec)

/-- ITS FALSE NEIGHBOUR: 'it returns false'. Refute it at one input. -/
def moveLossWrong : ChangeSpec := { name := "moveLoss", fn := fun _ => fun
  | [d1, d2] => { results := [.lit (.bool false)], args := [d1, d2] }
  | _ => none }
def MoveLossWrongFalsely : Prop := moveLossRow.holds Try.pinned (OpenSpec.ofChange moveLossWrong)

/-- 'isatislaw11.MoveNoBetter': WHATEVER THE INPUT: true; the input reads as it did. -/
def moveNoBetterSpec : ChangeSpec := { name := "moveNoBetter", fn := fun _ => fun
  | [d1, d2] => { results := [.lit (.bool true)], args := [d1, d2] }
  | _ => none }
def moveNoBetterRow : OpenClaim := { program := "ytgaifkhngaopgaa", sum := "696969770b3474f137a64c0a3efd32760db0aedfe66d42ff6fee2214e0bc1208", func := "isatis/isatislaw11.MoveNoBetter", spec := "moveNoBetter", unfollowed := true, recurses := true, plainKeys := false, apart := false }
def MoveNoBetterSaid : Prop := moveNoBetterRow.holds Try.pinned (OpenSpec.ofChange moveNoBetterSpec)

/-- ITS FALSE NEIGHBOUR: 'it returns false'. Refute it at one input. -/
def moveNoBetterWrong : ChangeSpec := { name := "moveNoBetter", fn := fun _ => fun
  | [d1, d2] => { results := [.lit (.bool false)], args := [d1, d2] }
  | _ => none }
def MoveNoBetterWrongFalsely : Prop := moveNoBetterRow.holds Try.pinned (OpenSpec.ofChange moveNoBetterWrong)

/-- 'isatislaw11.MoveMiller': WHATEVER THE INPUT: true; the input reads as it did. -/
def moveMillerSpec : ChangeSpec := { name := "moveMiller", fn := fun _ => fun
  | [d1, d2] => { results := [.lit (.bool true)], args := [d1, d2] }
  | _ => none }
def moveMillerRow : OpenClaim := { program := "ytgaifkhngaopgaa", sum := "696969770b3474f137a64c0a3efd32760db0aedfe66d42ff6fee2214e0bc1208", func := "isatis/isatislaw11.MoveMiller", spec := "moveMiller", unfollowed := true, recurses := true, plainKeys := false, apart := false }
def MoveMillerSaid : Prop := moveMillerRow.holds Try.pinned (OpenSpec.ofChange moveMillerSpec)

/-- ITS FALSE NEIGHBOUR: 'it returns false'. Refute it at one input. -/
def moveMillerWrong : ChangeSpec := { name := "moveMiller", fn := fun _ => fun
  | [d1, d2] => { results := [.lit (.bool false)], args := [d1, d2] }
  | _ => none }
def MoveMillerWrongFalsely : Prop := moveMillerRow.holds Try.pinned (OpenSpec.ofChange moveMillerWrong)

/-- 'isatislaw11.MoveMore': WHATEVER THE INPUT: true; the input reads as it did. -/
def moveMoreSpec : ChangeSpec := { name := "moveMore", fn := fun _ => fun
  | [d1, d2, d3] => { results := [.lit (.bool true)], args := [d1, d2, d3] }
  | _ => none }
def moveMoreRow : OpenClaim := { program := "ytgaifkhngaopgaa", sum := "696969770b3474f137a64c0a3efd32760db0aedfe66d42ff6fee2214e0bc1208", func := "isatis/isatislaw11.MoveMore", spec := "moveMore", unfollowed := true, recurses := true, plainKeys := false, apart := false }
def MoveMoreSaid : Prop := moveMoreRow.holds Try.pinned (OpenSpec.ofChange moveMoreSpec)

/-- ITS FALSE NEIGHBOUR: 'it returns false'. Refute it at one input. -/
def moveMoreWrong : ChangeSpec := { name := "moveMore", fn := fun _ => fun
  | [d1, d2, d3] => { results := [.lit (.bool false)], args := [d1, d2, d3] }
  | _ => none }
def MoveMoreWrongFalsely : Prop := moveMoreRow.holds Try.pinned (OpenSpec.ofChange moveMoreWrong)

/-- 'isatislaw11.MoveRest': WHATEVER THE INPUT: true; the input reads as it did. -/
def moveRestSpec : ChangeSpec := { name := "moveRest", fn := fun _ => fun
  | [d1, d2, d3, d4] => { results := [.lit (.bool true)], args := [d1, d2, d3, d4] }
  | _ => none }
def moveRestRow : OpenClaim := { program := "ytgaifkhngaopgaa", sum := "696969770b3474f137a64c0a3efd32760db0aedfe66d42ff6fee2214e0bc1208", func := "isatis/isatislaw11.MoveRest", spec := "moveRest", unfollowed := true, recurses := true, plainKeys := false, apart := false }
def MoveRestSaid : Prop := moveRestRow.holds Try.pinned (OpenSpec.ofChange moveRestSpec)

/-- ITS FALSE NEIGHBOUR: 'it returns false'. Refute it at one input. -/
def moveRestWrong : ChangeSpec := { name := "moveRest", fn := fun _ => fun
  | [d1, d2, d3, d4] => { results := [.lit (.bool false)], args := [d1, d2, d3, d4] }
  | _ => none }
def MoveRestWrongFalsely : Prop := moveRestRow.holds Try.pinned (OpenSpec.ofChange moveRestWrong)

/-- 'isatislaw11.MoveWorth': WHATEVER THE INPUT: true; the input reads as it did. -/
def moveWorthSpec : ChangeSpec := { name := "moveWorth", fn := fun _ => fun
  | [d1, d2, d3] => { results := [.lit (.bool true)], args := [d1, d2, d3] }
  | _ => none }
def moveWorthRow : OpenClaim := { program := "ytgaifkhngaopgaa", sum := "696969770b3474f137a64c0a3efd32760db0aedfe66d42ff6fee2214e0bc1208", func := "isatis/isatislaw11.MoveWorth", spec := "moveWorth", unfollowed := true, recurses := true, plainKeys := false, apart := false }
def MoveWorthSaid : Prop := moveWorthRow.holds Try.pinned (OpenSpec.ofChange moveWorthSpec)

/-- ITS FALSE NEIGHBOUR: 'it returns false'. Refute it at one input. -/
def moveWorthWrong : ChangeSpec := { name := "moveWorth", fn := fun _ => fun
  | [d1, d2, d3] => { results := [.lit (.bool false)], args := [d1, d2, d3] }
  | _ => none }
def MoveWorthWrongFalsely : Prop := moveWorthRow.holds Try.pinned (OpenSpec.ofChange moveWorthWrong)

/-- 'isatislaw11.MoveLate': WHATEVER THE INPUT: true; the input reads as it did. -/
def moveLateSpec : ChangeSpec := { name := "moveLate", fn := fun _ => fun
  | [d1, d2, d3] => { results := [.lit (.bool true)], args := [d1, d2, d3] }
  | _ => none }
def moveLateRow : OpenClaim := { program := "ytgaifkhngaopgaa", sum := "696969770b3474f137a64c0a3efd32760db0aedfe66d42ff6fee2214e0bc1208", func := "isatis/isatislaw11.MoveLate", spec := "moveLate", unfollowed := true, recurses := true, plainKeys := false, apart := false }
def MoveLateSaid : Prop := moveLateRow.holds Try.pinned (OpenSpec.ofChange moveLateSpec)

/-- ITS FALSE NEIGHBOUR: 'it returns false'. Refute it at one input. -/
def moveLateWrong : ChangeSpec := { name := "moveLate", fn := fun _ => fun
  | [d1, d2, d3] => { results := [.lit (.bool false)], args := [d1, d2, d3] }
  | _ => none }
def MoveLateWrongFalsely : Prop := moveLateRow.holds Try.pinned (OpenSpec.ofChange moveLateWrong)

/-- 'isatislaw11.MoveSures': WHATEVER THE INPUT: true; the input reads as it did. -/
def moveSuresSpec : ChangeSpec := { name := "moveSures", fn := fun _ => fun
  | [d1, d2, d3] => { results := [.lit (.bool true)], args := [d1, d2, d3] }
  | _ => none }
def moveSuresRow : OpenClaim := { program := "ytgaifkhngaopgaa", sum := "696969770b3474f137a64c0a3efd32760db0aedfe66d42ff6fee2214e0bc1208", func := "isatis/isatislaw11.MoveSures", spec := "moveSures", unfollowed := true, recurses := true, plainKeys := false, apart := false }
def MoveSuresSaid : Prop := moveSuresRow.holds Try.pinned (OpenSpec.ofChange moveSuresSpec)

/-- ITS FALSE NEIGHBOUR: 'it returns false'. Refute it at one input. -/
def moveSuresWrong : ChangeSpec := { name := "moveSures", fn := fun _ => fun
  | [d1, d2, d3] => { results := [.lit (.bool false)], args := [d1, d2, d3] }
  | _ => none }
def MoveSuresWrongFalsely : Prop := moveSuresRow.holds Try.pinned (OpenSpec.ofChange moveSuresWrong)

/-- 'isatislaw11.MoveNames': WHATEVER THE INPUT: true; the input reads as it did. -/
def moveNamesSpec : ChangeSpec := { name := "moveNames", fn := fun _ => fun
  | [] => { results := [.lit (.bool true)], args := [] }
  | _ => none }
def moveNamesRow : OpenClaim := { program := "ytgaifkhngaopgaa", sum := "696969770b3474f137a64c0a3efd32760db0aedfe66d42ff6fee2214e0bc1208", func := "isatis/isatislaw11.MoveNames", spec := "moveNames", unfollowed := true, recurses := true, plainKeys := false, apart := false }
def MoveNamesSaid : Prop := moveNamesRow.holds Try.pinned (OpenSpec.ofChange moveNamesSpec)

/-- ITS FALSE NEIGHBOUR: 'it returns false'. Refute it at one input. -/
def moveNamesWrong : ChangeSpec := { name := "moveNames", fn := fun _ => fun
  | [] => { results := [.lit (.bool false)], args := [] }
  | _ => none }
def MoveNamesWrongFalsely : Prop := moveNamesRow.holds Try.pinned (OpenSpec.ofChange moveNamesWrong)

/- THE SECOND FORM. 'bulk': how many values and letters a reading holds, each counted each time it is reached (what is shared counts as often as it is met; a slice's spare places count too). A statement '..UptoSaid' is the law's where the arguments, and the package variables that the reading takes, are together of bulk at most 1048576: NARROWER than '..Said'. Prove '..Said' where nothing that the law and all that it calls make is longer than what came in: it says more and counts as full. Else prove '..UptoSaid'. A law counts once. -/
mutual
def uptoBulk {H : Type} : DataW H → Nat
  | .lit (.string bytes) => bytes.length + 1
  | .lit _ => 1
  | .nil => 1
  | .ptr d => uptoBulk d + 1
  | .slice elems spare => uptoBulkAll elems + uptoBulkAll spare + 1
  | .agg parts => uptoBulkAll parts + 1
  | .iface _ d => uptoBulk d + 1
  | .map entries => uptoBulkEntries entries + 1
  | .held _ => 1
def uptoBulkAll {H : Type} : List (DataW H) → Nat
  | [] => 0
  | d :: r => uptoBulk d + uptoBulkAll r
def uptoBulkEntries {H : Type} : List (Lit × DataW H) → Nat
  | [] => 0
  | x :: r => uptoBulkEntry x + uptoBulkEntries r
def uptoBulkEntry {H : Type} : Lit × DataW H → Nat
  | (.string bytes, d) => bytes.length + uptoBulk d + 1
  | (_, d) => uptoBulk d + 1
 end
def uptoSmall : (H : Type) → List (DataW H) → Bool := fun _ ds => decide (uptoBulkAll ds ≤ 1048576)
def OpenSpec.upto (s : _root_.Go.ChangeSpec) : _root_.Go.OpenSpec := { _root_.Go.OpenSpec.ofChange s with cond := some uptoSmall }

/-- 'isatislaw11.MovePlays', WHERE WHAT IT READS IS OF BULK AT MOST 1048576: true; the input reads as it did. -/
def movePlaysUptoRow : OpenClaim := { program := "ytgaifkhngaopgaa", sum := "696969770b3474f137a64c0a3efd32760db0aedfe66d42ff6fee2214e0bc1208", func := "isatis/isatislaw11.MovePlays", spec := "movePlays", unfollowed := true, recurses := true, plainKeys := false, apart := false, narrowed := true }
def MovePlaysUptoSaid : Prop := movePlaysUptoRow.holds Try.pinned (OpenSpec.upto movePlaysSpec)

/-- 'isatislaw11.MoveBest', WHERE WHAT IT READS IS OF BULK AT MOST 1048576: true; the input reads as it did. -/
def moveBestUptoRow : OpenClaim := { program := "ytgaifkhngaopgaa", sum := "696969770b3474f137a64c0a3efd32760db0aedfe66d42ff6fee2214e0bc1208", func := "isatis/isatislaw11.MoveBest", spec := "moveBest", unfollowed := true, recurses := true, plainKeys := false, apart := false, narrowed := true }
def MoveBestUptoSaid : Prop := moveBestUptoRow.holds Try.pinned (OpenSpec.upto moveBestSpec)

/-- 'isatislaw11.MoveSeen', WHERE WHAT IT READS IS OF BULK AT MOST 1048576: true; the input reads as it did. -/
def moveSeenUptoRow : OpenClaim := { program := "ytgaifkhngaopgaa", sum := "696969770b3474f137a64c0a3efd32760db0aedfe66d42ff6fee2214e0bc1208", func := "isatis/isatislaw11.MoveSeen", spec := "moveSeen", unfollowed := true, recurses := true, plainKeys := false, apart := false, narrowed := true }
def MoveSeenUptoSaid : Prop := moveSeenUptoRow.holds Try.pinned (OpenSpec.upto moveSeenSpec)

/-- 'isatislaw11.MoveTruth', WHERE WHAT IT READS IS OF BULK AT MOST 1048576: true; the input reads as it did. -/
def moveTruthUptoRow : OpenClaim := { program := "ytgaifkhngaopgaa", sum := "696969770b3474f137a64c0a3efd32760db0aedfe66d42ff6fee2214e0bc1208", func := "isatis/isatislaw11.MoveTruth", spec := "moveTruth", unfollowed := true, recurses := true, plainKeys := false, apart := false, narrowed := true }
def MoveTruthUptoSaid : Prop := moveTruthUptoRow.holds Try.pinned (OpenSpec.upto moveTruthSpec)

/-- 'isatislaw11.MoveLoss', WHERE WHAT IT READS IS OF BULK AT MOST 1048576: true; the input reads as it did. -/
def moveLossUptoRow : OpenClaim := { program := "ytgaifkhngaopgaa", sum := "696969770b3474f137a64c0a3efd32760db0aedfe66d42ff6fee2214e0bc1208", func := "isatis/isatislaw11.MoveLoss", spec := "moveLoss", unfollowed := true, recurses := true, plainKeys := false, apart := false, narrowed := true }
def MoveLossUptoSaid : Prop := moveLossUptoRow.holds Try.pinned (OpenSpec.upto moveLossSpec)

/-- 'isatislaw11.MoveNoBetter', WHERE WHAT IT READS IS OF BULK AT MOST 1048576: true; the input reads as it did. -/
def moveNoBetterUptoRow : OpenClaim := { program := "ytgaifkhngaopgaa", sum := "696969770b3474f137a64c0a3efd32760db0aedfe66d42ff6fee2214e0bc1208", func := "isatis/isatislaw11.MoveNoBetter", spec := "moveNoBetter", unfollowed := true, recurses := true, plainKeys := false, apart := false, narrowed := true }
def MoveNoBetterUptoSaid : Prop := moveNoBetterUptoRow.holds Try.pinned (OpenSpec.upto moveNoBetterSpec)

/-- 'isatislaw11.MoveMiller', WHERE WHAT IT READS IS OF BULK AT MOST 1048576: true; the input reads as it did. -/
def moveMillerUptoRow : OpenClaim := { program := "ytgaifkhngaopgaa", sum := "696969770b3474f137a64c0a3efd32760db0aedfe66d42ff6fee2214e0bc1208", func := "isatis/isatislaw11.MoveMiller", spec := "moveMiller", unfollowed := true, recurses := true, plainKeys := false, apart := false, narrowed := true }
def MoveMillerUptoSaid : Prop := moveMillerUptoRow.holds Try.pinned (OpenSpec.upto moveMillerSpec)

/-- 'isatislaw11.MoveMore', WHERE WHAT IT READS IS OF BULK AT MOST 1048576: true; the input reads as it did. -/
def moveMoreUptoRow : OpenClaim := { program := "ytgaifkhngaopgaa", sum := "696969770b3474f137a64c0a3efd32760db0aedfe66d42ff6fee2214e0bc1208", func := "isatis/isatislaw11.MoveMore", spec := "moveMore", unfollowed := true, recurses := true, plainKeys := false, apart := false, narrowed := true }
def MoveMoreUptoSaid : Prop := moveMoreUptoRow.holds Try.pinned (OpenSpec.upto moveMoreSpec)

/-- 'isatislaw11.MoveRest', WHERE WHAT IT READS IS OF BULK AT MOST 1048576: true; the input reads as it did. -/
def moveRestUptoRow : OpenClaim := { program := "ytgaifkhngaopgaa", sum := "696969770b3474f137a64c0a3efd32760db0aedfe66d42ff6fee2214e0bc1208", func := "isatis/isatislaw11.MoveRest", spec := "moveRest", unfollowed := true, recurses := true, plainKeys := false, apart := false, narrowed := true }
def MoveRestUptoSaid : Prop := moveRestUptoRow.holds Try.pinned (OpenSpec.upto moveRestSpec)

/-- 'isatislaw11.MoveWorth', WHERE WHAT IT READS IS OF BULK AT MOST 1048576: true; the input reads as it did. -/
def moveWorthUptoRow : OpenClaim := { program := "ytgaifkhngaopgaa", sum := "696969770b3474f137a64c0a3efd32760db0aedfe66d42ff6fee2214e0bc1208", func := "isatis/isatislaw11.MoveWorth", spec := "moveWorth", unfollowed := true, recurses := true, plainKeys := false, apart := false, narrowed := true }
def MoveWorthUptoSaid : Prop := moveWorthUptoRow.holds Try.pinned (OpenSpec.upto moveWorthSpec)

/-- 'isatislaw11.MoveLate', WHERE WHAT IT READS IS OF BULK AT MOST 1048576: true; the input reads as it did. -/
def moveLateUptoRow : OpenClaim := { program := "ytgaifkhngaopgaa", sum := "696969770b3474f137a64c0a3efd32760db0aedfe66d42ff6fee2214e0bc1208", func := "isatis/isatislaw11.MoveLate", spec := "moveLate", unfollowed := true, recurses := true, plainKeys := false, apart := false, narrowed := true }
def MoveLateUptoSaid : Prop := moveLateUptoRow.holds Try.pinned (OpenSpec.upto moveLateSpec)

/-- 'isatislaw11.MoveSures', WHERE WHAT IT READS IS OF BULK AT MOST 1048576: true; the input reads as it did. -/
def moveSuresUptoRow : OpenClaim := { program := "ytgaifkhngaopgaa", sum := "696969770b3474f137a64c0a3efd32760db0aedfe66d42ff6fee2214e0bc1208", func := "isatis/isatislaw11.MoveSures", spec := "moveSures", unfollowed := true, recurses := true, plainKeys := false, apart := false, narrowed := true }
def MoveSuresUptoSaid : Prop := moveSuresUptoRow.holds Try.pinned (OpenSpec.upto moveSuresSpec)

/-- 'isatislaw11.MoveNames', WHERE WHAT IT READS IS OF BULK AT MOST 1048576: true; the input reads as it did. -/
def moveNamesUptoRow : OpenClaim := { program := "ytgaifkhngaopgaa", sum := "696969770b3474f137a64c0a3efd32760db0aedfe66d42ff6fee2214e0bc1208", func := "isatis/isatislaw11.MoveNames", spec := "moveNames", unfollowed := true, recurses := true, plainKeys := false, apart := false, narrowed := true }
def MoveNamesUptoSaid : Prop := moveNamesUptoRow.holds Try.pinned (OpenSpec.upto moveNamesSpec)

end Rows
end Go.Proofs.Ytgaifkhngaopgaa
