/-
  No cell of these rows narrows 'for every input' (looked for: loops, veiled, ifaces, maps, wideKeys, modest, calm, conditions, laid).
  DERIVED. THE GIVEN ROWS OF THIS SEAT. 9 by the template 'for every input the law returns true; each argument reads behind the call as it read before'; 0 by the template 'total and deterministic' (their statements: YtiblicjmmippnaaTotals.lean).
  GIVEN WITH THE SEED: the statements are not yours to turn. If you find one false, say at which input.
  Laid BY PROGRAM, IN A SANDBOX (cutbox-rows.mjs): the forced cells as the released guide's own fill.sh prints them over the translation 8d1f8e18d0008119… (all of the seat's roots in one cut). By AI agents, Wed Nov 11 2026. No macro, syntax, notation, axiom, sorry.
-/
import Derived.Test.YtiblicjmmippnaaChecked
import GoSem.Claim
import GoSem.ClaimJoined
import GoSem.ClaimMapViews
import Derived.JoinedTies
import Derived.KernelRfl
namespace Go.Proofs.Ytiblicjmmippnaa
/- THE CELL 'sum', in the pinned program and in every row, IS THE sha256 OF THE DUMP (.gsa) THAT YtiblicjmmippnaaProg.lean LOADS. Nothing in Lean hashes anything: it is a label: what it is worth is what the hold of that sum in a sandbox is worth. -/
noncomputable def Try.pinned : Pinned := { name := "ytiblicjmmippnaa", sum := "8d1f8e18d00081198daa6fcc0811578c084246850300ee9a8747b832ed177139", checked := Try.checked }
namespace Rows
def none {H : Type} : Left H := { results := [], args := [] }

/-- 'isatislaw02.CropPlays': WHATEVER THE INPUT: true; the input reads as it did. -/
def cropPlaysSpec : ChangeSpec := { name := "cropPlays", fn := fun _ => fun
  | [d1, d2, d3] => { results := [.lit (.bool true)], args := [d1, d2, d3] }
  | _ => none }
def cropPlaysRow : OpenClaim := { program := "ytiblicjmmippnaa", sum := "8d1f8e18d00081198daa6fcc0811578c084246850300ee9a8747b832ed177139", func := "isatis/isatislaw02.CropPlays", spec := "cropPlays", unfollowed := true, recurses := true, plainKeys := false, apart := false }
def CropPlaysSaid : Prop := cropPlaysRow.holds Try.pinned (OpenSpec.ofChange cropPlaysSpec)

/-- ITS FALSE NEIGHBOUR: 'it returns false'. Refute it at one input. -/
def cropPlaysWrong : ChangeSpec := { name := "cropPlays", fn := fun _ => fun
  | [d1, d2, d3] => { results := [.lit (.bool false)], args := [d1, d2, d3] }
  | _ => none }
def CropPlaysWrongFalsely : Prop := cropPlaysRow.holds Try.pinned (OpenSpec.ofChange cropPlaysWrong)

/-- 'isatislaw02.CropMade': WHATEVER THE INPUT: true; the input reads as it did. -/
def cropMadeSpec : ChangeSpec := { name := "cropMade", fn := fun _ => fun
  | [d1, d2, d3] => { results := [.lit (.bool true)], args := [d1, d2, d3] }
  | _ => none }
def cropMadeRow : OpenClaim := { program := "ytiblicjmmippnaa", sum := "8d1f8e18d00081198daa6fcc0811578c084246850300ee9a8747b832ed177139", func := "isatis/isatislaw02.CropMade", spec := "cropMade", unfollowed := true, recurses := true, plainKeys := false, apart := false }
def CropMadeSaid : Prop := cropMadeRow.holds Try.pinned (OpenSpec.ofChange cropMadeSpec)

/-- ITS FALSE NEIGHBOUR: 'it returns false'. Refute it at one input. -/
def cropMadeWrong : ChangeSpec := { name := "cropMade", fn := fun _ => fun
  | [d1, d2, d3] => { results := [.lit (.bool false)], args := [d1, d2, d3] }
  | _ => none }
def CropMadeWrongFalsely : Prop := cropMadeRow.holds Try.pinned (OpenSpec.ofChange cropMadeWrong)

/-- 'isatislaw02.CropMore': WHATEVER THE INPUT: true; the input reads as it did. -/
def cropMoreSpec : ChangeSpec := { name := "cropMore", fn := fun _ => fun
  | [d1, d2, d3, d4, d5] => { results := [.lit (.bool true)], args := [d1, d2, d3, d4, d5] }
  | _ => none }
def cropMoreRow : OpenClaim := { program := "ytiblicjmmippnaa", sum := "8d1f8e18d00081198daa6fcc0811578c084246850300ee9a8747b832ed177139", func := "isatis/isatislaw02.CropMore", spec := "cropMore", unfollowed := true, recurses := true, plainKeys := false, apart := false }
def CropMoreSaid : Prop := cropMoreRow.holds Try.pinned (OpenSpec.ofChange cropMoreSpec)

/-- ITS FALSE NEIGHBOUR: 'it returns false'. Refute it at one input. -/
def cropMoreWrong : ChangeSpec := { name := "cropMore", fn := fun _ => fun
  | [d1, d2, d3, d4, d5] => { results := [.lit (.bool false)], args := [d1, d2, d3, d4, d5] }
  | _ => none }
def CropMoreWrongFalsely : Prop := cropMoreRow.holds Try.pinned (OpenSpec.ofChange cropMoreWrong)

/-- 'isatislaw02.CropOne': WHATEVER THE INPUT: true; the input reads as it did. -/
def cropOneSpec : ChangeSpec := { name := "cropOne", fn := fun _ => fun
  | [d1, d2, d3] => { results := [.lit (.bool true)], args := [d1, d2, d3] }
  | _ => none }
def cropOneRow : OpenClaim := { program := "ytiblicjmmippnaa", sum := "8d1f8e18d00081198daa6fcc0811578c084246850300ee9a8747b832ed177139", func := "isatis/isatislaw02.CropOne", spec := "cropOne", unfollowed := true, recurses := true, plainKeys := false, apart := false }
def CropOneSaid : Prop := cropOneRow.holds Try.pinned (OpenSpec.ofChange cropOneSpec)

/-- ITS FALSE NEIGHBOUR: 'it returns false'. Refute it at one input. -/
def cropOneWrong : ChangeSpec := { name := "cropOne", fn := fun _ => fun
  | [d1, d2, d3] => { results := [.lit (.bool false)], args := [d1, d2, d3] }
  | _ => none }
def CropOneWrongFalsely : Prop := cropOneRow.holds Try.pinned (OpenSpec.ofChange cropOneWrong)

/-- 'isatislaw02.CropWider': WHATEVER THE INPUT: true; the input reads as it did. -/
def cropWiderSpec : ChangeSpec := { name := "cropWider", fn := fun _ => fun
  | [d1, d2, d3, d4] => { results := [.lit (.bool true)], args := [d1, d2, d3, d4] }
  | _ => none }
def cropWiderRow : OpenClaim := { program := "ytiblicjmmippnaa", sum := "8d1f8e18d00081198daa6fcc0811578c084246850300ee9a8747b832ed177139", func := "isatis/isatislaw02.CropWider", spec := "cropWider", unfollowed := true, recurses := true, plainKeys := false, apart := false }
def CropWiderSaid : Prop := cropWiderRow.holds Try.pinned (OpenSpec.ofChange cropWiderSpec)

/-- ITS FALSE NEIGHBOUR: 'it returns false'. Refute it at one input. -/
def cropWiderWrong : ChangeSpec := { name := "cropWider", fn := fun _ => fun
  | [d1, d2, d3, d4] => { results := [.lit (.bool false)], args := [d1, d2, d3, d4] }
  | _ => none }
def CropWiderWrongFalsely : Prop := cropWiderRow.holds Try.pinned (OpenSpec.ofChange cropWiderWrong)

/-- 'isatislaw02.CropFirst': WHATEVER THE INPUT: true; the input reads as it did. -/
def cropFirstSpec : ChangeSpec := { name := "cropFirst", fn := fun _ => fun
  | [d] => { results := [.lit (.bool true)], args := [d] }
  | _ => none }
def cropFirstRow : OpenClaim := { program := "ytiblicjmmippnaa", sum := "8d1f8e18d00081198daa6fcc0811578c084246850300ee9a8747b832ed177139", func := "isatis/isatislaw02.CropFirst", spec := "cropFirst", unfollowed := true, recurses := true, plainKeys := false, apart := false }
def CropFirstSaid : Prop := cropFirstRow.holds Try.pinned (OpenSpec.ofChange cropFirstSpec)

/-- ITS FALSE NEIGHBOUR: 'it returns false'. Refute it at one input. -/
def cropFirstWrong : ChangeSpec := { name := "cropFirst", fn := fun _ => fun
  | [d] => { results := [.lit (.bool false)], args := [d] }
  | _ => none }
def CropFirstWrongFalsely : Prop := cropFirstRow.holds Try.pinned (OpenSpec.ofChange cropFirstWrong)

/-- 'isatislaw02.CropLeft': WHATEVER THE INPUT: true; the input reads as it did. -/
def cropLeftSpec : ChangeSpec := { name := "cropLeft", fn := fun _ => fun
  | [d1, d2] => { results := [.lit (.bool true)], args := [d1, d2] }
  | _ => none }
def cropLeftRow : OpenClaim := { program := "ytiblicjmmippnaa", sum := "8d1f8e18d00081198daa6fcc0811578c084246850300ee9a8747b832ed177139", func := "isatis/isatislaw02.CropLeft", spec := "cropLeft", unfollowed := true, recurses := true, plainKeys := false, apart := false }
def CropLeftSaid : Prop := cropLeftRow.holds Try.pinned (OpenSpec.ofChange cropLeftSpec)

/-- ITS FALSE NEIGHBOUR: 'it returns false'. Refute it at one input. -/
def cropLeftWrong : ChangeSpec := { name := "cropLeft", fn := fun _ => fun
  | [d1, d2] => { results := [.lit (.bool false)], args := [d1, d2] }
  | _ => none }
def CropLeftWrongFalsely : Prop := cropLeftRow.holds Try.pinned (OpenSpec.ofChange cropLeftWrong)

/-- 'isatislaw02.CropApart': WHATEVER THE INPUT: true; the input reads as it did. -/
def cropApartSpec : ChangeSpec := { name := "cropApart", fn := fun _ => fun
  | [d1, d2, d3, d4, d5] => { results := [.lit (.bool true)], args := [d1, d2, d3, d4, d5] }
  | _ => none }
def cropApartRow : OpenClaim := { program := "ytiblicjmmippnaa", sum := "8d1f8e18d00081198daa6fcc0811578c084246850300ee9a8747b832ed177139", func := "isatis/isatislaw02.CropApart", spec := "cropApart", unfollowed := true, recurses := true, plainKeys := false, apart := false }
def CropApartSaid : Prop := cropApartRow.holds Try.pinned (OpenSpec.ofChange cropApartSpec)

/-- ITS FALSE NEIGHBOUR: 'it returns false'. Refute it at one input. -/
def cropApartWrong : ChangeSpec := { name := "cropApart", fn := fun _ => fun
  | [d1, d2, d3, d4, d5] => { results := [.lit (.bool false)], args := [d1, d2, d3, d4, d5] }
  | _ => none }
def CropApartWrongFalsely : Prop := cropApartRow.holds Try.pinned (OpenSpec.ofChange cropApartWrong)

/-- 'isatislaw02.CropNames': WHATEVER THE INPUT: true; the input reads as it did. -/
def cropNamesSpec : ChangeSpec := { name := "cropNames", fn := fun _ => fun
  | [] => { results := [.lit (.bool true)], args := [] }
  | _ => none }
def cropNamesRow : OpenClaim := { program := "ytiblicjmmippnaa", sum := "8d1f8e18d00081198daa6fcc0811578c084246850300ee9a8747b832ed177139", func := "isatis/isatislaw02.CropNames", spec := "cropNames", unfollowed := true, recurses := true, plainKeys := false, apart := false }
def CropNamesSaid : Prop := cropNamesRow.holds Try.pinned (OpenSpec.ofChange cropNamesSpec)

/-- ITS FALSE NEIGHBOUR: 'it returns false'. Refute it at one input. -/
def cropNamesWrong : ChangeSpec := { name := "cropNames", fn := fun _ => fun
  | [] => { results := [.lit (.bool false)], args := [] }
  | _ => none }
def CropNamesWrongFalsely : Prop := cropNamesRow.holds Try.pinned (OpenSpec.ofChange cropNamesWrong)

/- THE SECOND FORM. 'bulk': how many values and letters a reading holds, each counted each time it is reached (what is shared counts as often as it is met; a slice's spare places count too). A statement '..UptoSaid' is the law's where the arguments, and the package variables that the reading takes, are together of bulk at most 1048576: NARROWER than '..Said'. Prove '..Said' where nothing that the law and all that it calls make is longer than what came in: it says more and counts as full. Else prove '..UptoSaid'. A law counts once. -/
mutual
def uptoBulk {H : Type} : DataW H → Nat
  | .lit (.string bytes) => bytes.length + 1
  | .lit _ => 1
  | .nil => 1
  | .ptr d => uptoBulk d + 1
  | .slice elems spare => uptoBulkAll elems + uptoBulkAll spare + 1
  | .agg parts => uptoBulkAll parts + 1
  | .iface _ d => uptoBulk d + 1
  | .map entries => uptoBulkEntries entries + 1
  | .held _ => 1
def uptoBulkAll {H : Type} : List (DataW H) → Nat
  | [] => 0
  | d :: r => uptoBulk d + uptoBulkAll r
def uptoBulkEntries {H : Type} : List (Lit × DataW H) → Nat
  | [] => 0
  | x :: r => uptoBulkEntry x + uptoBulkEntries r
def uptoBulkEntry {H : Type} : Lit × DataW H → Nat
  | (.string bytes, d) => bytes.length + uptoBulk d + 1
  | (_, d) => uptoBulk d + 1
 end
def uptoSmall : (H : Type) → List (DataW H) → Bool := fun _ ds => decide (uptoBulkAll ds ≤ 1048576)
def OpenSpec.upto (s : _root_.Go.ChangeSpec) : _root_.Go.OpenSpec := { _root_.Go.OpenSpec.ofChange s with cond := some uptoSmall }

/-- 'isatislaw02.CropPlays', WHERE WHAT IT READS IS OF BULK AT MOST 1048576: true; the input reads as it did. -/
def cropPlaysUptoRow : OpenClaim := { program := "ytiblicjmmippnaa", sum := "8d1f8e18d00081198daa6fcc0811578c084246850300ee9a8747b832ed177139", func := "isatis/isatislaw02.CropPlays", spec := "cropPlays", unfollowed := true, recurses := true, plainKeys := false, apart := false, narrowed := true }
def CropPlaysUptoSaid : Prop := cropPlaysUptoRow.holds Try.pinned (OpenSpec.upto cropPlaysSpec)

/-- 'isatislaw02.CropMade', WHERE WHAT IT READS IS OF BULK AT MOST 1048576: true; the input reads as it did. -/
def cropMadeUptoRow : OpenClaim := { program := "ytiblicjmmippnaa", sum := "8d1f8e18d00081198daa6fcc0811578c084246850300ee9a8747b832ed177139", func := "isatis/isatislaw02.CropMade", spec := "cropMade", unfollowed := true, recurses := true, plainKeys := false, apart := false, narrowed := true }
def CropMadeUptoSaid : Prop := cropMadeUptoRow.holds Try.pinned (OpenSpec.upto cropMadeSpec)

/-- 'isatislaw02.CropMore', WHERE WHAT IT READS IS OF BULK AT MOST 1048576: true; the input reads as it did. -/
def cropMoreUptoRow : OpenClaim := { program := "ytiblicjmmippnaa", sum := "8d1f8e18d00081198daa6fcc0811578c084246850300ee9a8747b832ed177139", func := "isatis/isatislaw02.CropMore", spec := "cropMore", unfollowed := true, recurses := true, plainKeys := false, apart := false, narrowed := true }
def CropMoreUptoSaid : Prop := cropMoreUptoRow.holds Try.pinned (OpenSpec.upto cropMoreSpec)

/-- 'isatislaw02.CropOne', WHERE WHAT IT READS IS OF BULK AT MOST 1048576: true; the input reads as it did. -/
def cropOneUptoRow : OpenClaim := { program := "ytiblicjmmippnaa", sum := "8d1f8e18d00081198daa6fcc0811578c084246850300ee9a8747b832ed177139", func := "isatis/isatislaw02.CropOne", spec := "cropOne", unfollowed := true, recurses := true, plainKeys := false, apart := false, narrowed := true }
def CropOneUptoSaid : Prop := cropOneUptoRow.holds Try.pinned (OpenSpec.upto cropOneSpec)

/-- 'isatislaw02.CropWider', WHERE WHAT IT READS IS OF BULK AT MOST 1048576: true; the input reads as it did. -/
def cropWiderUptoRow : OpenClaim := { program := "ytiblicjmmippnaa", sum := "8d1f8e18d00081198daa6fcc0811578c084246850300ee9a8747b832ed177139", func := "isatis/isatislaw02.CropWider", spec := "cropWider", unfollowed := true, recurses := true, plainKeys := false, apart := false, narrowed := true }
def CropWiderUptoSaid : Prop := cropWiderUptoRow.holds Try.pinned (OpenSpec.upto cropWiderSpec)

/-- 'isatislaw02.CropFirst', WHERE WHAT IT READS IS OF BULK AT MOST 1048576: true; the input reads as it did. -/
def cropFirstUptoRow : OpenClaim := { program := "ytiblicjmmippnaa", sum := "8d1f8e18d00081198daa6fcc0811578c084246850300ee9a8747b832ed177139", func := "isatis/isatislaw02.CropFirst", spec := "cropFirst", unfollowed := true, recurses := true, plainKeys := false, apart := false, narrowed := true }
def CropFirstUptoSaid : Prop := cropFirstUptoRow.holds Try.pinned (OpenSpec.upto cropFirstSpec)

/-- 'isatislaw02.CropLeft', WHERE WHAT IT READS IS OF BULK AT MOST 1048576: true; the input reads as it did. -/
def cropLeftUptoRow : OpenClaim := { program := "ytiblicjmmippnaa", sum := "8d1f8e18d00081198daa6fcc0811578c084246850300ee9a8747b832ed177139", func := "isatis/isatislaw02.CropLeft", spec := "cropLeft", unfollowed := true, recurses := true, plainKeys := false, apart := false, narrowed := true }
def CropLeftUptoSaid : Prop := cropLeftUptoRow.holds Try.pinned (OpenSpec.upto cropLeftSpec)

/-- 'isatislaw02.CropApart', WHERE WHAT IT READS IS OF BULK AT MOST 1048576: true; the input reads as it did. -/
def cropApartUptoRow : OpenClaim := { program := "ytiblicjmmippnaa", sum := "8d1f8e18d00081198daa6fcc0811578c084246850300ee9a8747b832ed177139", func := "isatis/isatislaw02.CropApart", spec := "cropApart", unfollowed := true, recurses := true, plainKeys := false, apart := false, narrowed := true }
def CropApartUptoSaid : Prop := cropApartUptoRow.holds Try.pinned (OpenSpec.upto cropApartSpec)

/-- 'isatislaw02.CropNames', WHERE WHAT IT READS IS OF BULK AT MOST 1048576: true; the input reads as it did. -/
def cropNamesUptoRow : OpenClaim := { program := "ytiblicjmmippnaa", sum := "8d1f8e18d00081198daa6fcc0811578c084246850300ee9a8747b832ed177139", func := "isatis/isatislaw02.CropNames", spec := "cropNames", unfollowed := true, recurses := true, plainKeys := false, apart := false, narrowed := true }
def CropNamesUptoSaid : Prop := cropNamesUptoRow.holds Try.pinned (OpenSpec.upto cropNamesSpec)

end Rows
end Go.Proofs.Ytiblicjmmippnaa
