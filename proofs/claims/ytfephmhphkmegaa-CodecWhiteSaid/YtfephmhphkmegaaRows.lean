/-
  No cell of these rows narrows 'for every input' (looked for: loops, veiled, ifaces, maps, wideKeys, modest, calm, conditions, laid).
  DERIVED. THE GIVEN ROWS OF THIS SEAT. 5 by the template 'for every input the law returns true; each argument reads behind the call as it read before'; 0 by the template 'total and deterministic' (their statements: YtfephmhphkmegaaTotals.lean).
  GIVEN WITH THE SEED: the statements are not yours to turn. If you find one false, say at which input.
  Laid BY PROGRAM, IN A SANDBOX (cutbox-rows.mjs): the forced cells as the released guide's own fill.sh prints them over the translation 05b66926c9fe70f1… (all of the seat's roots in one cut). By AI agents, Wed Nov 11 2026. No macro, syntax, notation, axiom, sorry.
-/
import Derived.Test.YtfephmhphkmegaaChecked
import GoSem.Claim
import GoSem.ClaimJoined
import GoSem.ClaimMapViews
import Derived.JoinedTies
import Derived.KernelRfl
namespace Go.Proofs.Ytfephmhphkmegaa
/- THE CELL 'sum', in the pinned program and in every row, IS THE sha256 OF THE DUMP (.gsa) THAT YtfephmhphkmegaaProg.lean LOADS. Nothing in Lean hashes anything: it is a label: what it is worth is what the hold of that sum in a sandbox is worth. -/
noncomputable def Try.pinned : Pinned := { name := "ytfephmhphkmegaa", sum := "05b66926c9fe70f112454ffbd6a54b9eb01eab3d494f6e8944b528627df6c69a", checked := Try.checked }
namespace Rows
def none {H : Type} : Left H := { results := [], args := [] }

/-- 'missivelaw07.CodecWhite': WHATEVER THE INPUT: true; the input reads as it did. -/
def codecWhiteSpec : ChangeSpec := { name := "codecWhite", fn := fun _ => fun
  | [d1, d2, d3] => { results := [.lit (.bool true)], args := [d1, d2, d3] }
  | _ => none }
def codecWhiteRow : OpenClaim := { program := "ytfephmhphkmegaa", sum := "05b66926c9fe70f112454ffbd6a54b9eb01eab3d494f6e8944b528627df6c69a", func := "missive/missivelaw07.CodecWhite", spec := "codecWhite", inPlace := ["internal/abi.NoEscape", "internal/bytealg.MakeNoZero"], unfollowed := true, recurses := true, apart := false }
def CodecWhiteSaid : Prop := codecWhiteRow.holds Try.pinned (OpenSpec.ofChange codecWhiteSpec)

/-- ITS FALSE NEIGHBOUR: 'it returns false'. Refute it at one input. -/
def codecWhiteWrong : ChangeSpec := { name := "codecWhite", fn := fun _ => fun
  | [d1, d2, d3] => { results := [.lit (.bool false)], args := [d1, d2, d3] }
  | _ => none }
def CodecWhiteWrongFalsely : Prop := codecWhiteRow.holds Try.pinned (OpenSpec.ofChange codecWhiteWrong)

/-- 'missivelaw07.CodecStays': WHATEVER THE INPUT: true; the input reads as it did. -/
def codecStaysSpec : ChangeSpec := { name := "codecStays", fn := fun _ => fun
  | [d] => { results := [.lit (.bool true)], args := [d] }
  | _ => none }
def codecStaysRow : OpenClaim := { program := "ytfephmhphkmegaa", sum := "05b66926c9fe70f112454ffbd6a54b9eb01eab3d494f6e8944b528627df6c69a", func := "missive/missivelaw07.CodecStays", spec := "codecStays", inPlace := ["internal/abi.NoEscape", "internal/bytealg.MakeNoZero"], unfollowed := true, recurses := true, apart := false }
def CodecStaysSaid : Prop := codecStaysRow.holds Try.pinned (OpenSpec.ofChange codecStaysSpec)

/-- ITS FALSE NEIGHBOUR: 'it returns false'. Refute it at one input. -/
def codecStaysWrong : ChangeSpec := { name := "codecStays", fn := fun _ => fun
  | [d] => { results := [.lit (.bool false)], args := [d] }
  | _ => none }
def CodecStaysWrongFalsely : Prop := codecStaysRow.holds Try.pinned (OpenSpec.ofChange codecStaysWrong)

/-- 'missivelaw07.CodecBack': WHATEVER THE INPUT: true; the input reads as it did. -/
def codecBackSpec : ChangeSpec := { name := "codecBack", fn := fun _ => fun
  | [d] => { results := [.lit (.bool true)], args := [d] }
  | _ => none }
def codecBackRow : OpenClaim := { program := "ytfephmhphkmegaa", sum := "05b66926c9fe70f112454ffbd6a54b9eb01eab3d494f6e8944b528627df6c69a", func := "missive/missivelaw07.CodecBack", spec := "codecBack", inPlace := ["internal/abi.NoEscape", "internal/bytealg.MakeNoZero", "internal/bytealg.IndexByteString"], unfollowed := true, recurses := true, apart := false }
def CodecBackSaid : Prop := codecBackRow.holds Try.pinned (OpenSpec.ofChange codecBackSpec)

/-- ITS FALSE NEIGHBOUR: 'it returns false'. Refute it at one input. -/
def codecBackWrong : ChangeSpec := { name := "codecBack", fn := fun _ => fun
  | [d] => { results := [.lit (.bool false)], args := [d] }
  | _ => none }
def CodecBackWrongFalsely : Prop := codecBackRow.holds Try.pinned (OpenSpec.ofChange codecBackWrong)

/-- 'missivelaw07.CodecLines': WHATEVER THE INPUT: true; the input reads as it did. -/
def codecLinesSpec : ChangeSpec := { name := "codecLines", fn := fun _ => fun
  | [d] => { results := [.lit (.bool true)], args := [d] }
  | _ => none }
def codecLinesRow : OpenClaim := { program := "ytfephmhphkmegaa", sum := "05b66926c9fe70f112454ffbd6a54b9eb01eab3d494f6e8944b528627df6c69a", func := "missive/missivelaw07.CodecLines", spec := "codecLines", inPlace := ["internal/abi.NoEscape", "internal/bytealg.MakeNoZero", "internal/bytealg.IndexByteString"], unfollowed := true, recurses := true, apart := false }
def CodecLinesSaid : Prop := codecLinesRow.holds Try.pinned (OpenSpec.ofChange codecLinesSpec)

/-- ITS FALSE NEIGHBOUR: 'it returns false'. Refute it at one input. -/
def codecLinesWrong : ChangeSpec := { name := "codecLines", fn := fun _ => fun
  | [d] => { results := [.lit (.bool false)], args := [d] }
  | _ => none }
def CodecLinesWrongFalsely : Prop := codecLinesRow.holds Try.pinned (OpenSpec.ofChange codecLinesWrong)

/-- 'missivelaw07.CodecParts': WHATEVER THE INPUT: true; the input reads as it did. -/
def codecPartsSpec : ChangeSpec := { name := "codecParts", fn := fun _ => fun
  | [d1, d2] => { results := [.lit (.bool true)], args := [d1, d2] }
  | _ => none }
def codecPartsRow : OpenClaim := { program := "ytfephmhphkmegaa", sum := "05b66926c9fe70f112454ffbd6a54b9eb01eab3d494f6e8944b528627df6c69a", func := "missive/missivelaw07.CodecParts", spec := "codecParts", inPlace := ["internal/abi.NoEscape", "internal/bytealg.MakeNoZero", "internal/bytealg.IndexByteString"], unfollowed := true, recurses := true, apart := false }
def CodecPartsSaid : Prop := codecPartsRow.holds Try.pinned (OpenSpec.ofChange codecPartsSpec)

/-- ITS FALSE NEIGHBOUR: 'it returns false'. Refute it at one input. -/
def codecPartsWrong : ChangeSpec := { name := "codecParts", fn := fun _ => fun
  | [d1, d2] => { results := [.lit (.bool false)], args := [d1, d2] }
  | _ => none }
def CodecPartsWrongFalsely : Prop := codecPartsRow.holds Try.pinned (OpenSpec.ofChange codecPartsWrong)

/- THE SECOND FORM. 'bulk': how many values and letters a reading holds, each counted each time it is reached (what is shared counts as often as it is met; a slice's spare places count too). A statement '..UptoSaid' is the law's where the arguments, and the package variables that the reading takes, are together of bulk at most 1048576: NARROWER than '..Said'. Prove '..Said' where nothing that the law and all that it calls make is longer than what came in: it says more and counts as full. Else prove '..UptoSaid'. A law counts once. -/
mutual
def uptoBulk {H : Type} : DataW H → Nat
  | .lit (.string bytes) => bytes.length + 1
  | .lit _ => 1
  | .nil => 1
  | .ptr d => uptoBulk d + 1
  | .slice elems spare => uptoBulkAll elems + uptoBulkAll spare + 1
  | .agg parts => uptoBulkAll parts + 1
  | .iface _ d => uptoBulk d + 1
  | .map entries => uptoBulkEntries entries + 1
  | .held _ => 1
def uptoBulkAll {H : Type} : List (DataW H) → Nat
  | [] => 0
  | d :: r => uptoBulk d + uptoBulkAll r
def uptoBulkEntries {H : Type} : List (Lit × DataW H) → Nat
  | [] => 0
  | x :: r => uptoBulkEntry x + uptoBulkEntries r
def uptoBulkEntry {H : Type} : Lit × DataW H → Nat
  | (.string bytes, d) => bytes.length + uptoBulk d + 1
  | (_, d) => uptoBulk d + 1
 end
def uptoSmall : (H : Type) → List (DataW H) → Bool := fun _ ds => decide (uptoBulkAll ds ≤ 1048576)
def OpenSpec.upto (s : _root_.Go.ChangeSpec) : _root_.Go.OpenSpec := { _root_.Go.OpenSpec.ofChange s with cond := some uptoSmall }

/-- 'missivelaw07.CodecWhite', WHERE WHAT IT READS IS OF BULK AT MOST 1048576: true; the input reads as it did. -/
def codecWhiteUptoRow : OpenClaim := { program := "ytfephmhphkmegaa", sum := "05b66926c9fe70f112454ffbd6a54b9eb01eab3d494f6e8944b528627df6c69a", func := "missive/missivelaw07.CodecWhite", spec := "codecWhite", inPlace := ["internal/abi.NoEscape", "internal/bytealg.MakeNoZero"], unfollowed := true, recurses := true, apart := false, narrowed := true }
def CodecWhiteUptoSaid : Prop := codecWhiteUptoRow.holds Try.pinned (OpenSpec.upto codecWhiteSpec)

/-- 'missivelaw07.CodecStays', WHERE WHAT IT READS IS OF BULK AT MOST 1048576: true; the input reads as it did. -/
def codecStaysUptoRow : OpenClaim := { program := "ytfephmhphkmegaa", sum := "05b66926c9fe70f112454ffbd6a54b9eb01eab3d494f6e8944b528627df6c69a", func := "missive/missivelaw07.CodecStays", spec := "codecStays", inPlace := ["internal/abi.NoEscape", "internal/bytealg.MakeNoZero"], unfollowed := true, recurses := true, apart := false, narrowed := true }
def CodecStaysUptoSaid : Prop := codecStaysUptoRow.holds Try.pinned (OpenSpec.upto codecStaysSpec)

/-- 'missivelaw07.CodecBack', WHERE WHAT IT READS IS OF BULK AT MOST 1048576: true; the input reads as it did. -/
def codecBackUptoRow : OpenClaim := { program := "ytfephmhphkmegaa", sum := "05b66926c9fe70f112454ffbd6a54b9eb01eab3d494f6e8944b528627df6c69a", func := "missive/missivelaw07.CodecBack", spec := "codecBack", inPlace := ["internal/abi.NoEscape", "internal/bytealg.MakeNoZero", "internal/bytealg.IndexByteString"], unfollowed := true, recurses := true, apart := false, narrowed := true }
def CodecBackUptoSaid : Prop := codecBackUptoRow.holds Try.pinned (OpenSpec.upto codecBackSpec)

/-- 'missivelaw07.CodecLines', WHERE WHAT IT READS IS OF BULK AT MOST 1048576: true; the input reads as it did. -/
def codecLinesUptoRow : OpenClaim := { program := "ytfephmhphkmegaa", sum := "05b66926c9fe70f112454ffbd6a54b9eb01eab3d494f6e8944b528627df6c69a", func := "missive/missivelaw07.CodecLines", spec := "codecLines", inPlace := ["internal/abi.NoEscape", "internal/bytealg.MakeNoZero", "internal/bytealg.IndexByteString"], unfollowed := true, recurses := true, apart := false, narrowed := true }
def CodecLinesUptoSaid : Prop := codecLinesUptoRow.holds Try.pinned (OpenSpec.upto codecLinesSpec)

/-- 'missivelaw07.CodecParts', WHERE WHAT IT READS IS OF BULK AT MOST 1048576: true; the input reads as it did. -/
def codecPartsUptoRow : OpenClaim := { program := "ytfephmhphkmegaa", sum := "05b66926c9fe70f112454ffbd6a54b9eb01eab3d494f6e8944b528627df6c69a", func := "missive/missivelaw07.CodecParts", spec := "codecParts", inPlace := ["internal/abi.NoEscape", "internal/bytealg.MakeNoZero", "internal/bytealg.IndexByteString"], unfollowed := true, recurses := true, apart := false, narrowed := true }
def CodecPartsUptoSaid : Prop := codecPartsUptoRow.holds Try.pinned (OpenSpec.upto codecPartsSpec)

end Rows
end Go.Proofs.Ytfephmhphkmegaa
