/-
  No cell of these rows narrows 'for every input' (looked for: loops, veiled, ifaces, maps, wideKeys, modest, calm, conditions, laid).
  DERIVED. THE GIVEN ROWS OF THIS SEAT. 7 by the template 'for every input the law returns true; each argument reads behind the call as it read before'; 0 by the template 'total and deterministic' (their statements: YtlmhdiienpebfaaTotals.lean).
  GIVEN WITH THE SEED: the statements are not yours to turn. If you find one false, say at which input.
  Laid BY PROGRAM, IN A SANDBOX (cutbox-rows.mjs): the forced cells as the released guide's own fill.sh prints them over the translation 06aa8c6de5256061… (all of the seat's roots in one cut). By AI agents, Wed Nov 11 2026. No macro, syntax, notation, axiom, sorry.
-/
import Derived.Test.YtlmhdiienpebfaaChecked
import GoSem.Claim
import GoSem.ClaimJoined
import GoSem.ClaimMapViews
import Derived.JoinedTies
import Derived.KernelRfl
namespace Go.Proofs.Ytlmhdiienpebfaa
/- THE CELL 'sum', in the pinned program and in every row, IS THE sha256 OF THE DUMP (.gsa) THAT YtlmhdiienpebfaaProg.lean LOADS. Nothing in Lean hashes anything: it is a label: what it is worth is what the hold of that sum in a sandbox is worth. -/
noncomputable def Try.pinned : Pinned := { name := "ytlmhdiienpebfaa", sum := "06aa8c6de52560617957d4b92c9b3084dad6938c35cf0b9b4ac6f8b2414ed226", checked := Try.checked }
namespace Rows
def none {H : Type} : Left H := { results := [], args := [] }

/-- 'indenturelaw17.MdlabelFolds': WHATEVER THE INPUT: true; the input reads as it did. -/
def mdlabelFoldsSpec : ChangeSpec := { name := "mdlabelFolds", fn := fun _ => fun
  | [d] => { results := [.lit (.bool true)], args := [d] }
  | _ => none }
def mdlabelFoldsRow : OpenClaim := { program := "ytlmhdiienpebfaa", sum := "06aa8c6de52560617957d4b92c9b3084dad6938c35cf0b9b4ac6f8b2414ed226", func := "indenture/indenturelaw17.MdlabelFolds", spec := "mdlabelFolds", inPlace := ["internal/abi.NoEscape", "internal/bytealg.MakeNoZero", "internal/bytealg.IndexByteString", "internal/bytealg.IndexString"], unfollowed := true, recurses := true, named := ["internal/bytealg.MaxLen"], apart := false }
def MdlabelFoldsSaid : Prop := mdlabelFoldsRow.holds Try.pinned (OpenSpec.ofChange mdlabelFoldsSpec)

/-- ITS FALSE NEIGHBOUR: 'it returns false'. Refute it at one input. -/
def mdlabelFoldsWrong : ChangeSpec := { name := "mdlabelFolds", fn := fun _ => fun
  | [d] => { results := [.lit (.bool false)], args := [d] }
  | _ => none }
def MdlabelFoldsWrongFalsely : Prop := mdlabelFoldsRow.holds Try.pinned (OpenSpec.ofChange mdlabelFoldsWrong)

/-- 'indenturelaw17.MdlabelReads': WHATEVER THE INPUT: true; the input reads as it did. -/
def mdlabelReadsSpec : ChangeSpec := { name := "mdlabelReads", fn := fun _ => fun
  | [d1, d2, d3] => { results := [.lit (.bool true)], args := [d1, d2, d3] }
  | _ => none }
def mdlabelReadsRow : OpenClaim := { program := "ytlmhdiienpebfaa", sum := "06aa8c6de52560617957d4b92c9b3084dad6938c35cf0b9b4ac6f8b2414ed226", func := "indenture/indenturelaw17.MdlabelReads", spec := "mdlabelReads", inPlace := ["internal/bytealg.IndexByteString", "internal/bytealg.IndexString", "internal/abi.NoEscape", "internal/bytealg.MakeNoZero"], unfollowed := true, recurses := true, named := ["internal/bytealg.MaxLen"], apart := false }
def MdlabelReadsSaid : Prop := mdlabelReadsRow.holds Try.pinned (OpenSpec.ofChange mdlabelReadsSpec)

/-- ITS FALSE NEIGHBOUR: 'it returns false'. Refute it at one input. -/
def mdlabelReadsWrong : ChangeSpec := { name := "mdlabelReads", fn := fun _ => fun
  | [d1, d2, d3] => { results := [.lit (.bool false)], args := [d1, d2, d3] }
  | _ => none }
def MdlabelReadsWrongFalsely : Prop := mdlabelReadsRow.holds Try.pinned (OpenSpec.ofChange mdlabelReadsWrong)

/-- 'indenturelaw17.MdlabelDefs': WHATEVER THE INPUT: true; the input reads as it did. -/
def mdlabelDefsSpec : ChangeSpec := { name := "mdlabelDefs", fn := fun _ => fun
  | [d1, d2] => { results := [.lit (.bool true)], args := [d1, d2] }
  | _ => none }
def mdlabelDefsRow : OpenClaim := { program := "ytlmhdiienpebfaa", sum := "06aa8c6de52560617957d4b92c9b3084dad6938c35cf0b9b4ac6f8b2414ed226", func := "indenture/indenturelaw17.MdlabelDefs", spec := "mdlabelDefs", inPlace := ["internal/bytealg.IndexByteString", "internal/bytealg.IndexString", "internal/abi.NoEscape", "internal/bytealg.MakeNoZero"], unfollowed := true, recurses := true, named := ["internal/bytealg.MaxLen"], apart := false }
def MdlabelDefsSaid : Prop := mdlabelDefsRow.holds Try.pinned (OpenSpec.ofChange mdlabelDefsSpec)

/-- ITS FALSE NEIGHBOUR: 'it returns false'. Refute it at one input. -/
def mdlabelDefsWrong : ChangeSpec := { name := "mdlabelDefs", fn := fun _ => fun
  | [d1, d2] => { results := [.lit (.bool false)], args := [d1, d2] }
  | _ => none }
def MdlabelDefsWrongFalsely : Prop := mdlabelDefsRow.holds Try.pinned (OpenSpec.ofChange mdlabelDefsWrong)

/-- 'indenturelaw17.MdlabelFolded': WHATEVER THE INPUT: true; the input reads as it did. -/
def mdlabelFoldedSpec : ChangeSpec := { name := "mdlabelFolded", fn := fun _ => fun
  | [d1, d2] => { results := [.lit (.bool true)], args := [d1, d2] }
  | _ => none }
def mdlabelFoldedRow : OpenClaim := { program := "ytlmhdiienpebfaa", sum := "06aa8c6de52560617957d4b92c9b3084dad6938c35cf0b9b4ac6f8b2414ed226", func := "indenture/indenturelaw17.MdlabelFolded", spec := "mdlabelFolded", inPlace := ["internal/abi.NoEscape", "internal/bytealg.MakeNoZero", "internal/bytealg.IndexByteString", "internal/bytealg.IndexString"], unfollowed := true, recurses := true, named := ["internal/bytealg.MaxLen"], apart := false }
def MdlabelFoldedSaid : Prop := mdlabelFoldedRow.holds Try.pinned (OpenSpec.ofChange mdlabelFoldedSpec)

/-- ITS FALSE NEIGHBOUR: 'it returns false'. Refute it at one input. -/
def mdlabelFoldedWrong : ChangeSpec := { name := "mdlabelFolded", fn := fun _ => fun
  | [d1, d2] => { results := [.lit (.bool false)], args := [d1, d2] }
  | _ => none }
def MdlabelFoldedWrongFalsely : Prop := mdlabelFoldedRow.holds Try.pinned (OpenSpec.ofChange mdlabelFoldedWrong)

/-- 'indenturelaw17.MdlabelWhole': WHATEVER THE INPUT: true; the input reads as it did. -/
def mdlabelWholeSpec : ChangeSpec := { name := "mdlabelWhole", fn := fun _ => fun
  | [d1, d2, d3, d4] => { results := [.lit (.bool true)], args := [d1, d2, d3, d4] }
  | _ => none }
def mdlabelWholeRow : OpenClaim := { program := "ytlmhdiienpebfaa", sum := "06aa8c6de52560617957d4b92c9b3084dad6938c35cf0b9b4ac6f8b2414ed226", func := "indenture/indenturelaw17.MdlabelWhole", spec := "mdlabelWhole", inPlace := ["internal/bytealg.IndexByteString", "internal/bytealg.IndexString", "internal/abi.NoEscape", "internal/bytealg.MakeNoZero"], unfollowed := true, recurses := true, named := ["internal/bytealg.MaxLen"], apart := false }
def MdlabelWholeSaid : Prop := mdlabelWholeRow.holds Try.pinned (OpenSpec.ofChange mdlabelWholeSpec)

/-- ITS FALSE NEIGHBOUR: 'it returns false'. Refute it at one input. -/
def mdlabelWholeWrong : ChangeSpec := { name := "mdlabelWhole", fn := fun _ => fun
  | [d1, d2, d3, d4] => { results := [.lit (.bool false)], args := [d1, d2, d3, d4] }
  | _ => none }
def MdlabelWholeWrongFalsely : Prop := mdlabelWholeRow.holds Try.pinned (OpenSpec.ofChange mdlabelWholeWrong)

/-- 'indenturelaw17.MdlabelBounds': WHATEVER THE INPUT: true; the input reads as it did. -/
def mdlabelBoundsSpec : ChangeSpec := { name := "mdlabelBounds", fn := fun _ => fun
  | [d1, d2, d3] => { results := [.lit (.bool true)], args := [d1, d2, d3] }
  | _ => none }
def mdlabelBoundsRow : OpenClaim := { program := "ytlmhdiienpebfaa", sum := "06aa8c6de52560617957d4b92c9b3084dad6938c35cf0b9b4ac6f8b2414ed226", func := "indenture/indenturelaw17.MdlabelBounds", spec := "mdlabelBounds", inPlace := ["internal/bytealg.IndexByteString", "internal/bytealg.IndexString", "internal/abi.NoEscape", "internal/bytealg.MakeNoZero"], unfollowed := true, recurses := true, named := ["internal/bytealg.MaxLen"], apart := false }
def MdlabelBoundsSaid : Prop := mdlabelBoundsRow.holds Try.pinned (OpenSpec.ofChange mdlabelBoundsSpec)

/-- ITS FALSE NEIGHBOUR: 'it returns false'. Refute it at one input. -/
def mdlabelBoundsWrong : ChangeSpec := { name := "mdlabelBounds", fn := fun _ => fun
  | [d1, d2, d3] => { results := [.lit (.bool false)], args := [d1, d2, d3] }
  | _ => none }
def MdlabelBoundsWrongFalsely : Prop := mdlabelBoundsRow.holds Try.pinned (OpenSpec.ofChange mdlabelBoundsWrong)

/-- 'indenturelaw17.MdlabelKnown': WHATEVER THE INPUT: true; the input reads as it did. -/
def mdlabelKnownSpec : ChangeSpec := { name := "mdlabelKnown", fn := fun _ => fun
  | [] => { results := [.lit (.bool true)], args := [] }
  | _ => none }
def mdlabelKnownRow : OpenClaim := { program := "ytlmhdiienpebfaa", sum := "06aa8c6de52560617957d4b92c9b3084dad6938c35cf0b9b4ac6f8b2414ed226", func := "indenture/indenturelaw17.MdlabelKnown", spec := "mdlabelKnown", inPlace := ["internal/abi.NoEscape", "internal/bytealg.MakeNoZero", "internal/bytealg.IndexByteString", "internal/bytealg.IndexString"], unfollowed := true, recurses := true, named := ["internal/bytealg.MaxLen"], apart := false }
def MdlabelKnownSaid : Prop := mdlabelKnownRow.holds Try.pinned (OpenSpec.ofChange mdlabelKnownSpec)

/-- ITS FALSE NEIGHBOUR: 'it returns false'. Refute it at one input. -/
def mdlabelKnownWrong : ChangeSpec := { name := "mdlabelKnown", fn := fun _ => fun
  | [] => { results := [.lit (.bool false)], args := [] }
  | _ => none }
def MdlabelKnownWrongFalsely : Prop := mdlabelKnownRow.holds Try.pinned (OpenSpec.ofChange mdlabelKnownWrong)

/- THE SECOND FORM. 'bulk': how many values and letters a reading holds, each counted each time it is reached (what is shared counts as often as it is met; a slice's spare places count too). A statement '..UptoSaid' is the law's where the arguments, and the package variables that the reading takes, are together of bulk at most 1048576: NARROWER than '..Said'. Prove '..Said' where nothing that the law and all that it calls make is longer than what came in: it says more and counts as full. Else prove '..UptoSaid'. A law counts once. -/
mutual
def uptoBulk {H : Type} : DataW H → Nat
  | .lit (.string bytes) => bytes.length + 1
  | .lit _ => 1
  | .nil => 1
  | .ptr d => uptoBulk d + 1
  | .slice elems spare => uptoBulkAll elems + uptoBulkAll spare + 1
  | .agg parts => uptoBulkAll parts + 1
  | .iface _ d => uptoBulk d + 1
  | .map entries => uptoBulkEntries entries + 1
  | .held _ => 1
def uptoBulkAll {H : Type} : List (DataW H) → Nat
  | [] => 0
  | d :: r => uptoBulk d + uptoBulkAll r
def uptoBulkEntries {H : Type} : List (Lit × DataW H) → Nat
  | [] => 0
  | x :: r => uptoBulkEntry x + uptoBulkEntries r
def uptoBulkEntry {H : Type} : Lit × DataW H → Nat
  | (.string bytes, d) => bytes.length + uptoBulk d + 1
  | (_, d) => uptoBulk d + 1
 end
def uptoSmall : (H : Type) → List (DataW H) → Bool := fun _ ds => decide (uptoBulkAll ds ≤ 1048576)
def OpenSpec.upto (s : _root_.Go.ChangeSpec) : _root_.Go.OpenSpec := { _root_.Go.OpenSpec.ofChange s with cond := some uptoSmall }

/-- 'indenturelaw17.MdlabelFolds', WHERE WHAT IT READS IS OF BULK AT MOST 1048576: true; the input reads as it did. -/
def mdlabelFoldsUptoRow : OpenClaim := { program := "ytlmhdiienpebfaa", sum := "06aa8c6de52560617957d4b92c9b3084dad6938c35cf0b9b4ac6f8b2414ed226", func := "indenture/indenturelaw17.MdlabelFolds", spec := "mdlabelFolds", inPlace := ["internal/abi.NoEscape", "internal/bytealg.MakeNoZero", "internal/bytealg.IndexByteString", "internal/bytealg.IndexString"], unfollowed := true, recurses := true, named := ["internal/bytealg.MaxLen"], apart := false, narrowed := true }
def MdlabelFoldsUptoSaid : Prop := mdlabelFoldsUptoRow.holds Try.pinned (OpenSpec.upto mdlabelFoldsSpec)

/-- 'indenturelaw17.MdlabelReads', WHERE WHAT IT READS IS OF BULK AT MOST 1048576: true; the input reads as it did. -/
def mdlabelReadsUptoRow : OpenClaim := { program := "ytlmhdiienpebfaa", sum := "06aa8c6de52560617957d4b92c9b3084dad6938c35cf0b9b4ac6f8b2414ed226", func := "indenture/indenturelaw17.MdlabelReads", spec := "mdlabelReads", inPlace := ["internal/bytealg.IndexByteString", "internal/bytealg.IndexString", "internal/abi.NoEscape", "internal/bytealg.MakeNoZero"], unfollowed := true, recurses := true, named := ["internal/bytealg.MaxLen"], apart := false, narrowed := true }
def MdlabelReadsUptoSaid : Prop := mdlabelReadsUptoRow.holds Try.pinned (OpenSpec.upto mdlabelReadsSpec)

/-- 'indenturelaw17.MdlabelDefs', WHERE WHAT IT READS IS OF BULK AT MOST 1048576: true; the input reads as it did. -/
def mdlabelDefsUptoRow : OpenClaim := { program := "ytlmhdiienpebfaa", sum := "06aa8c6de52560617957d4b92c9b3084dad6938c35cf0b9b4ac6f8b2414ed226", func := "indenture/indenturelaw17.MdlabelDefs", spec := "mdlabelDefs", inPlace := ["internal/bytealg.IndexByteString", "internal/bytealg.IndexString", "internal/abi.NoEscape", "internal/bytealg.MakeNoZero"], unfollowed := true, recurses := true, named := ["internal/bytealg.MaxLen"], apart := false, narrowed := true }
def MdlabelDefsUptoSaid : Prop := mdlabelDefsUptoRow.holds Try.pinned (OpenSpec.upto mdlabelDefsSpec)

/-- 'indenturelaw17.MdlabelFolded', WHERE WHAT IT READS IS OF BULK AT MOST 1048576: true; the input reads as it did. -/
def mdlabelFoldedUptoRow : OpenClaim := { program := "ytlmhdiienpebfaa", sum := "06aa8c6de52560617957d4b92c9b3084dad6938c35cf0b9b4ac6f8b2414ed226", func := "indenture/indenturelaw17.MdlabelFolded", spec := "mdlabelFolded", inPlace := ["internal/abi.NoEscape", "internal/bytealg.MakeNoZero", "internal/bytealg.IndexByteString", "internal/bytealg.IndexString"], unfollowed := true, recurses := true, named := ["internal/bytealg.MaxLen"], apart := false, narrowed := true }
def MdlabelFoldedUptoSaid : Prop := mdlabelFoldedUptoRow.holds Try.pinned (OpenSpec.upto mdlabelFoldedSpec)

/-- 'indenturelaw17.MdlabelWhole', WHERE WHAT IT READS IS OF BULK AT MOST 1048576: true; the input reads as it did. -/
def mdlabelWholeUptoRow : OpenClaim := { program := "ytlmhdiienpebfaa", sum := "06aa8c6de52560617957d4b92c9b3084dad6938c35cf0b9b4ac6f8b2414ed226", func := "indenture/indenturelaw17.MdlabelWhole", spec := "mdlabelWhole", inPlace := ["internal/bytealg.IndexByteString", "internal/bytealg.IndexString", "internal/abi.NoEscape", "internal/bytealg.MakeNoZero"], unfollowed := true, recurses := true, named := ["internal/bytealg.MaxLen"], apart := false, narrowed := true }
def MdlabelWholeUptoSaid : Prop := mdlabelWholeUptoRow.holds Try.pinned (OpenSpec.upto mdlabelWholeSpec)

/-- 'indenturelaw17.MdlabelBounds', WHERE WHAT IT READS IS OF BULK AT MOST 1048576: true; the input reads as it did. -/
def mdlabelBoundsUptoRow : OpenClaim := { program := "ytlmhdiienpebfaa", sum := "06aa8c6de52560617957d4b92c9b3084dad6938c35cf0b9b4ac6f8b2414ed226", func := "indenture/indenturelaw17.MdlabelBounds", spec := "mdlabelBounds", inPlace := ["internal/bytealg.IndexByteString", "internal/bytealg.IndexString", "internal/abi.NoEscape", "internal/bytealg.MakeNoZero"], unfollowed := true, recurses := true, named := ["internal/bytealg.MaxLen"], apart := false, narrowed := true }
def MdlabelBoundsUptoSaid : Prop := mdlabelBoundsUptoRow.holds Try.pinned (OpenSpec.upto mdlabelBoundsSpec)

/-- 'indenturelaw17.MdlabelKnown', WHERE WHAT IT READS IS OF BULK AT MOST 1048576: true; the input reads as it did. -/
def mdlabelKnownUptoRow : OpenClaim := { program := "ytlmhdiienpebfaa", sum := "06aa8c6de52560617957d4b92c9b3084dad6938c35cf0b9b4ac6f8b2414ed226", func := "indenture/indenturelaw17.MdlabelKnown", spec := "mdlabelKnown", inPlace := ["internal/abi.NoEscape", "internal/bytealg.MakeNoZero", "internal/bytealg.IndexByteString", "internal/bytealg.IndexString"], unfollowed := true, recurses := true, named := ["internal/bytealg.MaxLen"], apart := false, narrowed := true }
def MdlabelKnownUptoSaid : Prop := mdlabelKnownUptoRow.holds Try.pinned (OpenSpec.upto mdlabelKnownSpec)

end Rows
end Go.Proofs.Ytlmhdiienpebfaa
