/-
  NARROWER THAN 'FOR EVERY INPUT', by the rows' own cells (each row's printed sentence says how): MdcodeReads: laid · MdcodeSpans: laid · MdcodeOrder: laid · MdcodeWhole: laid · MdcodeEscapes: laid · MdcodeKnown: laid.
  DERIVED. THE GIVEN ROWS OF THIS SEAT. 6 by the template 'for every input the law returns true; each argument reads behind the call as it read before'; 0 by the template 'total and deterministic' (their statements: YtodgioleaegpfaaDoorTotals.lean).
  GIVEN WITH THE SEED: the statements are not yours to turn. If you find one false, say at which input.
  Laid BY PROGRAM, IN A SANDBOX (cutbox-rows.mjs): the forced cells as the released guide's own fill.sh prints them over the translation fe8cd816a5b118a0… (all of the seat's roots in one cut). By AI agents, Wed Nov 11 2026. No macro, syntax, notation, axiom, sorry.
-/
import Derived.Test.YtodgioleaegpfaaDoorChecked
import GoSem.PinnedTables
import GoSem.Claim
import GoSem.ClaimJoined
import GoSem.ClaimMapViews
import Derived.JoinedTies
import Derived.KernelRfl
namespace Go.Proofs.YtodgioleaegpfaaDoor
/- THE CELL 'sum', in the pinned program and in every row, IS THE sha256 OF THE DUMP (.gsa) THAT YtodgioleaegpfaaDoorProg.lean LOADS. Nothing in Lean hashes anything: it is a label: what it is worth is what the hold of that sum in a sandbox is worth. -/
noncomputable def Tryd.pinned : Pinned := { name := "ytodgioleaegpfaadoor", sum := "fe8cd816a5b118a090e54ba31f40295a19fa8fd2fa0044918d13c1ee3ccac3cb", checked := Tryd.checked }
namespace Rows
def none {H : Type} : Left H := { results := [], args := [] }

/- WHAT THE LISTED PACKAGE-LEVEL VARIABLES READ AS WHEN THE CALL BEGINS. Each datum BY PROGRAM (the guide's laid-datum.mjs) off the statement by which the dump's own 'gosem.cut.vars' lays the variable. In a bare row this is a premise. The card (YtodgioleaegpfaaDoorCards.lean) ties it to the program's text. -/
def laid_unicode_utf8_acceptRanges {H : Type} : DataW H := .agg [.agg [.lit (.int .u8 128), .lit (.int .u8 191)], .agg [.lit (.int .u8 160), .lit (.int .u8 191)], .agg [.lit (.int .u8 128), .lit (.int .u8 159)], .agg [.lit (.int .u8 144), .lit (.int .u8 191)], .agg [.lit (.int .u8 128), .lit (.int .u8 143)], .agg [.lit (.int .u8 0), .lit (.int .u8 0)], .agg [.lit (.int .u8 0), .lit (.int .u8 0)], .agg [.lit (.int .u8 0), .lit (.int .u8 0)], .agg [.lit (.int .u8 0), .lit (.int .u8 0)], .agg [.lit (.int .u8 0), .lit (.int .u8 0)], .agg [.lit (.int .u8 0), .lit (.int .u8 0)], .agg [.lit (.int .u8 0), .lit (.int .u8 0)], .agg [.lit (.int .u8 0), .lit (.int .u8 0)], .agg [.lit (.int .u8 0), .lit (.int .u8 0)], .agg [.lit (.int .u8 0), .lit (.int .u8 0)], .agg [.lit (.int .u8 0), .lit (.int .u8 0)]]
/-- One of Go's own tables, pinned by name: the form's constant. -/
def laid_unicode_utf8_first : DataW Unit := Go.Pinned.utf8First

/-- 'indenturelaw20.MdcodeReads': WHATEVER THE INPUT: true; the input reads as it did. -/
def mdcodeReadsSpec : ChangeSpec := { name := "mdcodeReads", fn := fun _ => fun
  | [d1, d2, d3] => { results := [.lit (.bool true)], args := [d1, d2, d3] }
  | _ => none }
def mdcodeReadsRow : OpenClaim := { program := "ytodgioleaegpfaadoor", sum := "fe8cd816a5b118a090e54ba31f40295a19fa8fd2fa0044918d13c1ee3ccac3cb", func := "indenture/indenturelaw20.MdcodeReads", spec := "mdcodeReads", inPlace := ["internal/bytealg.IndexByteString", "internal/bytealg.IndexString", "internal/bytealg.CountString"], unfollowed := true, recurses := true, named := ["internal/bytealg.MaxLen", "unicode/utf8.first", "unicode/utf8.acceptRanges"], apart := false, laid := [("unicode/utf8.acceptRanges", laid_unicode_utf8_acceptRanges), ("unicode/utf8.first", laid_unicode_utf8_first)] }
def MdcodeReadsSaid : Prop := mdcodeReadsRow.holds Tryd.pinned (OpenSpec.ofChange mdcodeReadsSpec)

/-- ITS FALSE NEIGHBOUR: 'it returns false'. Refute it at one input. -/
def mdcodeReadsWrong : ChangeSpec := { name := "mdcodeReads", fn := fun _ => fun
  | [d1, d2, d3] => { results := [.lit (.bool false)], args := [d1, d2, d3] }
  | _ => none }
def MdcodeReadsWrongFalsely : Prop := mdcodeReadsRow.holds Tryd.pinned (OpenSpec.ofChange mdcodeReadsWrong)

/-- 'indenturelaw20.MdcodeSpans': WHATEVER THE INPUT: true; the input reads as it did. -/
def mdcodeSpansSpec : ChangeSpec := { name := "mdcodeSpans", fn := fun _ => fun
  | [d1, d2, d3] => { results := [.lit (.bool true)], args := [d1, d2, d3] }
  | _ => none }
def mdcodeSpansRow : OpenClaim := { program := "ytodgioleaegpfaadoor", sum := "fe8cd816a5b118a090e54ba31f40295a19fa8fd2fa0044918d13c1ee3ccac3cb", func := "indenture/indenturelaw20.MdcodeSpans", spec := "mdcodeSpans", inPlace := ["internal/bytealg.IndexByteString", "internal/bytealg.IndexString", "internal/bytealg.CountString"], unfollowed := true, recurses := true, named := ["internal/bytealg.MaxLen", "unicode/utf8.first", "unicode/utf8.acceptRanges"], apart := false, laid := [("unicode/utf8.acceptRanges", laid_unicode_utf8_acceptRanges), ("unicode/utf8.first", laid_unicode_utf8_first)] }
def MdcodeSpansSaid : Prop := mdcodeSpansRow.holds Tryd.pinned (OpenSpec.ofChange mdcodeSpansSpec)

/-- ITS FALSE NEIGHBOUR: 'it returns false'. Refute it at one input. -/
def mdcodeSpansWrong : ChangeSpec := { name := "mdcodeSpans", fn := fun _ => fun
  | [d1, d2, d3] => { results := [.lit (.bool false)], args := [d1, d2, d3] }
  | _ => none }
def MdcodeSpansWrongFalsely : Prop := mdcodeSpansRow.holds Tryd.pinned (OpenSpec.ofChange mdcodeSpansWrong)

/-- 'indenturelaw20.MdcodeOrder': WHATEVER THE INPUT: true; the input reads as it did. -/
def mdcodeOrderSpec : ChangeSpec := { name := "mdcodeOrder", fn := fun _ => fun
  | [d1, d2, d3, d4] => { results := [.lit (.bool true)], args := [d1, d2, d3, d4] }
  | _ => none }
def mdcodeOrderRow : OpenClaim := { program := "ytodgioleaegpfaadoor", sum := "fe8cd816a5b118a090e54ba31f40295a19fa8fd2fa0044918d13c1ee3ccac3cb", func := "indenture/indenturelaw20.MdcodeOrder", spec := "mdcodeOrder", inPlace := ["internal/bytealg.IndexByteString", "internal/bytealg.IndexString", "internal/bytealg.CountString"], unfollowed := true, recurses := true, named := ["internal/bytealg.MaxLen", "unicode/utf8.first", "unicode/utf8.acceptRanges"], apart := false, laid := [("unicode/utf8.acceptRanges", laid_unicode_utf8_acceptRanges), ("unicode/utf8.first", laid_unicode_utf8_first)] }
def MdcodeOrderSaid : Prop := mdcodeOrderRow.holds Tryd.pinned (OpenSpec.ofChange mdcodeOrderSpec)

/-- ITS FALSE NEIGHBOUR: 'it returns false'. Refute it at one input. -/
def mdcodeOrderWrong : ChangeSpec := { name := "mdcodeOrder", fn := fun _ => fun
  | [d1, d2, d3, d4] => { results := [.lit (.bool false)], args := [d1, d2, d3, d4] }
  | _ => none }
def MdcodeOrderWrongFalsely : Prop := mdcodeOrderRow.holds Tryd.pinned (OpenSpec.ofChange mdcodeOrderWrong)

/-- 'indenturelaw20.MdcodeWhole': WHATEVER THE INPUT: true; the input reads as it did. -/
def mdcodeWholeSpec : ChangeSpec := { name := "mdcodeWhole", fn := fun _ => fun
  | [d1, d2, d3] => { results := [.lit (.bool true)], args := [d1, d2, d3] }
  | _ => none }
def mdcodeWholeRow : OpenClaim := { program := "ytodgioleaegpfaadoor", sum := "fe8cd816a5b118a090e54ba31f40295a19fa8fd2fa0044918d13c1ee3ccac3cb", func := "indenture/indenturelaw20.MdcodeWhole", spec := "mdcodeWhole", inPlace := ["internal/bytealg.IndexByteString", "internal/bytealg.IndexString", "internal/bytealg.CountString"], unfollowed := true, recurses := true, named := ["internal/bytealg.MaxLen", "unicode/utf8.first", "unicode/utf8.acceptRanges"], apart := false, laid := [("unicode/utf8.acceptRanges", laid_unicode_utf8_acceptRanges), ("unicode/utf8.first", laid_unicode_utf8_first)] }
def MdcodeWholeSaid : Prop := mdcodeWholeRow.holds Tryd.pinned (OpenSpec.ofChange mdcodeWholeSpec)

/-- ITS FALSE NEIGHBOUR: 'it returns false'. Refute it at one input. -/
def mdcodeWholeWrong : ChangeSpec := { name := "mdcodeWhole", fn := fun _ => fun
  | [d1, d2, d3] => { results := [.lit (.bool false)], args := [d1, d2, d3] }
  | _ => none }
def MdcodeWholeWrongFalsely : Prop := mdcodeWholeRow.holds Tryd.pinned (OpenSpec.ofChange mdcodeWholeWrong)

/-- 'indenturelaw20.MdcodeEscapes': WHATEVER THE INPUT: true; the input reads as it did. -/
def mdcodeEscapesSpec : ChangeSpec := { name := "mdcodeEscapes", fn := fun _ => fun
  | [d] => { results := [.lit (.bool true)], args := [d] }
  | _ => none }
def mdcodeEscapesRow : OpenClaim := { program := "ytodgioleaegpfaadoor", sum := "fe8cd816a5b118a090e54ba31f40295a19fa8fd2fa0044918d13c1ee3ccac3cb", func := "indenture/indenturelaw20.MdcodeEscapes", spec := "mdcodeEscapes", inPlace := ["internal/bytealg.IndexByteString", "internal/bytealg.IndexString", "internal/bytealg.CountString"], unfollowed := true, recurses := true, named := ["internal/bytealg.MaxLen", "unicode/utf8.first", "unicode/utf8.acceptRanges"], apart := false, laid := [("unicode/utf8.acceptRanges", laid_unicode_utf8_acceptRanges), ("unicode/utf8.first", laid_unicode_utf8_first)] }
def MdcodeEscapesSaid : Prop := mdcodeEscapesRow.holds Tryd.pinned (OpenSpec.ofChange mdcodeEscapesSpec)

/-- ITS FALSE NEIGHBOUR: 'it returns false'. Refute it at one input. -/
def mdcodeEscapesWrong : ChangeSpec := { name := "mdcodeEscapes", fn := fun _ => fun
  | [d] => { results := [.lit (.bool false)], args := [d] }
  | _ => none }
def MdcodeEscapesWrongFalsely : Prop := mdcodeEscapesRow.holds Tryd.pinned (OpenSpec.ofChange mdcodeEscapesWrong)

/-- 'indenturelaw20.MdcodeKnown': WHATEVER THE INPUT: true; the input reads as it did. -/
def mdcodeKnownSpec : ChangeSpec := { name := "mdcodeKnown", fn := fun _ => fun
  | [] => { results := [.lit (.bool true)], args := [] }
  | _ => none }
def mdcodeKnownRow : OpenClaim := { program := "ytodgioleaegpfaadoor", sum := "fe8cd816a5b118a090e54ba31f40295a19fa8fd2fa0044918d13c1ee3ccac3cb", func := "indenture/indenturelaw20.MdcodeKnown", spec := "mdcodeKnown", inPlace := ["internal/bytealg.IndexByteString", "internal/bytealg.IndexString", "internal/bytealg.CountString"], unfollowed := true, recurses := true, named := ["internal/bytealg.MaxLen", "unicode/utf8.first", "unicode/utf8.acceptRanges"], apart := false, laid := [("unicode/utf8.acceptRanges", laid_unicode_utf8_acceptRanges), ("unicode/utf8.first", laid_unicode_utf8_first)] }
def MdcodeKnownSaid : Prop := mdcodeKnownRow.holds Tryd.pinned (OpenSpec.ofChange mdcodeKnownSpec)

/-- ITS FALSE NEIGHBOUR: 'it returns false'. Refute it at one input. -/
def mdcodeKnownWrong : ChangeSpec := { name := "mdcodeKnown", fn := fun _ => fun
  | [] => { results := [.lit (.bool false)], args := [] }
  | _ => none }
def MdcodeKnownWrongFalsely : Prop := mdcodeKnownRow.holds Tryd.pinned (OpenSpec.ofChange mdcodeKnownWrong)

/- THE SECOND FORM. 'bulk': how many values and letters a reading holds, each counted each time it is reached (what is shared counts as often as it is met; a slice's spare places count too). A statement '..UptoSaid' is the law's where the arguments, and the package variables that the reading takes, are together of bulk at most 1048576: NARROWER than '..Said'. Prove '..Said' where nothing that the law and all that it calls make is longer than what came in: it says more and counts as full. Else prove '..UptoSaid'. A law counts once. -/
mutual
def uptoBulk {H : Type} : DataW H → Nat
  | .lit (.string bytes) => bytes.length + 1
  | .lit _ => 1
  | .nil => 1
  | .ptr d => uptoBulk d + 1
  | .slice elems spare => uptoBulkAll elems + uptoBulkAll spare + 1
  | .agg parts => uptoBulkAll parts + 1
  | .iface _ d => uptoBulk d + 1
  | .map entries => uptoBulkEntries entries + 1
  | .held _ => 1
def uptoBulkAll {H : Type} : List (DataW H) → Nat
  | [] => 0
  | d :: r => uptoBulk d + uptoBulkAll r
def uptoBulkEntries {H : Type} : List (Lit × DataW H) → Nat
  | [] => 0
  | x :: r => uptoBulkEntry x + uptoBulkEntries r
def uptoBulkEntry {H : Type} : Lit × DataW H → Nat
  | (.string bytes, d) => bytes.length + uptoBulk d + 1
  | (_, d) => uptoBulk d + 1
 end
def uptoSmall : (H : Type) → List (DataW H) → Bool := fun _ ds => decide (uptoBulkAll ds ≤ 1048576)
def OpenSpec.upto (s : _root_.Go.ChangeSpec) : _root_.Go.OpenSpec := { _root_.Go.OpenSpec.ofChange s with cond := some uptoSmall }

/-- 'indenturelaw20.MdcodeReads', WHERE WHAT IT READS IS OF BULK AT MOST 1048576: true; the input reads as it did. -/
def mdcodeReadsUptoRow : OpenClaim := { program := "ytodgioleaegpfaadoor", sum := "fe8cd816a5b118a090e54ba31f40295a19fa8fd2fa0044918d13c1ee3ccac3cb", func := "indenture/indenturelaw20.MdcodeReads", spec := "mdcodeReads", inPlace := ["internal/bytealg.IndexByteString", "internal/bytealg.IndexString", "internal/bytealg.CountString"], unfollowed := true, recurses := true, named := ["internal/bytealg.MaxLen", "unicode/utf8.first", "unicode/utf8.acceptRanges"], apart := false, laid := [("unicode/utf8.acceptRanges", laid_unicode_utf8_acceptRanges), ("unicode/utf8.first", laid_unicode_utf8_first)], narrowed := true }
def MdcodeReadsUptoSaid : Prop := mdcodeReadsUptoRow.holds Tryd.pinned (OpenSpec.upto mdcodeReadsSpec)

/-- 'indenturelaw20.MdcodeSpans', WHERE WHAT IT READS IS OF BULK AT MOST 1048576: true; the input reads as it did. -/
def mdcodeSpansUptoRow : OpenClaim := { program := "ytodgioleaegpfaadoor", sum := "fe8cd816a5b118a090e54ba31f40295a19fa8fd2fa0044918d13c1ee3ccac3cb", func := "indenture/indenturelaw20.MdcodeSpans", spec := "mdcodeSpans", inPlace := ["internal/bytealg.IndexByteString", "internal/bytealg.IndexString", "internal/bytealg.CountString"], unfollowed := true, recurses := true, named := ["internal/bytealg.MaxLen", "unicode/utf8.first", "unicode/utf8.acceptRanges"], apart := false, laid := [("unicode/utf8.acceptRanges", laid_unicode_utf8_acceptRanges), ("unicode/utf8.first", laid_unicode_utf8_first)], narrowed := true }
def MdcodeSpansUptoSaid : Prop := mdcodeSpansUptoRow.holds Tryd.pinned (OpenSpec.upto mdcodeSpansSpec)

/-- 'indenturelaw20.MdcodeOrder', WHERE WHAT IT READS IS OF BULK AT MOST 1048576: true; the input reads as it did. -/
def mdcodeOrderUptoRow : OpenClaim := { program := "ytodgioleaegpfaadoor", sum := "fe8cd816a5b118a090e54ba31f40295a19fa8fd2fa0044918d13c1ee3ccac3cb", func := "indenture/indenturelaw20.MdcodeOrder", spec := "mdcodeOrder", inPlace := ["internal/bytealg.IndexByteString", "internal/bytealg.IndexString", "internal/bytealg.CountString"], unfollowed := true, recurses := true, named := ["internal/bytealg.MaxLen", "unicode/utf8.first", "unicode/utf8.acceptRanges"], apart := false, laid := [("unicode/utf8.acceptRanges", laid_unicode_utf8_acceptRanges), ("unicode/utf8.first", laid_unicode_utf8_first)], narrowed := true }
def MdcodeOrderUptoSaid : Prop := mdcodeOrderUptoRow.holds Tryd.pinned (OpenSpec.upto mdcodeOrderSpec)

/-- 'indenturelaw20.MdcodeWhole', WHERE WHAT IT READS IS OF BULK AT MOST 1048576: true; the input reads as it did. -/
def mdcodeWholeUptoRow : OpenClaim := { program := "ytodgioleaegpfaadoor", sum := "fe8cd816a5b118a090e54ba31f40295a19fa8fd2fa0044918d13c1ee3ccac3cb", func := "indenture/indenturelaw20.MdcodeWhole", spec := "mdcodeWhole", inPlace := ["internal/bytealg.IndexByteString", "internal/bytealg.IndexString", "internal/bytealg.CountString"], unfollowed := true, recurses := true, named := ["internal/bytealg.MaxLen", "unicode/utf8.first", "unicode/utf8.acceptRanges"], apart := false, laid := [("unicode/utf8.acceptRanges", laid_unicode_utf8_acceptRanges), ("unicode/utf8.first", laid_unicode_utf8_first)], narrowed := true }
def MdcodeWholeUptoSaid : Prop := mdcodeWholeUptoRow.holds Tryd.pinned (OpenSpec.upto mdcodeWholeSpec)

/-- 'indenturelaw20.MdcodeEscapes', WHERE WHAT IT READS IS OF BULK AT MOST 1048576: true; the input reads as it did. -/
def mdcodeEscapesUptoRow : OpenClaim := { program := "ytodgioleaegpfaadoor", sum := "fe8cd816a5b118a090e54ba31f40295a19fa8fd2fa0044918d13c1ee3ccac3cb", func := "indenture/indenturelaw20.MdcodeEscapes", spec := "mdcodeEscapes", inPlace := ["internal/bytealg.IndexByteString", "internal/bytealg.IndexString", "internal/bytealg.CountString"], unfollowed := true, recurses := true, named := ["internal/bytealg.MaxLen", "unicode/utf8.first", "unicode/utf8.acceptRanges"], apart := false, laid := [("unicode/utf8.acceptRanges", laid_unicode_utf8_acceptRanges), ("unicode/utf8.first", laid_unicode_utf8_first)], narrowed := true }
def MdcodeEscapesUptoSaid : Prop := mdcodeEscapesUptoRow.holds Tryd.pinned (OpenSpec.upto mdcodeEscapesSpec)

/-- 'indenturelaw20.MdcodeKnown', WHERE WHAT IT READS IS OF BULK AT MOST 1048576: true; the input reads as it did. -/
def mdcodeKnownUptoRow : OpenClaim := { program := "ytodgioleaegpfaadoor", sum := "fe8cd816a5b118a090e54ba31f40295a19fa8fd2fa0044918d13c1ee3ccac3cb", func := "indenture/indenturelaw20.MdcodeKnown", spec := "mdcodeKnown", inPlace := ["internal/bytealg.IndexByteString", "internal/bytealg.IndexString", "internal/bytealg.CountString"], unfollowed := true, recurses := true, named := ["internal/bytealg.MaxLen", "unicode/utf8.first", "unicode/utf8.acceptRanges"], apart := false, laid := [("unicode/utf8.acceptRanges", laid_unicode_utf8_acceptRanges), ("unicode/utf8.first", laid_unicode_utf8_first)], narrowed := true }
def MdcodeKnownUptoSaid : Prop := mdcodeKnownUptoRow.holds Tryd.pinned (OpenSpec.upto mdcodeKnownSpec)

end Rows
end Go.Proofs.YtodgioleaegpfaaDoor
