/-
  NARROWER THAN 'FOR EVERY INPUT', by the rows' own cells (each row's printed sentence says how): MdmarkHeads: laid · MdmarkWhole: laid · MdmarkUnders: laid · MdmarkFences: laid · MdmarkRules: laid · MdmarkItems: laid · MdmarkRows: laid · MdmarkApart: laid · MdmarkKnown: laid.
  DERIVED. THE GIVEN ROWS OF THIS SEAT. 9 by the template 'for every input the law returns true; each argument reads behind the call as it read before'; 0 by the template 'total and deterministic' (their statements: YtgeddemohcbojaaDoorTotals.lean).
  GIVEN WITH THE SEED: the statements are not yours to turn. If you find one false, say at which input.
  Laid BY PROGRAM, IN A SANDBOX (cutbox-rows.mjs): the forced cells as the released guide's own fill.sh prints them over the translation 3b29bfcaf3e3a7da… (all of the seat's roots in one cut). By AI agents, Wed Nov 11 2026. No macro, syntax, notation, axiom, sorry.
-/
import Derived.Test.YtgeddemohcbojaaDoorChecked
import GoSem.PinnedTables
import GoSem.Claim
import GoSem.ClaimJoined
import GoSem.ClaimMapViews
import Derived.JoinedTies
import Derived.KernelRfl
namespace Go.Proofs.YtgeddemohcbojaaDoor
/- THE CELL 'sum', in the pinned program and in every row, IS THE sha256 OF THE DUMP (.gsa) THAT YtgeddemohcbojaaDoorProg.lean LOADS. Nothing in Lean hashes anything: it is a label: what it is worth is what the hold of that sum in a sandbox is worth. -/
noncomputable def Tryd.pinned : Pinned := { name := "ytgeddemohcbojaadoor", sum := "3b29bfcaf3e3a7daeaafc7ba6c1a43c6a92f6d925ef39a1e1bb71c969ee04fe4", checked := Tryd.checked }
namespace Rows
def none {H : Type} : Left H := { results := [], args := [] }

/- WHAT THE LISTED PACKAGE-LEVEL VARIABLES READ AS WHEN THE CALL BEGINS. Each datum BY PROGRAM (the guide's laid-datum.mjs) off the statement by which the dump's own 'gosem.cut.vars' lays the variable. In a bare row this is a premise. The card (YtgeddemohcbojaaDoorCards.lean) ties it to the program's text. -/
def laid_unicode_utf8_acceptRanges {H : Type} : DataW H := .agg [.agg [.lit (.int .u8 128), .lit (.int .u8 191)], .agg [.lit (.int .u8 160), .lit (.int .u8 191)], .agg [.lit (.int .u8 128), .lit (.int .u8 159)], .agg [.lit (.int .u8 144), .lit (.int .u8 191)], .agg [.lit (.int .u8 128), .lit (.int .u8 143)], .agg [.lit (.int .u8 0), .lit (.int .u8 0)], .agg [.lit (.int .u8 0), .lit (.int .u8 0)], .agg [.lit (.int .u8 0), .lit (.int .u8 0)], .agg [.lit (.int .u8 0), .lit (.int .u8 0)], .agg [.lit (.int .u8 0), .lit (.int .u8 0)], .agg [.lit (.int .u8 0), .lit (.int .u8 0)], .agg [.lit (.int .u8 0), .lit (.int .u8 0)], .agg [.lit (.int .u8 0), .lit (.int .u8 0)], .agg [.lit (.int .u8 0), .lit (.int .u8 0)], .agg [.lit (.int .u8 0), .lit (.int .u8 0)], .agg [.lit (.int .u8 0), .lit (.int .u8 0)]]
/-- One of Go's own tables, pinned by name: the form's constant. -/
def laid_unicode_utf8_first : DataW Unit := Go.Pinned.utf8First

/-- 'indenturelaw18.MdmarkHeads': WHATEVER THE INPUT: true; the input reads as it did. -/
def mdmarkHeadsSpec : ChangeSpec := { name := "mdmarkHeads", fn := fun _ => fun
  | [d1, d2] => { results := [.lit (.bool true)], args := [d1, d2] }
  | _ => none }
def mdmarkHeadsRow : OpenClaim := { program := "ytgeddemohcbojaadoor", sum := "3b29bfcaf3e3a7daeaafc7ba6c1a43c6a92f6d925ef39a1e1bb71c969ee04fe4", func := "indenture/indenturelaw18.MdmarkHeads", spec := "mdmarkHeads", inPlace := ["internal/bytealg.IndexByteString", "internal/bytealg.IndexString"], unfollowed := true, recurses := true, named := ["internal/bytealg.MaxLen", "unicode/utf8.first", "unicode/utf8.acceptRanges"], apart := false, laid := [("unicode/utf8.acceptRanges", laid_unicode_utf8_acceptRanges), ("unicode/utf8.first", laid_unicode_utf8_first)] }
def MdmarkHeadsSaid : Prop := mdmarkHeadsRow.holds Tryd.pinned (OpenSpec.ofChange mdmarkHeadsSpec)

/-- ITS FALSE NEIGHBOUR: 'it returns false'. Refute it at one input. -/
def mdmarkHeadsWrong : ChangeSpec := { name := "mdmarkHeads", fn := fun _ => fun
  | [d1, d2] => { results := [.lit (.bool false)], args := [d1, d2] }
  | _ => none }
def MdmarkHeadsWrongFalsely : Prop := mdmarkHeadsRow.holds Tryd.pinned (OpenSpec.ofChange mdmarkHeadsWrong)

/-- 'indenturelaw18.MdmarkWhole': WHATEVER THE INPUT: true; the input reads as it did. -/
def mdmarkWholeSpec : ChangeSpec := { name := "mdmarkWhole", fn := fun _ => fun
  | [d1, d2, d3, d4] => { results := [.lit (.bool true)], args := [d1, d2, d3, d4] }
  | _ => none }
def mdmarkWholeRow : OpenClaim := { program := "ytgeddemohcbojaadoor", sum := "3b29bfcaf3e3a7daeaafc7ba6c1a43c6a92f6d925ef39a1e1bb71c969ee04fe4", func := "indenture/indenturelaw18.MdmarkWhole", spec := "mdmarkWhole", inPlace := ["internal/bytealg.IndexByteString", "internal/bytealg.IndexString"], unfollowed := true, recurses := true, named := ["internal/bytealg.MaxLen", "unicode/utf8.first", "unicode/utf8.acceptRanges"], apart := false, laid := [("unicode/utf8.acceptRanges", laid_unicode_utf8_acceptRanges), ("unicode/utf8.first", laid_unicode_utf8_first)] }
def MdmarkWholeSaid : Prop := mdmarkWholeRow.holds Tryd.pinned (OpenSpec.ofChange mdmarkWholeSpec)

/-- ITS FALSE NEIGHBOUR: 'it returns false'. Refute it at one input. -/
def mdmarkWholeWrong : ChangeSpec := { name := "mdmarkWhole", fn := fun _ => fun
  | [d1, d2, d3, d4] => { results := [.lit (.bool false)], args := [d1, d2, d3, d4] }
  | _ => none }
def MdmarkWholeWrongFalsely : Prop := mdmarkWholeRow.holds Tryd.pinned (OpenSpec.ofChange mdmarkWholeWrong)

/-- 'indenturelaw18.MdmarkUnders': WHATEVER THE INPUT: true; the input reads as it did. -/
def mdmarkUndersSpec : ChangeSpec := { name := "mdmarkUnders", fn := fun _ => fun
  | [d1, d2] => { results := [.lit (.bool true)], args := [d1, d2] }
  | _ => none }
def mdmarkUndersRow : OpenClaim := { program := "ytgeddemohcbojaadoor", sum := "3b29bfcaf3e3a7daeaafc7ba6c1a43c6a92f6d925ef39a1e1bb71c969ee04fe4", func := "indenture/indenturelaw18.MdmarkUnders", spec := "mdmarkUnders", inPlace := ["internal/bytealg.IndexByteString", "internal/bytealg.IndexString"], unfollowed := true, recurses := true, named := ["internal/bytealg.MaxLen", "unicode/utf8.first", "unicode/utf8.acceptRanges"], apart := false, laid := [("unicode/utf8.acceptRanges", laid_unicode_utf8_acceptRanges), ("unicode/utf8.first", laid_unicode_utf8_first)] }
def MdmarkUndersSaid : Prop := mdmarkUndersRow.holds Tryd.pinned (OpenSpec.ofChange mdmarkUndersSpec)

/-- ITS FALSE NEIGHBOUR: 'it returns false'. Refute it at one input. -/
def mdmarkUndersWrong : ChangeSpec := { name := "mdmarkUnders", fn := fun _ => fun
  | [d1, d2] => { results := [.lit (.bool false)], args := [d1, d2] }
  | _ => none }
def MdmarkUndersWrongFalsely : Prop := mdmarkUndersRow.holds Tryd.pinned (OpenSpec.ofChange mdmarkUndersWrong)

/-- 'indenturelaw18.MdmarkFences': WHATEVER THE INPUT: true; the input reads as it did. -/
def mdmarkFencesSpec : ChangeSpec := { name := "mdmarkFences", fn := fun _ => fun
  | [d1, d2] => { results := [.lit (.bool true)], args := [d1, d2] }
  | _ => none }
def mdmarkFencesRow : OpenClaim := { program := "ytgeddemohcbojaadoor", sum := "3b29bfcaf3e3a7daeaafc7ba6c1a43c6a92f6d925ef39a1e1bb71c969ee04fe4", func := "indenture/indenturelaw18.MdmarkFences", spec := "mdmarkFences", inPlace := ["internal/bytealg.IndexByteString", "internal/bytealg.IndexString"], unfollowed := true, recurses := true, named := ["internal/bytealg.MaxLen", "unicode/utf8.first", "unicode/utf8.acceptRanges"], apart := false, laid := [("unicode/utf8.acceptRanges", laid_unicode_utf8_acceptRanges), ("unicode/utf8.first", laid_unicode_utf8_first)] }
def MdmarkFencesSaid : Prop := mdmarkFencesRow.holds Tryd.pinned (OpenSpec.ofChange mdmarkFencesSpec)

/-- ITS FALSE NEIGHBOUR: 'it returns false'. Refute it at one input. -/
def mdmarkFencesWrong : ChangeSpec := { name := "mdmarkFences", fn := fun _ => fun
  | [d1, d2] => { results := [.lit (.bool false)], args := [d1, d2] }
  | _ => none }
def MdmarkFencesWrongFalsely : Prop := mdmarkFencesRow.holds Tryd.pinned (OpenSpec.ofChange mdmarkFencesWrong)

/-- 'indenturelaw18.MdmarkRules': WHATEVER THE INPUT: true; the input reads as it did. -/
def mdmarkRulesSpec : ChangeSpec := { name := "mdmarkRules", fn := fun _ => fun
  | [d1, d2] => { results := [.lit (.bool true)], args := [d1, d2] }
  | _ => none }
def mdmarkRulesRow : OpenClaim := { program := "ytgeddemohcbojaadoor", sum := "3b29bfcaf3e3a7daeaafc7ba6c1a43c6a92f6d925ef39a1e1bb71c969ee04fe4", func := "indenture/indenturelaw18.MdmarkRules", spec := "mdmarkRules", inPlace := ["internal/bytealg.IndexByteString", "internal/bytealg.IndexString"], unfollowed := true, recurses := true, named := ["internal/bytealg.MaxLen", "unicode/utf8.first", "unicode/utf8.acceptRanges"], apart := false, laid := [("unicode/utf8.acceptRanges", laid_unicode_utf8_acceptRanges), ("unicode/utf8.first", laid_unicode_utf8_first)] }
def MdmarkRulesSaid : Prop := mdmarkRulesRow.holds Tryd.pinned (OpenSpec.ofChange mdmarkRulesSpec)

/-- ITS FALSE NEIGHBOUR: 'it returns false'. Refute it at one input. -/
def mdmarkRulesWrong : ChangeSpec := { name := "mdmarkRules", fn := fun _ => fun
  | [d1, d2] => { results := [.lit (.bool false)], args := [d1, d2] }
  | _ => none }
def MdmarkRulesWrongFalsely : Prop := mdmarkRulesRow.holds Tryd.pinned (OpenSpec.ofChange mdmarkRulesWrong)

/-- 'indenturelaw18.MdmarkItems': WHATEVER THE INPUT: true; the input reads as it did. -/
def mdmarkItemsSpec : ChangeSpec := { name := "mdmarkItems", fn := fun _ => fun
  | [d1, d2] => { results := [.lit (.bool true)], args := [d1, d2] }
  | _ => none }
def mdmarkItemsRow : OpenClaim := { program := "ytgeddemohcbojaadoor", sum := "3b29bfcaf3e3a7daeaafc7ba6c1a43c6a92f6d925ef39a1e1bb71c969ee04fe4", func := "indenture/indenturelaw18.MdmarkItems", spec := "mdmarkItems", inPlace := ["internal/bytealg.IndexByteString", "internal/bytealg.IndexString"], unfollowed := true, recurses := true, named := ["internal/bytealg.MaxLen", "unicode/utf8.first", "unicode/utf8.acceptRanges"], apart := false, laid := [("unicode/utf8.acceptRanges", laid_unicode_utf8_acceptRanges), ("unicode/utf8.first", laid_unicode_utf8_first)] }
def MdmarkItemsSaid : Prop := mdmarkItemsRow.holds Tryd.pinned (OpenSpec.ofChange mdmarkItemsSpec)

/-- ITS FALSE NEIGHBOUR: 'it returns false'. Refute it at one input. -/
def mdmarkItemsWrong : ChangeSpec := { name := "mdmarkItems", fn := fun _ => fun
  | [d1, d2] => { results := [.lit (.bool false)], args := [d1, d2] }
  | _ => none }
def MdmarkItemsWrongFalsely : Prop := mdmarkItemsRow.holds Tryd.pinned (OpenSpec.ofChange mdmarkItemsWrong)

/-- 'indenturelaw18.MdmarkRows': WHATEVER THE INPUT: true; the input reads as it did. -/
def mdmarkRowsSpec : ChangeSpec := { name := "mdmarkRows", fn := fun _ => fun
  | [d1, d2, d3] => { results := [.lit (.bool true)], args := [d1, d2, d3] }
  | _ => none }
def mdmarkRowsRow : OpenClaim := { program := "ytgeddemohcbojaadoor", sum := "3b29bfcaf3e3a7daeaafc7ba6c1a43c6a92f6d925ef39a1e1bb71c969ee04fe4", func := "indenture/indenturelaw18.MdmarkRows", spec := "mdmarkRows", inPlace := ["internal/bytealg.IndexByteString", "internal/bytealg.IndexString"], unfollowed := true, recurses := true, named := ["internal/bytealg.MaxLen", "unicode/utf8.first", "unicode/utf8.acceptRanges"], apart := false, laid := [("unicode/utf8.acceptRanges", laid_unicode_utf8_acceptRanges), ("unicode/utf8.first", laid_unicode_utf8_first)] }
def MdmarkRowsSaid : Prop := mdmarkRowsRow.holds Tryd.pinned (OpenSpec.ofChange mdmarkRowsSpec)

/-- ITS FALSE NEIGHBOUR: 'it returns false'. Refute it at one input. -/
def mdmarkRowsWrong : ChangeSpec := { name := "mdmarkRows", fn := fun _ => fun
  | [d1, d2, d3] => { results := [.lit (.bool false)], args := [d1, d2, d3] }
  | _ => none }
def MdmarkRowsWrongFalsely : Prop := mdmarkRowsRow.holds Tryd.pinned (OpenSpec.ofChange mdmarkRowsWrong)

/-- 'indenturelaw18.MdmarkApart': WHATEVER THE INPUT: true; the input reads as it did. -/
def mdmarkApartSpec : ChangeSpec := { name := "mdmarkApart", fn := fun _ => fun
  | [d1, d2] => { results := [.lit (.bool true)], args := [d1, d2] }
  | _ => none }
def mdmarkApartRow : OpenClaim := { program := "ytgeddemohcbojaadoor", sum := "3b29bfcaf3e3a7daeaafc7ba6c1a43c6a92f6d925ef39a1e1bb71c969ee04fe4", func := "indenture/indenturelaw18.MdmarkApart", spec := "mdmarkApart", inPlace := ["internal/bytealg.IndexByteString", "internal/bytealg.IndexString"], unfollowed := true, recurses := true, named := ["internal/bytealg.MaxLen", "unicode/utf8.first", "unicode/utf8.acceptRanges"], apart := false, laid := [("unicode/utf8.acceptRanges", laid_unicode_utf8_acceptRanges), ("unicode/utf8.first", laid_unicode_utf8_first)] }
def MdmarkApartSaid : Prop := mdmarkApartRow.holds Tryd.pinned (OpenSpec.ofChange mdmarkApartSpec)

/-- ITS FALSE NEIGHBOUR: 'it returns false'. Refute it at one input. -/
def mdmarkApartWrong : ChangeSpec := { name := "mdmarkApart", fn := fun _ => fun
  | [d1, d2] => { results := [.lit (.bool false)], args := [d1, d2] }
  | _ => none }
def MdmarkApartWrongFalsely : Prop := mdmarkApartRow.holds Tryd.pinned (OpenSpec.ofChange mdmarkApartWrong)

/-- 'indenturelaw18.MdmarkKnown': WHATEVER THE INPUT: true; the input reads as it did. -/
def mdmarkKnownSpec : ChangeSpec := { name := "mdmarkKnown", fn := fun _ => fun
  | [] => { results := [.lit (.bool true)], args := [] }
  | _ => none }
def mdmarkKnownRow : OpenClaim := { program := "ytgeddemohcbojaadoor", sum := "3b29bfcaf3e3a7daeaafc7ba6c1a43c6a92f6d925ef39a1e1bb71c969ee04fe4", func := "indenture/indenturelaw18.MdmarkKnown", spec := "mdmarkKnown", inPlace := ["internal/bytealg.IndexByteString", "internal/bytealg.IndexString"], unfollowed := true, recurses := true, named := ["internal/bytealg.MaxLen", "unicode/utf8.first", "unicode/utf8.acceptRanges"], apart := false, laid := [("unicode/utf8.acceptRanges", laid_unicode_utf8_acceptRanges), ("unicode/utf8.first", laid_unicode_utf8_first)] }
def MdmarkKnownSaid : Prop := mdmarkKnownRow.holds Tryd.pinned (OpenSpec.ofChange mdmarkKnownSpec)

/-- ITS FALSE NEIGHBOUR: 'it returns false'. Refute it at one input. -/
def mdmarkKnownWrong : ChangeSpec := { name := "mdmarkKnown", fn := fun _ => fun
  | [] => { results := [.lit (.bool false)], args := [] }
  | _ => none }
def MdmarkKnownWrongFalsely : Prop := mdmarkKnownRow.holds Tryd.pinned (OpenSpec.ofChange mdmarkKnownWrong)

/- THE SECOND FORM. 'bulk': how many values and letters a reading holds, each counted each time it is reached (what is shared counts as often as it is met; a slice's spare places count too). A statement '..UptoSaid' is the law's where the arguments, and the package variables that the reading takes, are together of bulk at most 1048576: NARROWER than '..Said'. Prove '..Said' where nothing that the law and all that it calls make is longer than what came in: it says more and counts as full. Else prove '..UptoSaid'. A law counts once. -/
mutual
def uptoBulk {H : Type} : DataW H → Nat
  | .lit (.string bytes) => bytes.length + 1
  | .lit _ => 1
  | .nil => 1
  | .ptr d => uptoBulk d + 1
  | .slice elems spare => uptoBulkAll elems + uptoBulkAll spare + 1
  | .agg parts => uptoBulkAll parts + 1
  | .iface _ d => uptoBulk d + 1
  | .map entries => uptoBulkEntries entries + 1
  | .held _ => 1
def uptoBulkAll {H : Type} : List (DataW H) → Nat
  | [] => 0
  | d :: r => uptoBulk d + uptoBulkAll r
def uptoBulkEntries {H : Type} : List (Lit × DataW H) → Nat
  | [] => 0
  | x :: r => uptoBulkEntry x + uptoBulkEntries r
def uptoBulkEntry {H : Type} : Lit × DataW H → Nat
  | (.string bytes, d) => bytes.length + uptoBulk d + 1
  | (_, d) => uptoBulk d + 1
 end
def uptoSmall : (H : Type) → List (DataW H) → Bool := fun _ ds => decide (uptoBulkAll ds ≤ 1048576)
def OpenSpec.upto (s : _root_.Go.ChangeSpec) : _root_.Go.OpenSpec := { _root_.Go.OpenSpec.ofChange s with cond := some uptoSmall }

/-- 'indenturelaw18.MdmarkHeads', WHERE WHAT IT READS IS OF BULK AT MOST 1048576: true; the input reads as it did. -/
def mdmarkHeadsUptoRow : OpenClaim := { program := "ytgeddemohcbojaadoor", sum := "3b29bfcaf3e3a7daeaafc7ba6c1a43c6a92f6d925ef39a1e1bb71c969ee04fe4", func := "indenture/indenturelaw18.MdmarkHeads", spec := "mdmarkHeads", inPlace := ["internal/bytealg.IndexByteString", "internal/bytealg.IndexString"], unfollowed := true, recurses := true, named := ["internal/bytealg.MaxLen", "unicode/utf8.first", "unicode/utf8.acceptRanges"], apart := false, laid := [("unicode/utf8.acceptRanges", laid_unicode_utf8_acceptRanges), ("unicode/utf8.first", laid_unicode_utf8_first)], narrowed := true }
def MdmarkHeadsUptoSaid : Prop := mdmarkHeadsUptoRow.holds Tryd.pinned (OpenSpec.upto mdmarkHeadsSpec)

/-- 'indenturelaw18.MdmarkWhole', WHERE WHAT IT READS IS OF BULK AT MOST 1048576: true; the input reads as it did. -/
def mdmarkWholeUptoRow : OpenClaim := { program := "ytgeddemohcbojaadoor", sum := "3b29bfcaf3e3a7daeaafc7ba6c1a43c6a92f6d925ef39a1e1bb71c969ee04fe4", func := "indenture/indenturelaw18.MdmarkWhole", spec := "mdmarkWhole", inPlace := ["internal/bytealg.IndexByteString", "internal/bytealg.IndexString"], unfollowed := true, recurses := true, named := ["internal/bytealg.MaxLen", "unicode/utf8.first", "unicode/utf8.acceptRanges"], apart := false, laid := [("unicode/utf8.acceptRanges", laid_unicode_utf8_acceptRanges), ("unicode/utf8.first", laid_unicode_utf8_first)], narrowed := true }
def MdmarkWholeUptoSaid : Prop := mdmarkWholeUptoRow.holds Tryd.pinned (OpenSpec.upto mdmarkWholeSpec)

/-- 'indenturelaw18.MdmarkUnders', WHERE WHAT IT READS IS OF BULK AT MOST 1048576: true; the input reads as it did. -/
def mdmarkUndersUptoRow : OpenClaim := { program := "ytgeddemohcbojaadoor", sum := "3b29bfcaf3e3a7daeaafc7ba6c1a43c6a92f6d925ef39a1e1bb71c969ee04fe4", func := "indenture/indenturelaw18.MdmarkUnders", spec := "mdmarkUnders", inPlace := ["internal/bytealg.IndexByteString", "internal/bytealg.IndexString"], unfollowed := true, recurses := true, named := ["internal/bytealg.MaxLen", "unicode/utf8.first", "unicode/utf8.acceptRanges"], apart := false, laid := [("unicode/utf8.acceptRanges", laid_unicode_utf8_acceptRanges), ("unicode/utf8.first", laid_unicode_utf8_first)], narrowed := true }
def MdmarkUndersUptoSaid : Prop := mdmarkUndersUptoRow.holds Tryd.pinned (OpenSpec.upto mdmarkUndersSpec)

/-- 'indenturelaw18.MdmarkFences', WHERE WHAT IT READS IS OF BULK AT MOST 1048576: true; the input reads as it did. -/
def mdmarkFencesUptoRow : OpenClaim := { program := "ytgeddemohcbojaadoor", sum := "3b29bfcaf3e3a7daeaafc7ba6c1a43c6a92f6d925ef39a1e1bb71c969ee04fe4", func := "indenture/indenturelaw18.MdmarkFences", spec := "mdmarkFences", inPlace := ["internal/bytealg.IndexByteString", "internal/bytealg.IndexString"], unfollowed := true, recurses := true, named := ["internal/bytealg.MaxLen", "unicode/utf8.first", "unicode/utf8.acceptRanges"], apart := false, laid := [("unicode/utf8.acceptRanges", laid_unicode_utf8_acceptRanges), ("unicode/utf8.first", laid_unicode_utf8_first)], narrowed := true }
def MdmarkFencesUptoSaid : Prop := mdmarkFencesUptoRow.holds Tryd.pinned (OpenSpec.upto mdmarkFencesSpec)

/-- 'indenturelaw18.MdmarkRules', WHERE WHAT IT READS IS OF BULK AT MOST 1048576: true; the input reads as it did. -/
def mdmarkRulesUptoRow : OpenClaim := { program := "ytgeddemohcbojaadoor", sum := "3b29bfcaf3e3a7daeaafc7ba6c1a43c6a92f6d925ef39a1e1bb71c969ee04fe4", func := "indenture/indenturelaw18.MdmarkRules", spec := "mdmarkRules", inPlace := ["internal/bytealg.IndexByteString", "internal/bytealg.IndexString"], unfollowed := true, recurses := true, named := ["internal/bytealg.MaxLen", "unicode/utf8.first", "unicode/utf8.acceptRanges"], apart := false, laid := [("unicode/utf8.acceptRanges", laid_unicode_utf8_acceptRanges), ("unicode/utf8.first", laid_unicode_utf8_first)], narrowed := true }
def MdmarkRulesUptoSaid : Prop := mdmarkRulesUptoRow.holds Tryd.pinned (OpenSpec.upto mdmarkRulesSpec)

/-- 'indenturelaw18.MdmarkItems', WHERE WHAT IT READS IS OF BULK AT MOST 1048576: true; the input reads as it did. -/
def mdmarkItemsUptoRow : OpenClaim := { program := "ytgeddemohcbojaadoor", sum := "3b29bfcaf3e3a7daeaafc7ba6c1a43c6a92f6d925ef39a1e1bb71c969ee04fe4", func := "indenture/indenturelaw18.MdmarkItems", spec := "mdmarkItems", inPlace := ["internal/bytealg.IndexByteString", "internal/bytealg.IndexString"], unfollowed := true, recurses := true, named := ["internal/bytealg.MaxLen", "unicode/utf8.first", "unicode/utf8.acceptRanges"], apart := false, laid := [("unicode/utf8.acceptRanges", laid_unicode_utf8_acceptRanges), ("unicode/utf8.first", laid_unicode_utf8_first)], narrowed := true }
def MdmarkItemsUptoSaid : Prop := mdmarkItemsUptoRow.holds Tryd.pinned (OpenSpec.upto mdmarkItemsSpec)

/-- 'indenturelaw18.MdmarkRows', WHERE WHAT IT READS IS OF BULK AT MOST 1048576: true; the input reads as it did. -/
def mdmarkRowsUptoRow : OpenClaim := { program := "ytgeddemohcbojaadoor", sum := "3b29bfcaf3e3a7daeaafc7ba6c1a43c6a92f6d925ef39a1e1bb71c969ee04fe4", func := "indenture/indenturelaw18.MdmarkRows", spec := "mdmarkRows", inPlace := ["internal/bytealg.IndexByteString", "internal/bytealg.IndexString"], unfollowed := true, recurses := true, named := ["internal/bytealg.MaxLen", "unicode/utf8.first", "unicode/utf8.acceptRanges"], apart := false, laid := [("unicode/utf8.acceptRanges", laid_unicode_utf8_acceptRanges), ("unicode/utf8.first", laid_unicode_utf8_first)], narrowed := true }
def MdmarkRowsUptoSaid : Prop := mdmarkRowsUptoRow.holds Tryd.pinned (OpenSpec.upto mdmarkRowsSpec)

/-- 'indenturelaw18.MdmarkApart', WHERE WHAT IT READS IS OF BULK AT MOST 1048576: true; the input reads as it did. -/
def mdmarkApartUptoRow : OpenClaim := { program := "ytgeddemohcbojaadoor", sum := "3b29bfcaf3e3a7daeaafc7ba6c1a43c6a92f6d925ef39a1e1bb71c969ee04fe4", func := "indenture/indenturelaw18.MdmarkApart", spec := "mdmarkApart", inPlace := ["internal/bytealg.IndexByteString", "internal/bytealg.IndexString"], unfollowed := true, recurses := true, named := ["internal/bytealg.MaxLen", "unicode/utf8.first", "unicode/utf8.acceptRanges"], apart := false, laid := [("unicode/utf8.acceptRanges", laid_unicode_utf8_acceptRanges), ("unicode/utf8.first", laid_unicode_utf8_first)], narrowed := true }
def MdmarkApartUptoSaid : Prop := mdmarkApartUptoRow.holds Tryd.pinned (OpenSpec.upto mdmarkApartSpec)

/-- 'indenturelaw18.MdmarkKnown', WHERE WHAT IT READS IS OF BULK AT MOST 1048576: true; the input reads as it did. -/
def mdmarkKnownUptoRow : OpenClaim := { program := "ytgeddemohcbojaadoor", sum := "3b29bfcaf3e3a7daeaafc7ba6c1a43c6a92f6d925ef39a1e1bb71c969ee04fe4", func := "indenture/indenturelaw18.MdmarkKnown", spec := "mdmarkKnown", inPlace := ["internal/bytealg.IndexByteString", "internal/bytealg.IndexString"], unfollowed := true, recurses := true, named := ["internal/bytealg.MaxLen", "unicode/utf8.first", "unicode/utf8.acceptRanges"], apart := false, laid := [("unicode/utf8.acceptRanges", laid_unicode_utf8_acceptRanges), ("unicode/utf8.first", laid_unicode_utf8_first)], narrowed := true }
def MdmarkKnownUptoSaid : Prop := mdmarkKnownUptoRow.holds Tryd.pinned (OpenSpec.upto mdmarkKnownSpec)

end Rows
end Go.Proofs.YtgeddemohcbojaaDoor
