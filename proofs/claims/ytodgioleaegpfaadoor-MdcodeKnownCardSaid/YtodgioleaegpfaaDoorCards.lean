/-
  DERIVED. GIVEN WITH THE SEED: THE CARDS: each row of YtodgioleaegpfaaDoorRows.lean that lists a variable, with what it lists TIED to the program's text (the seventh form; the later family's looks); each row that meets fmt, with fmt's text TOLD by the authors' own Lean function (tested against real Go, not proved from fmt's source: count such statements apart). THE CARD IS WHAT COUNTS. Prove the row's statement (the work); the ties are given (YtodgioleaegpfaaDoorTie.lean); close each card by the builder's one call (the guide's Derived/Test/ToyasCard.lean, 'card_holds'). Laid BY PROGRAM, IN A SANDBOX (cutbox-door.mjs). By AI agents, Wed Nov 11 2026. No macro, syntax, notation, axiom, sorry.
-/
import Derived.Test.YtodgioleaegpfaaDoorRows
import GoSem.ClaimSeven
namespace Go.Proofs.YtodgioleaegpfaaDoor
namespace Rows

/-- THE TIED CARD OF 'indenturelaw20.MdcodeReads'. -/
def mdcodeReadsCard : Claim7 := { stood := { row := mdcodeReadsRow, standIns := [], harness := (true, "09140cb5e83fc387f1ab447abf2b9d47626c127c195fe5201dbbe95362665f57"), looks := false }, kinds := [], alts := [], laidByText := true, laidKinds := [.data, .pinned], laidTests := true, laidLooks := .later }
def MdcodeReadsCardSaid : Prop := Claim7.holds Tryd.pinned (.plain (OpenSpec.ofChange mdcodeReadsSpec)) mdcodeReadsCard

/-- THE TIED CARD OF 'indenturelaw20.MdcodeSpans'. -/
def mdcodeSpansCard : Claim7 := { stood := { row := mdcodeSpansRow, standIns := [], harness := (true, "09140cb5e83fc387f1ab447abf2b9d47626c127c195fe5201dbbe95362665f57"), looks := false }, kinds := [], alts := [], laidByText := true, laidKinds := [.data, .pinned], laidTests := true, laidLooks := .later }
def MdcodeSpansCardSaid : Prop := Claim7.holds Tryd.pinned (.plain (OpenSpec.ofChange mdcodeSpansSpec)) mdcodeSpansCard

/-- THE TIED CARD OF 'indenturelaw20.MdcodeOrder'. -/
def mdcodeOrderCard : Claim7 := { stood := { row := mdcodeOrderRow, standIns := [], harness := (true, "09140cb5e83fc387f1ab447abf2b9d47626c127c195fe5201dbbe95362665f57"), looks := false }, kinds := [], alts := [], laidByText := true, laidKinds := [.data, .pinned], laidTests := true, laidLooks := .later }
def MdcodeOrderCardSaid : Prop := Claim7.holds Tryd.pinned (.plain (OpenSpec.ofChange mdcodeOrderSpec)) mdcodeOrderCard

/-- THE TIED CARD OF 'indenturelaw20.MdcodeWhole'. -/
def mdcodeWholeCard : Claim7 := { stood := { row := mdcodeWholeRow, standIns := [], harness := (true, "09140cb5e83fc387f1ab447abf2b9d47626c127c195fe5201dbbe95362665f57"), looks := false }, kinds := [], alts := [], laidByText := true, laidKinds := [.data, .pinned], laidTests := true, laidLooks := .later }
def MdcodeWholeCardSaid : Prop := Claim7.holds Tryd.pinned (.plain (OpenSpec.ofChange mdcodeWholeSpec)) mdcodeWholeCard

/-- THE TIED CARD OF 'indenturelaw20.MdcodeEscapes'. -/
def mdcodeEscapesCard : Claim7 := { stood := { row := mdcodeEscapesRow, standIns := [], harness := (true, "09140cb5e83fc387f1ab447abf2b9d47626c127c195fe5201dbbe95362665f57"), looks := false }, kinds := [], alts := [], laidByText := true, laidKinds := [.data, .pinned], laidTests := true, laidLooks := .later }
def MdcodeEscapesCardSaid : Prop := Claim7.holds Tryd.pinned (.plain (OpenSpec.ofChange mdcodeEscapesSpec)) mdcodeEscapesCard

/-- THE TIED CARD OF 'indenturelaw20.MdcodeKnown'. -/
def mdcodeKnownCard : Claim7 := { stood := { row := mdcodeKnownRow, standIns := [], harness := (true, "09140cb5e83fc387f1ab447abf2b9d47626c127c195fe5201dbbe95362665f57"), looks := false }, kinds := [], alts := [], laidByText := true, laidKinds := [.data, .pinned], laidTests := true, laidLooks := .later }
def MdcodeKnownCardSaid : Prop := Claim7.holds Tryd.pinned (.plain (OpenSpec.ofChange mdcodeKnownSpec)) mdcodeKnownCard

/-- THE SECOND FORM's CARD OF 'indenturelaw20.MdcodeReads'. -/
def mdcodeReadsUptoCard : Claim7 := { stood := { row := mdcodeReadsUptoRow, standIns := [], harness := (true, "09140cb5e83fc387f1ab447abf2b9d47626c127c195fe5201dbbe95362665f57"), looks := false }, kinds := [], alts := [], laidByText := true, laidKinds := [.data, .pinned], laidTests := true, laidLooks := .later }
def MdcodeReadsUptoCardSaid : Prop := Claim7.holds Tryd.pinned (.plain (OpenSpec.upto mdcodeReadsSpec)) mdcodeReadsUptoCard

/-- THE SECOND FORM's CARD OF 'indenturelaw20.MdcodeSpans'. -/
def mdcodeSpansUptoCard : Claim7 := { stood := { row := mdcodeSpansUptoRow, standIns := [], harness := (true, "09140cb5e83fc387f1ab447abf2b9d47626c127c195fe5201dbbe95362665f57"), looks := false }, kinds := [], alts := [], laidByText := true, laidKinds := [.data, .pinned], laidTests := true, laidLooks := .later }
def MdcodeSpansUptoCardSaid : Prop := Claim7.holds Tryd.pinned (.plain (OpenSpec.upto mdcodeSpansSpec)) mdcodeSpansUptoCard

/-- THE SECOND FORM's CARD OF 'indenturelaw20.MdcodeOrder'. -/
def mdcodeOrderUptoCard : Claim7 := { stood := { row := mdcodeOrderUptoRow, standIns := [], harness := (true, "09140cb5e83fc387f1ab447abf2b9d47626c127c195fe5201dbbe95362665f57"), looks := false }, kinds := [], alts := [], laidByText := true, laidKinds := [.data, .pinned], laidTests := true, laidLooks := .later }
def MdcodeOrderUptoCardSaid : Prop := Claim7.holds Tryd.pinned (.plain (OpenSpec.upto mdcodeOrderSpec)) mdcodeOrderUptoCard

/-- THE SECOND FORM's CARD OF 'indenturelaw20.MdcodeWhole'. -/
def mdcodeWholeUptoCard : Claim7 := { stood := { row := mdcodeWholeUptoRow, standIns := [], harness := (true, "09140cb5e83fc387f1ab447abf2b9d47626c127c195fe5201dbbe95362665f57"), looks := false }, kinds := [], alts := [], laidByText := true, laidKinds := [.data, .pinned], laidTests := true, laidLooks := .later }
def MdcodeWholeUptoCardSaid : Prop := Claim7.holds Tryd.pinned (.plain (OpenSpec.upto mdcodeWholeSpec)) mdcodeWholeUptoCard

/-- THE SECOND FORM's CARD OF 'indenturelaw20.MdcodeEscapes'. -/
def mdcodeEscapesUptoCard : Claim7 := { stood := { row := mdcodeEscapesUptoRow, standIns := [], harness := (true, "09140cb5e83fc387f1ab447abf2b9d47626c127c195fe5201dbbe95362665f57"), looks := false }, kinds := [], alts := [], laidByText := true, laidKinds := [.data, .pinned], laidTests := true, laidLooks := .later }
def MdcodeEscapesUptoCardSaid : Prop := Claim7.holds Tryd.pinned (.plain (OpenSpec.upto mdcodeEscapesSpec)) mdcodeEscapesUptoCard

/-- THE SECOND FORM's CARD OF 'indenturelaw20.MdcodeKnown'. -/
def mdcodeKnownUptoCard : Claim7 := { stood := { row := mdcodeKnownUptoRow, standIns := [], harness := (true, "09140cb5e83fc387f1ab447abf2b9d47626c127c195fe5201dbbe95362665f57"), looks := false }, kinds := [], alts := [], laidByText := true, laidKinds := [.data, .pinned], laidTests := true, laidLooks := .later }
def MdcodeKnownUptoCardSaid : Prop := Claim7.holds Tryd.pinned (.plain (OpenSpec.upto mdcodeKnownSpec)) mdcodeKnownUptoCard
end Rows
end Go.Proofs.YtodgioleaegpfaaDoor
