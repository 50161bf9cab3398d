/-
  DERIVED. GIVEN WITH THE SEED: THE CARDS: each row of YtgeddemohcbojaaDoorRows.lean that lists a variable, with what it lists TIED to the program's text (the seventh form; the later family's looks); each row that meets fmt, with fmt's text TOLD by the authors' own Lean function (tested against real Go, not proved from fmt's source: count such statements apart). THE CARD IS WHAT COUNTS. Prove the row's statement (the work); the ties are given (YtgeddemohcbojaaDoorTie.lean); close each card by the builder's one call (the guide's Derived/Test/ToyasCard.lean, 'card_holds'). Laid BY PROGRAM, IN A SANDBOX (cutbox-door.mjs). By AI agents, Wed Nov 11 2026. No macro, syntax, notation, axiom, sorry.
-/
import Derived.Test.YtgeddemohcbojaaDoorRows
import GoSem.ClaimSeven
namespace Go.Proofs.YtgeddemohcbojaaDoor
namespace Rows

/-- THE TIED CARD OF 'indenturelaw18.MdmarkHeads'. -/
def mdmarkHeadsCard : Claim7 := { stood := { row := mdmarkHeadsRow, standIns := [], harness := (true, "d2767587423ef86e4183a5042c603ce1aab51242f5fc63c56f894c730f548701"), looks := false }, kinds := [], alts := [], laidByText := true, laidKinds := [.data, .pinned], laidTests := true, laidLooks := .later }
def MdmarkHeadsCardSaid : Prop := Claim7.holds Tryd.pinned (.plain (OpenSpec.ofChange mdmarkHeadsSpec)) mdmarkHeadsCard

/-- THE TIED CARD OF 'indenturelaw18.MdmarkWhole'. -/
def mdmarkWholeCard : Claim7 := { stood := { row := mdmarkWholeRow, standIns := [], harness := (true, "d2767587423ef86e4183a5042c603ce1aab51242f5fc63c56f894c730f548701"), looks := false }, kinds := [], alts := [], laidByText := true, laidKinds := [.data, .pinned], laidTests := true, laidLooks := .later }
def MdmarkWholeCardSaid : Prop := Claim7.holds Tryd.pinned (.plain (OpenSpec.ofChange mdmarkWholeSpec)) mdmarkWholeCard

/-- THE TIED CARD OF 'indenturelaw18.MdmarkUnders'. -/
def mdmarkUndersCard : Claim7 := { stood := { row := mdmarkUndersRow, standIns := [], harness := (true, "d2767587423ef86e4183a5042c603ce1aab51242f5fc63c56f894c730f548701"), looks := false }, kinds := [], alts := [], laidByText := true, laidKinds := [.data, .pinned], laidTests := true, laidLooks := .later }
def MdmarkUndersCardSaid : Prop := Claim7.holds Tryd.pinned (.plain (OpenSpec.ofChange mdmarkUndersSpec)) mdmarkUndersCard

/-- THE TIED CARD OF 'indenturelaw18.MdmarkFences'. -/
def mdmarkFencesCard : Claim7 := { stood := { row := mdmarkFencesRow, standIns := [], harness := (true, "d2767587423ef86e4183a5042c603ce1aab51242f5fc63c56f894c730f548701"), looks := false }, kinds := [], alts := [], laidByText := true, laidKinds := [.data, .pinned], laidTests := true, laidLooks := .later }
def MdmarkFencesCardSaid : Prop := Claim7.holds Tryd.pinned (.plain (OpenSpec.ofChange mdmarkFencesSpec)) mdmarkFencesCard

/-- THE TIED CARD OF 'indenturelaw18.MdmarkRules'. -/
def mdmarkRulesCard : Claim7 := { stood := { row := mdmarkRulesRow, standIns := [], harness := (true, "d2767587423ef86e4183a5042c603ce1aab51242f5fc63c56f894c730f548701"), looks := false }, kinds := [], alts := [], laidByText := true, laidKinds := [.data, .pinned], laidTests := true, laidLooks := .later }
def MdmarkRulesCardSaid : Prop := Claim7.holds Tryd.pinned (.plain (OpenSpec.ofChange mdmarkRulesSpec)) mdmarkRulesCard

/-- THE TIED CARD OF 'indenturelaw18.MdmarkItems'. -/
def mdmarkItemsCard : Claim7 := { stood := { row := mdmarkItemsRow, standIns := [], harness := (true, "d2767587423ef86e4183a5042c603ce1aab51242f5fc63c56f894c730f548701"), looks := false }, kinds := [], alts := [], laidByText := true, laidKinds := [.data, .pinned], laidTests := true, laidLooks := .later }
def MdmarkItemsCardSaid : Prop := Claim7.holds Tryd.pinned (.plain (OpenSpec.ofChange mdmarkItemsSpec)) mdmarkItemsCard

/-- THE TIED CARD OF 'indenturelaw18.MdmarkRows'. -/
def mdmarkRowsCard : Claim7 := { stood := { row := mdmarkRowsRow, standIns := [], harness := (true, "d2767587423ef86e4183a5042c603ce1aab51242f5fc63c56f894c730f548701"), looks := false }, kinds := [], alts := [], laidByText := true, laidKinds := [.data, .pinned], laidTests := true, laidLooks := .later }
def MdmarkRowsCardSaid : Prop := Claim7.holds Tryd.pinned (.plain (OpenSpec.ofChange mdmarkRowsSpec)) mdmarkRowsCard

/-- THE TIED CARD OF 'indenturelaw18.MdmarkApart'. -/
def mdmarkApartCard : Claim7 := { stood := { row := mdmarkApartRow, standIns := [], harness := (true, "d2767587423ef86e4183a5042c603ce1aab51242f5fc63c56f894c730f548701"), looks := false }, kinds := [], alts := [], laidByText := true, laidKinds := [.data, .pinned], laidTests := true, laidLooks := .later }
def MdmarkApartCardSaid : Prop := Claim7.holds Tryd.pinned (.plain (OpenSpec.ofChange mdmarkApartSpec)) mdmarkApartCard

/-- THE TIED CARD OF 'indenturelaw18.MdmarkKnown'. -/
def mdmarkKnownCard : Claim7 := { stood := { row := mdmarkKnownRow, standIns := [], harness := (true, "d2767587423ef86e4183a5042c603ce1aab51242f5fc63c56f894c730f548701"), looks := false }, kinds := [], alts := [], laidByText := true, laidKinds := [.data, .pinned], laidTests := true, laidLooks := .later }
def MdmarkKnownCardSaid : Prop := Claim7.holds Tryd.pinned (.plain (OpenSpec.ofChange mdmarkKnownSpec)) mdmarkKnownCard

/-- THE SECOND FORM's CARD OF 'indenturelaw18.MdmarkHeads'. -/
def mdmarkHeadsUptoCard : Claim7 := { stood := { row := mdmarkHeadsUptoRow, standIns := [], harness := (true, "d2767587423ef86e4183a5042c603ce1aab51242f5fc63c56f894c730f548701"), looks := false }, kinds := [], alts := [], laidByText := true, laidKinds := [.data, .pinned], laidTests := true, laidLooks := .later }
def MdmarkHeadsUptoCardSaid : Prop := Claim7.holds Tryd.pinned (.plain (OpenSpec.upto mdmarkHeadsSpec)) mdmarkHeadsUptoCard

/-- THE SECOND FORM's CARD OF 'indenturelaw18.MdmarkWhole'. -/
def mdmarkWholeUptoCard : Claim7 := { stood := { row := mdmarkWholeUptoRow, standIns := [], harness := (true, "d2767587423ef86e4183a5042c603ce1aab51242f5fc63c56f894c730f548701"), looks := false }, kinds := [], alts := [], laidByText := true, laidKinds := [.data, .pinned], laidTests := true, laidLooks := .later }
def MdmarkWholeUptoCardSaid : Prop := Claim7.holds Tryd.pinned (.plain (OpenSpec.upto mdmarkWholeSpec)) mdmarkWholeUptoCard

/-- THE SECOND FORM's CARD OF 'indenturelaw18.MdmarkUnders'. -/
def mdmarkUndersUptoCard : Claim7 := { stood := { row := mdmarkUndersUptoRow, standIns := [], harness := (true, "d2767587423ef86e4183a5042c603ce1aab51242f5fc63c56f894c730f548701"), looks := false }, kinds := [], alts := [], laidByText := true, laidKinds := [.data, .pinned], laidTests := true, laidLooks := .later }
def MdmarkUndersUptoCardSaid : Prop := Claim7.holds Tryd.pinned (.plain (OpenSpec.upto mdmarkUndersSpec)) mdmarkUndersUptoCard

/-- THE SECOND FORM's CARD OF 'indenturelaw18.MdmarkFences'. -/
def mdmarkFencesUptoCard : Claim7 := { stood := { row := mdmarkFencesUptoRow, standIns := [], harness := (true, "d2767587423ef86e4183a5042c603ce1aab51242f5fc63c56f894c730f548701"), looks := false }, kinds := [], alts := [], laidByText := true, laidKinds := [.data, .pinned], laidTests := true, laidLooks := .later }
def MdmarkFencesUptoCardSaid : Prop := Claim7.holds Tryd.pinned (.plain (OpenSpec.upto mdmarkFencesSpec)) mdmarkFencesUptoCard

/-- THE SECOND FORM's CARD OF 'indenturelaw18.MdmarkRules'. -/
def mdmarkRulesUptoCard : Claim7 := { stood := { row := mdmarkRulesUptoRow, standIns := [], harness := (true, "d2767587423ef86e4183a5042c603ce1aab51242f5fc63c56f894c730f548701"), looks := false }, kinds := [], alts := [], laidByText := true, laidKinds := [.data, .pinned], laidTests := true, laidLooks := .later }
def MdmarkRulesUptoCardSaid : Prop := Claim7.holds Tryd.pinned (.plain (OpenSpec.upto mdmarkRulesSpec)) mdmarkRulesUptoCard

/-- THE SECOND FORM's CARD OF 'indenturelaw18.MdmarkItems'. -/
def mdmarkItemsUptoCard : Claim7 := { stood := { row := mdmarkItemsUptoRow, standIns := [], harness := (true, "d2767587423ef86e4183a5042c603ce1aab51242f5fc63c56f894c730f548701"), looks := false }, kinds := [], alts := [], laidByText := true, laidKinds := [.data, .pinned], laidTests := true, laidLooks := .later }
def MdmarkItemsUptoCardSaid : Prop := Claim7.holds Tryd.pinned (.plain (OpenSpec.upto mdmarkItemsSpec)) mdmarkItemsUptoCard

/-- THE SECOND FORM's CARD OF 'indenturelaw18.MdmarkRows'. -/
def mdmarkRowsUptoCard : Claim7 := { stood := { row := mdmarkRowsUptoRow, standIns := [], harness := (true, "d2767587423ef86e4183a5042c603ce1aab51242f5fc63c56f894c730f548701"), looks := false }, kinds := [], alts := [], laidByText := true, laidKinds := [.data, .pinned], laidTests := true, laidLooks := .later }
def MdmarkRowsUptoCardSaid : Prop := Claim7.holds Tryd.pinned (.plain (OpenSpec.upto mdmarkRowsSpec)) mdmarkRowsUptoCard

/-- THE SECOND FORM's CARD OF 'indenturelaw18.MdmarkApart'. -/
def mdmarkApartUptoCard : Claim7 := { stood := { row := mdmarkApartUptoRow, standIns := [], harness := (true, "d2767587423ef86e4183a5042c603ce1aab51242f5fc63c56f894c730f548701"), looks := false }, kinds := [], alts := [], laidByText := true, laidKinds := [.data, .pinned], laidTests := true, laidLooks := .later }
def MdmarkApartUptoCardSaid : Prop := Claim7.holds Tryd.pinned (.plain (OpenSpec.upto mdmarkApartSpec)) mdmarkApartUptoCard

/-- THE SECOND FORM's CARD OF 'indenturelaw18.MdmarkKnown'. -/
def mdmarkKnownUptoCard : Claim7 := { stood := { row := mdmarkKnownUptoRow, standIns := [], harness := (true, "d2767587423ef86e4183a5042c603ce1aab51242f5fc63c56f894c730f548701"), looks := false }, kinds := [], alts := [], laidByText := true, laidKinds := [.data, .pinned], laidTests := true, laidLooks := .later }
def MdmarkKnownUptoCardSaid : Prop := Claim7.holds Tryd.pinned (.plain (OpenSpec.upto mdmarkKnownSpec)) mdmarkKnownUptoCard
end Rows
end Go.Proofs.YtgeddemohcbojaaDoor
