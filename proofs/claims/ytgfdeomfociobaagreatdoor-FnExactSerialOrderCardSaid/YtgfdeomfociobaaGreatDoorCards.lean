/-
  DERIVED. GIVEN WITH THE SEED: THE CARDS: each row of YtgfdeomfociobaaGreatDoorRows.lean that lists a variable, with what it lists TIED to the program's text (the seventh form; the later family's looks); each row that meets fmt, with fmt's text TOLD by the authors' own Lean function (tested against real Go, not proved from fmt's source: count such statements apart). THE CARD IS WHAT COUNTS. Prove the row's statement (the work); the ties are given (YtgfdeomfociobaaGreatDoorTie.lean); close each card by the builder's one call (the guide's Derived/Test/ToyasCard.lean, 'card_holds'). Laid BY PROGRAM, IN A SANDBOX (cutbox-door.mjs). By AI agents, Wed Nov 11 2026. No macro, syntax, notation, axiom, sorry.
-/
import Derived.Test.YtgfdeomfociobaaGreatDoorRows
import GoSem.ClaimSeven
namespace Go.Proofs.YtgfdeomfociobaaGreatDoor
namespace Rows

/-- THE TIED CARD OF 'laws.FnExactMatches'. -/
def fnExactMatchesCard : Claim7 := { stood := { row := fnExactMatchesRow, standIns := [], harness := (true, "d543eacdc6b9aa5c3a8937bca7929534cb39b90af0d1d9ff07d7b8a027f0d443"), looks := false }, kinds := [], alts := [], laidByText := true, laidKinds := [.data, .pinned], laidTests := true, laidLooks := .later }
def FnExactMatchesCardSaid : Prop := Claim7.holds Tryz.pinned (.plain (OpenSpec.ofChange fnExactMatchesSpec)) fnExactMatchesCard

/-- THE TIED CARD OF 'laws.FnExactTxnOK'. -/
def fnExactTxnOKCard : Claim7 := { stood := { row := fnExactTxnOKRow, standIns := [], harness := (true, "d543eacdc6b9aa5c3a8937bca7929534cb39b90af0d1d9ff07d7b8a027f0d443"), looks := false }, kinds := [], alts := [], laidByText := true, laidKinds := [.data, .pinned], laidTests := true, laidLooks := .later }
def FnExactTxnOKCardSaid : Prop := Claim7.holds Tryz.pinned (.plain (OpenSpec.ofChange fnExactTxnOKSpec)) fnExactTxnOKCard

/-- THE TIED CARD OF 'laws.FnExactDoneOK'. -/
def fnExactDoneOKCard : Claim7 := { stood := { row := fnExactDoneOKRow, standIns := [], harness := (true, "d543eacdc6b9aa5c3a8937bca7929534cb39b90af0d1d9ff07d7b8a027f0d443"), looks := false }, kinds := [], alts := [], laidByText := true, laidKinds := [.data, .pinned], laidTests := true, laidLooks := .later }
def FnExactDoneOKCardSaid : Prop := Claim7.holds Tryz.pinned (.plain (OpenSpec.ofChange fnExactDoneOKSpec)) fnExactDoneOKCard

/-- THE TIED CARD OF 'laws.FnExactCommandOK'. -/
def fnExactCommandOKCard : Claim7 := { stood := { row := fnExactCommandOKRow, standIns := [], harness := (true, "d543eacdc6b9aa5c3a8937bca7929534cb39b90af0d1d9ff07d7b8a027f0d443"), looks := false }, kinds := [], alts := [], laidByText := true, laidKinds := [.data, .pinned], laidTests := true, laidLooks := .later }
def FnExactCommandOKCardSaid : Prop := Claim7.holds Tryz.pinned (.plain (OpenSpec.ofChange fnExactCommandOKSpec)) fnExactCommandOKCard

/-- THE TIED CARD OF 'laws.FnExactStoreOK'. -/
def fnExactStoreOKCard : Claim7 := { stood := { row := fnExactStoreOKRow, standIns := [], harness := (true, "d543eacdc6b9aa5c3a8937bca7929534cb39b90af0d1d9ff07d7b8a027f0d443"), looks := false }, kinds := [], alts := [], laidByText := true, laidKinds := [.data, .pinned], laidTests := true, laidLooks := .later }
def FnExactStoreOKCardSaid : Prop := Claim7.holds Tryz.pinned (.plain (OpenSpec.ofChange fnExactStoreOKSpec)) fnExactStoreOKCard

/-- THE TIED CARD OF 'laws.FnExactEdgesOf'. -/
def fnExactEdgesOfCard : Claim7 := { stood := { row := fnExactEdgesOfRow, standIns := [], harness := (true, "d543eacdc6b9aa5c3a8937bca7929534cb39b90af0d1d9ff07d7b8a027f0d443"), looks := false }, kinds := [], alts := [], laidByText := true, laidKinds := [.data, .pinned], laidTests := true, laidLooks := .later }
def FnExactEdgesOfCardSaid : Prop := Claim7.holds Tryz.pinned (.plain (OpenSpec.ofChange fnExactEdgesOfSpec)) fnExactEdgesOfCard

/-- THE TIED CARD OF 'laws.FnExactSerialOrder'. -/
def fnExactSerialOrderCard : Claim7 := { stood := { row := fnExactSerialOrderRow, standIns := [], harness := (true, "d543eacdc6b9aa5c3a8937bca7929534cb39b90af0d1d9ff07d7b8a027f0d443"), looks := false }, kinds := [], alts := [], laidByText := true, laidKinds := [.data, .pinned], laidTests := true, laidLooks := .later }
def FnExactSerialOrderCardSaid : Prop := Claim7.holds Tryz.pinned (.plain (OpenSpec.ofChange fnExactSerialOrderSpec)) fnExactSerialOrderCard

/-- THE TIED CARD OF 'laws.FnIntervals'. -/
def fnIntervalsCard : Claim7 := { stood := { row := fnIntervalsRow, standIns := [], harness := (true, "d543eacdc6b9aa5c3a8937bca7929534cb39b90af0d1d9ff07d7b8a027f0d443"), looks := false }, kinds := [], alts := [], laidByText := true, laidKinds := [.data, .pinned], laidTests := true, laidLooks := .later }
def FnIntervalsCardSaid : Prop := Claim7.holds Tryz.pinned (.plain (OpenSpec.ofChange fnIntervalsSpec)) fnIntervalsCard

/-- THE TIED CARD OF 'laws.FnBounds'. -/
def fnBoundsCard : Claim7 := { stood := { row := fnBoundsRow, standIns := [], harness := (true, "d543eacdc6b9aa5c3a8937bca7929534cb39b90af0d1d9ff07d7b8a027f0d443"), looks := false }, kinds := [], alts := [], laidByText := true, laidKinds := [.data, .pinned], laidTests := true, laidLooks := .later }
def FnBoundsCardSaid : Prop := Claim7.holds Tryz.pinned (.plain (OpenSpec.ofChange fnBoundsSpec)) fnBoundsCard

/-- THE TIED CARD OF 'laws.FnExactFilterText'. -/
def fnExactFilterTextCard : Claim7 := { stood := { row := fnExactFilterTextRow, standIns := [], harness := (true, "d543eacdc6b9aa5c3a8937bca7929534cb39b90af0d1d9ff07d7b8a027f0d443"), looks := false }, kinds := [], alts := [], laidByText := true, laidKinds := [.data, .data, .data, .data, .widerDeep, .pinned], laidTests := true, laidLooks := .later }
def FnExactFilterTextCardSaid : Prop := Claim7.holds Tryz.pinned (.plain (OpenSpec.ofChange fnExactFilterTextSpec)) fnExactFilterTextCard

/-- THE SECOND FORM's CARD OF 'laws.FnExactMatches'. -/
def fnExactMatchesUptoCard : Claim7 := { stood := { row := fnExactMatchesUptoRow, standIns := [], harness := (true, "d543eacdc6b9aa5c3a8937bca7929534cb39b90af0d1d9ff07d7b8a027f0d443"), looks := false }, kinds := [], alts := [], laidByText := true, laidKinds := [.data, .pinned], laidTests := true, laidLooks := .later }
def FnExactMatchesUptoCardSaid : Prop := Claim7.holds Tryz.pinned (.plain (OpenSpec.upto fnExactMatchesSpec)) fnExactMatchesUptoCard

/-- THE SECOND FORM's CARD OF 'laws.FnExactTxnOK'. -/
def fnExactTxnOKUptoCard : Claim7 := { stood := { row := fnExactTxnOKUptoRow, standIns := [], harness := (true, "d543eacdc6b9aa5c3a8937bca7929534cb39b90af0d1d9ff07d7b8a027f0d443"), looks := false }, kinds := [], alts := [], laidByText := true, laidKinds := [.data, .pinned], laidTests := true, laidLooks := .later }
def FnExactTxnOKUptoCardSaid : Prop := Claim7.holds Tryz.pinned (.plain (OpenSpec.upto fnExactTxnOKSpec)) fnExactTxnOKUptoCard

/-- THE SECOND FORM's CARD OF 'laws.FnExactDoneOK'. -/
def fnExactDoneOKUptoCard : Claim7 := { stood := { row := fnExactDoneOKUptoRow, standIns := [], harness := (true, "d543eacdc6b9aa5c3a8937bca7929534cb39b90af0d1d9ff07d7b8a027f0d443"), looks := false }, kinds := [], alts := [], laidByText := true, laidKinds := [.data, .pinned], laidTests := true, laidLooks := .later }
def FnExactDoneOKUptoCardSaid : Prop := Claim7.holds Tryz.pinned (.plain (OpenSpec.upto fnExactDoneOKSpec)) fnExactDoneOKUptoCard

/-- THE SECOND FORM's CARD OF 'laws.FnExactCommandOK'. -/
def fnExactCommandOKUptoCard : Claim7 := { stood := { row := fnExactCommandOKUptoRow, standIns := [], harness := (true, "d543eacdc6b9aa5c3a8937bca7929534cb39b90af0d1d9ff07d7b8a027f0d443"), looks := false }, kinds := [], alts := [], laidByText := true, laidKinds := [.data, .pinned], laidTests := true, laidLooks := .later }
def FnExactCommandOKUptoCardSaid : Prop := Claim7.holds Tryz.pinned (.plain (OpenSpec.upto fnExactCommandOKSpec)) fnExactCommandOKUptoCard

/-- THE SECOND FORM's CARD OF 'laws.FnExactStoreOK'. -/
def fnExactStoreOKUptoCard : Claim7 := { stood := { row := fnExactStoreOKUptoRow, standIns := [], harness := (true, "d543eacdc6b9aa5c3a8937bca7929534cb39b90af0d1d9ff07d7b8a027f0d443"), looks := false }, kinds := [], alts := [], laidByText := true, laidKinds := [.data, .pinned], laidTests := true, laidLooks := .later }
def FnExactStoreOKUptoCardSaid : Prop := Claim7.holds Tryz.pinned (.plain (OpenSpec.upto fnExactStoreOKSpec)) fnExactStoreOKUptoCard

/-- THE SECOND FORM's CARD OF 'laws.FnExactEdgesOf'. -/
def fnExactEdgesOfUptoCard : Claim7 := { stood := { row := fnExactEdgesOfUptoRow, standIns := [], harness := (true, "d543eacdc6b9aa5c3a8937bca7929534cb39b90af0d1d9ff07d7b8a027f0d443"), looks := false }, kinds := [], alts := [], laidByText := true, laidKinds := [.data, .pinned], laidTests := true, laidLooks := .later }
def FnExactEdgesOfUptoCardSaid : Prop := Claim7.holds Tryz.pinned (.plain (OpenSpec.upto fnExactEdgesOfSpec)) fnExactEdgesOfUptoCard

/-- THE SECOND FORM's CARD OF 'laws.FnExactSerialOrder'. -/
def fnExactSerialOrderUptoCard : Claim7 := { stood := { row := fnExactSerialOrderUptoRow, standIns := [], harness := (true, "d543eacdc6b9aa5c3a8937bca7929534cb39b90af0d1d9ff07d7b8a027f0d443"), looks := false }, kinds := [], alts := [], laidByText := true, laidKinds := [.data, .pinned], laidTests := true, laidLooks := .later }
def FnExactSerialOrderUptoCardSaid : Prop := Claim7.holds Tryz.pinned (.plain (OpenSpec.upto fnExactSerialOrderSpec)) fnExactSerialOrderUptoCard

/-- THE SECOND FORM's CARD OF 'laws.FnIntervals'. -/
def fnIntervalsUptoCard : Claim7 := { stood := { row := fnIntervalsUptoRow, standIns := [], harness := (true, "d543eacdc6b9aa5c3a8937bca7929534cb39b90af0d1d9ff07d7b8a027f0d443"), looks := false }, kinds := [], alts := [], laidByText := true, laidKinds := [.data, .pinned], laidTests := true, laidLooks := .later }
def FnIntervalsUptoCardSaid : Prop := Claim7.holds Tryz.pinned (.plain (OpenSpec.upto fnIntervalsSpec)) fnIntervalsUptoCard

/-- THE SECOND FORM's CARD OF 'laws.FnBounds'. -/
def fnBoundsUptoCard : Claim7 := { stood := { row := fnBoundsUptoRow, standIns := [], harness := (true, "d543eacdc6b9aa5c3a8937bca7929534cb39b90af0d1d9ff07d7b8a027f0d443"), looks := false }, kinds := [], alts := [], laidByText := true, laidKinds := [.data, .pinned], laidTests := true, laidLooks := .later }
def FnBoundsUptoCardSaid : Prop := Claim7.holds Tryz.pinned (.plain (OpenSpec.upto fnBoundsSpec)) fnBoundsUptoCard

/-- THE SECOND FORM's CARD OF 'laws.FnExactFilterText'. -/
def fnExactFilterTextUptoCard : Claim7 := { stood := { row := fnExactFilterTextUptoRow, standIns := [], harness := (true, "d543eacdc6b9aa5c3a8937bca7929534cb39b90af0d1d9ff07d7b8a027f0d443"), looks := false }, kinds := [], alts := [], laidByText := true, laidKinds := [.data, .data, .data, .data, .widerDeep, .pinned], laidTests := true, laidLooks := .later }
def FnExactFilterTextUptoCardSaid : Prop := Claim7.holds Tryz.pinned (.plain (OpenSpec.upto fnExactFilterTextSpec)) fnExactFilterTextUptoCard
end Rows
end Go.Proofs.YtgfdeomfociobaaGreatDoor
