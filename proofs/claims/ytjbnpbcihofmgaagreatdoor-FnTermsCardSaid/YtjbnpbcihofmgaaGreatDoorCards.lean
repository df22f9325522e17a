/-
  DERIVED. GIVEN WITH THE SEED: THE CARDS: each row of YtjbnpbcihofmgaaGreatDoorRows.lean that lists a variable, with what it lists TIED to the program's text (the seventh form; the later family's looks); each row that meets fmt, with fmt's text TOLD by the authors' own Lean function (tested against real Go, not proved from fmt's source: count such statements apart). THE CARD IS WHAT COUNTS. Prove the row's statement (the work); the ties are given (YtjbnpbcihofmgaaGreatDoorTie.lean); close each card by the builder's one call (the guide's Derived/Test/ToyasCard.lean, 'card_holds'). Laid BY PROGRAM, IN A SANDBOX (cutbox-door.mjs). By AI agents, Wed Nov 11 2026. No macro, syntax, notation, axiom, sorry.
-/
import Derived.Test.YtjbnpbcihofmgaaGreatDoorRows
import GoSem.ClaimSeven
namespace Go.Proofs.YtjbnpbcihofmgaaGreatDoor
namespace Rows

/-- THE TIED CARD OF 'laws.FnExactFirstPath'. -/
def fnExactFirstPathCard : Claim7 := { stood := { row := fnExactFirstPathRow, standIns := [], harness := (true, "fa02902c359f07126cbce71bb4139164b4748a41f263c60d05785f4ea4004b59"), looks := false }, kinds := [], alts := [], laidByText := true, laidKinds := [.data, .pinned], laidTests := true, laidLooks := .later }
def FnExactFirstPathCardSaid : Prop := Claim7.holds Tryz.pinned (.plain (OpenSpec.ofChange fnExactFirstPathSpec)) fnExactFirstPathCard

/-- THE TIED CARD OF 'laws.FnExactQueryOK'. -/
def fnExactQueryOKCard : Claim7 := { stood := { row := fnExactQueryOKRow, standIns := [], harness := (true, "fa02902c359f07126cbce71bb4139164b4748a41f263c60d05785f4ea4004b59"), looks := false }, kinds := [], alts := [], laidByText := true, laidKinds := [.data, .pinned], laidTests := true, laidLooks := .later }
def FnExactQueryOKCardSaid : Prop := Claim7.holds Tryz.pinned (.plain (OpenSpec.ofChange fnExactQueryOKSpec)) fnExactQueryOKCard

/-- THE TIED CARD OF 'laws.FnExactTermMatches'. -/
def fnExactTermMatchesCard : Claim7 := { stood := { row := fnExactTermMatchesRow, standIns := [], harness := (true, "fa02902c359f07126cbce71bb4139164b4748a41f263c60d05785f4ea4004b59"), looks := false }, kinds := [], alts := [], laidByText := true, laidKinds := [.data, .pinned], laidTests := true, laidLooks := .later }
def FnExactTermMatchesCardSaid : Prop := Claim7.holds Tryz.pinned (.plain (OpenSpec.ofChange fnExactTermMatchesSpec)) fnExactTermMatchesCard

/-- THE TIED CARD OF 'laws.FnExactCollOK'. -/
def fnExactCollOKCard : Claim7 := { stood := { row := fnExactCollOKRow, standIns := [], harness := (true, "fa02902c359f07126cbce71bb4139164b4748a41f263c60d05785f4ea4004b59"), looks := false }, kinds := [], alts := [], laidByText := true, laidKinds := [.data, .pinned], laidTests := true, laidLooks := .later }
def FnExactCollOKCardSaid : Prop := Claim7.holds Tryz.pinned (.plain (OpenSpec.ofChange fnExactCollOKSpec)) fnExactCollOKCard

/-- THE TIED CARD OF 'laws.FnExactVersionsOf'. -/
def fnExactVersionsOfCard : Claim7 := { stood := { row := fnExactVersionsOfRow, standIns := [], harness := (true, "fa02902c359f07126cbce71bb4139164b4748a41f263c60d05785f4ea4004b59"), looks := false }, kinds := [], alts := [], laidByText := true, laidKinds := [.data, .pinned], laidTests := true, laidLooks := .later }
def FnExactVersionsOfCardSaid : Prop := Claim7.holds Tryz.pinned (.plain (OpenSpec.ofChange fnExactVersionsOfSpec)) fnExactVersionsOfCard

/-- THE TIED CARD OF 'laws.FnExactDocKeys'. -/
def fnExactDocKeysCard : Claim7 := { stood := { row := fnExactDocKeysRow, standIns := [], harness := (true, "fa02902c359f07126cbce71bb4139164b4748a41f263c60d05785f4ea4004b59"), looks := false }, kinds := [], alts := [], laidByText := true, laidKinds := [.data, .pinned], laidTests := true, laidLooks := .later }
def FnExactDocKeysCardSaid : Prop := Claim7.holds Tryz.pinned (.plain (OpenSpec.ofChange fnExactDocKeysSpec)) fnExactDocKeysCard

/-- THE TIED CARD OF 'laws.FnTerms'. -/
def fnTermsCard : Claim7 := { stood := { row := fnTermsRow, standIns := [], harness := (true, "fa02902c359f07126cbce71bb4139164b4748a41f263c60d05785f4ea4004b59"), looks := false }, kinds := [], alts := [], laidByText := true, laidKinds := [.data, .pinned], laidTests := true, laidLooks := .later }
def FnTermsCardSaid : Prop := Claim7.holds Tryz.pinned (.plain (OpenSpec.ofChange fnTermsSpec)) fnTermsCard

/-- THE TIED CARD OF 'laws.FnExactLastAt'. -/
def fnExactLastAtCard : Claim7 := { stood := { row := fnExactLastAtRow, standIns := [], harness := (true, "fa02902c359f07126cbce71bb4139164b4748a41f263c60d05785f4ea4004b59"), looks := false }, kinds := [], alts := [], laidByText := true, laidKinds := [.data, .pinned], laidTests := true, laidLooks := .later }
def FnExactLastAtCardSaid : Prop := Claim7.holds Tryz.pinned (.plain (OpenSpec.ofChange fnExactLastAtSpec)) fnExactLastAtCard

/-- THE TIED CARD OF 'laws.FnExactFilterInterval'. -/
def fnExactFilterIntervalCard : Claim7 := { stood := { row := fnExactFilterIntervalRow, standIns := [], harness := (true, "fa02902c359f07126cbce71bb4139164b4748a41f263c60d05785f4ea4004b59"), looks := false }, kinds := [], alts := [], laidByText := true, laidKinds := [.data, .pinned], laidTests := true, laidLooks := .later }
def FnExactFilterIntervalCardSaid : Prop := Claim7.holds Tryz.pinned (.plain (OpenSpec.ofChange fnExactFilterIntervalSpec)) fnExactFilterIntervalCard

/-- THE TIED CARD OF 'laws.FnExactApplyUpdate'. -/
def fnExactApplyUpdateCard : Claim7 := { stood := { row := fnExactApplyUpdateRow, standIns := [], harness := (true, "fa02902c359f07126cbce71bb4139164b4748a41f263c60d05785f4ea4004b59"), looks := false }, kinds := [], alts := [], laidByText := true, laidKinds := [.data, .pinned], laidTests := true, laidLooks := .later }
def FnExactApplyUpdateCardSaid : Prop := Claim7.holds Tryz.pinned (.plain (OpenSpec.ofChange fnExactApplyUpdateSpec)) fnExactApplyUpdateCard

/-- THE SECOND FORM's CARD OF 'laws.FnExactFirstPath'. -/
def fnExactFirstPathUptoCard : Claim7 := { stood := { row := fnExactFirstPathUptoRow, standIns := [], harness := (true, "fa02902c359f07126cbce71bb4139164b4748a41f263c60d05785f4ea4004b59"), looks := false }, kinds := [], alts := [], laidByText := true, laidKinds := [.data, .pinned], laidTests := true, laidLooks := .later }
def FnExactFirstPathUptoCardSaid : Prop := Claim7.holds Tryz.pinned (.plain (OpenSpec.upto fnExactFirstPathSpec)) fnExactFirstPathUptoCard

/-- THE SECOND FORM's CARD OF 'laws.FnExactQueryOK'. -/
def fnExactQueryOKUptoCard : Claim7 := { stood := { row := fnExactQueryOKUptoRow, standIns := [], harness := (true, "fa02902c359f07126cbce71bb4139164b4748a41f263c60d05785f4ea4004b59"), looks := false }, kinds := [], alts := [], laidByText := true, laidKinds := [.data, .pinned], laidTests := true, laidLooks := .later }
def FnExactQueryOKUptoCardSaid : Prop := Claim7.holds Tryz.pinned (.plain (OpenSpec.upto fnExactQueryOKSpec)) fnExactQueryOKUptoCard

/-- THE SECOND FORM's CARD OF 'laws.FnExactTermMatches'. -/
def fnExactTermMatchesUptoCard : Claim7 := { stood := { row := fnExactTermMatchesUptoRow, standIns := [], harness := (true, "fa02902c359f07126cbce71bb4139164b4748a41f263c60d05785f4ea4004b59"), looks := false }, kinds := [], alts := [], laidByText := true, laidKinds := [.data, .pinned], laidTests := true, laidLooks := .later }
def FnExactTermMatchesUptoCardSaid : Prop := Claim7.holds Tryz.pinned (.plain (OpenSpec.upto fnExactTermMatchesSpec)) fnExactTermMatchesUptoCard

/-- THE SECOND FORM's CARD OF 'laws.FnExactCollOK'. -/
def fnExactCollOKUptoCard : Claim7 := { stood := { row := fnExactCollOKUptoRow, standIns := [], harness := (true, "fa02902c359f07126cbce71bb4139164b4748a41f263c60d05785f4ea4004b59"), looks := false }, kinds := [], alts := [], laidByText := true, laidKinds := [.data, .pinned], laidTests := true, laidLooks := .later }
def FnExactCollOKUptoCardSaid : Prop := Claim7.holds Tryz.pinned (.plain (OpenSpec.upto fnExactCollOKSpec)) fnExactCollOKUptoCard

/-- THE SECOND FORM's CARD OF 'laws.FnExactVersionsOf'. -/
def fnExactVersionsOfUptoCard : Claim7 := { stood := { row := fnExactVersionsOfUptoRow, standIns := [], harness := (true, "fa02902c359f07126cbce71bb4139164b4748a41f263c60d05785f4ea4004b59"), looks := false }, kinds := [], alts := [], laidByText := true, laidKinds := [.data, .pinned], laidTests := true, laidLooks := .later }
def FnExactVersionsOfUptoCardSaid : Prop := Claim7.holds Tryz.pinned (.plain (OpenSpec.upto fnExactVersionsOfSpec)) fnExactVersionsOfUptoCard

/-- THE SECOND FORM's CARD OF 'laws.FnExactDocKeys'. -/
def fnExactDocKeysUptoCard : Claim7 := { stood := { row := fnExactDocKeysUptoRow, standIns := [], harness := (true, "fa02902c359f07126cbce71bb4139164b4748a41f263c60d05785f4ea4004b59"), looks := false }, kinds := [], alts := [], laidByText := true, laidKinds := [.data, .pinned], laidTests := true, laidLooks := .later }
def FnExactDocKeysUptoCardSaid : Prop := Claim7.holds Tryz.pinned (.plain (OpenSpec.upto fnExactDocKeysSpec)) fnExactDocKeysUptoCard

/-- THE SECOND FORM's CARD OF 'laws.FnTerms'. -/
def fnTermsUptoCard : Claim7 := { stood := { row := fnTermsUptoRow, standIns := [], harness := (true, "fa02902c359f07126cbce71bb4139164b4748a41f263c60d05785f4ea4004b59"), looks := false }, kinds := [], alts := [], laidByText := true, laidKinds := [.data, .pinned], laidTests := true, laidLooks := .later }
def FnTermsUptoCardSaid : Prop := Claim7.holds Tryz.pinned (.plain (OpenSpec.upto fnTermsSpec)) fnTermsUptoCard

/-- THE SECOND FORM's CARD OF 'laws.FnExactLastAt'. -/
def fnExactLastAtUptoCard : Claim7 := { stood := { row := fnExactLastAtUptoRow, standIns := [], harness := (true, "fa02902c359f07126cbce71bb4139164b4748a41f263c60d05785f4ea4004b59"), looks := false }, kinds := [], alts := [], laidByText := true, laidKinds := [.data, .pinned], laidTests := true, laidLooks := .later }
def FnExactLastAtUptoCardSaid : Prop := Claim7.holds Tryz.pinned (.plain (OpenSpec.upto fnExactLastAtSpec)) fnExactLastAtUptoCard

/-- THE SECOND FORM's CARD OF 'laws.FnExactFilterInterval'. -/
def fnExactFilterIntervalUptoCard : Claim7 := { stood := { row := fnExactFilterIntervalUptoRow, standIns := [], harness := (true, "fa02902c359f07126cbce71bb4139164b4748a41f263c60d05785f4ea4004b59"), looks := false }, kinds := [], alts := [], laidByText := true, laidKinds := [.data, .pinned], laidTests := true, laidLooks := .later }
def FnExactFilterIntervalUptoCardSaid : Prop := Claim7.holds Tryz.pinned (.plain (OpenSpec.upto fnExactFilterIntervalSpec)) fnExactFilterIntervalUptoCard

/-- THE SECOND FORM's CARD OF 'laws.FnExactApplyUpdate'. -/
def fnExactApplyUpdateUptoCard : Claim7 := { stood := { row := fnExactApplyUpdateUptoRow, standIns := [], harness := (true, "fa02902c359f07126cbce71bb4139164b4748a41f263c60d05785f4ea4004b59"), looks := false }, kinds := [], alts := [], laidByText := true, laidKinds := [.data, .pinned], laidTests := true, laidLooks := .later }
def FnExactApplyUpdateUptoCardSaid : Prop := Claim7.holds Tryz.pinned (.plain (OpenSpec.upto fnExactApplyUpdateSpec)) fnExactApplyUpdateUptoCard
end Rows
end Go.Proofs.YtjbnpbcihofmgaaGreatDoor
