/-
  DERIVED. GIVEN WITH THE SEED: THE CARDS: each row of YtdpkfljiipkhfaaGreatDoorRows.lean that lists a variable, with what it lists TIED to the program's text (the seventh form; the later family's looks); each row that meets fmt, with fmt's text TOLD by the authors' own Lean function (tested against real Go, not proved from fmt's source: count such statements apart). THE CARD IS WHAT COUNTS. Prove the row's statement (the work); the ties are given (YtdpkfljiipkhfaaGreatDoorTie.lean); close each card by the builder's one call (the guide's Derived/Test/ToyasCard.lean, 'card_holds'). Laid BY PROGRAM, IN A SANDBOX (cutbox-door.mjs). By AI agents, Wed Nov 11 2026. No macro, syntax, notation, axiom, sorry.
-/
import Derived.Test.YtdpkfljiipkhfaaGreatDoorRows
import GoSem.ClaimSeven
namespace Go.Proofs.YtdpkfljiipkhfaaGreatDoor
namespace Rows

/-- THE TIED CARD OF 'laws.FnExactSortDocs'. -/
def fnExactSortDocsCard : Claim7 := { stood := { row := fnExactSortDocsRow, standIns := [], harness := (true, "89fa5c2c5ed15bbb660ccddf0399433218c717eb09a9ea3d52e22cb8361849bf"), looks := false }, kinds := [], alts := [], laidByText := true, laidKinds := [.data, .pinned], laidTests := true, laidLooks := .later }
def FnExactSortDocsCardSaid : Prop := Claim7.holds Tryz.pinned (.plain (OpenSpec.ofChange fnExactSortDocsSpec)) fnExactSortDocsCard

/-- THE TIED CARD OF 'laws.FnExactIndexHolds'. -/
def fnExactIndexHoldsCard : Claim7 := { stood := { row := fnExactIndexHoldsRow, standIns := [], harness := (true, "89fa5c2c5ed15bbb660ccddf0399433218c717eb09a9ea3d52e22cb8361849bf"), looks := false }, kinds := [], alts := [], laidByText := true, laidKinds := [.data, .pinned], laidTests := true, laidLooks := .later }
def FnExactIndexHoldsCardSaid : Prop := Claim7.holds Tryz.pinned (.plain (OpenSpec.ofChange fnExactIndexHoldsSpec)) fnExactIndexHoldsCard

/-- THE TIED CARD OF 'laws.FnFind'. -/
def fnFindCard : Claim7 := { stood := { row := fnFindRow, standIns := [], harness := (true, "89fa5c2c5ed15bbb660ccddf0399433218c717eb09a9ea3d52e22cb8361849bf"), looks := false }, kinds := [], alts := [], laidByText := true, laidKinds := [.data, .pinned], laidTests := true, laidLooks := .later }
def FnFindCardSaid : Prop := Claim7.holds Tryz.pinned (.plain (OpenSpec.ofChange fnFindSpec)) fnFindCard

/-- THE TIED CARD OF 'laws.FnExactApplyUpdate'. -/
def fnExactApplyUpdateCard : Claim7 := { stood := { row := fnExactApplyUpdateRow, standIns := [], harness := (true, "89fa5c2c5ed15bbb660ccddf0399433218c717eb09a9ea3d52e22cb8361849bf"), looks := false }, kinds := [], alts := [], laidByText := true, laidKinds := [.data, .pinned], laidTests := true, laidLooks := .later }
def FnExactApplyUpdateCardSaid : Prop := Claim7.holds Tryz.pinned (.plain (OpenSpec.ofChange fnExactApplyUpdateSpec)) fnExactApplyUpdateCard

/-- THE TIED CARD OF 'laws.FnSet'. -/
def fnSetCard : Claim7 := { stood := { row := fnSetRow, standIns := [], harness := (true, "89fa5c2c5ed15bbb660ccddf0399433218c717eb09a9ea3d52e22cb8361849bf"), looks := false }, kinds := [], alts := [], laidByText := true, laidKinds := [.data, .data, .data, .data, .widerDeep, .pinned], laidTests := true, laidLooks := .later }
def FnSetCardSaid : Prop := Claim7.holds Tryz.pinned (.plain (OpenSpec.ofChange fnSetSpec)) fnSetCard

/-- THE TIED CARD OF 'laws.FnCount'. -/
def fnCountCard : Claim7 := { stood := { row := fnCountRow, standIns := [], harness := (true, "89fa5c2c5ed15bbb660ccddf0399433218c717eb09a9ea3d52e22cb8361849bf"), looks := false }, kinds := [], alts := [], laidByText := true, laidKinds := [.data, .pinned], laidTests := true, laidLooks := .later }
def FnCountCardSaid : Prop := Claim7.holds Tryz.pinned (.plain (OpenSpec.ofChange fnCountSpec)) fnCountCard

/-- THE TIED CARD OF 'laws.FnExactSeenAt'. -/
def fnExactSeenAtCard : Claim7 := { stood := { row := fnExactSeenAtRow, standIns := [], harness := (true, "89fa5c2c5ed15bbb660ccddf0399433218c717eb09a9ea3d52e22cb8361849bf"), looks := false }, kinds := [], alts := [], laidByText := true, laidKinds := [.data, .pinned], laidTests := true, laidLooks := .later }
def FnExactSeenAtCardSaid : Prop := Claim7.holds Tryz.pinned (.plain (OpenSpec.ofChange fnExactSeenAtSpec)) fnExactSeenAtCard

/-- THE SECOND FORM's CARD OF 'laws.FnExactSortDocs'. -/
def fnExactSortDocsUptoCard : Claim7 := { stood := { row := fnExactSortDocsUptoRow, standIns := [], harness := (true, "89fa5c2c5ed15bbb660ccddf0399433218c717eb09a9ea3d52e22cb8361849bf"), looks := false }, kinds := [], alts := [], laidByText := true, laidKinds := [.data, .pinned], laidTests := true, laidLooks := .later }
def FnExactSortDocsUptoCardSaid : Prop := Claim7.holds Tryz.pinned (.plain (OpenSpec.upto fnExactSortDocsSpec)) fnExactSortDocsUptoCard

/-- THE SECOND FORM's CARD OF 'laws.FnExactIndexHolds'. -/
def fnExactIndexHoldsUptoCard : Claim7 := { stood := { row := fnExactIndexHoldsUptoRow, standIns := [], harness := (true, "89fa5c2c5ed15bbb660ccddf0399433218c717eb09a9ea3d52e22cb8361849bf"), looks := false }, kinds := [], alts := [], laidByText := true, laidKinds := [.data, .pinned], laidTests := true, laidLooks := .later }
def FnExactIndexHoldsUptoCardSaid : Prop := Claim7.holds Tryz.pinned (.plain (OpenSpec.upto fnExactIndexHoldsSpec)) fnExactIndexHoldsUptoCard

/-- THE SECOND FORM's CARD OF 'laws.FnFind'. -/
def fnFindUptoCard : Claim7 := { stood := { row := fnFindUptoRow, standIns := [], harness := (true, "89fa5c2c5ed15bbb660ccddf0399433218c717eb09a9ea3d52e22cb8361849bf"), looks := false }, kinds := [], alts := [], laidByText := true, laidKinds := [.data, .pinned], laidTests := true, laidLooks := .later }
def FnFindUptoCardSaid : Prop := Claim7.holds Tryz.pinned (.plain (OpenSpec.upto fnFindSpec)) fnFindUptoCard

/-- THE SECOND FORM's CARD OF 'laws.FnExactApplyUpdate'. -/
def fnExactApplyUpdateUptoCard : Claim7 := { stood := { row := fnExactApplyUpdateUptoRow, standIns := [], harness := (true, "89fa5c2c5ed15bbb660ccddf0399433218c717eb09a9ea3d52e22cb8361849bf"), looks := false }, kinds := [], alts := [], laidByText := true, laidKinds := [.data, .pinned], laidTests := true, laidLooks := .later }
def FnExactApplyUpdateUptoCardSaid : Prop := Claim7.holds Tryz.pinned (.plain (OpenSpec.upto fnExactApplyUpdateSpec)) fnExactApplyUpdateUptoCard

/-- THE SECOND FORM's CARD OF 'laws.FnSet'. -/
def fnSetUptoCard : Claim7 := { stood := { row := fnSetUptoRow, standIns := [], harness := (true, "89fa5c2c5ed15bbb660ccddf0399433218c717eb09a9ea3d52e22cb8361849bf"), looks := false }, kinds := [], alts := [], laidByText := true, laidKinds := [.data, .data, .data, .data, .widerDeep, .pinned], laidTests := true, laidLooks := .later }
def FnSetUptoCardSaid : Prop := Claim7.holds Tryz.pinned (.plain (OpenSpec.upto fnSetSpec)) fnSetUptoCard

/-- THE SECOND FORM's CARD OF 'laws.FnCount'. -/
def fnCountUptoCard : Claim7 := { stood := { row := fnCountUptoRow, standIns := [], harness := (true, "89fa5c2c5ed15bbb660ccddf0399433218c717eb09a9ea3d52e22cb8361849bf"), looks := false }, kinds := [], alts := [], laidByText := true, laidKinds := [.data, .pinned], laidTests := true, laidLooks := .later }
def FnCountUptoCardSaid : Prop := Claim7.holds Tryz.pinned (.plain (OpenSpec.upto fnCountSpec)) fnCountUptoCard

/-- THE SECOND FORM's CARD OF 'laws.FnExactSeenAt'. -/
def fnExactSeenAtUptoCard : Claim7 := { stood := { row := fnExactSeenAtUptoRow, standIns := [], harness := (true, "89fa5c2c5ed15bbb660ccddf0399433218c717eb09a9ea3d52e22cb8361849bf"), looks := false }, kinds := [], alts := [], laidByText := true, laidKinds := [.data, .pinned], laidTests := true, laidLooks := .later }
def FnExactSeenAtUptoCardSaid : Prop := Claim7.holds Tryz.pinned (.plain (OpenSpec.upto fnExactSeenAtSpec)) fnExactSeenAtUptoCard
end Rows
end Go.Proofs.YtdpkfljiipkhfaaGreatDoor
