/-
  DERIVED. GIVEN WITH THE SEED: THE CARDS: each row of YtgfdeomfociobaaDoorRows.lean that lists a variable, with what it lists TIED to the program's text (the seventh form; the later family's looks); each row that meets fmt, with fmt's text TOLD by the authors' own Lean function (tested against real Go, not proved from fmt's source: count such statements apart). THE CARD IS WHAT COUNTS. Prove the row's statement (the work); the ties are given (YtgfdeomfociobaaDoorTie.lean); close each card by the builder's one call (the guide's Derived/Test/ToyasCard.lean, 'card_holds'). Laid BY PROGRAM, IN A SANDBOX (cutbox-door.mjs). By AI agents, Wed Nov 11 2026. No macro, syntax, notation, axiom, sorry.
-/
import Derived.Test.YtgfdeomfociobaaDoorRows
import GoSem.ClaimSeven
namespace Go.Proofs.YtgfdeomfociobaaDoor
namespace Rows

/-- THE TIED CARD OF 'laws.FnOrder'. -/
def fnOrderCard : Claim7 := { stood := { row := fnOrderRow, standIns := [], harness := (true, "0c58b6bf8fed37f323b199147fcc930ebeb1ee8167a15513300cfa00edc52b0a"), looks := false }, kinds := [], alts := [], laidByText := true, laidKinds := [.data, .data, .data], laidTests := true, laidLooks := .later }
def FnOrderCardSaid : Prop := Claim7.holds Tryd.pinned (.plain (OpenSpec.ofChange fnOrderSpec)) fnOrderCard

/-- THE TIED CARD OF 'laws.FnExactUpdateText'. -/
def fnExactUpdateTextCard : Claim7 := { stood := { row := fnExactUpdateTextRow, standIns := [], harness := (true, "0c58b6bf8fed37f323b199147fcc930ebeb1ee8167a15513300cfa00edc52b0a"), looks := false }, kinds := [], alts := [], laidByText := true, laidKinds := [.data, .data, .data, .data, .widerDeep, .pinned], laidTests := true, laidLooks := .later }
def FnExactUpdateTextCardSaid : Prop := Claim7.holds Tryd.pinned (.plain (OpenSpec.ofChange fnExactUpdateTextSpec)) fnExactUpdateTextCard

/-- THE SECOND FORM's CARD OF 'laws.FnOrder'. -/
def fnOrderUptoCard : Claim7 := { stood := { row := fnOrderUptoRow, standIns := [], harness := (true, "0c58b6bf8fed37f323b199147fcc930ebeb1ee8167a15513300cfa00edc52b0a"), looks := false }, kinds := [], alts := [], laidByText := true, laidKinds := [.data, .data, .data], laidTests := true, laidLooks := .later }
def FnOrderUptoCardSaid : Prop := Claim7.holds Tryd.pinned (.plain (OpenSpec.upto fnOrderSpec)) fnOrderUptoCard

/-- THE SECOND FORM's CARD OF 'laws.FnExactUpdateText'. -/
def fnExactUpdateTextUptoCard : Claim7 := { stood := { row := fnExactUpdateTextUptoRow, standIns := [], harness := (true, "0c58b6bf8fed37f323b199147fcc930ebeb1ee8167a15513300cfa00edc52b0a"), looks := false }, kinds := [], alts := [], laidByText := true, laidKinds := [.data, .data, .data, .data, .widerDeep, .pinned], laidTests := true, laidLooks := .later }
def FnExactUpdateTextUptoCardSaid : Prop := Claim7.holds Tryd.pinned (.plain (OpenSpec.upto fnExactUpdateTextSpec)) fnExactUpdateTextUptoCard
end Rows
end Go.Proofs.YtgfdeomfociobaaDoor
