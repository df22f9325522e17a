/-
  DERIVED. GIVEN WITH THE SEED: THE CARDS: each row of YtjbeigebbnonoaaGreatDoorRows.lean that lists a variable, with what it lists TIED to the program's text (the seventh form; the later family's looks); each row that meets fmt, with fmt's text TOLD by the authors' own Lean function (tested against real Go, not proved from fmt's source: count such statements apart). THE CARD IS WHAT COUNTS. Prove the row's statement (the work); the ties are given (YtjbeigebbnonoaaGreatDoorTie.lean); close each card by the builder's one call (the guide's Derived/Test/ToyasCard.lean, 'card_holds'). Laid BY PROGRAM, IN A SANDBOX (cutbox-door.mjs). By AI agents, Wed Nov 11 2026. No macro, syntax, notation, axiom, sorry.
-/
import Derived.Test.YtjbeigebbnonoaaGreatDoorRows
import GoSem.ClaimSeven
namespace Go.Proofs.YtjbeigebbnonoaaGreatDoor
namespace Rows

/-- THE TIED CARD OF 'laws.FnHits'. -/
def fnHitsCard : Claim7 := { stood := { row := fnHitsRow, standIns := [], harness := (true, "96132cde341a62c4c7368a64236004e64c1120f973a8023f1217ea165166a05f"), looks := false }, kinds := [], alts := [], laidByText := true, laidKinds := [.data, .pinned], laidTests := true, laidLooks := .later }
def FnHitsCardSaid : Prop := Claim7.holds Tryz.pinned (.plain (OpenSpec.ofChange fnHitsSpec)) fnHitsCard

/-- THE TIED CARD OF 'laws.FnOrders'. -/
def fnOrdersCard : Claim7 := { stood := { row := fnOrdersRow, standIns := [], harness := (true, "96132cde341a62c4c7368a64236004e64c1120f973a8023f1217ea165166a05f"), looks := false }, kinds := [], alts := [], laidByText := true, laidKinds := [.data, .pinned], laidTests := true, laidLooks := .later }
def FnOrdersCardSaid : Prop := Claim7.holds Tryz.pinned (.plain (OpenSpec.ofChange fnOrdersSpec)) fnOrdersCard

/-- THE TIED CARD OF 'laws.FnCertify'. -/
def fnCertifyCard : Claim7 := { stood := { row := fnCertifyRow, standIns := [], harness := (true, "96132cde341a62c4c7368a64236004e64c1120f973a8023f1217ea165166a05f"), looks := false }, kinds := [], alts := [], laidByText := true, laidKinds := [.data, .pinned], laidTests := true, laidLooks := .later }
def FnCertifyCardSaid : Prop := Claim7.holds Tryz.pinned (.plain (OpenSpec.ofChange fnCertifySpec)) fnCertifyCard

/-- THE TIED CARD OF 'laws.FnExactPlanOf'. -/
def fnExactPlanOfCard : Claim7 := { stood := { row := fnExactPlanOfRow, standIns := [], harness := (true, "96132cde341a62c4c7368a64236004e64c1120f973a8023f1217ea165166a05f"), looks := false }, kinds := [], alts := [], laidByText := true, laidKinds := [.data, .pinned], laidTests := true, laidLooks := .later }
def FnExactPlanOfCardSaid : Prop := Claim7.holds Tryz.pinned (.plain (OpenSpec.ofChange fnExactPlanOfSpec)) fnExactPlanOfCard

/-- THE SECOND FORM's CARD OF 'laws.FnHits'. -/
def fnHitsUptoCard : Claim7 := { stood := { row := fnHitsUptoRow, standIns := [], harness := (true, "96132cde341a62c4c7368a64236004e64c1120f973a8023f1217ea165166a05f"), looks := false }, kinds := [], alts := [], laidByText := true, laidKinds := [.data, .pinned], laidTests := true, laidLooks := .later }
def FnHitsUptoCardSaid : Prop := Claim7.holds Tryz.pinned (.plain (OpenSpec.upto fnHitsSpec)) fnHitsUptoCard

/-- THE SECOND FORM's CARD OF 'laws.FnOrders'. -/
def fnOrdersUptoCard : Claim7 := { stood := { row := fnOrdersUptoRow, standIns := [], harness := (true, "96132cde341a62c4c7368a64236004e64c1120f973a8023f1217ea165166a05f"), looks := false }, kinds := [], alts := [], laidByText := true, laidKinds := [.data, .pinned], laidTests := true, laidLooks := .later }
def FnOrdersUptoCardSaid : Prop := Claim7.holds Tryz.pinned (.plain (OpenSpec.upto fnOrdersSpec)) fnOrdersUptoCard

/-- THE SECOND FORM's CARD OF 'laws.FnCertify'. -/
def fnCertifyUptoCard : Claim7 := { stood := { row := fnCertifyUptoRow, standIns := [], harness := (true, "96132cde341a62c4c7368a64236004e64c1120f973a8023f1217ea165166a05f"), looks := false }, kinds := [], alts := [], laidByText := true, laidKinds := [.data, .pinned], laidTests := true, laidLooks := .later }
def FnCertifyUptoCardSaid : Prop := Claim7.holds Tryz.pinned (.plain (OpenSpec.upto fnCertifySpec)) fnCertifyUptoCard

/-- THE SECOND FORM's CARD OF 'laws.FnExactPlanOf'. -/
def fnExactPlanOfUptoCard : Claim7 := { stood := { row := fnExactPlanOfUptoRow, standIns := [], harness := (true, "96132cde341a62c4c7368a64236004e64c1120f973a8023f1217ea165166a05f"), looks := false }, kinds := [], alts := [], laidByText := true, laidKinds := [.data, .pinned], laidTests := true, laidLooks := .later }
def FnExactPlanOfUptoCardSaid : Prop := Claim7.holds Tryz.pinned (.plain (OpenSpec.upto fnExactPlanOfSpec)) fnExactPlanOfUptoCard
end Rows
end Go.Proofs.YtjbeigebbnonoaaGreatDoor
