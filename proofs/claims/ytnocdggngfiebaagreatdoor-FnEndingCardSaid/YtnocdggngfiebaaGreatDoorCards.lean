/-
  DERIVED. GIVEN WITH THE SEED: THE CARDS: each row of YtnocdggngfiebaaGreatDoorRows.lean that lists a variable, with what it lists TIED to the program's text (the seventh form; the later family's looks); each row that meets fmt, with fmt's text TOLD by the authors' own Lean function (tested against real Go, not proved from fmt's source: count such statements apart). THE CARD IS WHAT COUNTS. Prove the row's statement (the work); the ties are given (YtnocdggngfiebaaGreatDoorTie.lean); close each card by the builder's one call (the guide's Derived/Test/ToyasCard.lean, 'card_holds'). Laid BY PROGRAM, IN A SANDBOX (cutbox-door.mjs). By AI agents, Wed Nov 11 2026. No macro, syntax, notation, axiom, sorry.
-/
import Derived.Test.YtnocdggngfiebaaGreatDoorRows
import GoSem.ClaimSeven
namespace Go.Proofs.YtnocdggngfiebaaGreatDoor
namespace Rows

/-- THE TIED CARD OF 'laws.FnReduceNeed'. -/
def fnReduceNeedCard : Claim7 := { stood := { row := fnReduceNeedRow, standIns := [], harness := (true, "24cd9f98a89f171bf0928afda0b188716cbeaae9dc764c1eabe7b5a8d993c673"), looks := false }, kinds := [], alts := [], laidByText := true, laidKinds := [.data, .data, .data], laidTests := true, laidLooks := .later }
def FnReduceNeedCardSaid : Prop := Claim7.holds Tryz.pinned (.plain (OpenSpec.ofChange fnReduceNeedSpec)) fnReduceNeedCard

/-- THE TIED CARD OF 'laws.FnFullNeeds'. -/
def fnFullNeedsCard : Claim7 := { stood := { row := fnFullNeedsRow, standIns := [], harness := (true, "24cd9f98a89f171bf0928afda0b188716cbeaae9dc764c1eabe7b5a8d993c673"), looks := false }, kinds := [], alts := [], laidByText := true, laidKinds := [.data, .data, .data], laidTests := true, laidLooks := .later }
def FnFullNeedsCardSaid : Prop := Claim7.holds Tryz.pinned (.plain (OpenSpec.ofChange fnFullNeedsSpec)) fnFullNeedsCard

/-- THE TIED CARD OF 'laws.FnGapsOf'. -/
def fnGapsOfCard : Claim7 := { stood := { row := fnGapsOfRow, standIns := [], harness := (true, "24cd9f98a89f171bf0928afda0b188716cbeaae9dc764c1eabe7b5a8d993c673"), looks := false }, kinds := [], alts := [], laidByText := true, laidKinds := [.data, .data, .data], laidTests := true, laidLooks := .later }
def FnGapsOfCardSaid : Prop := Claim7.holds Tryz.pinned (.plain (OpenSpec.ofChange fnGapsOfSpec)) fnGapsOfCard

/-- THE TIED CARD OF 'laws.FnFindGiven'. -/
def fnFindGivenCard : Claim7 := { stood := { row := fnFindGivenRow, standIns := [], harness := (true, "24cd9f98a89f171bf0928afda0b188716cbeaae9dc764c1eabe7b5a8d993c673"), looks := false }, kinds := [], alts := [], laidByText := true, laidKinds := [.data, .data, .data], laidTests := true, laidLooks := .later }
def FnFindGivenCardSaid : Prop := Claim7.holds Tryz.pinned (.plain (OpenSpec.ofChange fnFindGivenSpec)) fnFindGivenCard

/-- THE TIED CARD OF 'laws.FnEnding'. -/
def fnEndingCard : Claim7 := { stood := { row := fnEndingRow, standIns := [], harness := (true, "24cd9f98a89f171bf0928afda0b188716cbeaae9dc764c1eabe7b5a8d993c673"), looks := false }, kinds := [], alts := [], laidByText := true, laidKinds := [.data, .data, .data], laidTests := true, laidLooks := .later }
def FnEndingCardSaid : Prop := Claim7.holds Tryz.pinned (.plain (OpenSpec.ofChange fnEndingSpec)) fnEndingCard

/-- THE TIED CARD OF 'laws.FnExactCloseWorld'. -/
def fnExactCloseWorldCard : Claim7 := { stood := { row := fnExactCloseWorldRow, standIns := [], harness := (true, "24cd9f98a89f171bf0928afda0b188716cbeaae9dc764c1eabe7b5a8d993c673"), looks := false }, kinds := [], alts := [], laidByText := true, laidKinds := [.data, .data, .data], laidTests := true, laidLooks := .later }
def FnExactCloseWorldCardSaid : Prop := Claim7.holds Tryz.pinned (.plain (OpenSpec.ofChange fnExactCloseWorldSpec)) fnExactCloseWorldCard

/-- THE TIED CARD OF 'laws.FnOverlaps'. -/
def fnOverlapsCard : Claim7 := { stood := { row := fnOverlapsRow, standIns := [], harness := (true, "24cd9f98a89f171bf0928afda0b188716cbeaae9dc764c1eabe7b5a8d993c673"), looks := false }, kinds := [], alts := [], laidByText := true, laidKinds := [.data, .data, .data], laidTests := true, laidLooks := .later }
def FnOverlapsCardSaid : Prop := Claim7.holds Tryz.pinned (.plain (OpenSpec.ofChange fnOverlapsSpec)) fnOverlapsCard

/-- THE TIED CARD OF 'laws.FnOrdered'. -/
def fnOrderedCard : Claim7 := { stood := { row := fnOrderedRow, standIns := [], harness := (true, "24cd9f98a89f171bf0928afda0b188716cbeaae9dc764c1eabe7b5a8d993c673"), looks := false }, kinds := [], alts := [], laidByText := true, laidKinds := [.data, .data, .data], laidTests := true, laidLooks := .later }
def FnOrderedCardSaid : Prop := Claim7.holds Tryz.pinned (.plain (OpenSpec.ofChange fnOrderedSpec)) fnOrderedCard

/-- THE TIED CARD OF 'laws.FnTypesHaving'. -/
def fnTypesHavingCard : Claim7 := { stood := { row := fnTypesHavingRow, standIns := [], harness := (true, "24cd9f98a89f171bf0928afda0b188716cbeaae9dc764c1eabe7b5a8d993c673"), looks := false }, kinds := [], alts := [], laidByText := true, laidKinds := [.data, .data, .data], laidTests := true, laidLooks := .later }
def FnTypesHavingCardSaid : Prop := Claim7.holds Tryz.pinned (.plain (OpenSpec.ofChange fnTypesHavingSpec)) fnTypesHavingCard

/-- THE SECOND FORM's CARD OF 'laws.FnReduceNeed'. -/
def fnReduceNeedUptoCard : Claim7 := { stood := { row := fnReduceNeedUptoRow, standIns := [], harness := (true, "24cd9f98a89f171bf0928afda0b188716cbeaae9dc764c1eabe7b5a8d993c673"), looks := false }, kinds := [], alts := [], laidByText := true, laidKinds := [.data, .data, .data], laidTests := true, laidLooks := .later }
def FnReduceNeedUptoCardSaid : Prop := Claim7.holds Tryz.pinned (.plain (OpenSpec.upto fnReduceNeedSpec)) fnReduceNeedUptoCard

/-- THE SECOND FORM's CARD OF 'laws.FnFullNeeds'. -/
def fnFullNeedsUptoCard : Claim7 := { stood := { row := fnFullNeedsUptoRow, standIns := [], harness := (true, "24cd9f98a89f171bf0928afda0b188716cbeaae9dc764c1eabe7b5a8d993c673"), looks := false }, kinds := [], alts := [], laidByText := true, laidKinds := [.data, .data, .data], laidTests := true, laidLooks := .later }
def FnFullNeedsUptoCardSaid : Prop := Claim7.holds Tryz.pinned (.plain (OpenSpec.upto fnFullNeedsSpec)) fnFullNeedsUptoCard

/-- THE SECOND FORM's CARD OF 'laws.FnGapsOf'. -/
def fnGapsOfUptoCard : Claim7 := { stood := { row := fnGapsOfUptoRow, standIns := [], harness := (true, "24cd9f98a89f171bf0928afda0b188716cbeaae9dc764c1eabe7b5a8d993c673"), looks := false }, kinds := [], alts := [], laidByText := true, laidKinds := [.data, .data, .data], laidTests := true, laidLooks := .later }
def FnGapsOfUptoCardSaid : Prop := Claim7.holds Tryz.pinned (.plain (OpenSpec.upto fnGapsOfSpec)) fnGapsOfUptoCard

/-- THE SECOND FORM's CARD OF 'laws.FnFindGiven'. -/
def fnFindGivenUptoCard : Claim7 := { stood := { row := fnFindGivenUptoRow, standIns := [], harness := (true, "24cd9f98a89f171bf0928afda0b188716cbeaae9dc764c1eabe7b5a8d993c673"), looks := false }, kinds := [], alts := [], laidByText := true, laidKinds := [.data, .data, .data], laidTests := true, laidLooks := .later }
def FnFindGivenUptoCardSaid : Prop := Claim7.holds Tryz.pinned (.plain (OpenSpec.upto fnFindGivenSpec)) fnFindGivenUptoCard

/-- THE SECOND FORM's CARD OF 'laws.FnEnding'. -/
def fnEndingUptoCard : Claim7 := { stood := { row := fnEndingUptoRow, standIns := [], harness := (true, "24cd9f98a89f171bf0928afda0b188716cbeaae9dc764c1eabe7b5a8d993c673"), looks := false }, kinds := [], alts := [], laidByText := true, laidKinds := [.data, .data, .data], laidTests := true, laidLooks := .later }
def FnEndingUptoCardSaid : Prop := Claim7.holds Tryz.pinned (.plain (OpenSpec.upto fnEndingSpec)) fnEndingUptoCard

/-- THE SECOND FORM's CARD OF 'laws.FnExactCloseWorld'. -/
def fnExactCloseWorldUptoCard : Claim7 := { stood := { row := fnExactCloseWorldUptoRow, standIns := [], harness := (true, "24cd9f98a89f171bf0928afda0b188716cbeaae9dc764c1eabe7b5a8d993c673"), looks := false }, kinds := [], alts := [], laidByText := true, laidKinds := [.data, .data, .data], laidTests := true, laidLooks := .later }
def FnExactCloseWorldUptoCardSaid : Prop := Claim7.holds Tryz.pinned (.plain (OpenSpec.upto fnExactCloseWorldSpec)) fnExactCloseWorldUptoCard

/-- THE SECOND FORM's CARD OF 'laws.FnOverlaps'. -/
def fnOverlapsUptoCard : Claim7 := { stood := { row := fnOverlapsUptoRow, standIns := [], harness := (true, "24cd9f98a89f171bf0928afda0b188716cbeaae9dc764c1eabe7b5a8d993c673"), looks := false }, kinds := [], alts := [], laidByText := true, laidKinds := [.data, .data, .data], laidTests := true, laidLooks := .later }
def FnOverlapsUptoCardSaid : Prop := Claim7.holds Tryz.pinned (.plain (OpenSpec.upto fnOverlapsSpec)) fnOverlapsUptoCard

/-- THE SECOND FORM's CARD OF 'laws.FnOrdered'. -/
def fnOrderedUptoCard : Claim7 := { stood := { row := fnOrderedUptoRow, standIns := [], harness := (true, "24cd9f98a89f171bf0928afda0b188716cbeaae9dc764c1eabe7b5a8d993c673"), looks := false }, kinds := [], alts := [], laidByText := true, laidKinds := [.data, .data, .data], laidTests := true, laidLooks := .later }
def FnOrderedUptoCardSaid : Prop := Claim7.holds Tryz.pinned (.plain (OpenSpec.upto fnOrderedSpec)) fnOrderedUptoCard

/-- THE SECOND FORM's CARD OF 'laws.FnTypesHaving'. -/
def fnTypesHavingUptoCard : Claim7 := { stood := { row := fnTypesHavingUptoRow, standIns := [], harness := (true, "24cd9f98a89f171bf0928afda0b188716cbeaae9dc764c1eabe7b5a8d993c673"), looks := false }, kinds := [], alts := [], laidByText := true, laidKinds := [.data, .data, .data], laidTests := true, laidLooks := .later }
def FnTypesHavingUptoCardSaid : Prop := Claim7.holds Tryz.pinned (.plain (OpenSpec.upto fnTypesHavingSpec)) fnTypesHavingUptoCard
end Rows
end Go.Proofs.YtnocdggngfiebaaGreatDoor
