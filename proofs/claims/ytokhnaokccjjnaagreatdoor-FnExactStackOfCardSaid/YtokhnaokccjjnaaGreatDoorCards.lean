/-
  DERIVED. GIVEN WITH THE SEED: THE CARDS: each row of YtokhnaokccjjnaaGreatDoorRows.lean that lists a variable, with what it lists TIED to the program's text (the seventh form; the later family's looks); each row that meets fmt, with fmt's text TOLD by the authors' own Lean function (tested against real Go, not proved from fmt's source: count such statements apart). THE CARD IS WHAT COUNTS. Prove the row's statement (the work); the ties are given (YtokhnaokccjjnaaGreatDoorTie.lean); close each card by the builder's one call (the guide's Derived/Test/ToyasCard.lean, 'card_holds'). Laid BY PROGRAM, IN A SANDBOX (cutbox-door.mjs). By AI agents, Wed Nov 11 2026. No macro, syntax, notation, axiom, sorry.
-/
import Derived.Test.YtokhnaokccjjnaaGreatDoorRows
import GoSem.ClaimSeven
namespace Go.Proofs.YtokhnaokccjjnaaGreatDoor
namespace Rows

/-- THE TIED CARD OF 'laws.FnExactEvidenceAbove'. -/
def fnExactEvidenceAboveCard : Claim7 := { stood := { row := fnExactEvidenceAboveRow, standIns := [], harness := (true, "b5e9d2bbe2b9854c0b808070d431df13940d649c885f3357b8cdd04be8b11050"), looks := false }, kinds := [], alts := [], laidByText := true, laidKinds := [.data, .data, .data], laidTests := true, laidLooks := .later }
def FnExactEvidenceAboveCardSaid : Prop := Claim7.holds Tryz.pinned (.plain (OpenSpec.ofChange fnExactEvidenceAboveSpec)) fnExactEvidenceAboveCard

/-- THE TIED CARD OF 'laws.FnExactFollows'. -/
def fnExactFollowsCard : Claim7 := { stood := { row := fnExactFollowsRow, standIns := [], harness := (true, "b5e9d2bbe2b9854c0b808070d431df13940d649c885f3357b8cdd04be8b11050"), looks := false }, kinds := [], alts := [], laidByText := true, laidKinds := [.data, .data, .data], laidTests := true, laidLooks := .later }
def FnExactFollowsCardSaid : Prop := Claim7.holds Tryz.pinned (.plain (OpenSpec.ofChange fnExactFollowsSpec)) fnExactFollowsCard

/-- THE TIED CARD OF 'laws.FnExactDictAbove'. -/
def fnExactDictAboveCard : Claim7 := { stood := { row := fnExactDictAboveRow, standIns := [], harness := (true, "b5e9d2bbe2b9854c0b808070d431df13940d649c885f3357b8cdd04be8b11050"), looks := false }, kinds := [], alts := [], laidByText := true, laidKinds := [.data, .data, .data], laidTests := true, laidLooks := .later }
def FnExactDictAboveCardSaid : Prop := Claim7.holds Tryz.pinned (.plain (OpenSpec.ofChange fnExactDictAboveSpec)) fnExactDictAboveCard

/-- THE TIED CARD OF 'laws.FnExactIsClosedAbove'. -/
def fnExactIsClosedAboveCard : Claim7 := { stood := { row := fnExactIsClosedAboveRow, standIns := [], harness := (true, "b5e9d2bbe2b9854c0b808070d431df13940d649c885f3357b8cdd04be8b11050"), looks := false }, kinds := [], alts := [], laidByText := true, laidKinds := [.data, .data, .data], laidTests := true, laidLooks := .later }
def FnExactIsClosedAboveCardSaid : Prop := Claim7.holds Tryz.pinned (.plain (OpenSpec.ofChange fnExactIsClosedAboveSpec)) fnExactIsClosedAboveCard

/-- THE TIED CARD OF 'laws.FnExactStackOf'. -/
def fnExactStackOfCard : Claim7 := { stood := { row := fnExactStackOfRow, standIns := [], harness := (true, "b5e9d2bbe2b9854c0b808070d431df13940d649c885f3357b8cdd04be8b11050"), looks := false }, kinds := [], alts := [], laidByText := true, laidKinds := [.data, .data, .data], laidTests := true, laidLooks := .later }
def FnExactStackOfCardSaid : Prop := Claim7.holds Tryz.pinned (.plain (OpenSpec.ofChange fnExactStackOfSpec)) fnExactStackOfCard

/-- THE TIED CARD OF 'laws.FnExactAskedFor'. -/
def fnExactAskedForCard : Claim7 := { stood := { row := fnExactAskedForRow, standIns := [], harness := (true, "b5e9d2bbe2b9854c0b808070d431df13940d649c885f3357b8cdd04be8b11050"), looks := false }, kinds := [], alts := [], laidByText := true, laidKinds := [.data, .data, .data], laidTests := true, laidLooks := .later }
def FnExactAskedForCardSaid : Prop := Claim7.holds Tryz.pinned (.plain (OpenSpec.ofChange fnExactAskedForSpec)) fnExactAskedForCard

/-- THE TIED CARD OF 'laws.FnExactGapsOf'. -/
def fnExactGapsOfCard : Claim7 := { stood := { row := fnExactGapsOfRow, standIns := [], harness := (true, "b5e9d2bbe2b9854c0b808070d431df13940d649c885f3357b8cdd04be8b11050"), looks := false }, kinds := [], alts := [], laidByText := true, laidKinds := [.data, .data, .data], laidTests := true, laidLooks := .later }
def FnExactGapsOfCardSaid : Prop := Claim7.holds Tryz.pinned (.plain (OpenSpec.ofChange fnExactGapsOfSpec)) fnExactGapsOfCard

/-- THE TIED CARD OF 'laws.FnExactTypesHaving'. -/
def fnExactTypesHavingCard : Claim7 := { stood := { row := fnExactTypesHavingRow, standIns := [], harness := (true, "b5e9d2bbe2b9854c0b808070d431df13940d649c885f3357b8cdd04be8b11050"), looks := false }, kinds := [], alts := [], laidByText := true, laidKinds := [.data, .data, .data], laidTests := true, laidLooks := .later }
def FnExactTypesHavingCardSaid : Prop := Claim7.holds Tryz.pinned (.plain (OpenSpec.ofChange fnExactTypesHavingSpec)) fnExactTypesHavingCard

/-- THE TIED CARD OF 'laws.FnExactWhyNot'. -/
def fnExactWhyNotCard : Claim7 := { stood := { row := fnExactWhyNotRow, standIns := [], harness := (true, "b5e9d2bbe2b9854c0b808070d431df13940d649c885f3357b8cdd04be8b11050"), looks := false }, kinds := [], alts := [], laidByText := true, laidKinds := [.data, .data, .data], laidTests := true, laidLooks := .later }
def FnExactWhyNotCardSaid : Prop := Claim7.holds Tryz.pinned (.plain (OpenSpec.ofChange fnExactWhyNotSpec)) fnExactWhyNotCard

/-- THE TIED CARD OF 'laws.FnExactChangedBy'. -/
def fnExactChangedByCard : Claim7 := { stood := { row := fnExactChangedByRow, standIns := [], harness := (true, "b5e9d2bbe2b9854c0b808070d431df13940d649c885f3357b8cdd04be8b11050"), looks := false }, kinds := [], alts := [], laidByText := true, laidKinds := [.data, .data, .data], laidTests := true, laidLooks := .later }
def FnExactChangedByCardSaid : Prop := Claim7.holds Tryz.pinned (.plain (OpenSpec.ofChange fnExactChangedBySpec)) fnExactChangedByCard

/-- THE TIED CARD OF 'laws.FnExactIsWithin'. -/
def fnExactIsWithinCard : Claim7 := { stood := { row := fnExactIsWithinRow, standIns := [], harness := (true, "b5e9d2bbe2b9854c0b808070d431df13940d649c885f3357b8cdd04be8b11050"), looks := false }, kinds := [], alts := [], laidByText := true, laidKinds := [.data, .data, .data], laidTests := true, laidLooks := .later }
def FnExactIsWithinCardSaid : Prop := Claim7.holds Tryz.pinned (.plain (OpenSpec.ofChange fnExactIsWithinSpec)) fnExactIsWithinCard

/-- THE TIED CARD OF 'laws.FnExactDictsOf'. -/
def fnExactDictsOfCard : Claim7 := { stood := { row := fnExactDictsOfRow, standIns := [], harness := (true, "b5e9d2bbe2b9854c0b808070d431df13940d649c885f3357b8cdd04be8b11050"), looks := false }, kinds := [], alts := [], laidByText := true, laidKinds := [.data, .data, .data], laidTests := true, laidLooks := .later }
def FnExactDictsOfCardSaid : Prop := Claim7.holds Tryz.pinned (.plain (OpenSpec.ofChange fnExactDictsOfSpec)) fnExactDictsOfCard

/-- THE SECOND FORM's CARD OF 'laws.FnExactEvidenceAbove'. -/
def fnExactEvidenceAboveUptoCard : Claim7 := { stood := { row := fnExactEvidenceAboveUptoRow, standIns := [], harness := (true, "b5e9d2bbe2b9854c0b808070d431df13940d649c885f3357b8cdd04be8b11050"), looks := false }, kinds := [], alts := [], laidByText := true, laidKinds := [.data, .data, .data], laidTests := true, laidLooks := .later }
def FnExactEvidenceAboveUptoCardSaid : Prop := Claim7.holds Tryz.pinned (.plain (OpenSpec.upto fnExactEvidenceAboveSpec)) fnExactEvidenceAboveUptoCard

/-- THE SECOND FORM's CARD OF 'laws.FnExactFollows'. -/
def fnExactFollowsUptoCard : Claim7 := { stood := { row := fnExactFollowsUptoRow, standIns := [], harness := (true, "b5e9d2bbe2b9854c0b808070d431df13940d649c885f3357b8cdd04be8b11050"), looks := false }, kinds := [], alts := [], laidByText := true, laidKinds := [.data, .data, .data], laidTests := true, laidLooks := .later }
def FnExactFollowsUptoCardSaid : Prop := Claim7.holds Tryz.pinned (.plain (OpenSpec.upto fnExactFollowsSpec)) fnExactFollowsUptoCard

/-- THE SECOND FORM's CARD OF 'laws.FnExactDictAbove'. -/
def fnExactDictAboveUptoCard : Claim7 := { stood := { row := fnExactDictAboveUptoRow, standIns := [], harness := (true, "b5e9d2bbe2b9854c0b808070d431df13940d649c885f3357b8cdd04be8b11050"), looks := false }, kinds := [], alts := [], laidByText := true, laidKinds := [.data, .data, .data], laidTests := true, laidLooks := .later }
def FnExactDictAboveUptoCardSaid : Prop := Claim7.holds Tryz.pinned (.plain (OpenSpec.upto fnExactDictAboveSpec)) fnExactDictAboveUptoCard

/-- THE SECOND FORM's CARD OF 'laws.FnExactIsClosedAbove'. -/
def fnExactIsClosedAboveUptoCard : Claim7 := { stood := { row := fnExactIsClosedAboveUptoRow, standIns := [], harness := (true, "b5e9d2bbe2b9854c0b808070d431df13940d649c885f3357b8cdd04be8b11050"), looks := false }, kinds := [], alts := [], laidByText := true, laidKinds := [.data, .data, .data], laidTests := true, laidLooks := .later }
def FnExactIsClosedAboveUptoCardSaid : Prop := Claim7.holds Tryz.pinned (.plain (OpenSpec.upto fnExactIsClosedAboveSpec)) fnExactIsClosedAboveUptoCard

/-- THE SECOND FORM's CARD OF 'laws.FnExactStackOf'. -/
def fnExactStackOfUptoCard : Claim7 := { stood := { row := fnExactStackOfUptoRow, standIns := [], harness := (true, "b5e9d2bbe2b9854c0b808070d431df13940d649c885f3357b8cdd04be8b11050"), looks := false }, kinds := [], alts := [], laidByText := true, laidKinds := [.data, .data, .data], laidTests := true, laidLooks := .later }
def FnExactStackOfUptoCardSaid : Prop := Claim7.holds Tryz.pinned (.plain (OpenSpec.upto fnExactStackOfSpec)) fnExactStackOfUptoCard

/-- THE SECOND FORM's CARD OF 'laws.FnExactAskedFor'. -/
def fnExactAskedForUptoCard : Claim7 := { stood := { row := fnExactAskedForUptoRow, standIns := [], harness := (true, "b5e9d2bbe2b9854c0b808070d431df13940d649c885f3357b8cdd04be8b11050"), looks := false }, kinds := [], alts := [], laidByText := true, laidKinds := [.data, .data, .data], laidTests := true, laidLooks := .later }
def FnExactAskedForUptoCardSaid : Prop := Claim7.holds Tryz.pinned (.plain (OpenSpec.upto fnExactAskedForSpec)) fnExactAskedForUptoCard

/-- THE SECOND FORM's CARD OF 'laws.FnExactGapsOf'. -/
def fnExactGapsOfUptoCard : Claim7 := { stood := { row := fnExactGapsOfUptoRow, standIns := [], harness := (true, "b5e9d2bbe2b9854c0b808070d431df13940d649c885f3357b8cdd04be8b11050"), looks := false }, kinds := [], alts := [], laidByText := true, laidKinds := [.data, .data, .data], laidTests := true, laidLooks := .later }
def FnExactGapsOfUptoCardSaid : Prop := Claim7.holds Tryz.pinned (.plain (OpenSpec.upto fnExactGapsOfSpec)) fnExactGapsOfUptoCard

/-- THE SECOND FORM's CARD OF 'laws.FnExactTypesHaving'. -/
def fnExactTypesHavingUptoCard : Claim7 := { stood := { row := fnExactTypesHavingUptoRow, standIns := [], harness := (true, "b5e9d2bbe2b9854c0b808070d431df13940d649c885f3357b8cdd04be8b11050"), looks := false }, kinds := [], alts := [], laidByText := true, laidKinds := [.data, .data, .data], laidTests := true, laidLooks := .later }
def FnExactTypesHavingUptoCardSaid : Prop := Claim7.holds Tryz.pinned (.plain (OpenSpec.upto fnExactTypesHavingSpec)) fnExactTypesHavingUptoCard

/-- THE SECOND FORM's CARD OF 'laws.FnExactWhyNot'. -/
def fnExactWhyNotUptoCard : Claim7 := { stood := { row := fnExactWhyNotUptoRow, standIns := [], harness := (true, "b5e9d2bbe2b9854c0b808070d431df13940d649c885f3357b8cdd04be8b11050"), looks := false }, kinds := [], alts := [], laidByText := true, laidKinds := [.data, .data, .data], laidTests := true, laidLooks := .later }
def FnExactWhyNotUptoCardSaid : Prop := Claim7.holds Tryz.pinned (.plain (OpenSpec.upto fnExactWhyNotSpec)) fnExactWhyNotUptoCard

/-- THE SECOND FORM's CARD OF 'laws.FnExactChangedBy'. -/
def fnExactChangedByUptoCard : Claim7 := { stood := { row := fnExactChangedByUptoRow, standIns := [], harness := (true, "b5e9d2bbe2b9854c0b808070d431df13940d649c885f3357b8cdd04be8b11050"), looks := false }, kinds := [], alts := [], laidByText := true, laidKinds := [.data, .data, .data], laidTests := true, laidLooks := .later }
def FnExactChangedByUptoCardSaid : Prop := Claim7.holds Tryz.pinned (.plain (OpenSpec.upto fnExactChangedBySpec)) fnExactChangedByUptoCard

/-- THE SECOND FORM's CARD OF 'laws.FnExactIsWithin'. -/
def fnExactIsWithinUptoCard : Claim7 := { stood := { row := fnExactIsWithinUptoRow, standIns := [], harness := (true, "b5e9d2bbe2b9854c0b808070d431df13940d649c885f3357b8cdd04be8b11050"), looks := false }, kinds := [], alts := [], laidByText := true, laidKinds := [.data, .data, .data], laidTests := true, laidLooks := .later }
def FnExactIsWithinUptoCardSaid : Prop := Claim7.holds Tryz.pinned (.plain (OpenSpec.upto fnExactIsWithinSpec)) fnExactIsWithinUptoCard

/-- THE SECOND FORM's CARD OF 'laws.FnExactDictsOf'. -/
def fnExactDictsOfUptoCard : Claim7 := { stood := { row := fnExactDictsOfUptoRow, standIns := [], harness := (true, "b5e9d2bbe2b9854c0b808070d431df13940d649c885f3357b8cdd04be8b11050"), looks := false }, kinds := [], alts := [], laidByText := true, laidKinds := [.data, .data, .data], laidTests := true, laidLooks := .later }
def FnExactDictsOfUptoCardSaid : Prop := Claim7.holds Tryz.pinned (.plain (OpenSpec.upto fnExactDictsOfSpec)) fnExactDictsOfUptoCard
end Rows
end Go.Proofs.YtokhnaokccjjnaaGreatDoor
