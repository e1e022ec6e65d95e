/-
  DERIVED. GIVEN WITH THE SEED: THE CARDS: each row of YtmpajhfkegjjcaaGreatDoorRows.lean that lists a variable, with what it lists TIED to the program's text (the seventh form; the later family's looks); each row that meets fmt, with fmt's text TOLD by the authors' own Lean function (tested against real Go, not proved from fmt's source: count such statements apart). THE CARD IS WHAT COUNTS. Prove the row's statement (the work); the ties are given (YtmpajhfkegjjcaaGreatDoorTie.lean); close each card by the builder's one call (the guide's Derived/Test/ToyasCard.lean, 'card_holds'). Laid BY PROGRAM, IN A SANDBOX (cutbox-door.mjs). By AI agents, Wed Nov 11 2026. No macro, syntax, notation, axiom, sorry.
-/
import Derived.Test.YtmpajhfkegjjcaaGreatDoorRows
import GoSem.ClaimSeven
namespace Go.Proofs.YtmpajhfkegjjcaaGreatDoor
namespace Rows

/-- THE TIED CARD OF 'laws.FnExactAllDicts'. -/
def fnExactAllDictsCard : Claim7 := { stood := { row := fnExactAllDictsRow, standIns := [], harness := (true, "2d41599b77371b03bde7420f260b598a1cc818ec5504e04fec28d0d33e3bb6ce"), looks := false }, kinds := [], alts := [], laidByText := true, laidKinds := [.data, .data, .data], laidTests := true, laidLooks := .later }
def FnExactAllDictsCardSaid : Prop := Claim7.holds Tryz.pinned (.plain (OpenSpec.ofChange fnExactAllDictsSpec)) fnExactAllDictsCard

/-- THE TIED CARD OF 'laws.FnExactLeastDict'. -/
def fnExactLeastDictCard : Claim7 := { stood := { row := fnExactLeastDictRow, standIns := [], harness := (true, "2d41599b77371b03bde7420f260b598a1cc818ec5504e04fec28d0d33e3bb6ce"), looks := false }, kinds := [], alts := [], laidByText := true, laidKinds := [.data, .data, .data], laidTests := true, laidLooks := .later }
def FnExactLeastDictCardSaid : Prop := Claim7.holds Tryz.pinned (.plain (OpenSpec.ofChange fnExactLeastDictSpec)) fnExactLeastDictCard

/-- THE TIED CARD OF 'laws.FnExactInstancesUsed'. -/
def fnExactInstancesUsedCard : Claim7 := { stood := { row := fnExactInstancesUsedRow, standIns := [], harness := (true, "2d41599b77371b03bde7420f260b598a1cc818ec5504e04fec28d0d33e3bb6ce"), looks := false }, kinds := [], alts := [], laidByText := true, laidKinds := [.data, .data, .data], laidTests := true, laidLooks := .later }
def FnExactInstancesUsedCardSaid : Prop := Claim7.holds Tryz.pinned (.plain (OpenSpec.ofChange fnExactInstancesUsedSpec)) fnExactInstancesUsedCard

/-- THE TIED CARD OF 'laws.FnExactLeastGivens'. -/
def fnExactLeastGivensCard : Claim7 := { stood := { row := fnExactLeastGivensRow, standIns := [], harness := (true, "2d41599b77371b03bde7420f260b598a1cc818ec5504e04fec28d0d33e3bb6ce"), looks := false }, kinds := [], alts := [], laidByText := true, laidKinds := [.data, .data, .data], laidTests := true, laidLooks := .later }
def FnExactLeastGivensCardSaid : Prop := Claim7.holds Tryz.pinned (.plain (OpenSpec.ofChange fnExactLeastGivensSpec)) fnExactLeastGivensCard

/-- THE TIED CARD OF 'laws.FnExactFullNeeds'. -/
def fnExactFullNeedsCard : Claim7 := { stood := { row := fnExactFullNeedsRow, standIns := [], harness := (true, "2d41599b77371b03bde7420f260b598a1cc818ec5504e04fec28d0d33e3bb6ce"), looks := false }, kinds := [], alts := [], laidByText := true, laidKinds := [.data, .data, .data], laidTests := true, laidLooks := .later }
def FnExactFullNeedsCardSaid : Prop := Claim7.holds Tryz.pinned (.plain (OpenSpec.ofChange fnExactFullNeedsSpec)) fnExactFullNeedsCard

/-- THE TIED CARD OF 'laws.FnExactCloseWorld'. -/
def fnExactCloseWorldCard : Claim7 := { stood := { row := fnExactCloseWorldRow, standIns := [], harness := (true, "2d41599b77371b03bde7420f260b598a1cc818ec5504e04fec28d0d33e3bb6ce"), looks := false }, kinds := [], alts := [], laidByText := true, laidKinds := [.data, .data, .data], laidTests := true, laidLooks := .later }
def FnExactCloseWorldCardSaid : Prop := Claim7.holds Tryz.pinned (.plain (OpenSpec.ofChange fnExactCloseWorldSpec)) fnExactCloseWorldCard

/-- THE TIED CARD OF 'laws.FnExactAskedFor'. -/
def fnExactAskedForCard : Claim7 := { stood := { row := fnExactAskedForRow, standIns := [], harness := (true, "2d41599b77371b03bde7420f260b598a1cc818ec5504e04fec28d0d33e3bb6ce"), looks := false }, kinds := [], alts := [], laidByText := true, laidKinds := [.data, .data, .data], laidTests := true, laidLooks := .later }
def FnExactAskedForCardSaid : Prop := Claim7.holds Tryz.pinned (.plain (OpenSpec.ofChange fnExactAskedForSpec)) fnExactAskedForCard

/-- THE TIED CARD OF 'laws.FnStackOf'. -/
def fnStackOfCard : Claim7 := { stood := { row := fnStackOfRow, standIns := [], harness := (true, "2d41599b77371b03bde7420f260b598a1cc818ec5504e04fec28d0d33e3bb6ce"), looks := false }, kinds := [], alts := [], laidByText := true, laidKinds := [.data, .data, .data], laidTests := true, laidLooks := .later }
def FnStackOfCardSaid : Prop := Claim7.holds Tryz.pinned (.plain (OpenSpec.ofChange fnStackOfSpec)) fnStackOfCard

/-- THE TIED CARD OF 'laws.FnCheckDict'. -/
def fnCheckDictCard : Claim7 := { stood := { row := fnCheckDictRow, standIns := [], harness := (true, "2d41599b77371b03bde7420f260b598a1cc818ec5504e04fec28d0d33e3bb6ce"), looks := false }, kinds := [], alts := [], laidByText := true, laidKinds := [.data, .data, .data], laidTests := true, laidLooks := .later }
def FnCheckDictCardSaid : Prop := Claim7.holds Tryz.pinned (.plain (OpenSpec.ofChange fnCheckDictSpec)) fnCheckDictCard

/-- THE TIED CARD OF 'laws.FnReduceNeed'. -/
def fnReduceNeedCard : Claim7 := { stood := { row := fnReduceNeedRow, standIns := [], harness := (true, "2d41599b77371b03bde7420f260b598a1cc818ec5504e04fec28d0d33e3bb6ce"), looks := false }, kinds := [], alts := [], laidByText := true, laidKinds := [.data, .data, .data], laidTests := true, laidLooks := .later }
def FnReduceNeedCardSaid : Prop := Claim7.holds Tryz.pinned (.plain (OpenSpec.ofChange fnReduceNeedSpec)) fnReduceNeedCard

/-- THE TIED CARD OF 'laws.FnFullNeeds'. -/
def fnFullNeedsCard : Claim7 := { stood := { row := fnFullNeedsRow, standIns := [], harness := (true, "2d41599b77371b03bde7420f260b598a1cc818ec5504e04fec28d0d33e3bb6ce"), looks := false }, kinds := [], alts := [], laidByText := true, laidKinds := [.data, .data, .data], laidTests := true, laidLooks := .later }
def FnFullNeedsCardSaid : Prop := Claim7.holds Tryz.pinned (.plain (OpenSpec.ofChange fnFullNeedsSpec)) fnFullNeedsCard

/-- THE TIED CARD OF 'laws.FnGapsOf'. -/
def fnGapsOfCard : Claim7 := { stood := { row := fnGapsOfRow, standIns := [], harness := (true, "2d41599b77371b03bde7420f260b598a1cc818ec5504e04fec28d0d33e3bb6ce"), looks := false }, kinds := [], alts := [], laidByText := true, laidKinds := [.data, .data, .data], laidTests := true, laidLooks := .later }
def FnGapsOfCardSaid : Prop := Claim7.holds Tryz.pinned (.plain (OpenSpec.ofChange fnGapsOfSpec)) fnGapsOfCard

/-- THE SECOND FORM's CARD OF 'laws.FnExactAllDicts'. -/
def fnExactAllDictsUptoCard : Claim7 := { stood := { row := fnExactAllDictsUptoRow, standIns := [], harness := (true, "2d41599b77371b03bde7420f260b598a1cc818ec5504e04fec28d0d33e3bb6ce"), looks := false }, kinds := [], alts := [], laidByText := true, laidKinds := [.data, .data, .data], laidTests := true, laidLooks := .later }
def FnExactAllDictsUptoCardSaid : Prop := Claim7.holds Tryz.pinned (.plain (OpenSpec.upto fnExactAllDictsSpec)) fnExactAllDictsUptoCard

/-- THE SECOND FORM's CARD OF 'laws.FnExactLeastDict'. -/
def fnExactLeastDictUptoCard : Claim7 := { stood := { row := fnExactLeastDictUptoRow, standIns := [], harness := (true, "2d41599b77371b03bde7420f260b598a1cc818ec5504e04fec28d0d33e3bb6ce"), looks := false }, kinds := [], alts := [], laidByText := true, laidKinds := [.data, .data, .data], laidTests := true, laidLooks := .later }
def FnExactLeastDictUptoCardSaid : Prop := Claim7.holds Tryz.pinned (.plain (OpenSpec.upto fnExactLeastDictSpec)) fnExactLeastDictUptoCard

/-- THE SECOND FORM's CARD OF 'laws.FnExactInstancesUsed'. -/
def fnExactInstancesUsedUptoCard : Claim7 := { stood := { row := fnExactInstancesUsedUptoRow, standIns := [], harness := (true, "2d41599b77371b03bde7420f260b598a1cc818ec5504e04fec28d0d33e3bb6ce"), looks := false }, kinds := [], alts := [], laidByText := true, laidKinds := [.data, .data, .data], laidTests := true, laidLooks := .later }
def FnExactInstancesUsedUptoCardSaid : Prop := Claim7.holds Tryz.pinned (.plain (OpenSpec.upto fnExactInstancesUsedSpec)) fnExactInstancesUsedUptoCard

/-- THE SECOND FORM's CARD OF 'laws.FnExactLeastGivens'. -/
def fnExactLeastGivensUptoCard : Claim7 := { stood := { row := fnExactLeastGivensUptoRow, standIns := [], harness := (true, "2d41599b77371b03bde7420f260b598a1cc818ec5504e04fec28d0d33e3bb6ce"), looks := false }, kinds := [], alts := [], laidByText := true, laidKinds := [.data, .data, .data], laidTests := true, laidLooks := .later }
def FnExactLeastGivensUptoCardSaid : Prop := Claim7.holds Tryz.pinned (.plain (OpenSpec.upto fnExactLeastGivensSpec)) fnExactLeastGivensUptoCard

/-- THE SECOND FORM's CARD OF 'laws.FnExactFullNeeds'. -/
def fnExactFullNeedsUptoCard : Claim7 := { stood := { row := fnExactFullNeedsUptoRow, standIns := [], harness := (true, "2d41599b77371b03bde7420f260b598a1cc818ec5504e04fec28d0d33e3bb6ce"), looks := false }, kinds := [], alts := [], laidByText := true, laidKinds := [.data, .data, .data], laidTests := true, laidLooks := .later }
def FnExactFullNeedsUptoCardSaid : Prop := Claim7.holds Tryz.pinned (.plain (OpenSpec.upto fnExactFullNeedsSpec)) fnExactFullNeedsUptoCard

/-- THE SECOND FORM's CARD OF 'laws.FnExactCloseWorld'. -/
def fnExactCloseWorldUptoCard : Claim7 := { stood := { row := fnExactCloseWorldUptoRow, standIns := [], harness := (true, "2d41599b77371b03bde7420f260b598a1cc818ec5504e04fec28d0d33e3bb6ce"), looks := false }, kinds := [], alts := [], laidByText := true, laidKinds := [.data, .data, .data], laidTests := true, laidLooks := .later }
def FnExactCloseWorldUptoCardSaid : Prop := Claim7.holds Tryz.pinned (.plain (OpenSpec.upto fnExactCloseWorldSpec)) fnExactCloseWorldUptoCard

/-- THE SECOND FORM's CARD OF 'laws.FnExactAskedFor'. -/
def fnExactAskedForUptoCard : Claim7 := { stood := { row := fnExactAskedForUptoRow, standIns := [], harness := (true, "2d41599b77371b03bde7420f260b598a1cc818ec5504e04fec28d0d33e3bb6ce"), looks := false }, kinds := [], alts := [], laidByText := true, laidKinds := [.data, .data, .data], laidTests := true, laidLooks := .later }
def FnExactAskedForUptoCardSaid : Prop := Claim7.holds Tryz.pinned (.plain (OpenSpec.upto fnExactAskedForSpec)) fnExactAskedForUptoCard

/-- THE SECOND FORM's CARD OF 'laws.FnStackOf'. -/
def fnStackOfUptoCard : Claim7 := { stood := { row := fnStackOfUptoRow, standIns := [], harness := (true, "2d41599b77371b03bde7420f260b598a1cc818ec5504e04fec28d0d33e3bb6ce"), looks := false }, kinds := [], alts := [], laidByText := true, laidKinds := [.data, .data, .data], laidTests := true, laidLooks := .later }
def FnStackOfUptoCardSaid : Prop := Claim7.holds Tryz.pinned (.plain (OpenSpec.upto fnStackOfSpec)) fnStackOfUptoCard

/-- THE SECOND FORM's CARD OF 'laws.FnCheckDict'. -/
def fnCheckDictUptoCard : Claim7 := { stood := { row := fnCheckDictUptoRow, standIns := [], harness := (true, "2d41599b77371b03bde7420f260b598a1cc818ec5504e04fec28d0d33e3bb6ce"), looks := false }, kinds := [], alts := [], laidByText := true, laidKinds := [.data, .data, .data], laidTests := true, laidLooks := .later }
def FnCheckDictUptoCardSaid : Prop := Claim7.holds Tryz.pinned (.plain (OpenSpec.upto fnCheckDictSpec)) fnCheckDictUptoCard

/-- THE SECOND FORM's CARD OF 'laws.FnReduceNeed'. -/
def fnReduceNeedUptoCard : Claim7 := { stood := { row := fnReduceNeedUptoRow, standIns := [], harness := (true, "2d41599b77371b03bde7420f260b598a1cc818ec5504e04fec28d0d33e3bb6ce"), looks := false }, kinds := [], alts := [], laidByText := true, laidKinds := [.data, .data, .data], laidTests := true, laidLooks := .later }
def FnReduceNeedUptoCardSaid : Prop := Claim7.holds Tryz.pinned (.plain (OpenSpec.upto fnReduceNeedSpec)) fnReduceNeedUptoCard

/-- THE SECOND FORM's CARD OF 'laws.FnFullNeeds'. -/
def fnFullNeedsUptoCard : Claim7 := { stood := { row := fnFullNeedsUptoRow, standIns := [], harness := (true, "2d41599b77371b03bde7420f260b598a1cc818ec5504e04fec28d0d33e3bb6ce"), looks := false }, kinds := [], alts := [], laidByText := true, laidKinds := [.data, .data, .data], laidTests := true, laidLooks := .later }
def FnFullNeedsUptoCardSaid : Prop := Claim7.holds Tryz.pinned (.plain (OpenSpec.upto fnFullNeedsSpec)) fnFullNeedsUptoCard

/-- THE SECOND FORM's CARD OF 'laws.FnGapsOf'. -/
def fnGapsOfUptoCard : Claim7 := { stood := { row := fnGapsOfUptoRow, standIns := [], harness := (true, "2d41599b77371b03bde7420f260b598a1cc818ec5504e04fec28d0d33e3bb6ce"), looks := false }, kinds := [], alts := [], laidByText := true, laidKinds := [.data, .data, .data], laidTests := true, laidLooks := .later }
def FnGapsOfUptoCardSaid : Prop := Claim7.holds Tryz.pinned (.plain (OpenSpec.upto fnGapsOfSpec)) fnGapsOfUptoCard
end Rows
end Go.Proofs.YtmpajhfkegjjcaaGreatDoor
