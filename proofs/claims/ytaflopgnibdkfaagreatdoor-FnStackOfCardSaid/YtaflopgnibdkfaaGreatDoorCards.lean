/-
  DERIVED. GIVEN WITH THE SEED: THE CARDS: each row of YtaflopgnibdkfaaGreatDoorRows.lean that lists a variable, with what it lists TIED to the program's text (the seventh form; the later family's looks); each row that meets fmt, with fmt's text TOLD by the authors' own Lean function (tested against real Go, not proved from fmt's source: count such statements apart). THE CARD IS WHAT COUNTS. Prove the row's statement (the work); the ties are given (YtaflopgnibdkfaaGreatDoorTie.lean); close each card by the builder's one call (the guide's Derived/Test/ToyasCard.lean, 'card_holds'). Laid BY PROGRAM, IN A SANDBOX (cutbox-door.mjs). By AI agents, Wed Nov 11 2026. No macro, syntax, notation, axiom, sorry.
-/
import Derived.Test.YtaflopgnibdkfaaGreatDoorRows
import GoSem.ClaimSeven
namespace Go.Proofs.YtaflopgnibdkfaaGreatDoor
namespace Rows

/-- THE TIED CARD OF 'laws.FnExactAllDicts'. -/
def fnExactAllDictsCard : Claim7 := { stood := { row := fnExactAllDictsRow, standIns := [], harness := (true, "9ef9413c7aaac47cd266e2ad41a12599bdf95e6210450158cce1850be251ce5d"), looks := false }, kinds := [], alts := [], laidByText := true, laidKinds := [.data, .data, .data], laidTests := true, laidLooks := .later }
def FnExactAllDictsCardSaid : Prop := Claim7.holds Tryz.pinned (.plain (OpenSpec.ofChange fnExactAllDictsSpec)) fnExactAllDictsCard

/-- THE TIED CARD OF 'laws.FnExactLeastDict'. -/
def fnExactLeastDictCard : Claim7 := { stood := { row := fnExactLeastDictRow, standIns := [], harness := (true, "9ef9413c7aaac47cd266e2ad41a12599bdf95e6210450158cce1850be251ce5d"), looks := false }, kinds := [], alts := [], laidByText := true, laidKinds := [.data, .data, .data], laidTests := true, laidLooks := .later }
def FnExactLeastDictCardSaid : Prop := Claim7.holds Tryz.pinned (.plain (OpenSpec.ofChange fnExactLeastDictSpec)) fnExactLeastDictCard

/-- THE TIED CARD OF 'laws.FnExactInstancesUsed'. -/
def fnExactInstancesUsedCard : Claim7 := { stood := { row := fnExactInstancesUsedRow, standIns := [], harness := (true, "9ef9413c7aaac47cd266e2ad41a12599bdf95e6210450158cce1850be251ce5d"), looks := false }, kinds := [], alts := [], laidByText := true, laidKinds := [.data, .data, .data], laidTests := true, laidLooks := .later }
def FnExactInstancesUsedCardSaid : Prop := Claim7.holds Tryz.pinned (.plain (OpenSpec.ofChange fnExactInstancesUsedSpec)) fnExactInstancesUsedCard

/-- THE TIED CARD OF 'laws.FnExactCloseWorld'. -/
def fnExactCloseWorldCard : Claim7 := { stood := { row := fnExactCloseWorldRow, standIns := [], harness := (true, "9ef9413c7aaac47cd266e2ad41a12599bdf95e6210450158cce1850be251ce5d"), looks := false }, kinds := [], alts := [], laidByText := true, laidKinds := [.data, .data, .data], laidTests := true, laidLooks := .later }
def FnExactCloseWorldCardSaid : Prop := Claim7.holds Tryz.pinned (.plain (OpenSpec.ofChange fnExactCloseWorldSpec)) fnExactCloseWorldCard

/-- THE TIED CARD OF 'laws.FnStackOf'. -/
def fnStackOfCard : Claim7 := { stood := { row := fnStackOfRow, standIns := [], harness := (true, "9ef9413c7aaac47cd266e2ad41a12599bdf95e6210450158cce1850be251ce5d"), looks := false }, kinds := [], alts := [], laidByText := true, laidKinds := [.data, .data, .data], laidTests := true, laidLooks := .later }
def FnStackOfCardSaid : Prop := Claim7.holds Tryz.pinned (.plain (OpenSpec.ofChange fnStackOfSpec)) fnStackOfCard

/-- THE TIED CARD OF 'laws.FnCheckDict'. -/
def fnCheckDictCard : Claim7 := { stood := { row := fnCheckDictRow, standIns := [], harness := (true, "9ef9413c7aaac47cd266e2ad41a12599bdf95e6210450158cce1850be251ce5d"), looks := false }, kinds := [], alts := [], laidByText := true, laidKinds := [.data, .data, .data], laidTests := true, laidLooks := .later }
def FnCheckDictCardSaid : Prop := Claim7.holds Tryz.pinned (.plain (OpenSpec.ofChange fnCheckDictSpec)) fnCheckDictCard

/-- THE TIED CARD OF 'laws.FnCheckFound'. -/
def fnCheckFoundCard : Claim7 := { stood := { row := fnCheckFoundRow, standIns := [], harness := (true, "9ef9413c7aaac47cd266e2ad41a12599bdf95e6210450158cce1850be251ce5d"), looks := false }, kinds := [], alts := [], laidByText := true, laidKinds := [.data, .data, .data], laidTests := true, laidLooks := .later }
def FnCheckFoundCardSaid : Prop := Claim7.holds Tryz.pinned (.plain (OpenSpec.ofChange fnCheckFoundSpec)) fnCheckFoundCard

/-- THE TIED CARD OF 'laws.FnAllDicts'. -/
def fnAllDictsCard : Claim7 := { stood := { row := fnAllDictsRow, standIns := [], harness := (true, "9ef9413c7aaac47cd266e2ad41a12599bdf95e6210450158cce1850be251ce5d"), looks := false }, kinds := [], alts := [], laidByText := true, laidKinds := [.data, .data, .data], laidTests := true, laidLooks := .later }
def FnAllDictsCardSaid : Prop := Claim7.holds Tryz.pinned (.plain (OpenSpec.ofChange fnAllDictsSpec)) fnAllDictsCard

/-- THE SECOND FORM's CARD OF 'laws.FnExactAllDicts'. -/
def fnExactAllDictsUptoCard : Claim7 := { stood := { row := fnExactAllDictsUptoRow, standIns := [], harness := (true, "9ef9413c7aaac47cd266e2ad41a12599bdf95e6210450158cce1850be251ce5d"), looks := false }, kinds := [], alts := [], laidByText := true, laidKinds := [.data, .data, .data], laidTests := true, laidLooks := .later }
def FnExactAllDictsUptoCardSaid : Prop := Claim7.holds Tryz.pinned (.plain (OpenSpec.upto fnExactAllDictsSpec)) fnExactAllDictsUptoCard

/-- THE SECOND FORM's CARD OF 'laws.FnExactLeastDict'. -/
def fnExactLeastDictUptoCard : Claim7 := { stood := { row := fnExactLeastDictUptoRow, standIns := [], harness := (true, "9ef9413c7aaac47cd266e2ad41a12599bdf95e6210450158cce1850be251ce5d"), looks := false }, kinds := [], alts := [], laidByText := true, laidKinds := [.data, .data, .data], laidTests := true, laidLooks := .later }
def FnExactLeastDictUptoCardSaid : Prop := Claim7.holds Tryz.pinned (.plain (OpenSpec.upto fnExactLeastDictSpec)) fnExactLeastDictUptoCard

/-- THE SECOND FORM's CARD OF 'laws.FnExactInstancesUsed'. -/
def fnExactInstancesUsedUptoCard : Claim7 := { stood := { row := fnExactInstancesUsedUptoRow, standIns := [], harness := (true, "9ef9413c7aaac47cd266e2ad41a12599bdf95e6210450158cce1850be251ce5d"), looks := false }, kinds := [], alts := [], laidByText := true, laidKinds := [.data, .data, .data], laidTests := true, laidLooks := .later }
def FnExactInstancesUsedUptoCardSaid : Prop := Claim7.holds Tryz.pinned (.plain (OpenSpec.upto fnExactInstancesUsedSpec)) fnExactInstancesUsedUptoCard

/-- THE SECOND FORM's CARD OF 'laws.FnExactCloseWorld'. -/
def fnExactCloseWorldUptoCard : Claim7 := { stood := { row := fnExactCloseWorldUptoRow, standIns := [], harness := (true, "9ef9413c7aaac47cd266e2ad41a12599bdf95e6210450158cce1850be251ce5d"), looks := false }, kinds := [], alts := [], laidByText := true, laidKinds := [.data, .data, .data], laidTests := true, laidLooks := .later }
def FnExactCloseWorldUptoCardSaid : Prop := Claim7.holds Tryz.pinned (.plain (OpenSpec.upto fnExactCloseWorldSpec)) fnExactCloseWorldUptoCard

/-- THE SECOND FORM's CARD OF 'laws.FnStackOf'. -/
def fnStackOfUptoCard : Claim7 := { stood := { row := fnStackOfUptoRow, standIns := [], harness := (true, "9ef9413c7aaac47cd266e2ad41a12599bdf95e6210450158cce1850be251ce5d"), looks := false }, kinds := [], alts := [], laidByText := true, laidKinds := [.data, .data, .data], laidTests := true, laidLooks := .later }
def FnStackOfUptoCardSaid : Prop := Claim7.holds Tryz.pinned (.plain (OpenSpec.upto fnStackOfSpec)) fnStackOfUptoCard

/-- THE SECOND FORM's CARD OF 'laws.FnCheckDict'. -/
def fnCheckDictUptoCard : Claim7 := { stood := { row := fnCheckDictUptoRow, standIns := [], harness := (true, "9ef9413c7aaac47cd266e2ad41a12599bdf95e6210450158cce1850be251ce5d"), looks := false }, kinds := [], alts := [], laidByText := true, laidKinds := [.data, .data, .data], laidTests := true, laidLooks := .later }
def FnCheckDictUptoCardSaid : Prop := Claim7.holds Tryz.pinned (.plain (OpenSpec.upto fnCheckDictSpec)) fnCheckDictUptoCard

/-- THE SECOND FORM's CARD OF 'laws.FnCheckFound'. -/
def fnCheckFoundUptoCard : Claim7 := { stood := { row := fnCheckFoundUptoRow, standIns := [], harness := (true, "9ef9413c7aaac47cd266e2ad41a12599bdf95e6210450158cce1850be251ce5d"), looks := false }, kinds := [], alts := [], laidByText := true, laidKinds := [.data, .data, .data], laidTests := true, laidLooks := .later }
def FnCheckFoundUptoCardSaid : Prop := Claim7.holds Tryz.pinned (.plain (OpenSpec.upto fnCheckFoundSpec)) fnCheckFoundUptoCard

/-- THE SECOND FORM's CARD OF 'laws.FnAllDicts'. -/
def fnAllDictsUptoCard : Claim7 := { stood := { row := fnAllDictsUptoRow, standIns := [], harness := (true, "9ef9413c7aaac47cd266e2ad41a12599bdf95e6210450158cce1850be251ce5d"), looks := false }, kinds := [], alts := [], laidByText := true, laidKinds := [.data, .data, .data], laidTests := true, laidLooks := .later }
def FnAllDictsUptoCardSaid : Prop := Claim7.holds Tryz.pinned (.plain (OpenSpec.upto fnAllDictsSpec)) fnAllDictsUptoCard
end Rows
end Go.Proofs.YtaflopgnibdkfaaGreatDoor
