/-
  DERIVED. GIVEN WITH THE SEED: THE CARDS: each row of YtiphcdmjlkngfaaGreatDoorRows.lean that lists a variable, with what it lists TIED to the program's text (the seventh form; the later family's looks); each row that meets fmt, with fmt's text TOLD by the authors' own Lean function (tested against real Go, not proved from fmt's source: count such statements apart). THE CARD IS WHAT COUNTS. Prove the row's statement (the work); the ties are given (YtiphcdmjlkngfaaGreatDoorTie.lean); close each card by the builder's one call (the guide's Derived/Test/ToyasCard.lean, 'card_holds'). Laid BY PROGRAM, IN A SANDBOX (cutbox-door.mjs). By AI agents, Wed Nov 11 2026. No macro, syntax, notation, axiom, sorry.
-/
import Derived.Test.YtiphcdmjlkngfaaGreatDoorRows
import GoSem.ClaimSeven
namespace Go.Proofs.YtiphcdmjlkngfaaGreatDoor
namespace Rows

/-- THE TIED CARD OF 'laws.FnCheckFound'. -/
def fnCheckFoundCard : Claim7 := { stood := { row := fnCheckFoundRow, standIns := [], harness := (true, "66d4a98ae84cadc11d636d6d4acd56ce190319a3f80c704d7757bf0cce124c12"), looks := false }, kinds := [], alts := [], laidByText := true, laidKinds := [.data, .data, .data], laidTests := true, laidLooks := .later }
def FnCheckFoundCardSaid : Prop := Claim7.holds Tryz.pinned (.plain (OpenSpec.ofChange fnCheckFoundSpec)) fnCheckFoundCard

/-- THE TIED CARD OF 'laws.FnAllDicts'. -/
def fnAllDictsCard : Claim7 := { stood := { row := fnAllDictsRow, standIns := [], harness := (true, "66d4a98ae84cadc11d636d6d4acd56ce190319a3f80c704d7757bf0cce124c12"), looks := false }, kinds := [], alts := [], laidByText := true, laidKinds := [.data, .data, .data], laidTests := true, laidLooks := .later }
def FnAllDictsCardSaid : Prop := Claim7.holds Tryz.pinned (.plain (OpenSpec.ofChange fnAllDictsSpec)) fnAllDictsCard

/-- THE TIED CARD OF 'laws.FnLeastGivens'. -/
def fnLeastGivensCard : Claim7 := { stood := { row := fnLeastGivensRow, standIns := [], harness := (true, "66d4a98ae84cadc11d636d6d4acd56ce190319a3f80c704d7757bf0cce124c12"), looks := false }, kinds := [], alts := [], laidByText := true, laidKinds := [.data, .data, .data, .data, .pinned], laidTests := true, laidLooks := .later }
def FnLeastGivensCardSaid : Prop := Claim7.holds Tryz.pinned (.plain (OpenSpec.ofChange fnLeastGivensSpec)) fnLeastGivensCard

/-- THE TIED CARD OF 'laws.FnCheckDict'. -/
def fnCheckDictCard : Claim7 := { stood := { row := fnCheckDictRow, standIns := [], harness := (true, "66d4a98ae84cadc11d636d6d4acd56ce190319a3f80c704d7757bf0cce124c12"), looks := false }, kinds := [], alts := [], laidByText := true, laidKinds := [.data, .data, .data], laidTests := true, laidLooks := .later }
def FnCheckDictCardSaid : Prop := Claim7.holds Tryz.pinned (.plain (OpenSpec.ofChange fnCheckDictSpec)) fnCheckDictCard

/-- THE TIED CARD OF 'laws.FnLevelOf'. -/
def fnLevelOfCard : Claim7 := { stood := { row := fnLevelOfRow, standIns := [], harness := (true, "66d4a98ae84cadc11d636d6d4acd56ce190319a3f80c704d7757bf0cce124c12"), looks := false }, kinds := [], alts := [], laidByText := true, laidKinds := [.data, .data, .data], laidTests := true, laidLooks := .later }
def FnLevelOfCardSaid : Prop := Claim7.holds Tryz.pinned (.plain (OpenSpec.ofChange fnLevelOfSpec)) fnLevelOfCard

/-- THE TIED CARD OF 'laws.FnDeeper'. -/
def fnDeeperCard : Claim7 := { stood := { row := fnDeeperRow, standIns := [], harness := (true, "66d4a98ae84cadc11d636d6d4acd56ce190319a3f80c704d7757bf0cce124c12"), looks := false }, kinds := [], alts := [], laidByText := true, laidKinds := [.data, .data, .data], laidTests := true, laidLooks := .later }
def FnDeeperCardSaid : Prop := Claim7.holds Tryz.pinned (.plain (OpenSpec.ofChange fnDeeperSpec)) fnDeeperCard

/-- THE TIED CARD OF 'laws.FnLeastDict'. -/
def fnLeastDictCard : Claim7 := { stood := { row := fnLeastDictRow, standIns := [], harness := (true, "66d4a98ae84cadc11d636d6d4acd56ce190319a3f80c704d7757bf0cce124c12"), looks := false }, kinds := [], alts := [], laidByText := true, laidKinds := [.data, .data, .data], laidTests := true, laidLooks := .later }
def FnLeastDictCardSaid : Prop := Claim7.holds Tryz.pinned (.plain (OpenSpec.ofChange fnLeastDictSpec)) fnLeastDictCard

/-- THE TIED CARD OF 'laws.FnExactInstancesUsed'. -/
def fnExactInstancesUsedCard : Claim7 := { stood := { row := fnExactInstancesUsedRow, standIns := [], harness := (true, "66d4a98ae84cadc11d636d6d4acd56ce190319a3f80c704d7757bf0cce124c12"), looks := false }, kinds := [], alts := [], laidByText := true, laidKinds := [.data, .data, .data], laidTests := true, laidLooks := .later }
def FnExactInstancesUsedCardSaid : Prop := Claim7.holds Tryz.pinned (.plain (OpenSpec.ofChange fnExactInstancesUsedSpec)) fnExactInstancesUsedCard

/-- THE SECOND FORM's CARD OF 'laws.FnCheckFound'. -/
def fnCheckFoundUptoCard : Claim7 := { stood := { row := fnCheckFoundUptoRow, standIns := [], harness := (true, "66d4a98ae84cadc11d636d6d4acd56ce190319a3f80c704d7757bf0cce124c12"), looks := false }, kinds := [], alts := [], laidByText := true, laidKinds := [.data, .data, .data], laidTests := true, laidLooks := .later }
def FnCheckFoundUptoCardSaid : Prop := Claim7.holds Tryz.pinned (.plain (OpenSpec.upto fnCheckFoundSpec)) fnCheckFoundUptoCard

/-- THE SECOND FORM's CARD OF 'laws.FnAllDicts'. -/
def fnAllDictsUptoCard : Claim7 := { stood := { row := fnAllDictsUptoRow, standIns := [], harness := (true, "66d4a98ae84cadc11d636d6d4acd56ce190319a3f80c704d7757bf0cce124c12"), looks := false }, kinds := [], alts := [], laidByText := true, laidKinds := [.data, .data, .data], laidTests := true, laidLooks := .later }
def FnAllDictsUptoCardSaid : Prop := Claim7.holds Tryz.pinned (.plain (OpenSpec.upto fnAllDictsSpec)) fnAllDictsUptoCard

/-- THE SECOND FORM's CARD OF 'laws.FnLeastGivens'. -/
def fnLeastGivensUptoCard : Claim7 := { stood := { row := fnLeastGivensUptoRow, standIns := [], harness := (true, "66d4a98ae84cadc11d636d6d4acd56ce190319a3f80c704d7757bf0cce124c12"), looks := false }, kinds := [], alts := [], laidByText := true, laidKinds := [.data, .data, .data, .data, .pinned], laidTests := true, laidLooks := .later }
def FnLeastGivensUptoCardSaid : Prop := Claim7.holds Tryz.pinned (.plain (OpenSpec.upto fnLeastGivensSpec)) fnLeastGivensUptoCard

/-- THE SECOND FORM's CARD OF 'laws.FnCheckDict'. -/
def fnCheckDictUptoCard : Claim7 := { stood := { row := fnCheckDictUptoRow, standIns := [], harness := (true, "66d4a98ae84cadc11d636d6d4acd56ce190319a3f80c704d7757bf0cce124c12"), looks := false }, kinds := [], alts := [], laidByText := true, laidKinds := [.data, .data, .data], laidTests := true, laidLooks := .later }
def FnCheckDictUptoCardSaid : Prop := Claim7.holds Tryz.pinned (.plain (OpenSpec.upto fnCheckDictSpec)) fnCheckDictUptoCard

/-- THE SECOND FORM's CARD OF 'laws.FnLevelOf'. -/
def fnLevelOfUptoCard : Claim7 := { stood := { row := fnLevelOfUptoRow, standIns := [], harness := (true, "66d4a98ae84cadc11d636d6d4acd56ce190319a3f80c704d7757bf0cce124c12"), looks := false }, kinds := [], alts := [], laidByText := true, laidKinds := [.data, .data, .data], laidTests := true, laidLooks := .later }
def FnLevelOfUptoCardSaid : Prop := Claim7.holds Tryz.pinned (.plain (OpenSpec.upto fnLevelOfSpec)) fnLevelOfUptoCard

/-- THE SECOND FORM's CARD OF 'laws.FnDeeper'. -/
def fnDeeperUptoCard : Claim7 := { stood := { row := fnDeeperUptoRow, standIns := [], harness := (true, "66d4a98ae84cadc11d636d6d4acd56ce190319a3f80c704d7757bf0cce124c12"), looks := false }, kinds := [], alts := [], laidByText := true, laidKinds := [.data, .data, .data], laidTests := true, laidLooks := .later }
def FnDeeperUptoCardSaid : Prop := Claim7.holds Tryz.pinned (.plain (OpenSpec.upto fnDeeperSpec)) fnDeeperUptoCard

/-- THE SECOND FORM's CARD OF 'laws.FnLeastDict'. -/
def fnLeastDictUptoCard : Claim7 := { stood := { row := fnLeastDictUptoRow, standIns := [], harness := (true, "66d4a98ae84cadc11d636d6d4acd56ce190319a3f80c704d7757bf0cce124c12"), looks := false }, kinds := [], alts := [], laidByText := true, laidKinds := [.data, .data, .data], laidTests := true, laidLooks := .later }
def FnLeastDictUptoCardSaid : Prop := Claim7.holds Tryz.pinned (.plain (OpenSpec.upto fnLeastDictSpec)) fnLeastDictUptoCard

/-- THE SECOND FORM's CARD OF 'laws.FnExactInstancesUsed'. -/
def fnExactInstancesUsedUptoCard : Claim7 := { stood := { row := fnExactInstancesUsedUptoRow, standIns := [], harness := (true, "66d4a98ae84cadc11d636d6d4acd56ce190319a3f80c704d7757bf0cce124c12"), looks := false }, kinds := [], alts := [], laidByText := true, laidKinds := [.data, .data, .data], laidTests := true, laidLooks := .later }
def FnExactInstancesUsedUptoCardSaid : Prop := Claim7.holds Tryz.pinned (.plain (OpenSpec.upto fnExactInstancesUsedSpec)) fnExactInstancesUsedUptoCard
end Rows
end Go.Proofs.YtiphcdmjlkngfaaGreatDoor
