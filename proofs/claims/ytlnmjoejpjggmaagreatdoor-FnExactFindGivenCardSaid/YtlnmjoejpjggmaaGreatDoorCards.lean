/-
  DERIVED. GIVEN WITH THE SEED: THE CARDS: each row of YtlnmjoejpjggmaaGreatDoorRows.lean that lists a variable, with what it lists TIED to the program's text (the seventh form; the later family's looks); each row that meets fmt, with fmt's text TOLD by the authors' own Lean function (tested against real Go, not proved from fmt's source: count such statements apart). THE CARD IS WHAT COUNTS. Prove the row's statement (the work); the ties are given (YtlnmjoejpjggmaaGreatDoorTie.lean); close each card by the builder's one call (the guide's Derived/Test/ToyasCard.lean, 'card_holds'). Laid BY PROGRAM, IN A SANDBOX (cutbox-door.mjs). By AI agents, Wed Nov 11 2026. No macro, syntax, notation, axiom, sorry.
-/
import Derived.Test.YtlnmjoejpjggmaaGreatDoorRows
import GoSem.ClaimSeven
namespace Go.Proofs.YtlnmjoejpjggmaaGreatDoor
namespace Rows

/-- THE TIED CARD OF 'laws.FnExactFindGiven'. -/
def fnExactFindGivenCard : Claim7 := { stood := { row := fnExactFindGivenRow, standIns := [], harness := (true, "35e9f902ecc732b563ec3582480b532b6e5ac0d95fd812ffcd38dba3ffd8a169"), looks := false }, kinds := [], alts := [], laidByText := true, laidKinds := [.data, .data, .data], laidTests := true, laidLooks := .later }
def FnExactFindGivenCardSaid : Prop := Claim7.holds Tryz.pinned (.plain (OpenSpec.ofChange fnExactFindGivenSpec)) fnExactFindGivenCard

/-- THE SECOND FORM's CARD OF 'laws.FnExactFindGiven'. -/
def fnExactFindGivenUptoCard : Claim7 := { stood := { row := fnExactFindGivenUptoRow, standIns := [], harness := (true, "35e9f902ecc732b563ec3582480b532b6e5ac0d95fd812ffcd38dba3ffd8a169"), looks := false }, kinds := [], alts := [], laidByText := true, laidKinds := [.data, .data, .data], laidTests := true, laidLooks := .later }
def FnExactFindGivenUptoCardSaid : Prop := Claim7.holds Tryz.pinned (.plain (OpenSpec.upto fnExactFindGivenSpec)) fnExactFindGivenUptoCard
end Rows
end Go.Proofs.YtlnmjoejpjggmaaGreatDoor
