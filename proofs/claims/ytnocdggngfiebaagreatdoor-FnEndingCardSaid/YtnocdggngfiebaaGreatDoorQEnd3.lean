/- The law End: its code returns true; its row and its card, which this claim proves. No condition is added. -/
import Derived.Test.YtnocdggngfiebaaGreatDoorQEnd2
import Derived.Test.YtnocdggngfiebaaGreatDoorRQ
import Derived.Test.YtnocdggngfiebaaGreatDoorCards
import Derived.Test.YtnocdggngfiebaaGreatDoorTie
import Derived.SevenTiedAt
set_option linter.all false
namespace Go.Proofs.YtnocdggngfiebaaGreatDoor.Ending
open Go Go.Isea Go.ChangeShapes Go.WideShapes Go.ChangeAt Go.RowKit Go.Deep
set_option maxRecDepth 100000
set_option maxHeartbeats 4000000
theorem ch_w : Rows.fnEndingRow.wfByText (OpenSpec.ofChange Rows.fnEndingSpec) = true := by kernel_rfl
theorem ch_goes : false = Rows.fnEndingRow.goesBy Tryz.pinned.checked.prog := by kernel_rfl
theorem card_holds : Rows.FnEndingCardSaid :=
  Claim7.holds_tied_plain_at .later [] [.data, .data, .data] true (true, "24cd9f98a89f171bf0928afda0b188716cbeaae9dc764c1eabe7b5a8d993c673") false
    row_holds (fun _ h => by cases h) ch_w (fun _ h => by cases h) fnEnding_row_tie rfl ⟨rfl, rfl⟩ ch_main rfl
    (fun f fn hf hfn => by
      obtain rfl : f = 7 := Option.some.inj (named.symm.trans hf) |>.symm
      obtain rfl : fn = Tryz.f7 := (Option.some.inj (Tryz.func7.symm.trans hfn)).symm
      exact ⟨ch_looks, fun j t ht => by
        have ht : Tryz.f7.params[j]? = some t := ht
        rw [Tryz.params7] at ht
        have h3 : t = 22 := by
          rcases j with _ | _ | j
          · exact by simpa using ht.symm
          · exact by simpa using ht.symm
          · simp at ht
        rcases h3 with rfl
        · exact ch_B⟩)
    ch_goes
#print axioms card_holds
end Go.Proofs.YtnocdggngfiebaaGreatDoor.Ending
