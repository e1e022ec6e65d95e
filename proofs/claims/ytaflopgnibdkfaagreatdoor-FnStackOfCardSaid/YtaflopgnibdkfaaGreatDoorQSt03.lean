/- The law St0: its code returns true; its row and its card, which this claim proves. No condition is added. -/
import Derived.Test.YtaflopgnibdkfaaGreatDoorQSt02
import Derived.Test.YtaflopgnibdkfaaGreatDoorRQ
import Derived.Test.YtaflopgnibdkfaaGreatDoorCards
import Derived.Test.YtaflopgnibdkfaaGreatDoorTie
import Derived.SevenTiedAt
set_option linter.all false
namespace Go.Proofs.YtaflopgnibdkfaaGreatDoor.StackOf
open Go Go.Isea Go.ChangeShapes Go.WideShapes Go.ChangeAt Go.RowKit Go.Deep
set_option maxRecDepth 100000
set_option maxHeartbeats 4000000
theorem ch_w : Rows.fnStackOfRow.wfByText (OpenSpec.ofChange Rows.fnStackOfSpec) = true := by kernel_rfl
theorem ch_goes : false = Rows.fnStackOfRow.goesBy Tryz.pinned.checked.prog := by kernel_rfl
theorem card_holds : Rows.FnStackOfCardSaid :=
  Claim7.holds_tied_plain_at .later [] [.data, .data, .data] true (true, "9ef9413c7aaac47cd266e2ad41a12599bdf95e6210450158cce1850be251ce5d") false
    row_holds (fun _ h => by cases h) ch_w (fun _ h => by cases h) fnStackOf_row_tie rfl ⟨rfl, rfl⟩ ch_main rfl
    (fun f fn hf hfn => by
      obtain rfl : f = 7 := Option.some.inj (named.symm.trans hf) |>.symm
      obtain rfl : fn = Tryz.f7 := (Option.some.inj (Tryz.func7.symm.trans hfn)).symm
      exact ⟨ch_looks, fun j t ht => by
        have ht : Tryz.f7.params[j]? = some t := ht
        rw [Tryz.params7] at ht
        have h3 : t = 55 := by
          rcases j with _ | j
          · exact by simpa using ht.symm
          · simp at ht
        rcases h3 with rfl
        · exact ch_B⟩)
    ch_goes
#print axioms card_holds
end Go.Proofs.YtaflopgnibdkfaaGreatDoor.StackOf
