/- The law Least: its code returns true; its row and its card, which this claim proves. No condition is added. -/
import Derived.Test.YtmpajhfkegjjcaaGreatDoorQLeast2
import Derived.Test.YtmpajhfkegjjcaaGreatDoorRQ
import Derived.Test.YtmpajhfkegjjcaaGreatDoorCards
import Derived.Test.YtmpajhfkegjjcaaGreatDoorTie
import Derived.SevenTiedAt
set_option linter.all false
namespace Go.Proofs.YtmpajhfkegjjcaaGreatDoor.LeastGivens
open Go Go.Isea Go.ChangeShapes Go.WideShapes Go.ChangeAt Go.RowKit Go.Deep
set_option maxRecDepth 100000
set_option maxHeartbeats 4000000
theorem ch_w : Rows.fnExactLeastGivensRow.wfByText (OpenSpec.ofChange Rows.fnExactLeastGivensSpec) = true := by kernel_rfl
theorem ch_goes : false = Rows.fnExactLeastGivensRow.goesBy Tryz.pinned.checked.prog := by kernel_rfl
theorem card_holds : Rows.FnExactLeastGivensCardSaid :=
  Claim7.holds_tied_plain_at .later [] [.data, .data, .data] true (true, "2d41599b77371b03bde7420f260b598a1cc818ec5504e04fec28d0d33e3bb6ce") false
    row_holds (fun _ h => by cases h) ch_w (fun _ h => by cases h) fnExactLeastGivens_row_tie rfl ⟨rfl, rfl⟩ ch_main rfl
    (fun f fn hf hfn => by
      obtain rfl : f = 6 := Option.some.inj (named.symm.trans hf) |>.symm
      obtain rfl : fn = Tryz.f6 := (Option.some.inj (Tryz.func6.symm.trans hfn)).symm
      exact ⟨ch_looks, fun j t ht => by
        have ht : Tryz.f6.params[j]? = some t := ht
        rw [Tryz.params6] at ht
        have h3 : t = 25 ∨ t = 52 := by
          rcases j with _ | _ | j
          · exact .inl (by simpa using ht.symm)
          · exact .inr (by simpa using ht.symm)
          · simp at ht
        rcases h3 with rfl | rfl
        · exact ch_W
        · exact ch_G⟩)
    ch_goes
#print axioms card_holds
end Go.Proofs.YtmpajhfkegjjcaaGreatDoor.LeastGivens
