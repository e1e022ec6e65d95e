/- The law LstD: its code returns true; its row and its card, which this claim proves. No condition is added. -/
import Derived.Test.YtaflopgnibdkfaaGreatDoorQLstD2
import Derived.Test.YtaflopgnibdkfaaGreatDoorRQ
import Derived.Test.YtaflopgnibdkfaaGreatDoorCards
import Derived.Test.YtaflopgnibdkfaaGreatDoorTie
import Derived.SevenTiedAt
set_option linter.all false
namespace Go.Proofs.YtaflopgnibdkfaaGreatDoor.LeastDict
open Go Go.Isea Go.ChangeShapes Go.WideShapes Go.ChangeAt Go.RowKit Go.Deep
set_option maxRecDepth 100000
set_option maxHeartbeats 4000000
theorem ch_w : Rows.fnExactLeastDictRow.wfByText (OpenSpec.ofChange Rows.fnExactLeastDictSpec) = true := by kernel_rfl
theorem ch_goes : false = Rows.fnExactLeastDictRow.goesBy Tryz.pinned.checked.prog := by kernel_rfl
theorem card_holds : Rows.FnExactLeastDictCardSaid :=
  Claim7.holds_tied_plain_at .later [] [.data, .data, .data] true (true, "9ef9413c7aaac47cd266e2ad41a12599bdf95e6210450158cce1850be251ce5d") false
    row_holds (fun _ h => by cases h) ch_w (fun _ h => by cases h) fnExactLeastDict_row_tie rfl ⟨rfl, rfl⟩ ch_main rfl
    (fun f fn hf hfn => by
      obtain rfl : f = 4 := Option.some.inj (named.symm.trans hf) |>.symm
      obtain rfl : fn = Tryz.f4 := (Option.some.inj (Tryz.func4.symm.trans hfn)).symm
      exact ⟨ch_looks, fun j t ht => by
        have ht : Tryz.f4.params[j]? = some t := ht
        rw [Tryz.params4] at ht
        have h3 : t = 25 ∨ t = 27 ∨ t = 3 := by
          rcases j with _ | _ | _ | j
          · exact .inl (by simpa using ht.symm)
          · exact .inr (.inl (by simpa using ht.symm))
          · exact .inr (.inr (by simpa using ht.symm))
          · simp at ht
        rcases h3 with rfl | rfl | rfl
        · exact ch_W
        · exact ch_N
        · exact ch_I⟩)
    ch_goes
#print axioms card_holds
end Go.Proofs.YtaflopgnibdkfaaGreatDoor.LeastDict
