/- The law Stk: its code returns true; its row and its card, which this claim proves. No condition is added. -/
import Derived.Test.YtokhnaokccjjnaaGreatDoorQStk2
import Derived.Test.YtokhnaokccjjnaaGreatDoorRQ
import Derived.Test.YtokhnaokccjjnaaGreatDoorCards
import Derived.Test.YtokhnaokccjjnaaGreatDoorTie
import Derived.SevenTiedAt
set_option linter.all false
namespace Go.Proofs.YtokhnaokccjjnaaGreatDoor.StackOf
open Go Go.Isea Go.ChangeShapes Go.WideShapes Go.ChangeAt Go.RowKit Go.Deep
set_option maxRecDepth 100000
set_option maxHeartbeats 4000000
theorem ch_w : Rows.fnExactStackOfRow.wfByText (OpenSpec.ofChange Rows.fnExactStackOfSpec) = true := by kernel_rfl
theorem ch_goes : false = Rows.fnExactStackOfRow.goesBy Tryz.pinned.checked.prog := by kernel_rfl
theorem card_holds : Rows.FnExactStackOfCardSaid :=
  Claim7.holds_tied_plain_at .later [] [.data, .data, .data] true (true, "b5e9d2bbe2b9854c0b808070d431df13940d649c885f3357b8cdd04be8b11050") false
    row_holds (fun _ h => by cases h) ch_w (fun _ h => by cases h) fnExactStackOf_row_tie rfl ⟨rfl, rfl⟩ ch_main rfl
    (fun f fn hf hfn => by
      obtain rfl : f = 7 := Option.some.inj (named.symm.trans hf) |>.symm
      obtain rfl : fn = Tryz.f7 := (Option.some.inj (Tryz.func7.symm.trans hfn)).symm
      exact ⟨ch_looks, fun j t ht => by
        have ht : Tryz.f7.params[j]? = some t := ht
        rw [Tryz.params7] at ht
        have h3 : t = 25 ∨ t = 38 := by
          rcases j with _ | _ | j
          · exact .inl (by simpa using ht.symm)
          · exact .inr (by simpa using ht.symm)
          · simp at ht
        rcases h3 with rfl | rfl
        · exact ch_W
        · exact ch_N⟩)
    ch_goes
#print axioms card_holds
end Go.Proofs.YtokhnaokccjjnaaGreatDoor.StackOf
