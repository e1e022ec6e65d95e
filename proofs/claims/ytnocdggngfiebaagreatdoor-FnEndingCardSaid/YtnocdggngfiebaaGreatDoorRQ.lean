/- Facts of the program that each card asks for. -/
import Derived.Test.YtnocdggngfiebaaGreatDoorCards
import Derived.KernelRfl
namespace Go.Proofs.YtnocdggngfiebaaGreatDoor
open Go
set_option maxRecDepth 100000
theorem ch_main : Tryz.pinned.checked.prog.mainIs = some (Prod.fst (true, "24cd9f98a89f171bf0928afda0b188716cbeaae9dc764c1eabe7b5a8d993c673"), (Prod.snd (true, "24cd9f98a89f171bf0928afda0b188716cbeaae9dc764c1eabe7b5a8d993c673")).toList) := by kernel_rfl
theorem ch_looks : false = Tryz.pinned.checked.prog.looks [] := by kernel_rfl
theorem ch_W : Tryz.pinned.checked.prog.wantsStandIn 74 = false := by kernel_rfl
theorem ch_G : Tryz.pinned.checked.prog.wantsStandIn 220 = false := by kernel_rfl
theorem ch_N : Tryz.pinned.checked.prog.wantsStandIn 219 = false := by kernel_rfl
theorem ch_S : Tryz.pinned.checked.prog.wantsStandIn 9 = false := by kernel_rfl
theorem ch_I : Tryz.pinned.checked.prog.wantsStandIn 3 = false := by kernel_rfl
theorem ch_B : Tryz.pinned.checked.prog.wantsStandIn 22 = false := by kernel_rfl
end Go.Proofs.YtnocdggngfiebaaGreatDoor
