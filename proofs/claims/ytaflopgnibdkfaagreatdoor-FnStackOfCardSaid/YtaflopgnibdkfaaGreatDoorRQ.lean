/- Facts of the program that each card asks for. -/
import Derived.Test.YtaflopgnibdkfaaGreatDoorCards
import Derived.KernelRfl
namespace Go.Proofs.YtaflopgnibdkfaaGreatDoor
open Go
set_option maxRecDepth 100000
theorem ch_main : Tryz.pinned.checked.prog.mainIs = some (Prod.fst (true, "9ef9413c7aaac47cd266e2ad41a12599bdf95e6210450158cce1850be251ce5d"), (Prod.snd (true, "9ef9413c7aaac47cd266e2ad41a12599bdf95e6210450158cce1850be251ce5d")).toList) := by kernel_rfl
theorem ch_looks : false = Tryz.pinned.checked.prog.looks [] := by kernel_rfl
theorem ch_W : Tryz.pinned.checked.prog.wantsStandIn 25 = false := by kernel_rfl
theorem ch_G : Tryz.pinned.checked.prog.wantsStandIn 148 = false := by kernel_rfl
theorem ch_N : Tryz.pinned.checked.prog.wantsStandIn 27 = false := by kernel_rfl
theorem ch_S : Tryz.pinned.checked.prog.wantsStandIn 9 = false := by kernel_rfl
theorem ch_I : Tryz.pinned.checked.prog.wantsStandIn 3 = false := by kernel_rfl
theorem ch_B : Tryz.pinned.checked.prog.wantsStandIn 55 = false := by kernel_rfl
end Go.Proofs.YtaflopgnibdkfaaGreatDoor
