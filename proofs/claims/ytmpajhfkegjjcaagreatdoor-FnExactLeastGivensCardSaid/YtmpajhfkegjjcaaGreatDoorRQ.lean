/- Facts of the program that each card asks for. -/
import Derived.Test.YtmpajhfkegjjcaaGreatDoorCards
import Derived.KernelRfl
namespace Go.Proofs.YtmpajhfkegjjcaaGreatDoor
open Go
set_option maxRecDepth 100000
theorem ch_main : Tryz.pinned.checked.prog.mainIs = some (Prod.fst (true, "2d41599b77371b03bde7420f260b598a1cc818ec5504e04fec28d0d33e3bb6ce"), (Prod.snd (true, "2d41599b77371b03bde7420f260b598a1cc818ec5504e04fec28d0d33e3bb6ce")).toList) := by kernel_rfl
theorem ch_looks : false = Tryz.pinned.checked.prog.looks [] := by kernel_rfl
theorem ch_W : Tryz.pinned.checked.prog.wantsStandIn 25 = false := by kernel_rfl
theorem ch_G : Tryz.pinned.checked.prog.wantsStandIn 52 = false := by kernel_rfl
theorem ch_N : Tryz.pinned.checked.prog.wantsStandIn 27 = false := by kernel_rfl
theorem ch_S : Tryz.pinned.checked.prog.wantsStandIn 9 = false := by kernel_rfl
theorem ch_I : Tryz.pinned.checked.prog.wantsStandIn 3 = false := by kernel_rfl
end Go.Proofs.YtmpajhfkegjjcaaGreatDoor
