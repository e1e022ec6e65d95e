/- Facts of the program that each card asks for. -/
import Derived.Test.YtokhnaokccjjnaaGreatDoorCards
import Derived.KernelRfl
namespace Go.Proofs.YtokhnaokccjjnaaGreatDoor
open Go
set_option maxRecDepth 100000
theorem ch_main : Tryz.pinned.checked.prog.mainIs = some (Prod.fst (true, "b5e9d2bbe2b9854c0b808070d431df13940d649c885f3357b8cdd04be8b11050"), (Prod.snd (true, "b5e9d2bbe2b9854c0b808070d431df13940d649c885f3357b8cdd04be8b11050")).toList) := by kernel_rfl
theorem ch_looks : false = Tryz.pinned.checked.prog.looks [] := by kernel_rfl
theorem ch_W : Tryz.pinned.checked.prog.wantsStandIn 25 = false := by kernel_rfl
theorem ch_G : Tryz.pinned.checked.prog.wantsStandIn 36 = false := by kernel_rfl
theorem ch_N : Tryz.pinned.checked.prog.wantsStandIn 38 = false := by kernel_rfl
theorem ch_S : Tryz.pinned.checked.prog.wantsStandIn 9 = false := by kernel_rfl
theorem ch_I : Tryz.pinned.checked.prog.wantsStandIn 3 = false := by kernel_rfl
end Go.Proofs.YtokhnaokccjjnaaGreatDoor
