/- Facts of the program that each card asks for. -/
import Derived.Test.YtiphcdmjlkngfaaGreatDoorCards
import Derived.KernelRfl
namespace Go.Proofs.YtiphcdmjlkngfaaGreatDoor
open Go
set_option maxRecDepth 100000
theorem ch_main : Tryz.pinned.checked.prog.mainIs = some (Prod.fst (true, "66d4a98ae84cadc11d636d6d4acd56ce190319a3f80c704d7757bf0cce124c12"), (Prod.snd (true, "66d4a98ae84cadc11d636d6d4acd56ce190319a3f80c704d7757bf0cce124c12")).toList) := by kernel_rfl
theorem ch_looks : false = Tryz.pinned.checked.prog.looks [] := by kernel_rfl
theorem ch_W : Tryz.pinned.checked.prog.wantsStandIn 72 = false := by kernel_rfl
theorem ch_G : Tryz.pinned.checked.prog.wantsStandIn 215 = false := by kernel_rfl
theorem ch_N : Tryz.pinned.checked.prog.wantsStandIn 73 = false := by kernel_rfl
theorem ch_S : Tryz.pinned.checked.prog.wantsStandIn 9 = false := by kernel_rfl
theorem ch_I : Tryz.pinned.checked.prog.wantsStandIn 3 = false := by kernel_rfl
theorem ch_B : Tryz.pinned.checked.prog.wantsStandIn 22 = false := by kernel_rfl
end Go.Proofs.YtiphcdmjlkngfaaGreatDoor
