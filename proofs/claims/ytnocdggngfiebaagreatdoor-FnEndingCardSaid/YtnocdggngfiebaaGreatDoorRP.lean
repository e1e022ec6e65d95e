/- Facts of the program that each row asks for. -/
import Derived.Test.YtnocdggngfiebaaGreatDoorRows
import Derived.JoinedOf
import Derived.KernelRfl
namespace Go.Proofs.YtnocdggngfiebaaGreatDoor
open Go
set_option maxRecDepth 100000
theorem and_t {a b : Bool} (ha : a = true) (hb : b = true) : (a && b) = true := by rw [ha, hb]; rfl
theorem pf2 : (laidOutB Tryz.pinned.checked.prog) = true := by kernel_rfl
theorem pf3 : (mapsRowed Tryz.pinned.checked.prog) = true := by kernel_rfl
theorem pf7 : ((Tryz.pinned.checked.prog.stops == [])) = true := by kernel_rfl
theorem pf9 : ((Tryz.pinned.checked.prog.stopKnobs == [])) = true := by kernel_rfl
theorem pf23 : ((Rows.fnReduceNeedRow.plainKeys == Tryz.pinned.checked.prog.plainKeys)) = true := by kernel_rfl
theorem pf25 : (Tryz.pinned.checked.prog.stopsHeard) = true := by kernel_rfl
theorem pf26 : (Tryz.pinned.checked.prog.mayEnter) = true := by kernel_rfl
theorem pf27 : ((Rows.fnReduceNeedRow.lifted == Tryz.pinned.checked.prog.liftsFinal)) = true := by kernel_rfl
theorem pf28 : ((Tryz.pinned.checked.prog.make == some Rows.fnReduceNeedRow.make)) = true := by kernel_rfl
end Go.Proofs.YtnocdggngfiebaaGreatDoor
