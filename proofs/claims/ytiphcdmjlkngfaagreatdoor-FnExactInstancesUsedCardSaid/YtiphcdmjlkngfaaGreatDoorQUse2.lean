/- The law Use: its code returns true; its row and its card, which this claim proves. No condition is added. -/
import Derived.Test.YtiphcdmjlkngfaaGreatDoorQUse1
import Derived.Test.YtiphcdmjlkngfaaGreatDoorRP
set_option linter.all false
namespace Go.Proofs.YtiphcdmjlkngfaaGreatDoor.InstancesUsed
open Go Go.Isea Go.ChangeShapes Go.WideShapes Go.ChangeAt Go.RowKit Go.Deep
set_option maxRecDepth 100000
set_option maxHeartbeats 4000000
theorem named : Tryz.prog.funcNamed "loop.example/instancesearch/laws.FnExactInstancesUsed" = some 10 := by kernel_rfl
theorem kf1 : (Rows.fnExactInstancesUsedRow.wf (OpenSpec.ofChange Rows.fnExactInstancesUsedSpec)) = true := by kernel_rfl
theorem kf4 : (Tryz.f10.params.all (Tryz.pinned.checked.prog.readableRec ·)) = true := by kernel_rfl
theorem kf5 : (namedTie Tryz.pinned.checked.prog Rows.fnExactInstancesUsedRow.named Rows.fnExactInstancesUsedSpec.vars) = true := by kernel_rfl
theorem kf6 : ((Rows.fnExactInstancesUsedRow.stops == [])) = true := by kernel_rfl
theorem kf8 : ((Rows.fnExactInstancesUsedRow.knobs == [])) = true := by kernel_rfl
theorem kf10 : ((Rows.fnExactInstancesUsedRow.inPlace == Tryz.pinned.checked.prog.inPlace 10)) = true := by kernel_rfl
theorem kf11 : ((Rows.fnExactInstancesUsedRow.unfollowed == Tryz.pinned.checked.prog.unfollowed 10)) = true := by kernel_rfl
theorem kf12 : ((Rows.fnExactInstancesUsedRow.recurses == Tryz.pinned.checked.prog.recurses 10)) = true := by kernel_rfl
theorem kf13 : ((Rows.fnExactInstancesUsedRow.named == Tryz.pinned.checked.prog.varsNamed 10)) = true := by kernel_rfl
theorem kf14 : ((Rows.fnExactInstancesUsedRow.maps == (Tryz.f10.params.toList ++ Rows.fnExactInstancesUsedSpec.plain.varTypes Tryz.pinned.checked.prog).any (Tryz.pinned.checked.prog.mapsRec ·))) = true := by kernel_rfl
theorem kf15 : ((Rows.fnExactInstancesUsedRow.ifaces == (Tryz.f10.params.toList ++ Rows.fnExactInstancesUsedSpec.plain.varTypes Tryz.pinned.checked.prog).any (Tryz.pinned.checked.prog.ifacesRec ·))) = true := by kernel_rfl
theorem kf16 : ((Rows.fnExactInstancesUsedRow.mapsOut == Tryz.pinned.checked.prog.mapsAmong Tryz.f10.resultTypes.toList)) = true := by kernel_rfl
theorem kf17 : ((Rows.fnExactInstancesUsedRow.loops == (Tryz.f10.params.toList ++ Rows.fnExactInstancesUsedSpec.plain.varTypes Tryz.pinned.checked.prog).any (Tryz.pinned.checked.prog.loopsFrom ·))) = true := by kernel_rfl
theorem kf18 : ((Rows.fnExactInstancesUsedRow.wideKeys == (Tryz.f10.params.toList ++ Rows.fnExactInstancesUsedSpec.plain.varTypes Tryz.pinned.checked.prog ++ Tryz.f10.resultTypes.toList).any (Tryz.pinned.checked.prog.wideKeysFrom ·))) = true := by kernel_rfl
theorem kf19 : (Rows.fnExactInstancesUsedSpec.vars.all (Tryz.pinned.checked.prog.varReadable ·)) = true := by kernel_rfl
theorem kf20 : (Tryz.f10.resultTypes.all (fun t => Tryz.pinned.checked.prog.readableRec t && decide (t < Tryz.pinned.checked.prog.types.size))) = true := by kernel_rfl
theorem kf21 : ((Rows.fnExactInstancesUsedRow.ifacesOut == Tryz.f10.resultTypes.toList.any (Tryz.pinned.checked.prog.ifacesRec ·))) = true := by kernel_rfl
theorem kf22 : ((Rows.fnExactInstancesUsedRow.loopsOut == Tryz.f10.resultTypes.toList.any (Tryz.pinned.checked.prog.loopsFrom ·))) = true := by kernel_rfl
theorem kf24 : (Rows.fnExactInstancesUsedRow.shortTexts.isNone) = true := by kernel_rfl
theorem kf29 : ((Rows.fnExactInstancesUsedRow.kinds == (if Rows.fnExactInstancesUsedRow.domain.isEmpty then [] else Tryz.f10.params.toList.map fun t => match Tryz.pinned.checked.prog.underlying t with | some (.int k) => some k | _ => none))) = true := by kernel_rfl
theorem kf30 : ((Rows.fnExactInstancesUsedRow.pinned == Rows.fnExactInstancesUsedRow.pinnedBy)) = true := by kernel_rfl
theorem kf31 : ((Rows.fnExactInstancesUsedRow.veiled == (Tryz.f10.params.toList ++ Rows.fnExactInstancesUsedSpec.plain.varTypes Tryz.pinned.checked.prog ++ Tryz.f10.resultTypes.toList).any (Tryz.pinned.checked.prog.veiledRec ·))) = true := by kernel_rfl
theorem kf32 : (Rows.fnExactInstancesUsedRow.veiledFits Tryz.pinned.checked.prog Tryz.f10.params.toList (Tryz.f10.params.toList ++ Rows.fnExactInstancesUsedSpec.plain.varTypes Tryz.pinned.checked.prog ++ Tryz.f10.resultTypes.toList)) = true := by kernel_rfl
theorem closed : joinedFacts Tryz.pinned.checked.prog 10 Tryz.f10 Rows.fnExactInstancesUsedSpec Rows.fnExactInstancesUsedRow = true :=
  and_t (and_t (and_t (and_t (and_t (and_t (and_t (and_t (and_t (and_t (and_t (and_t (and_t (and_t (and_t (and_t (and_t (and_t (and_t (and_t (and_t (and_t (and_t (and_t (and_t (and_t (and_t (and_t (and_t (and_t (and_t kf1 pf2) pf3) kf4) kf5) kf6) pf7) kf8) pf9) kf10) kf11) kf12) kf13) kf14) kf15) kf16) kf17) kf18) kf19) kf20) kf21) kf22) pf23) kf24) pf25) pf26) pf27) pf28) kf29) kf30) kf31) kf32
theorem row_holds : Rows.FnExactInstancesUsedSaid :=
  OpenClaim.holds_of_wide 10 Tryz.f10 rfl rfl rfl rfl rfl rfl rfl ⟨rfl, rfl, rfl, rfl, rfl⟩ rfl rfl rfl rfl rfl named Tryz.func10 closed
    (of_decide_eq_true (by kernel_rfl)) (by unfold Func.isWrapper; rw [if_neg (of_decide_eq_false (by kernel_rfl))]; exact ⟨rfl, rfl⟩)
    (fun os started H enc _ => lifted os started H enc)
end Go.Proofs.YtiphcdmjlkngfaaGreatDoor.InstancesUsed
