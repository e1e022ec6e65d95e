/- The law Deep: its code returns true; its row and its card, which this claim proves. No condition is added. -/
import Derived.Test.YtiphcdmjlkngfaaGreatDoorQDeep1
import Derived.Test.YtiphcdmjlkngfaaGreatDoorRP
set_option linter.all false
namespace Go.Proofs.YtiphcdmjlkngfaaGreatDoor.Deeper
open Go Go.Isea Go.ChangeShapes Go.WideShapes Go.ChangeAt Go.RowKit Go.Deep
set_option maxRecDepth 100000
set_option maxHeartbeats 4000000
theorem named : Tryz.prog.funcNamed "loop.example/instancesearch/laws.FnDeeper" = some 8 := by kernel_rfl
theorem kf1 : (Rows.fnDeeperRow.wf (OpenSpec.ofChange Rows.fnDeeperSpec)) = true := by kernel_rfl
theorem kf4 : (Tryz.f8.params.all (Tryz.pinned.checked.prog.readableRec ·)) = true := by kernel_rfl
theorem kf5 : (namedTie Tryz.pinned.checked.prog Rows.fnDeeperRow.named Rows.fnDeeperSpec.vars) = true := by kernel_rfl
theorem kf6 : ((Rows.fnDeeperRow.stops == [])) = true := by kernel_rfl
theorem kf8 : ((Rows.fnDeeperRow.knobs == [])) = true := by kernel_rfl
theorem kf10 : ((Rows.fnDeeperRow.inPlace == Tryz.pinned.checked.prog.inPlace 8)) = true := by kernel_rfl
theorem kf11 : ((Rows.fnDeeperRow.unfollowed == Tryz.pinned.checked.prog.unfollowed 8)) = true := by kernel_rfl
theorem kf12 : ((Rows.fnDeeperRow.recurses == Tryz.pinned.checked.prog.recurses 8)) = true := by kernel_rfl
theorem kf13 : ((Rows.fnDeeperRow.named == Tryz.pinned.checked.prog.varsNamed 8)) = true := by kernel_rfl
theorem kf14 : ((Rows.fnDeeperRow.maps == (Tryz.f8.params.toList ++ Rows.fnDeeperSpec.plain.varTypes Tryz.pinned.checked.prog).any (Tryz.pinned.checked.prog.mapsRec ·))) = true := by kernel_rfl
theorem kf15 : ((Rows.fnDeeperRow.ifaces == (Tryz.f8.params.toList ++ Rows.fnDeeperSpec.plain.varTypes Tryz.pinned.checked.prog).any (Tryz.pinned.checked.prog.ifacesRec ·))) = true := by kernel_rfl
theorem kf16 : ((Rows.fnDeeperRow.mapsOut == Tryz.pinned.checked.prog.mapsAmong Tryz.f8.resultTypes.toList)) = true := by kernel_rfl
theorem kf17 : ((Rows.fnDeeperRow.loops == (Tryz.f8.params.toList ++ Rows.fnDeeperSpec.plain.varTypes Tryz.pinned.checked.prog).any (Tryz.pinned.checked.prog.loopsFrom ·))) = true := by kernel_rfl
theorem kf18 : ((Rows.fnDeeperRow.wideKeys == (Tryz.f8.params.toList ++ Rows.fnDeeperSpec.plain.varTypes Tryz.pinned.checked.prog ++ Tryz.f8.resultTypes.toList).any (Tryz.pinned.checked.prog.wideKeysFrom ·))) = true := by kernel_rfl
theorem kf19 : (Rows.fnDeeperSpec.vars.all (Tryz.pinned.checked.prog.varReadable ·)) = true := by kernel_rfl
theorem kf20 : (Tryz.f8.resultTypes.all (fun t => Tryz.pinned.checked.prog.readableRec t && decide (t < Tryz.pinned.checked.prog.types.size))) = true := by kernel_rfl
theorem kf21 : ((Rows.fnDeeperRow.ifacesOut == Tryz.f8.resultTypes.toList.any (Tryz.pinned.checked.prog.ifacesRec ·))) = true := by kernel_rfl
theorem kf22 : ((Rows.fnDeeperRow.loopsOut == Tryz.f8.resultTypes.toList.any (Tryz.pinned.checked.prog.loopsFrom ·))) = true := by kernel_rfl
theorem kf24 : (Rows.fnDeeperRow.shortTexts.isNone) = true := by kernel_rfl
theorem kf29 : ((Rows.fnDeeperRow.kinds == (if Rows.fnDeeperRow.domain.isEmpty then [] else Tryz.f8.params.toList.map fun t => match Tryz.pinned.checked.prog.underlying t with | some (.int k) => some k | _ => none))) = true := by kernel_rfl
theorem kf30 : ((Rows.fnDeeperRow.pinned == Rows.fnDeeperRow.pinnedBy)) = true := by kernel_rfl
theorem kf31 : ((Rows.fnDeeperRow.veiled == (Tryz.f8.params.toList ++ Rows.fnDeeperSpec.plain.varTypes Tryz.pinned.checked.prog ++ Tryz.f8.resultTypes.toList).any (Tryz.pinned.checked.prog.veiledRec ·))) = true := by kernel_rfl
theorem kf32 : (Rows.fnDeeperRow.veiledFits Tryz.pinned.checked.prog Tryz.f8.params.toList (Tryz.f8.params.toList ++ Rows.fnDeeperSpec.plain.varTypes Tryz.pinned.checked.prog ++ Tryz.f8.resultTypes.toList)) = true := by kernel_rfl
theorem closed : joinedFacts Tryz.pinned.checked.prog 8 Tryz.f8 Rows.fnDeeperSpec Rows.fnDeeperRow = true :=
  and_t (and_t (and_t (and_t (and_t (and_t (and_t (and_t (and_t (and_t (and_t (and_t (and_t (and_t (and_t (and_t (and_t (and_t (and_t (and_t (and_t (and_t (and_t (and_t (and_t (and_t (and_t (and_t (and_t (and_t (and_t kf1 pf2) pf3) kf4) kf5) kf6) pf7) kf8) pf9) kf10) kf11) kf12) kf13) kf14) kf15) kf16) kf17) kf18) kf19) kf20) kf21) kf22) pf23) kf24) pf25) pf26) pf27) pf28) kf29) kf30) kf31) kf32
theorem row_holds : Rows.FnDeeperSaid :=
  OpenClaim.holds_of_wide 8 Tryz.f8 rfl rfl rfl rfl rfl rfl rfl ⟨rfl, rfl, rfl, rfl, rfl⟩ rfl rfl rfl rfl rfl named Tryz.func8 closed
    (of_decide_eq_true (by kernel_rfl)) (by unfold Func.isWrapper; rw [if_neg (of_decide_eq_false (by kernel_rfl))]; exact ⟨rfl, rfl⟩)
    (fun os started H enc _ => lifted os started H enc)
end Go.Proofs.YtiphcdmjlkngfaaGreatDoor.Deeper
