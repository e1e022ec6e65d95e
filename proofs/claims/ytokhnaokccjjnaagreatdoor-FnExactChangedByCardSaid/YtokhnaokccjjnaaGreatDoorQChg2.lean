/- The law Chg: its code returns true; its row and its card, which this claim proves. No condition is added. -/
import Derived.Test.YtokhnaokccjjnaaGreatDoorQChg1
import Derived.Test.YtokhnaokccjjnaaGreatDoorRP
set_option linter.all false
namespace Go.Proofs.YtokhnaokccjjnaaGreatDoor.ChangedBy
open Go Go.Isea Go.ChangeShapes Go.WideShapes Go.ChangeAt Go.RowKit Go.Deep
set_option maxRecDepth 100000
set_option maxHeartbeats 4000000
theorem named : Tryz.prog.funcNamed "loop.example/instancesearch/laws.FnExactChangedBy" = some 12 := by kernel_rfl
theorem kf1 : (Rows.fnExactChangedByRow.wf (OpenSpec.ofChange Rows.fnExactChangedBySpec)) = true := by kernel_rfl
theorem kf4 : (Tryz.f12.params.all (Tryz.pinned.checked.prog.readableRec ·)) = true := by kernel_rfl
theorem kf5 : (namedTie Tryz.pinned.checked.prog Rows.fnExactChangedByRow.named Rows.fnExactChangedBySpec.vars) = true := by kernel_rfl
theorem kf6 : ((Rows.fnExactChangedByRow.stops == [])) = true := by kernel_rfl
theorem kf8 : ((Rows.fnExactChangedByRow.knobs == [])) = true := by kernel_rfl
theorem kf10 : ((Rows.fnExactChangedByRow.inPlace == Tryz.pinned.checked.prog.inPlace 12)) = true := by kernel_rfl
theorem kf11 : ((Rows.fnExactChangedByRow.unfollowed == Tryz.pinned.checked.prog.unfollowed 12)) = true := by kernel_rfl
theorem kf12 : ((Rows.fnExactChangedByRow.recurses == Tryz.pinned.checked.prog.recurses 12)) = true := by kernel_rfl
theorem kf13 : ((Rows.fnExactChangedByRow.named == Tryz.pinned.checked.prog.varsNamed 12)) = true := by kernel_rfl
theorem kf14 : ((Rows.fnExactChangedByRow.maps == (Tryz.f12.params.toList ++ Rows.fnExactChangedBySpec.plain.varTypes Tryz.pinned.checked.prog).any (Tryz.pinned.checked.prog.mapsRec ·))) = true := by kernel_rfl
theorem kf15 : ((Rows.fnExactChangedByRow.ifaces == (Tryz.f12.params.toList ++ Rows.fnExactChangedBySpec.plain.varTypes Tryz.pinned.checked.prog).any (Tryz.pinned.checked.prog.ifacesRec ·))) = true := by kernel_rfl
theorem kf16 : ((Rows.fnExactChangedByRow.mapsOut == Tryz.pinned.checked.prog.mapsAmong Tryz.f12.resultTypes.toList)) = true := by kernel_rfl
theorem kf17 : ((Rows.fnExactChangedByRow.loops == (Tryz.f12.params.toList ++ Rows.fnExactChangedBySpec.plain.varTypes Tryz.pinned.checked.prog).any (Tryz.pinned.checked.prog.loopsFrom ·))) = true := by kernel_rfl
theorem kf18 : ((Rows.fnExactChangedByRow.wideKeys == (Tryz.f12.params.toList ++ Rows.fnExactChangedBySpec.plain.varTypes Tryz.pinned.checked.prog ++ Tryz.f12.resultTypes.toList).any (Tryz.pinned.checked.prog.wideKeysFrom ·))) = true := by kernel_rfl
theorem kf19 : (Rows.fnExactChangedBySpec.vars.all (Tryz.pinned.checked.prog.varReadable ·)) = true := by kernel_rfl
theorem kf20 : (Tryz.f12.resultTypes.all (fun t => Tryz.pinned.checked.prog.readableRec t && decide (t < Tryz.pinned.checked.prog.types.size))) = true := by kernel_rfl
theorem kf21 : ((Rows.fnExactChangedByRow.ifacesOut == Tryz.f12.resultTypes.toList.any (Tryz.pinned.checked.prog.ifacesRec ·))) = true := by kernel_rfl
theorem kf22 : ((Rows.fnExactChangedByRow.loopsOut == Tryz.f12.resultTypes.toList.any (Tryz.pinned.checked.prog.loopsFrom ·))) = true := by kernel_rfl
theorem kf24 : (Rows.fnExactChangedByRow.shortTexts.isNone) = true := by kernel_rfl
theorem kf29 : ((Rows.fnExactChangedByRow.kinds == (if Rows.fnExactChangedByRow.domain.isEmpty then [] else Tryz.f12.params.toList.map fun t => match Tryz.pinned.checked.prog.underlying t with | some (.int k) => some k | _ => none))) = true := by kernel_rfl
theorem kf30 : ((Rows.fnExactChangedByRow.pinned == Rows.fnExactChangedByRow.pinnedBy)) = true := by kernel_rfl
theorem kf31 : ((Rows.fnExactChangedByRow.veiled == (Tryz.f12.params.toList ++ Rows.fnExactChangedBySpec.plain.varTypes Tryz.pinned.checked.prog ++ Tryz.f12.resultTypes.toList).any (Tryz.pinned.checked.prog.veiledRec ·))) = true := by kernel_rfl
theorem kf32 : (Rows.fnExactChangedByRow.veiledFits Tryz.pinned.checked.prog Tryz.f12.params.toList (Tryz.f12.params.toList ++ Rows.fnExactChangedBySpec.plain.varTypes Tryz.pinned.checked.prog ++ Tryz.f12.resultTypes.toList)) = true := by kernel_rfl
theorem closed : joinedFacts Tryz.pinned.checked.prog 12 Tryz.f12 Rows.fnExactChangedBySpec Rows.fnExactChangedByRow = true :=
  and_t (and_t (and_t (and_t (and_t (and_t (and_t (and_t (and_t (and_t (and_t (and_t (and_t (and_t (and_t (and_t (and_t (and_t (and_t (and_t (and_t (and_t (and_t (and_t (and_t (and_t (and_t (and_t (and_t (and_t (and_t kf1 pf2) pf3) kf4) kf5) kf6) pf7) kf8) pf9) kf10) kf11) kf12) kf13) kf14) kf15) kf16) kf17) kf18) kf19) kf20) kf21) kf22) pf23) kf24) pf25) pf26) pf27) pf28) kf29) kf30) kf31) kf32
theorem row_holds : Rows.FnExactChangedBySaid :=
  OpenClaim.holds_of_wide 12 Tryz.f12 rfl rfl rfl rfl rfl rfl rfl ⟨rfl, rfl, rfl, rfl, rfl⟩ rfl rfl rfl rfl rfl named Tryz.func12 closed
    (of_decide_eq_true (by kernel_rfl)) (by unfold Func.isWrapper; rw [if_neg (of_decide_eq_false (by kernel_rfl))]; exact ⟨rfl, rfl⟩)
    (fun os started H enc _ => lifted os started H enc)
end Go.Proofs.YtokhnaokccjjnaaGreatDoor.ChangedBy
