/- The law FGv: its code returns true; its row and its card, which this claim proves. No condition is added. -/
import Derived.Test.YtnocdggngfiebaaGreatDoorQFGv1
import Derived.Test.YtnocdggngfiebaaGreatDoorRP
set_option linter.all false
namespace Go.Proofs.YtnocdggngfiebaaGreatDoor.FindGiven
open Go Go.Isea Go.ChangeShapes Go.WideShapes Go.ChangeAt Go.RowKit Go.Deep
set_option maxRecDepth 100000
set_option maxHeartbeats 4000000
theorem named : Tryz.prog.funcNamed "loop.example/instancesearch/laws.FnFindGiven" = some 6 := by kernel_rfl
theorem kf1 : (Rows.fnFindGivenRow.wf (OpenSpec.ofChange Rows.fnFindGivenSpec)) = true := by kernel_rfl
theorem kf4 : (Tryz.f6.params.all (Tryz.pinned.checked.prog.readableRec ·)) = true := by kernel_rfl
theorem kf5 : (namedTie Tryz.pinned.checked.prog Rows.fnFindGivenRow.named Rows.fnFindGivenSpec.vars) = true := by kernel_rfl
theorem kf6 : ((Rows.fnFindGivenRow.stops == [])) = true := by kernel_rfl
theorem kf8 : ((Rows.fnFindGivenRow.knobs == [])) = true := by kernel_rfl
theorem kf10 : ((Rows.fnFindGivenRow.inPlace == Tryz.pinned.checked.prog.inPlace 6)) = true := by kernel_rfl
theorem kf11 : ((Rows.fnFindGivenRow.unfollowed == Tryz.pinned.checked.prog.unfollowed 6)) = true := by kernel_rfl
theorem kf12 : ((Rows.fnFindGivenRow.recurses == Tryz.pinned.checked.prog.recurses 6)) = true := by kernel_rfl
theorem kf13 : ((Rows.fnFindGivenRow.named == Tryz.pinned.checked.prog.varsNamed 6)) = true := by kernel_rfl
theorem kf14 : ((Rows.fnFindGivenRow.maps == (Tryz.f6.params.toList ++ Rows.fnFindGivenSpec.plain.varTypes Tryz.pinned.checked.prog).any (Tryz.pinned.checked.prog.mapsRec ·))) = true := by kernel_rfl
theorem kf15 : ((Rows.fnFindGivenRow.ifaces == (Tryz.f6.params.toList ++ Rows.fnFindGivenSpec.plain.varTypes Tryz.pinned.checked.prog).any (Tryz.pinned.checked.prog.ifacesRec ·))) = true := by kernel_rfl
theorem kf16 : ((Rows.fnFindGivenRow.mapsOut == Tryz.pinned.checked.prog.mapsAmong Tryz.f6.resultTypes.toList)) = true := by kernel_rfl
theorem kf17 : ((Rows.fnFindGivenRow.loops == (Tryz.f6.params.toList ++ Rows.fnFindGivenSpec.plain.varTypes Tryz.pinned.checked.prog).any (Tryz.pinned.checked.prog.loopsFrom ·))) = true := by kernel_rfl
theorem kf18 : ((Rows.fnFindGivenRow.wideKeys == (Tryz.f6.params.toList ++ Rows.fnFindGivenSpec.plain.varTypes Tryz.pinned.checked.prog ++ Tryz.f6.resultTypes.toList).any (Tryz.pinned.checked.prog.wideKeysFrom ·))) = true := by kernel_rfl
theorem kf19 : (Rows.fnFindGivenSpec.vars.all (Tryz.pinned.checked.prog.varReadable ·)) = true := by kernel_rfl
theorem kf20 : (Tryz.f6.resultTypes.all (fun t => Tryz.pinned.checked.prog.readableRec t && decide (t < Tryz.pinned.checked.prog.types.size))) = true := by kernel_rfl
theorem kf21 : ((Rows.fnFindGivenRow.ifacesOut == Tryz.f6.resultTypes.toList.any (Tryz.pinned.checked.prog.ifacesRec ·))) = true := by kernel_rfl
theorem kf22 : ((Rows.fnFindGivenRow.loopsOut == Tryz.f6.resultTypes.toList.any (Tryz.pinned.checked.prog.loopsFrom ·))) = true := by kernel_rfl
theorem kf24 : (Rows.fnFindGivenRow.shortTexts.isNone) = true := by kernel_rfl
theorem kf29 : ((Rows.fnFindGivenRow.kinds == (if Rows.fnFindGivenRow.domain.isEmpty then [] else Tryz.f6.params.toList.map fun t => match Tryz.pinned.checked.prog.underlying t with | some (.int k) => some k | _ => none))) = true := by kernel_rfl
theorem kf30 : ((Rows.fnFindGivenRow.pinned == Rows.fnFindGivenRow.pinnedBy)) = true := by kernel_rfl
theorem kf31 : ((Rows.fnFindGivenRow.veiled == (Tryz.f6.params.toList ++ Rows.fnFindGivenSpec.plain.varTypes Tryz.pinned.checked.prog ++ Tryz.f6.resultTypes.toList).any (Tryz.pinned.checked.prog.veiledRec ·))) = true := by kernel_rfl
theorem kf32 : (Rows.fnFindGivenRow.veiledFits Tryz.pinned.checked.prog Tryz.f6.params.toList (Tryz.f6.params.toList ++ Rows.fnFindGivenSpec.plain.varTypes Tryz.pinned.checked.prog ++ Tryz.f6.resultTypes.toList)) = true := by kernel_rfl
theorem closed : joinedFacts Tryz.pinned.checked.prog 6 Tryz.f6 Rows.fnFindGivenSpec Rows.fnFindGivenRow = true :=
  and_t (and_t (and_t (and_t (and_t (and_t (and_t (and_t (and_t (and_t (and_t (and_t (and_t (and_t (and_t (and_t (and_t (and_t (and_t (and_t (and_t (and_t (and_t (and_t (and_t (and_t (and_t (and_t (and_t (and_t (and_t kf1 pf2) pf3) kf4) kf5) kf6) pf7) kf8) pf9) kf10) kf11) kf12) kf13) kf14) kf15) kf16) kf17) kf18) kf19) kf20) kf21) kf22) pf23) kf24) pf25) pf26) pf27) pf28) kf29) kf30) kf31) kf32
theorem row_holds : Rows.FnFindGivenSaid :=
  OpenClaim.holds_of_wide 6 Tryz.f6 rfl rfl rfl rfl rfl rfl rfl ⟨rfl, rfl, rfl, rfl, rfl⟩ rfl rfl rfl rfl rfl named Tryz.func6 closed
    (of_decide_eq_true (by kernel_rfl)) (by unfold Func.isWrapper; rw [if_neg (of_decide_eq_false (by kernel_rfl))]; exact ⟨rfl, rfl⟩)
    (fun os started H enc _ => lifted os started H enc)
end Go.Proofs.YtnocdggngfiebaaGreatDoor.FindGiven
