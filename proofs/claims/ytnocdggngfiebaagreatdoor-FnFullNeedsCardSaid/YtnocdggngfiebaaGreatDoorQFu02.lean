/- The law Fu0: its code returns true; its row and its card, which this claim proves. No condition is added. -/
import Derived.Test.YtnocdggngfiebaaGreatDoorQFu01
import Derived.Test.YtnocdggngfiebaaGreatDoorRP
set_option linter.all false
namespace Go.Proofs.YtnocdggngfiebaaGreatDoor.FullNeeds
open Go Go.Isea Go.ChangeShapes Go.WideShapes Go.ChangeAt Go.RowKit Go.Deep
set_option maxRecDepth 100000
set_option maxHeartbeats 4000000
theorem named : Tryz.prog.funcNamed "loop.example/instancesearch/laws.FnFullNeeds" = some 4 := by kernel_rfl
theorem kf1 : (Rows.fnFullNeedsRow.wf (OpenSpec.ofChange Rows.fnFullNeedsSpec)) = true := by kernel_rfl
theorem kf4 : (Tryz.f4.params.all (Tryz.pinned.checked.prog.readableRec ·)) = true := by kernel_rfl
theorem kf5 : (namedTie Tryz.pinned.checked.prog Rows.fnFullNeedsRow.named Rows.fnFullNeedsSpec.vars) = true := by kernel_rfl
theorem kf6 : ((Rows.fnFullNeedsRow.stops == [])) = true := by kernel_rfl
theorem kf8 : ((Rows.fnFullNeedsRow.knobs == [])) = true := by kernel_rfl
theorem kf10 : ((Rows.fnFullNeedsRow.inPlace == Tryz.pinned.checked.prog.inPlace 4)) = true := by kernel_rfl
theorem kf11 : ((Rows.fnFullNeedsRow.unfollowed == Tryz.pinned.checked.prog.unfollowed 4)) = true := by kernel_rfl
theorem kf12 : ((Rows.fnFullNeedsRow.recurses == Tryz.pinned.checked.prog.recurses 4)) = true := by kernel_rfl
theorem kf13 : ((Rows.fnFullNeedsRow.named == Tryz.pinned.checked.prog.varsNamed 4)) = true := by kernel_rfl
theorem kf14 : ((Rows.fnFullNeedsRow.maps == (Tryz.f4.params.toList ++ Rows.fnFullNeedsSpec.plain.varTypes Tryz.pinned.checked.prog).any (Tryz.pinned.checked.prog.mapsRec ·))) = true := by kernel_rfl
theorem kf15 : ((Rows.fnFullNeedsRow.ifaces == (Tryz.f4.params.toList ++ Rows.fnFullNeedsSpec.plain.varTypes Tryz.pinned.checked.prog).any (Tryz.pinned.checked.prog.ifacesRec ·))) = true := by kernel_rfl
theorem kf16 : ((Rows.fnFullNeedsRow.mapsOut == Tryz.pinned.checked.prog.mapsAmong Tryz.f4.resultTypes.toList)) = true := by kernel_rfl
theorem kf17 : ((Rows.fnFullNeedsRow.loops == (Tryz.f4.params.toList ++ Rows.fnFullNeedsSpec.plain.varTypes Tryz.pinned.checked.prog).any (Tryz.pinned.checked.prog.loopsFrom ·))) = true := by kernel_rfl
theorem kf18 : ((Rows.fnFullNeedsRow.wideKeys == (Tryz.f4.params.toList ++ Rows.fnFullNeedsSpec.plain.varTypes Tryz.pinned.checked.prog ++ Tryz.f4.resultTypes.toList).any (Tryz.pinned.checked.prog.wideKeysFrom ·))) = true := by kernel_rfl
theorem kf19 : (Rows.fnFullNeedsSpec.vars.all (Tryz.pinned.checked.prog.varReadable ·)) = true := by kernel_rfl
theorem kf20 : (Tryz.f4.resultTypes.all (fun t => Tryz.pinned.checked.prog.readableRec t && decide (t < Tryz.pinned.checked.prog.types.size))) = true := by kernel_rfl
theorem kf21 : ((Rows.fnFullNeedsRow.ifacesOut == Tryz.f4.resultTypes.toList.any (Tryz.pinned.checked.prog.ifacesRec ·))) = true := by kernel_rfl
theorem kf22 : ((Rows.fnFullNeedsRow.loopsOut == Tryz.f4.resultTypes.toList.any (Tryz.pinned.checked.prog.loopsFrom ·))) = true := by kernel_rfl
theorem kf24 : (Rows.fnFullNeedsRow.shortTexts.isNone) = true := by kernel_rfl
theorem kf29 : ((Rows.fnFullNeedsRow.kinds == (if Rows.fnFullNeedsRow.domain.isEmpty then [] else Tryz.f4.params.toList.map fun t => match Tryz.pinned.checked.prog.underlying t with | some (.int k) => some k | _ => none))) = true := by kernel_rfl
theorem kf30 : ((Rows.fnFullNeedsRow.pinned == Rows.fnFullNeedsRow.pinnedBy)) = true := by kernel_rfl
theorem kf31 : ((Rows.fnFullNeedsRow.veiled == (Tryz.f4.params.toList ++ Rows.fnFullNeedsSpec.plain.varTypes Tryz.pinned.checked.prog ++ Tryz.f4.resultTypes.toList).any (Tryz.pinned.checked.prog.veiledRec ·))) = true := by kernel_rfl
theorem kf32 : (Rows.fnFullNeedsRow.veiledFits Tryz.pinned.checked.prog Tryz.f4.params.toList (Tryz.f4.params.toList ++ Rows.fnFullNeedsSpec.plain.varTypes Tryz.pinned.checked.prog ++ Tryz.f4.resultTypes.toList)) = true := by kernel_rfl
theorem closed : joinedFacts Tryz.pinned.checked.prog 4 Tryz.f4 Rows.fnFullNeedsSpec Rows.fnFullNeedsRow = true :=
  and_t (and_t (and_t (and_t (and_t (and_t (and_t (and_t (and_t (and_t (and_t (and_t (and_t (and_t (and_t (and_t (and_t (and_t (and_t (and_t (and_t (and_t (and_t (and_t (and_t (and_t (and_t (and_t (and_t (and_t (and_t kf1 pf2) pf3) kf4) kf5) kf6) pf7) kf8) pf9) kf10) kf11) kf12) kf13) kf14) kf15) kf16) kf17) kf18) kf19) kf20) kf21) kf22) pf23) kf24) pf25) pf26) pf27) pf28) kf29) kf30) kf31) kf32
theorem row_holds : Rows.FnFullNeedsSaid :=
  OpenClaim.holds_of_wide 4 Tryz.f4 rfl rfl rfl rfl rfl rfl rfl ⟨rfl, rfl, rfl, rfl, rfl⟩ rfl rfl rfl rfl rfl named Tryz.func4 closed
    (of_decide_eq_true (by kernel_rfl)) (by unfold Func.isWrapper; rw [if_neg (of_decide_eq_false (by kernel_rfl))]; exact ⟨rfl, rfl⟩)
    (fun os started H enc _ => lifted os started H enc)
end Go.Proofs.YtnocdggngfiebaaGreatDoor.FullNeeds
