/- The law Gps: its code returns true; its row and its card, which this claim proves. No condition is added. -/
import Derived.Test.YtnocdggngfiebaaGreatDoorQGps1
import Derived.Test.YtnocdggngfiebaaGreatDoorRP
set_option linter.all false
namespace Go.Proofs.YtnocdggngfiebaaGreatDoor.GapsOf
open Go Go.Isea Go.ChangeShapes Go.WideShapes Go.ChangeAt Go.RowKit Go.Deep
set_option maxRecDepth 100000
set_option maxHeartbeats 4000000
theorem named : Tryz.prog.funcNamed "loop.example/instancesearch/laws.FnGapsOf" = some 5 := by kernel_rfl
theorem kf1 : (Rows.fnGapsOfRow.wf (OpenSpec.ofChange Rows.fnGapsOfSpec)) = true := by kernel_rfl
theorem kf4 : (Tryz.f5.params.all (Tryz.pinned.checked.prog.readableRec ·)) = true := by kernel_rfl
theorem kf5 : (namedTie Tryz.pinned.checked.prog Rows.fnGapsOfRow.named Rows.fnGapsOfSpec.vars) = true := by kernel_rfl
theorem kf6 : ((Rows.fnGapsOfRow.stops == [])) = true := by kernel_rfl
theorem kf8 : ((Rows.fnGapsOfRow.knobs == [])) = true := by kernel_rfl
theorem kf10 : ((Rows.fnGapsOfRow.inPlace == Tryz.pinned.checked.prog.inPlace 5)) = true := by kernel_rfl
theorem kf11 : ((Rows.fnGapsOfRow.unfollowed == Tryz.pinned.checked.prog.unfollowed 5)) = true := by kernel_rfl
theorem kf12 : ((Rows.fnGapsOfRow.recurses == Tryz.pinned.checked.prog.recurses 5)) = true := by kernel_rfl
theorem kf13 : ((Rows.fnGapsOfRow.named == Tryz.pinned.checked.prog.varsNamed 5)) = true := by kernel_rfl
theorem kf14 : ((Rows.fnGapsOfRow.maps == (Tryz.f5.params.toList ++ Rows.fnGapsOfSpec.plain.varTypes Tryz.pinned.checked.prog).any (Tryz.pinned.checked.prog.mapsRec ·))) = true := by kernel_rfl
theorem kf15 : ((Rows.fnGapsOfRow.ifaces == (Tryz.f5.params.toList ++ Rows.fnGapsOfSpec.plain.varTypes Tryz.pinned.checked.prog).any (Tryz.pinned.checked.prog.ifacesRec ·))) = true := by kernel_rfl
theorem kf16 : ((Rows.fnGapsOfRow.mapsOut == Tryz.pinned.checked.prog.mapsAmong Tryz.f5.resultTypes.toList)) = true := by kernel_rfl
theorem kf17 : ((Rows.fnGapsOfRow.loops == (Tryz.f5.params.toList ++ Rows.fnGapsOfSpec.plain.varTypes Tryz.pinned.checked.prog).any (Tryz.pinned.checked.prog.loopsFrom ·))) = true := by kernel_rfl
theorem kf18 : ((Rows.fnGapsOfRow.wideKeys == (Tryz.f5.params.toList ++ Rows.fnGapsOfSpec.plain.varTypes Tryz.pinned.checked.prog ++ Tryz.f5.resultTypes.toList).any (Tryz.pinned.checked.prog.wideKeysFrom ·))) = true := by kernel_rfl
theorem kf19 : (Rows.fnGapsOfSpec.vars.all (Tryz.pinned.checked.prog.varReadable ·)) = true := by kernel_rfl
theorem kf20 : (Tryz.f5.resultTypes.all (fun t => Tryz.pinned.checked.prog.readableRec t && decide (t < Tryz.pinned.checked.prog.types.size))) = true := by kernel_rfl
theorem kf21 : ((Rows.fnGapsOfRow.ifacesOut == Tryz.f5.resultTypes.toList.any (Tryz.pinned.checked.prog.ifacesRec ·))) = true := by kernel_rfl
theorem kf22 : ((Rows.fnGapsOfRow.loopsOut == Tryz.f5.resultTypes.toList.any (Tryz.pinned.checked.prog.loopsFrom ·))) = true := by kernel_rfl
theorem kf24 : (Rows.fnGapsOfRow.shortTexts.isNone) = true := by kernel_rfl
theorem kf29 : ((Rows.fnGapsOfRow.kinds == (if Rows.fnGapsOfRow.domain.isEmpty then [] else Tryz.f5.params.toList.map fun t => match Tryz.pinned.checked.prog.underlying t with | some (.int k) => some k | _ => none))) = true := by kernel_rfl
theorem kf30 : ((Rows.fnGapsOfRow.pinned == Rows.fnGapsOfRow.pinnedBy)) = true := by kernel_rfl
theorem kf31 : ((Rows.fnGapsOfRow.veiled == (Tryz.f5.params.toList ++ Rows.fnGapsOfSpec.plain.varTypes Tryz.pinned.checked.prog ++ Tryz.f5.resultTypes.toList).any (Tryz.pinned.checked.prog.veiledRec ·))) = true := by kernel_rfl
theorem kf32 : (Rows.fnGapsOfRow.veiledFits Tryz.pinned.checked.prog Tryz.f5.params.toList (Tryz.f5.params.toList ++ Rows.fnGapsOfSpec.plain.varTypes Tryz.pinned.checked.prog ++ Tryz.f5.resultTypes.toList)) = true := by kernel_rfl
theorem closed : joinedFacts Tryz.pinned.checked.prog 5 Tryz.f5 Rows.fnGapsOfSpec Rows.fnGapsOfRow = true :=
  and_t (and_t (and_t (and_t (and_t (and_t (and_t (and_t (and_t (and_t (and_t (and_t (and_t (and_t (and_t (and_t (and_t (and_t (and_t (and_t (and_t (and_t (and_t (and_t (and_t (and_t (and_t (and_t (and_t (and_t (and_t kf1 pf2) pf3) kf4) kf5) kf6) pf7) kf8) pf9) kf10) kf11) kf12) kf13) kf14) kf15) kf16) kf17) kf18) kf19) kf20) kf21) kf22) pf23) kf24) pf25) pf26) pf27) pf28) kf29) kf30) kf31) kf32
theorem row_holds : Rows.FnGapsOfSaid :=
  OpenClaim.holds_of_wide 5 Tryz.f5 rfl rfl rfl rfl rfl rfl rfl ⟨rfl, rfl, rfl, rfl, rfl⟩ rfl rfl rfl rfl rfl named Tryz.func5 closed
    (of_decide_eq_true (by kernel_rfl)) (by unfold Func.isWrapper; rw [if_neg (of_decide_eq_false (by kernel_rfl))]; exact ⟨rfl, rfl⟩)
    (fun os started H enc _ => lifted os started H enc)
end Go.Proofs.YtnocdggngfiebaaGreatDoor.GapsOf
