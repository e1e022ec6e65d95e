/- The law Evid: its code returns true; its row and its card, which this claim proves. No condition is added. -/
import Derived.Test.YtokhnaokccjjnaaGreatDoorQEvid1
import Derived.Test.YtokhnaokccjjnaaGreatDoorRP
set_option linter.all false
namespace Go.Proofs.YtokhnaokccjjnaaGreatDoor.EvidenceAbove
open Go Go.Isea Go.ChangeShapes Go.WideShapes Go.ChangeAt Go.RowKit Go.Deep
set_option maxRecDepth 100000
set_option maxHeartbeats 4000000
theorem named : Tryz.prog.funcNamed "loop.example/instancesearch/laws.FnExactEvidenceAbove" = some 3 := by kernel_rfl
theorem kf1 : (Rows.fnExactEvidenceAboveRow.wf (OpenSpec.ofChange Rows.fnExactEvidenceAboveSpec)) = true := by kernel_rfl
theorem kf4 : (Tryz.f3.params.all (Tryz.pinned.checked.prog.readableRec ·)) = true := by kernel_rfl
theorem kf5 : (namedTie Tryz.pinned.checked.prog Rows.fnExactEvidenceAboveRow.named Rows.fnExactEvidenceAboveSpec.vars) = true := by kernel_rfl
theorem kf6 : ((Rows.fnExactEvidenceAboveRow.stops == [])) = true := by kernel_rfl
theorem kf8 : ((Rows.fnExactEvidenceAboveRow.knobs == [])) = true := by kernel_rfl
theorem kf10 : ((Rows.fnExactEvidenceAboveRow.inPlace == Tryz.pinned.checked.prog.inPlace 3)) = true := by kernel_rfl
theorem kf11 : ((Rows.fnExactEvidenceAboveRow.unfollowed == Tryz.pinned.checked.prog.unfollowed 3)) = true := by kernel_rfl
theorem kf12 : ((Rows.fnExactEvidenceAboveRow.recurses == Tryz.pinned.checked.prog.recurses 3)) = true := by kernel_rfl
theorem kf13 : ((Rows.fnExactEvidenceAboveRow.named == Tryz.pinned.checked.prog.varsNamed 3)) = true := by kernel_rfl
theorem kf14 : ((Rows.fnExactEvidenceAboveRow.maps == (Tryz.f3.params.toList ++ Rows.fnExactEvidenceAboveSpec.plain.varTypes Tryz.pinned.checked.prog).any (Tryz.pinned.checked.prog.mapsRec ·))) = true := by kernel_rfl
theorem kf15 : ((Rows.fnExactEvidenceAboveRow.ifaces == (Tryz.f3.params.toList ++ Rows.fnExactEvidenceAboveSpec.plain.varTypes Tryz.pinned.checked.prog).any (Tryz.pinned.checked.prog.ifacesRec ·))) = true := by kernel_rfl
theorem kf16 : ((Rows.fnExactEvidenceAboveRow.mapsOut == Tryz.pinned.checked.prog.mapsAmong Tryz.f3.resultTypes.toList)) = true := by kernel_rfl
theorem kf17 : ((Rows.fnExactEvidenceAboveRow.loops == (Tryz.f3.params.toList ++ Rows.fnExactEvidenceAboveSpec.plain.varTypes Tryz.pinned.checked.prog).any (Tryz.pinned.checked.prog.loopsFrom ·))) = true := by kernel_rfl
theorem kf18 : ((Rows.fnExactEvidenceAboveRow.wideKeys == (Tryz.f3.params.toList ++ Rows.fnExactEvidenceAboveSpec.plain.varTypes Tryz.pinned.checked.prog ++ Tryz.f3.resultTypes.toList).any (Tryz.pinned.checked.prog.wideKeysFrom ·))) = true := by kernel_rfl
theorem kf19 : (Rows.fnExactEvidenceAboveSpec.vars.all (Tryz.pinned.checked.prog.varReadable ·)) = true := by kernel_rfl
theorem kf20 : (Tryz.f3.resultTypes.all (fun t => Tryz.pinned.checked.prog.readableRec t && decide (t < Tryz.pinned.checked.prog.types.size))) = true := by kernel_rfl
theorem kf21 : ((Rows.fnExactEvidenceAboveRow.ifacesOut == Tryz.f3.resultTypes.toList.any (Tryz.pinned.checked.prog.ifacesRec ·))) = true := by kernel_rfl
theorem kf22 : ((Rows.fnExactEvidenceAboveRow.loopsOut == Tryz.f3.resultTypes.toList.any (Tryz.pinned.checked.prog.loopsFrom ·))) = true := by kernel_rfl
theorem kf24 : (Rows.fnExactEvidenceAboveRow.shortTexts.isNone) = true := by kernel_rfl
theorem kf29 : ((Rows.fnExactEvidenceAboveRow.kinds == (if Rows.fnExactEvidenceAboveRow.domain.isEmpty then [] else Tryz.f3.params.toList.map fun t => match Tryz.pinned.checked.prog.underlying t with | some (.int k) => some k | _ => none))) = true := by kernel_rfl
theorem kf30 : ((Rows.fnExactEvidenceAboveRow.pinned == Rows.fnExactEvidenceAboveRow.pinnedBy)) = true := by kernel_rfl
theorem kf31 : ((Rows.fnExactEvidenceAboveRow.veiled == (Tryz.f3.params.toList ++ Rows.fnExactEvidenceAboveSpec.plain.varTypes Tryz.pinned.checked.prog ++ Tryz.f3.resultTypes.toList).any (Tryz.pinned.checked.prog.veiledRec ·))) = true := by kernel_rfl
theorem kf32 : (Rows.fnExactEvidenceAboveRow.veiledFits Tryz.pinned.checked.prog Tryz.f3.params.toList (Tryz.f3.params.toList ++ Rows.fnExactEvidenceAboveSpec.plain.varTypes Tryz.pinned.checked.prog ++ Tryz.f3.resultTypes.toList)) = true := by kernel_rfl
theorem closed : joinedFacts Tryz.pinned.checked.prog 3 Tryz.f3 Rows.fnExactEvidenceAboveSpec Rows.fnExactEvidenceAboveRow = true :=
  and_t (and_t (and_t (and_t (and_t (and_t (and_t (and_t (and_t (and_t (and_t (and_t (and_t (and_t (and_t (and_t (and_t (and_t (and_t (and_t (and_t (and_t (and_t (and_t (and_t (and_t (and_t (and_t (and_t (and_t (and_t kf1 pf2) pf3) kf4) kf5) kf6) pf7) kf8) pf9) kf10) kf11) kf12) kf13) kf14) kf15) kf16) kf17) kf18) kf19) kf20) kf21) kf22) pf23) kf24) pf25) pf26) pf27) pf28) kf29) kf30) kf31) kf32
theorem row_holds : Rows.FnExactEvidenceAboveSaid :=
  OpenClaim.holds_of_wide 3 Tryz.f3 rfl rfl rfl rfl rfl rfl rfl ⟨rfl, rfl, rfl, rfl, rfl⟩ rfl rfl rfl rfl rfl named Tryz.func3 closed
    (of_decide_eq_true (by kernel_rfl)) (by unfold Func.isWrapper; rw [if_neg (of_decide_eq_false (by kernel_rfl))]; exact ⟨rfl, rfl⟩)
    (fun os started H enc _ => lifted os started H enc)
end Go.Proofs.YtokhnaokccjjnaaGreatDoor.EvidenceAbove
