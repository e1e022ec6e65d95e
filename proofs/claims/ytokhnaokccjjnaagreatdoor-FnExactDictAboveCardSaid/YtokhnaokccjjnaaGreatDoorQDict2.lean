/- The law Dict: its code returns true; its row and its card, which this claim proves. No condition is added. -/
import Derived.Test.YtokhnaokccjjnaaGreatDoorQDict1
import Derived.Test.YtokhnaokccjjnaaGreatDoorRP
set_option linter.all false
namespace Go.Proofs.YtokhnaokccjjnaaGreatDoor.DictAbove
open Go Go.Isea Go.ChangeShapes Go.WideShapes Go.ChangeAt Go.RowKit Go.Deep
set_option maxRecDepth 100000
set_option maxHeartbeats 4000000
theorem named : Tryz.prog.funcNamed "loop.example/instancesearch/laws.FnExactDictAbove" = some 5 := by kernel_rfl
theorem kf1 : (Rows.fnExactDictAboveRow.wf (OpenSpec.ofChange Rows.fnExactDictAboveSpec)) = true := by kernel_rfl
theorem kf4 : (Tryz.f5.params.all (Tryz.pinned.checked.prog.readableRec ·)) = true := by kernel_rfl
theorem kf5 : (namedTie Tryz.pinned.checked.prog Rows.fnExactDictAboveRow.named Rows.fnExactDictAboveSpec.vars) = true := by kernel_rfl
theorem kf6 : ((Rows.fnExactDictAboveRow.stops == [])) = true := by kernel_rfl
theorem kf8 : ((Rows.fnExactDictAboveRow.knobs == [])) = true := by kernel_rfl
theorem kf10 : ((Rows.fnExactDictAboveRow.inPlace == Tryz.pinned.checked.prog.inPlace 5)) = true := by kernel_rfl
theorem kf11 : ((Rows.fnExactDictAboveRow.unfollowed == Tryz.pinned.checked.prog.unfollowed 5)) = true := by kernel_rfl
theorem kf12 : ((Rows.fnExactDictAboveRow.recurses == Tryz.pinned.checked.prog.recurses 5)) = true := by kernel_rfl
theorem kf13 : ((Rows.fnExactDictAboveRow.named == Tryz.pinned.checked.prog.varsNamed 5)) = true := by kernel_rfl
theorem kf14 : ((Rows.fnExactDictAboveRow.maps == (Tryz.f5.params.toList ++ Rows.fnExactDictAboveSpec.plain.varTypes Tryz.pinned.checked.prog).any (Tryz.pinned.checked.prog.mapsRec ·))) = true := by kernel_rfl
theorem kf15 : ((Rows.fnExactDictAboveRow.ifaces == (Tryz.f5.params.toList ++ Rows.fnExactDictAboveSpec.plain.varTypes Tryz.pinned.checked.prog).any (Tryz.pinned.checked.prog.ifacesRec ·))) = true := by kernel_rfl
theorem kf16 : ((Rows.fnExactDictAboveRow.mapsOut == Tryz.pinned.checked.prog.mapsAmong Tryz.f5.resultTypes.toList)) = true := by kernel_rfl
theorem kf17 : ((Rows.fnExactDictAboveRow.loops == (Tryz.f5.params.toList ++ Rows.fnExactDictAboveSpec.plain.varTypes Tryz.pinned.checked.prog).any (Tryz.pinned.checked.prog.loopsFrom ·))) = true := by kernel_rfl
theorem kf18 : ((Rows.fnExactDictAboveRow.wideKeys == (Tryz.f5.params.toList ++ Rows.fnExactDictAboveSpec.plain.varTypes Tryz.pinned.checked.prog ++ Tryz.f5.resultTypes.toList).any (Tryz.pinned.checked.prog.wideKeysFrom ·))) = true := by kernel_rfl
theorem kf19 : (Rows.fnExactDictAboveSpec.vars.all (Tryz.pinned.checked.prog.varReadable ·)) = true := by kernel_rfl
theorem kf20 : (Tryz.f5.resultTypes.all (fun t => Tryz.pinned.checked.prog.readableRec t && decide (t < Tryz.pinned.checked.prog.types.size))) = true := by kernel_rfl
theorem kf21 : ((Rows.fnExactDictAboveRow.ifacesOut == Tryz.f5.resultTypes.toList.any (Tryz.pinned.checked.prog.ifacesRec ·))) = true := by kernel_rfl
theorem kf22 : ((Rows.fnExactDictAboveRow.loopsOut == Tryz.f5.resultTypes.toList.any (Tryz.pinned.checked.prog.loopsFrom ·))) = true := by kernel_rfl
theorem kf24 : (Rows.fnExactDictAboveRow.shortTexts.isNone) = true := by kernel_rfl
theorem kf29 : ((Rows.fnExactDictAboveRow.kinds == (if Rows.fnExactDictAboveRow.domain.isEmpty then [] else Tryz.f5.params.toList.map fun t => match Tryz.pinned.checked.prog.underlying t with | some (.int k) => some k | _ => none))) = true := by kernel_rfl
theorem kf30 : ((Rows.fnExactDictAboveRow.pinned == Rows.fnExactDictAboveRow.pinnedBy)) = true := by kernel_rfl
theorem kf31 : ((Rows.fnExactDictAboveRow.veiled == (Tryz.f5.params.toList ++ Rows.fnExactDictAboveSpec.plain.varTypes Tryz.pinned.checked.prog ++ Tryz.f5.resultTypes.toList).any (Tryz.pinned.checked.prog.veiledRec ·))) = true := by kernel_rfl
theorem kf32 : (Rows.fnExactDictAboveRow.veiledFits Tryz.pinned.checked.prog Tryz.f5.params.toList (Tryz.f5.params.toList ++ Rows.fnExactDictAboveSpec.plain.varTypes Tryz.pinned.checked.prog ++ Tryz.f5.resultTypes.toList)) = true := by kernel_rfl
theorem closed : joinedFacts Tryz.pinned.checked.prog 5 Tryz.f5 Rows.fnExactDictAboveSpec Rows.fnExactDictAboveRow = true :=
  and_t (and_t (and_t (and_t (and_t (and_t (and_t (and_t (and_t (and_t (and_t (and_t (and_t (and_t (and_t (and_t (and_t (and_t (and_t (and_t (and_t (and_t (and_t (and_t (and_t (and_t (and_t (and_t (and_t (and_t (and_t kf1 pf2) pf3) kf4) kf5) kf6) pf7) kf8) pf9) kf10) kf11) kf12) kf13) kf14) kf15) kf16) kf17) kf18) kf19) kf20) kf21) kf22) pf23) kf24) pf25) pf26) pf27) pf28) kf29) kf30) kf31) kf32
theorem row_holds : Rows.FnExactDictAboveSaid :=
  OpenClaim.holds_of_wide 5 Tryz.f5 rfl rfl rfl rfl rfl rfl rfl ⟨rfl, rfl, rfl, rfl, rfl⟩ rfl rfl rfl rfl rfl named Tryz.func5 closed
    (of_decide_eq_true (by kernel_rfl)) (by unfold Func.isWrapper; rw [if_neg (of_decide_eq_false (by kernel_rfl))]; exact ⟨rfl, rfl⟩)
    (fun os started H enc _ => lifted os started H enc)
end Go.Proofs.YtokhnaokccjjnaaGreatDoor.DictAbove
