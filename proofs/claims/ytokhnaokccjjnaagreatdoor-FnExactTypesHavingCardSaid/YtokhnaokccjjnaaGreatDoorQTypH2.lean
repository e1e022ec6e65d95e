/- The law TypH: its code returns true; its row and its card, which this claim proves. No condition is added. -/
import Derived.Test.YtokhnaokccjjnaaGreatDoorQTypH1
import Derived.Test.YtokhnaokccjjnaaGreatDoorRP
set_option linter.all false
namespace Go.Proofs.YtokhnaokccjjnaaGreatDoor.TypesHaving
open Go Go.Isea Go.ChangeShapes Go.WideShapes Go.ChangeAt Go.RowKit Go.Deep
set_option maxRecDepth 100000
set_option maxHeartbeats 4000000
theorem named : Tryz.prog.funcNamed "loop.example/instancesearch/laws.FnExactTypesHaving" = some 10 := by kernel_rfl
theorem kf1 : (Rows.fnExactTypesHavingRow.wf (OpenSpec.ofChange Rows.fnExactTypesHavingSpec)) = true := by kernel_rfl
theorem kf4 : (Tryz.f10.params.all (Tryz.pinned.checked.prog.readableRec ·)) = true := by kernel_rfl
theorem kf5 : (namedTie Tryz.pinned.checked.prog Rows.fnExactTypesHavingRow.named Rows.fnExactTypesHavingSpec.vars) = true := by kernel_rfl
theorem kf6 : ((Rows.fnExactTypesHavingRow.stops == [])) = true := by kernel_rfl
theorem kf8 : ((Rows.fnExactTypesHavingRow.knobs == [])) = true := by kernel_rfl
theorem kf10 : ((Rows.fnExactTypesHavingRow.inPlace == Tryz.pinned.checked.prog.inPlace 10)) = true := by kernel_rfl
theorem kf11 : ((Rows.fnExactTypesHavingRow.unfollowed == Tryz.pinned.checked.prog.unfollowed 10)) = true := by kernel_rfl
theorem kf12 : ((Rows.fnExactTypesHavingRow.recurses == Tryz.pinned.checked.prog.recurses 10)) = true := by kernel_rfl
theorem kf13 : ((Rows.fnExactTypesHavingRow.named == Tryz.pinned.checked.prog.varsNamed 10)) = true := by kernel_rfl
theorem kf14 : ((Rows.fnExactTypesHavingRow.maps == (Tryz.f10.params.toList ++ Rows.fnExactTypesHavingSpec.plain.varTypes Tryz.pinned.checked.prog).any (Tryz.pinned.checked.prog.mapsRec ·))) = true := by kernel_rfl
theorem kf15 : ((Rows.fnExactTypesHavingRow.ifaces == (Tryz.f10.params.toList ++ Rows.fnExactTypesHavingSpec.plain.varTypes Tryz.pinned.checked.prog).any (Tryz.pinned.checked.prog.ifacesRec ·))) = true := by kernel_rfl
theorem kf16 : ((Rows.fnExactTypesHavingRow.mapsOut == Tryz.pinned.checked.prog.mapsAmong Tryz.f10.resultTypes.toList)) = true := by kernel_rfl
theorem kf17 : ((Rows.fnExactTypesHavingRow.loops == (Tryz.f10.params.toList ++ Rows.fnExactTypesHavingSpec.plain.varTypes Tryz.pinned.checked.prog).any (Tryz.pinned.checked.prog.loopsFrom ·))) = true := by kernel_rfl
theorem kf18 : ((Rows.fnExactTypesHavingRow.wideKeys == (Tryz.f10.params.toList ++ Rows.fnExactTypesHavingSpec.plain.varTypes Tryz.pinned.checked.prog ++ Tryz.f10.resultTypes.toList).any (Tryz.pinned.checked.prog.wideKeysFrom ·))) = true := by kernel_rfl
theorem kf19 : (Rows.fnExactTypesHavingSpec.vars.all (Tryz.pinned.checked.prog.varReadable ·)) = true := by kernel_rfl
theorem kf20 : (Tryz.f10.resultTypes.all (fun t => Tryz.pinned.checked.prog.readableRec t && decide (t < Tryz.pinned.checked.prog.types.size))) = true := by kernel_rfl
theorem kf21 : ((Rows.fnExactTypesHavingRow.ifacesOut == Tryz.f10.resultTypes.toList.any (Tryz.pinned.checked.prog.ifacesRec ·))) = true := by kernel_rfl
theorem kf22 : ((Rows.fnExactTypesHavingRow.loopsOut == Tryz.f10.resultTypes.toList.any (Tryz.pinned.checked.prog.loopsFrom ·))) = true := by kernel_rfl
theorem kf24 : (Rows.fnExactTypesHavingRow.shortTexts.isNone) = true := by kernel_rfl
theorem kf29 : ((Rows.fnExactTypesHavingRow.kinds == (if Rows.fnExactTypesHavingRow.domain.isEmpty then [] else Tryz.f10.params.toList.map fun t => match Tryz.pinned.checked.prog.underlying t with | some (.int k) => some k | _ => none))) = true := by kernel_rfl
theorem kf30 : ((Rows.fnExactTypesHavingRow.pinned == Rows.fnExactTypesHavingRow.pinnedBy)) = true := by kernel_rfl
theorem kf31 : ((Rows.fnExactTypesHavingRow.veiled == (Tryz.f10.params.toList ++ Rows.fnExactTypesHavingSpec.plain.varTypes Tryz.pinned.checked.prog ++ Tryz.f10.resultTypes.toList).any (Tryz.pinned.checked.prog.veiledRec ·))) = true := by kernel_rfl
theorem kf32 : (Rows.fnExactTypesHavingRow.veiledFits Tryz.pinned.checked.prog Tryz.f10.params.toList (Tryz.f10.params.toList ++ Rows.fnExactTypesHavingSpec.plain.varTypes Tryz.pinned.checked.prog ++ Tryz.f10.resultTypes.toList)) = true := by kernel_rfl
theorem closed : joinedFacts Tryz.pinned.checked.prog 10 Tryz.f10 Rows.fnExactTypesHavingSpec Rows.fnExactTypesHavingRow = true :=
  and_t (and_t (and_t (and_t (and_t (and_t (and_t (and_t (and_t (and_t (and_t (and_t (and_t (and_t (and_t (and_t (and_t (and_t (and_t (and_t (and_t (and_t (and_t (and_t (and_t (and_t (and_t (and_t (and_t (and_t (and_t kf1 pf2) pf3) kf4) kf5) kf6) pf7) kf8) pf9) kf10) kf11) kf12) kf13) kf14) kf15) kf16) kf17) kf18) kf19) kf20) kf21) kf22) pf23) kf24) pf25) pf26) pf27) pf28) kf29) kf30) kf31) kf32
theorem row_holds : Rows.FnExactTypesHavingSaid :=
  OpenClaim.holds_of_wide 10 Tryz.f10 rfl rfl rfl rfl rfl rfl rfl ⟨rfl, rfl, rfl, rfl, rfl⟩ rfl rfl rfl rfl rfl named Tryz.func10 closed
    (of_decide_eq_true (by kernel_rfl)) (by unfold Func.isWrapper; rw [if_neg (of_decide_eq_false (by kernel_rfl))]; exact ⟨rfl, rfl⟩)
    (fun os started H enc _ => lifted os started H enc)
end Go.Proofs.YtokhnaokccjjnaaGreatDoor.TypesHaving
