/- The law Dics: its code returns true; its row and its card, which this claim proves. No condition is added. -/
import Derived.Test.YtokhnaokccjjnaaGreatDoorQDics1
import Derived.Test.YtokhnaokccjjnaaGreatDoorRP
set_option linter.all false
namespace Go.Proofs.YtokhnaokccjjnaaGreatDoor.DictsOf
open Go Go.Isea Go.ChangeShapes Go.WideShapes Go.ChangeAt Go.RowKit Go.Deep
set_option maxRecDepth 100000
set_option maxHeartbeats 4000000
theorem named : Tryz.prog.funcNamed "loop.example/instancesearch/laws.FnExactDictsOf" = some 14 := by kernel_rfl
theorem kf1 : (Rows.fnExactDictsOfRow.wf (OpenSpec.ofChange Rows.fnExactDictsOfSpec)) = true := by kernel_rfl
theorem kf4 : (Tryz.f14.params.all (Tryz.pinned.checked.prog.readableRec ·)) = true := by kernel_rfl
theorem kf5 : (namedTie Tryz.pinned.checked.prog Rows.fnExactDictsOfRow.named Rows.fnExactDictsOfSpec.vars) = true := by kernel_rfl
theorem kf6 : ((Rows.fnExactDictsOfRow.stops == [])) = true := by kernel_rfl
theorem kf8 : ((Rows.fnExactDictsOfRow.knobs == [])) = true := by kernel_rfl
theorem kf10 : ((Rows.fnExactDictsOfRow.inPlace == Tryz.pinned.checked.prog.inPlace 14)) = true := by kernel_rfl
theorem kf11 : ((Rows.fnExactDictsOfRow.unfollowed == Tryz.pinned.checked.prog.unfollowed 14)) = true := by kernel_rfl
theorem kf12 : ((Rows.fnExactDictsOfRow.recurses == Tryz.pinned.checked.prog.recurses 14)) = true := by kernel_rfl
theorem kf13 : ((Rows.fnExactDictsOfRow.named == Tryz.pinned.checked.prog.varsNamed 14)) = true := by kernel_rfl
theorem kf14 : ((Rows.fnExactDictsOfRow.maps == (Tryz.f14.params.toList ++ Rows.fnExactDictsOfSpec.plain.varTypes Tryz.pinned.checked.prog).any (Tryz.pinned.checked.prog.mapsRec ·))) = true := by kernel_rfl
theorem kf15 : ((Rows.fnExactDictsOfRow.ifaces == (Tryz.f14.params.toList ++ Rows.fnExactDictsOfSpec.plain.varTypes Tryz.pinned.checked.prog).any (Tryz.pinned.checked.prog.ifacesRec ·))) = true := by kernel_rfl
theorem kf16 : ((Rows.fnExactDictsOfRow.mapsOut == Tryz.pinned.checked.prog.mapsAmong Tryz.f14.resultTypes.toList)) = true := by kernel_rfl
theorem kf17 : ((Rows.fnExactDictsOfRow.loops == (Tryz.f14.params.toList ++ Rows.fnExactDictsOfSpec.plain.varTypes Tryz.pinned.checked.prog).any (Tryz.pinned.checked.prog.loopsFrom ·))) = true := by kernel_rfl
theorem kf18 : ((Rows.fnExactDictsOfRow.wideKeys == (Tryz.f14.params.toList ++ Rows.fnExactDictsOfSpec.plain.varTypes Tryz.pinned.checked.prog ++ Tryz.f14.resultTypes.toList).any (Tryz.pinned.checked.prog.wideKeysFrom ·))) = true := by kernel_rfl
theorem kf19 : (Rows.fnExactDictsOfSpec.vars.all (Tryz.pinned.checked.prog.varReadable ·)) = true := by kernel_rfl
theorem kf20 : (Tryz.f14.resultTypes.all (fun t => Tryz.pinned.checked.prog.readableRec t && decide (t < Tryz.pinned.checked.prog.types.size))) = true := by kernel_rfl
theorem kf21 : ((Rows.fnExactDictsOfRow.ifacesOut == Tryz.f14.resultTypes.toList.any (Tryz.pinned.checked.prog.ifacesRec ·))) = true := by kernel_rfl
theorem kf22 : ((Rows.fnExactDictsOfRow.loopsOut == Tryz.f14.resultTypes.toList.any (Tryz.pinned.checked.prog.loopsFrom ·))) = true := by kernel_rfl
theorem kf24 : (Rows.fnExactDictsOfRow.shortTexts.isNone) = true := by kernel_rfl
theorem kf29 : ((Rows.fnExactDictsOfRow.kinds == (if Rows.fnExactDictsOfRow.domain.isEmpty then [] else Tryz.f14.params.toList.map fun t => match Tryz.pinned.checked.prog.underlying t with | some (.int k) => some k | _ => none))) = true := by kernel_rfl
theorem kf30 : ((Rows.fnExactDictsOfRow.pinned == Rows.fnExactDictsOfRow.pinnedBy)) = true := by kernel_rfl
theorem kf31 : ((Rows.fnExactDictsOfRow.veiled == (Tryz.f14.params.toList ++ Rows.fnExactDictsOfSpec.plain.varTypes Tryz.pinned.checked.prog ++ Tryz.f14.resultTypes.toList).any (Tryz.pinned.checked.prog.veiledRec ·))) = true := by kernel_rfl
theorem kf32 : (Rows.fnExactDictsOfRow.veiledFits Tryz.pinned.checked.prog Tryz.f14.params.toList (Tryz.f14.params.toList ++ Rows.fnExactDictsOfSpec.plain.varTypes Tryz.pinned.checked.prog ++ Tryz.f14.resultTypes.toList)) = true := by kernel_rfl
theorem closed : joinedFacts Tryz.pinned.checked.prog 14 Tryz.f14 Rows.fnExactDictsOfSpec Rows.fnExactDictsOfRow = true :=
  and_t (and_t (and_t (and_t (and_t (and_t (and_t (and_t (and_t (and_t (and_t (and_t (and_t (and_t (and_t (and_t (and_t (and_t (and_t (and_t (and_t (and_t (and_t (and_t (and_t (and_t (and_t (and_t (and_t (and_t (and_t kf1 pf2) pf3) kf4) kf5) kf6) pf7) kf8) pf9) kf10) kf11) kf12) kf13) kf14) kf15) kf16) kf17) kf18) kf19) kf20) kf21) kf22) pf23) kf24) pf25) pf26) pf27) pf28) kf29) kf30) kf31) kf32
theorem row_holds : Rows.FnExactDictsOfSaid :=
  OpenClaim.holds_of_wide 14 Tryz.f14 rfl rfl rfl rfl rfl rfl rfl ⟨rfl, rfl, rfl, rfl, rfl⟩ rfl rfl rfl rfl rfl named Tryz.func14 closed
    (of_decide_eq_true (by kernel_rfl)) (by unfold Func.isWrapper; rw [if_neg (of_decide_eq_false (by kernel_rfl))]; exact ⟨rfl, rfl⟩)
    (fun os started H enc _ => lifted os started H enc)
end Go.Proofs.YtokhnaokccjjnaaGreatDoor.DictsOf
