/- The law Ls0: its code returns true; its row and its card, which this claim proves. No condition is added. -/
import Derived.Test.YtiphcdmjlkngfaaGreatDoorQLs01
import Derived.Test.YtiphcdmjlkngfaaGreatDoorRP
set_option linter.all false
namespace Go.Proofs.YtiphcdmjlkngfaaGreatDoor.LeastDict
open Go Go.Isea Go.ChangeShapes Go.WideShapes Go.ChangeAt Go.RowKit Go.Deep
set_option maxRecDepth 100000
set_option maxHeartbeats 4000000
theorem named : Tryz.prog.funcNamed "loop.example/instancesearch/laws.FnLeastDict" = some 9 := by kernel_rfl
theorem kf1 : (Rows.fnLeastDictRow.wf (OpenSpec.ofChange Rows.fnLeastDictSpec)) = true := by kernel_rfl
theorem kf4 : (Tryz.f9.params.all (Tryz.pinned.checked.prog.readableRec ·)) = true := by kernel_rfl
theorem kf5 : (namedTie Tryz.pinned.checked.prog Rows.fnLeastDictRow.named Rows.fnLeastDictSpec.vars) = true := by kernel_rfl
theorem kf6 : ((Rows.fnLeastDictRow.stops == [])) = true := by kernel_rfl
theorem kf8 : ((Rows.fnLeastDictRow.knobs == [])) = true := by kernel_rfl
theorem kf10 : ((Rows.fnLeastDictRow.inPlace == Tryz.pinned.checked.prog.inPlace 9)) = true := by kernel_rfl
theorem kf11 : ((Rows.fnLeastDictRow.unfollowed == Tryz.pinned.checked.prog.unfollowed 9)) = true := by kernel_rfl
theorem kf12 : ((Rows.fnLeastDictRow.recurses == Tryz.pinned.checked.prog.recurses 9)) = true := by kernel_rfl
theorem kf13 : ((Rows.fnLeastDictRow.named == Tryz.pinned.checked.prog.varsNamed 9)) = true := by kernel_rfl
theorem kf14 : ((Rows.fnLeastDictRow.maps == (Tryz.f9.params.toList ++ Rows.fnLeastDictSpec.plain.varTypes Tryz.pinned.checked.prog).any (Tryz.pinned.checked.prog.mapsRec ·))) = true := by kernel_rfl
theorem kf15 : ((Rows.fnLeastDictRow.ifaces == (Tryz.f9.params.toList ++ Rows.fnLeastDictSpec.plain.varTypes Tryz.pinned.checked.prog).any (Tryz.pinned.checked.prog.ifacesRec ·))) = true := by kernel_rfl
theorem kf16 : ((Rows.fnLeastDictRow.mapsOut == Tryz.pinned.checked.prog.mapsAmong Tryz.f9.resultTypes.toList)) = true := by kernel_rfl
theorem kf17 : ((Rows.fnLeastDictRow.loops == (Tryz.f9.params.toList ++ Rows.fnLeastDictSpec.plain.varTypes Tryz.pinned.checked.prog).any (Tryz.pinned.checked.prog.loopsFrom ·))) = true := by kernel_rfl
theorem kf18 : ((Rows.fnLeastDictRow.wideKeys == (Tryz.f9.params.toList ++ Rows.fnLeastDictSpec.plain.varTypes Tryz.pinned.checked.prog ++ Tryz.f9.resultTypes.toList).any (Tryz.pinned.checked.prog.wideKeysFrom ·))) = true := by kernel_rfl
theorem kf19 : (Rows.fnLeastDictSpec.vars.all (Tryz.pinned.checked.prog.varReadable ·)) = true := by kernel_rfl
theorem kf20 : (Tryz.f9.resultTypes.all (fun t => Tryz.pinned.checked.prog.readableRec t && decide (t < Tryz.pinned.checked.prog.types.size))) = true := by kernel_rfl
theorem kf21 : ((Rows.fnLeastDictRow.ifacesOut == Tryz.f9.resultTypes.toList.any (Tryz.pinned.checked.prog.ifacesRec ·))) = true := by kernel_rfl
theorem kf22 : ((Rows.fnLeastDictRow.loopsOut == Tryz.f9.resultTypes.toList.any (Tryz.pinned.checked.prog.loopsFrom ·))) = true := by kernel_rfl
theorem kf24 : (Rows.fnLeastDictRow.shortTexts.isNone) = true := by kernel_rfl
theorem kf29 : ((Rows.fnLeastDictRow.kinds == (if Rows.fnLeastDictRow.domain.isEmpty then [] else Tryz.f9.params.toList.map fun t => match Tryz.pinned.checked.prog.underlying t with | some (.int k) => some k | _ => none))) = true := by kernel_rfl
theorem kf30 : ((Rows.fnLeastDictRow.pinned == Rows.fnLeastDictRow.pinnedBy)) = true := by kernel_rfl
theorem kf31 : ((Rows.fnLeastDictRow.veiled == (Tryz.f9.params.toList ++ Rows.fnLeastDictSpec.plain.varTypes Tryz.pinned.checked.prog ++ Tryz.f9.resultTypes.toList).any (Tryz.pinned.checked.prog.veiledRec ·))) = true := by kernel_rfl
theorem kf32 : (Rows.fnLeastDictRow.veiledFits Tryz.pinned.checked.prog Tryz.f9.params.toList (Tryz.f9.params.toList ++ Rows.fnLeastDictSpec.plain.varTypes Tryz.pinned.checked.prog ++ Tryz.f9.resultTypes.toList)) = true := by kernel_rfl
theorem closed : joinedFacts Tryz.pinned.checked.prog 9 Tryz.f9 Rows.fnLeastDictSpec Rows.fnLeastDictRow = true :=
  and_t (and_t (and_t (and_t (and_t (and_t (and_t (and_t (and_t (and_t (and_t (and_t (and_t (and_t (and_t (and_t (and_t (and_t (and_t (and_t (and_t (and_t (and_t (and_t (and_t (and_t (and_t (and_t (and_t (and_t (and_t kf1 pf2) pf3) kf4) kf5) kf6) pf7) kf8) pf9) kf10) kf11) kf12) kf13) kf14) kf15) kf16) kf17) kf18) kf19) kf20) kf21) kf22) pf23) kf24) pf25) pf26) pf27) pf28) kf29) kf30) kf31) kf32
theorem row_holds : Rows.FnLeastDictSaid :=
  OpenClaim.holds_of_wide 9 Tryz.f9 rfl rfl rfl rfl rfl rfl rfl ⟨rfl, rfl, rfl, rfl, rfl⟩ rfl rfl rfl rfl rfl named Tryz.func9 closed
    (of_decide_eq_true (by kernel_rfl)) (by unfold Func.isWrapper; rw [if_neg (of_decide_eq_false (by kernel_rfl))]; exact ⟨rfl, rfl⟩)
    (fun os started H enc _ => lifted os started H enc)
end Go.Proofs.YtiphcdmjlkngfaaGreatDoor.LeastDict
