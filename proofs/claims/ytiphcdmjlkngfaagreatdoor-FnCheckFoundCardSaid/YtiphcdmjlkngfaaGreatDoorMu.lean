/- Contracts of functions of this program, for all arguments that satisfy what each lemma asks for. -/
import Derived.Test.YtiphcdmjlkngfaaGreatDoorMq
set_option linter.all false
namespace Go.Isea
open Go
def asL (w : Wld) (n : Need) : List Need := if (worldOk w && needOk w n) = true then (ask0 w false n).2.1.a else []
theorem asL_eq (w : Wld) (n : Need) : (ask0 w false n).2.1.a = asL w n := by
  unfold asL
  cases hv : (worldOk w && needOk w n) with
  | true => rw [if_pos rfl]
  | false => rw [if_neg (by simp), ask0_bad hv]; rfl
end Go.Isea
namespace Go.Proofs.YtiphcdmjlkngfaaGreatDoor
open Go Go.Isea
set_option maxRecDepth 100000
set_option maxHeartbeats 8000000
theorem l_Clip_Need (t n : Nat) (h : AH) (ht : t < h.n) {e sz : Nat} {rs : List (List AV)} (ho : h.o t = .rows e sz rs) (hn : rs.length = n) : Isea.Good Tryz.prog 66 [.so t n n] h [] (.so t n n) h := by
  refine good [] [] Tryz.func66 rfl rfl Tryz.ntmps66 (by kernel_rfl) mixed (by kernel_rfl) ?_
  simp -dsimp only [go_sem, ho, hn]
  exact fin_pure (Nat.le_refl _) (by simp -dsimp only [go_sem, ht])
theorem i_AskedFor (w : Wld) (n : Need) (h : AH) (hw : w.Sm) (hn : n.Sm) : Isea.Good Tryz.prog 15 [.agg w.row, .agg n.row] h [] (.tup [.so h.n (asL w n).length (asL w n).length, .v (.bool (worldOk w && needOk w n))]) (h.push (.rows 28 2 ((asL w n).map Need.row))) := by
  cases hv : (worldOk w && needOk w n) with
  | false =>
    have el : asL w n = [] := by unfold asL; rw [hv, if_neg (by simp)]
    have hS := fun H => i_searched_bad w n false H hw hn hv
    rw [el]
    refine Good.ghostR2 (h' := h) (by decide) ?_
    refine good [] [] Tryz.func15 rfl rfl Tryz.ntmps15 (by kernel_rfl) mixed (by kernel_rfl) ?_
    simp -dsimp only [go_sem, Wld.row, Need.row] at hS ⊢
    refine call_pure (hS _) ?_
    simp -dsimp only [go_sem, wrongL]
    exact fin_pure (by simp -dsimp only [go_sem]) (by simp -dsimp only [go_sem])
  | true =>
    have hv2 := hv
    rw [Bool.and_eq_true] at hv2
    obtain ⟨h', hS, q1, q2, q3, q4, q5⟩ := i_searched_ok w n false h hw hn hv2.1 hv2.2
    have hne : (ask0 w false n).2.2 ≠ wrongL := by unfold ask0; rw [hv, if_pos rfl]; exact askG_ne _ _ _ _
    rw [asL_eq] at q3
    have q2' := q2
    unfold gCells at q2
    rw [asL_eq] at q2
    generalize asL w n = l at q2 q3 ⊢
    generalize (ask0 w false n).2.2 = z at hS hne ⊢
    generalize (ask0 w false n).1 = y at hS
    have hn0 : h.n ≤ h'.n := by omega
    unfold wrongL at hne
    have hl : (l.map Need.row).length = l.length := List.length_map ..
    have hC := l_Clip_Need (h.n + 1) l.length h' (by omega) q3 hl
    have hfirst : Isea.Good Tryz.prog 15 [.agg w.row, .agg n.row] h [] (.tup [.so (h.n + 1) l.length l.length, .v (.bool true)]) ⟨h.n + 2, upd (upd h.o h.n (.cells (gCells w false 128 [] (h.n + 1) (h.n + 2) (ask0 w false n).2.1 |>.map fun _ => .junk))) (h.n + 1) (.rows 28 2 (l.map Need.row))⟩ := by
      refine good [] [] Tryz.func15 rfl rfl Tryz.ntmps15 (by kernel_rfl) mixed (by kernel_rfl) ?_
      simp -dsimp only [go_sem, Wld.row, Need.row] at hS ⊢
      refine call_pure hS ?_
      have hc2 : isCur l.length (h'.o (h.n + 1)) = true := by rw [q3]; simp [isCur]
      have hc3 : isCur (ask0 w false n).2.1.st.length (h'.o (h.n + 2)) = true := by rw [q4]; simp [isCur]
      simp -dsimp only [go_sem, hne, q2, q1, q3, q4, hn0, hc2, hc3]
      refine call_pure hC ?_
      simp -dsimp only [go_sem]
      refine ⟨by show h.n ≤ h.n + 2; omega, by show h.n + 2 ≤ h'.n; omega, ?_, fun t h1 _ => ?_, fun t h1 h2 => ?_⟩
      · have hlt : h.n + 1 < h.n + 2 := by omega
        simp -dsimp only [go_sem, hlt]
      · have h1 : t < h.n := h1
        show upd (upd _ _ _) _ _ t = _
        rw [upd_ne _ _ (by omega), upd_ne _ _ (by omega)]
      · have h1 : t < h.n + 2 := h1
        have h2 : h.n ≤ t := by
          rcases h2 with h2 | h2
          · cases h2
          · exact h2
        show ObjFz h' (h.n + 2) (h'.o t) (upd (upd _ _ _) _ _ t)
        by_cases e0 : t = h.n
        · subst e0
          rw [upd_ne _ _ (by omega), upd_same, q2']
          refine ⟨by simp, fun i x y g1 g2 => ?_⟩
          rw [List.getElem?_map] at g2
          cases e : (gCells w false 128 [] (h.n + 1) (h.n + 2) (ask0 w false n).2.1)[i]? with
          | none => rw [e] at g2; cases g2
          | some u => rw [e] at g2; cases g2; exact .junk _
        · obtain rfl : t = h.n + 1 := by omega
          rw [upd_same, q3]
          exact of_eq_true (objFz_r (of_eq_true puR_needs))
    refine hfirst.shift 1 rfl (Nat.le_succ _) (fun t ht => upd_ne _ _ (by omega)) (fun t h1 h2 => ?_) ?_
    · have h2 : t < h.n + 1 := h2
      obtain rfl : t = h.n := by omega
      show RenO True _ _ (upd _ (h.n + 1) _ (h.n + 1)) (upd h.o h.n _ h.n)
      rw [upd_same, upd_same]
      exact RenO.of_rows (of_eq_true puR_needs)
    · refine .tup rfl fun i x y h1 h2 => ?_
      rcases i with _ | _ | i
      · simp at h1 h2; subst h1; subst h2
        exact Ren.so' (Nat.lt_succ_self _) (dn_hi (Nat.le_refl _))
      · simp at h1 h2; subst h1; subst h2; exact .v _
      · simp at h1
end Go.Proofs.YtiphcdmjlkngfaaGreatDoor
