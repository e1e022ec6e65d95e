/- Contracts of functions of this program, for all arguments that satisfy what each lemma asks for. -/
import Derived.Test.YtiphcdmjlkngfaaGreatDoorMz
import Derived.Test.YtiphcdmjlkngfaaGreatDoorMv
set_option linter.all false
namespace Go.Proofs.YtiphcdmjlkngfaaGreatDoor
open Go Go.Isea
set_option maxRecDepth 100000
set_option maxHeartbeats 16000000
theorem i_all {w : Wld} (hok : worldOk w = true) (hw : w.Sm) : ∀ d, d ≤ 6 → AllOkI w d
  | 0, h => i_all_step hok hw h fun e he => by cases he
  | d + 1, h => i_all_step hok hw h fun e he => by cases he; exact i_all hok hw d (by omega)
theorem objFz_map0 {h : AH} {m : Nat} : ObjFz h m (.map []) (.map []) = True := eq_true ⟨rfl, fun i x y h1 _ => by simp at h1⟩
theorem i_begin (w : Wld) (h : AH) : Isea.Good Tryz.prog 74 [.agg w.row] h [] (.ptr (h.n + 2) 0) ⟨h.n + 3, upd (upd (upd h.o h.n (.map [])) (h.n + 1) (.map [])) (h.n + 2) (.cells (wyC w h.n (h.n + 1) true))⟩ := by
  have a1 : ¬ h.n = h.n + 1 := by omega
  have a2 : ¬ h.n = h.n + 2 := by omega
  have a3 : ¬ h.n + 1 = h.n + 2 := by omega
  refine good [7] [] Tryz.func74 rfl rfl Tryz.ntmps74 (by kernel_rfl) mixed (by kernel_rfl) ?_
  simp -dsimp only [go_sem, Wld.row]
  refine fin_objs [h.n, h.n + 1, h.n + 2] (by show h.n ≤ h.n + 3; omega) (Nat.le_refl _) (by simp -dsimp only [go_sem]) ?_ ?_ ?_
  · intro t h1 _
    have e0 : ¬ t = h.n := by omega
    have e1 : ¬ t = h.n + 1 := by omega
    have e2 : ¬ t = h.n + 2 := by omega
    simp -dsimp only [go_sem, e0, e1, e2]
  · intro t h1 h2
    have h1 : t < h.n + 3 := h1
    simp at h2 ⊢; omega
  · simp -dsimp only [go_sem, wyC, objFz_map0, a1, a2, a3]
theorem i_AllDicts1 {w : Wld} (hok : worldOk w = true) (hw : w.Sm) {n : Need} (hn : n.Sm) (hno : needOk w n = true) {d : Nat} (hd6 : d ≤ 6) (h : AH) {l : List L8} (hl : allD w d n = some l) :
    Isea.Good Tryz.prog 20 [.agg w.row, .agg n.row, .v (.int .i64 (d : Nat))] h [] (.tup [.so (h.n + 3) l.length l.length, .v (.bool true)]) ⟨h.n + 4, upd (upd (upd (upd h.o h.n (.map (mapI (allT w d n []).2))) (h.n + 1) (.map [])) (h.n + 2) (.cells [.junk, .junk, .junk, .junk, .junk])) (h.n + 3) (.rows 9 1 (l.map sRow))⟩ := by
  have hll : l.length ≤ 60 := (allD_ok hl).1
  have hV := fun H => i_NeedValid w n H hw hn
  have hB := fun H => i_begin w H
  have hw2 : (worldOk w && needOk w n) = true := by rw [hok, hno]; rfl
  have hA := fun H hat => i_all hok hw d hd6 (h.n + 2) h.n (h.n + 1) n [] H hat (nok_of hno hn) TbOk.nil AllS.nil
  have hval := (subT_ok hok hw (d + 1) (by omega)).val n [] (nok_of hno hn) TbOk.nil
  have hval : (allT w d n []).1 = some l := Eq.trans hval hl
  generalize allT w d n [] = R at hA hval ⊢
  have c0 : ¬ ((d : Nat) : Int) < 0 := by omega
  have c6 : ¬ (6 : Int) < ((d : Nat) : Int) := by omega
  have a1 : ¬ h.n = h.n + 1 := by omega
  have a2 : ¬ h.n = h.n + 2 := by omega
  have a3 : ¬ h.n + 1 = h.n + 2 := by omega
  have b1 : ¬ h.n + 1 = h.n := by omega
  have b2 : ¬ h.n + 2 = h.n := by omega
  have b3 : ¬ h.n + 2 = h.n + 1 := by omega
  refine good [] [] Tryz.func20 rfl rfl Tryz.ntmps20 (by kernel_rfl) mixed (by kernel_rfl) ?_
  simp -dsimp only [go_sem, Wld.row, Need.row] at hV hB hA ⊢
  refine call_pure (hV _) ?_
  rw [hw2]
  simp -dsimp only [go_sem, c0, c6]
  refine call_pure (hB _) ?_
  simp -dsimp only [go_sem]
  refine call_turn (hA _ ⟨by simp -dsimp only [go_sem], by simp -dsimp only [go_sem], by simp -dsimp only [go_sem], b2, by simp -dsimp only [go_sem], by simp -dsimp only [go_sem, a1, a2, mapI, List.filterMap_nil]⟩) (fun t ht _ => .inl (by simp at ht; show h.n ≤ t; omega)) (fun t ht => by cases ht) ?_
  rw [hval]
  simp -dsimp only [go_sem, wyH, wyC, a1, a2, a3, b1, b2, b3, Option.getD_some, Option.isSome_some]
  refine call_pure (l_CloneA_string l _ (by omega)) ?_
  simp -dsimp only [go_sem]
  refine fin_objs [h.n, h.n + 1, h.n + 2, h.n + 3] (by show h.n ≤ h.n + 4; omega) (Nat.le_refl _) (by simp -dsimp only [go_sem]) ?_ ?_ ?_
  · intro t h1 _
    have e0 : ¬ t = h.n := by omega
    have e1 : ¬ t = h.n + 1 := by omega
    have e2 : ¬ t = h.n + 2 := by omega
    have e3 : ¬ t = h.n + 3 := by omega
    simp -dsimp only [go_sem, e0, e1, e2, e3]
  · intro t h1 h2
    have h1 : t < h.n + 4 := h1
    simp at h2 ⊢; omega
  · simp -dsimp only [go_sem, objFz_mapI, objFz_map0, a1, a2, a3, b1, b2, b3]
theorem i_AllDicts2 {w : Wld} (hok : worldOk w = true) (hw : w.Sm) {n : Need} (hn : n.Sm) (hno : needOk w n = true) {d : Nat} (hd6 : d ≤ 6) (h : AH) (hl : allD w d n = none) :
    Isea.Good Tryz.prog 20 [.agg w.row, .agg n.row, .v (.int .i64 (d : Nat))] h [] (.tup [.v (.slice none 0 0), .v (.bool false)]) h := by
  have hV := fun H => i_NeedValid w n H hw hn
  have hB := fun H => i_begin w H
  have hw2 : (worldOk w && needOk w n) = true := by rw [hok, hno]; rfl
  have hA := fun H hat => i_all hok hw d hd6 (h.n + 2) h.n (h.n + 1) n [] H hat (nok_of hno hn) TbOk.nil AllS.nil
  have hval := (subT_ok hok hw (d + 1) (by omega)).val n [] (nok_of hno hn) TbOk.nil
  have hval : (allT w d n []).1 = none := Eq.trans hval hl
  generalize allT w d n [] = R at hA hval
  have c0 : ¬ ((d : Nat) : Int) < 0 := by omega
  have c6 : ¬ (6 : Int) < ((d : Nat) : Int) := by omega
  have a1 : ¬ h.n = h.n + 1 := by omega
  have a2 : ¬ h.n = h.n + 2 := by omega
  have a3 : ¬ h.n + 1 = h.n + 2 := by omega
  have b1 : ¬ h.n + 1 = h.n := by omega
  have b2 : ¬ h.n + 2 = h.n := by omega
  have b3 : ¬ h.n + 2 = h.n + 1 := by omega
  refine good [] [] Tryz.func20 rfl rfl Tryz.ntmps20 (by kernel_rfl) mixed (by kernel_rfl) ?_
  simp -dsimp only [go_sem, Wld.row, Need.row] at hV hB hA ⊢
  refine call_pure (hV _) ?_
  rw [hw2]
  simp -dsimp only [go_sem, c0, c6]
  refine call_pure (hB _) ?_
  simp -dsimp only [go_sem]
  refine call_turn (hA _ ⟨by simp -dsimp only [go_sem], by simp -dsimp only [go_sem], by simp -dsimp only [go_sem], b2, by simp -dsimp only [go_sem], by simp -dsimp only [go_sem, a1, a2, mapI, List.filterMap_nil]⟩) (fun t ht _ => .inl (by simp at ht; show h.n ≤ t; omega)) (fun t ht => by cases ht) ?_
  rw [hval]
  simp -dsimp only [go_sem, wyH, wyC, a1, a2, a3, b1, b2, b3, Option.getD_none, Option.isSome_none]
  exact fin_pure (by simp -dsimp only [go_sem]) (by simp -dsimp only [go_sem])
theorem i_AllDicts0 {w : Wld} {n : Need} {d : Int} (hw : w.Sm) (hn : n.Sm) (h : AH) (hl : allDicts w n d = none) :
    Isea.Good Tryz.prog 20 [.agg w.row, .agg n.row, .v (.int .i64 d)] h [] (.tup [.v (.slice none 0 0), .v (.bool false)]) h := by
  have hV := fun H => i_NeedValid w n H hw hn
  have hB := fun H => i_begin w H
  cases hv : (worldOk w && needOk w n) with
  | false =>
    refine good [] [] Tryz.func20 rfl rfl Tryz.ntmps20 (by kernel_rfl) mixed (by kernel_rfl) ?_
    simp -dsimp only [go_sem, Wld.row, Need.row] at hV ⊢
    refine call_pure (hV _) ?_
    rw [hv]
    simp -dsimp only [go_sem]
    exact fin_pure (by simp -dsimp only [go_sem]) (by simp -dsimp only [go_sem])
  | true =>
    by_cases h0 : d < 0
    · refine good [] [] Tryz.func20 rfl rfl Tryz.ntmps20 (by kernel_rfl) mixed (by kernel_rfl) ?_
      simp -dsimp only [go_sem, Wld.row, Need.row] at hV ⊢
      refine call_pure (hV _) ?_
      rw [hv]
      simp -dsimp only [go_sem, h0]
      exact fin_pure (by simp -dsimp only [go_sem]) (by simp -dsimp only [go_sem])
    by_cases h6 : 6 < d
    · refine good [] [] Tryz.func20 rfl rfl Tryz.ntmps20 (by kernel_rfl) mixed (by kernel_rfl) ?_
      simp -dsimp only [go_sem, Wld.row, Need.row] at hV ⊢
      refine call_pure (hV _) ?_
      rw [hv]
      simp -dsimp only [go_sem, h0, h6]
      exact fin_pure (by simp -dsimp only [go_sem]) (by simp -dsimp only [go_sem])
    obtain ⟨e, rfl⟩ : ∃ e : Nat, d = (e : Int) := ⟨d.toNat, by omega⟩
    have hb := hv
    rw [Bool.and_eq_true] at hb
    unfold allDicts at hl
    rw [if_pos ⟨hv, by omega, by omega⟩, Int.toNat_natCast] at hl
    exact i_AllDicts2 hb.1 hw hn hb.2 (by omega) h hl
theorem i_AllDicts (w : Wld) (n : Need) (d : Int) (h : AH) (hw : w.Sm) (hn : n.Sm) (hd : -9223372036854775808 ≤ d ∧ d ≤ 9223372036854775807) : Isea.Good Tryz.prog 20 [.agg w.row, .agg n.row, .v (.int .i64 d)] h [] (.tup [.so h.n ((allDicts w n d).getD []).length ((allDicts w n d).getD []).length, .v (.bool (allDicts w n d).isSome)]) (h.push (.rows 9 1 (((allDicts w n d).getD []).map sRow))) := by
  rcases opt_cases (allDicts w n d) with e | ⟨l, e⟩
  · rw [e]
    exact Good.ghostR2 (h' := h) (by decide) (i_AllDicts0 hw hn h e)
  · rw [e]
    have e2 := e
    unfold allDicts at e2
    split at e2
    · rename_i hc
      obtain ⟨k, rfl⟩ : ∃ k : Nat, d = (k : Int) := ⟨d.toNat, by omega⟩
      rw [Int.toNat_natCast] at e2
      have hb := hc.1
      rw [Bool.and_eq_true] at hb
      have h0 := i_AllDicts1 hb.1 hw hn hb.2 (d := k) (by omega) h e2
      refine Good.shift 3 h0 rfl (Nat.le_succ _) (fun t ht => upd_ne _ _ (by omega)) (fun t h1 h2 => ?_) ?_
      · have h2 : t < h.n + 1 := h2
        obtain rfl : t = h.n := by omega
        show RenO True _ _ (upd _ (h.n + 3) _ (h.n + 3)) (upd h.o h.n _ h.n)
        rw [upd_same, upd_same]
        exact RenO.of_rows (of_eq_true puR_strs)
      · refine .tup rfl fun i x y h1 h2 => ?_
        rcases i with _ | _ | i
        · simp at h1 h2; subst h1; subst h2
          exact Ren.so' (Nat.lt_succ_self _) (dn_hi (Nat.le_refl _))
        · simp at h1 h2; subst h1; subst h2; exact .v _
        · simp at h1
    · cases e2
theorem allDicts_len (w : Wld) (n : Need) (d : Int) : ((allDicts w n d).getD []).length ≤ 1099511627776 := by
  rcases opt_cases (allDicts w n d) with e | ⟨l, e⟩
  · rw [e]; exact Nat.zero_le _
  · unfold allDicts at e ⊢
    split at e
    · rename_i hc
      rw [if_pos hc, e]
      have := (allD_ok e).1
      simp only [Option.getD_some]; omega
    · cases e
end Go.Proofs.YtiphcdmjlkngfaaGreatDoor
