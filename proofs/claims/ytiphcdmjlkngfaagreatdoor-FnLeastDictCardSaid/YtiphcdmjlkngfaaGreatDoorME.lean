/- Contracts of functions of this program, for all arguments that satisfy what each lemma asks for. -/
import Derived.Test.YtiphcdmjlkngfaaGreatDoorMD
import Derived.Test.YtiphcdmjlkngfaaGreatDoorMC
import Derived.Test.YtiphcdmjlkngfaaGreatDoorMy
import Derived.Test.YtiphcdmjlkngfaaGreatDoorMA
set_option linter.all false
namespace Go.Isea
open Go
set_option maxRecDepth 100000
/-- the lists that are told -/
def adL (w : Wld) (n : Need) (d : Int) : List L8 := (allDicts w n d).getD []
theorem adL_txt {w : Wld} {n : Need} {d : Int} (hw : w.Sm) : ∀ x ∈ adL w n d, ∃ D : Dct, dictOf x = some D ∧ D.text = x ∧ D.wf ∧ D.okN w.is.length := by
  intro x hx
  unfold adL at hx
  cases e : allDicts w n d with
  | none => rw [e] at hx; cases hx
  | some l =>
    rw [e] at hx
    simp only [Option.getD_some] at hx
    unfold allDicts at e
    split at e
    · rename_i hc
      have hb := hc.1
      rw [Bool.and_eq_true] at hb
      obtain ⟨D, h1, h2, h3⟩ := allD_sound hb.1 hw d.toNat n l e x hx
      have hwf := okN_wf (world_len hb.1) D h2.1
      exact ⟨D, by rw [h1] at h3 ⊢; exact dictOf_text hwf h3, h1.symm, hwf, h2.1⟩
    · cases e
theorem sizeD_txt {w : Wld} {n : Need} {d : Int} (hw : w.Sm) {x : L8} (hx : x ∈ adL w n d) : sizeD x = (digitsL x : Nat) := by
  obtain ⟨D, h1, h2, h3, _⟩ := adL_txt hw x hx
  unfold sizeD
  rw [h1]
  show ((D.size : Nat) : Int) = _
  rw [← h2, digits_text D h3]
theorem adL_ne {w : Wld} {n : Need} {d : Int} (hw : w.Sm) {x : L8} (hx : x ∈ adL w n d) : x ≠ [] := by
  obtain ⟨D, _, h2, _⟩ := adL_txt hw x hx
  have := text_pos D
  intro e
  rw [h2, e] at this
  simp at this
theorem leastD_eq (w : Wld) (n : Need) (d : Int) : leastD w n d = leastL (adL w n d) [] := by
  unfold leastD adL
  cases allDicts w n d <;> rfl
theorem adL_len {w : Wld} {n : Need} {d : Int} {x : L8} (hw : w.Sm) (hx : x ∈ adL w n d) : x.length ≤ 1200 := by
  obtain ⟨D, h1, h2, _⟩ := adL_txt hw x hx
  exact (dictOf_some h1).2.2
end Go.Isea
namespace Go.Proofs.YtiphcdmjlkngfaaGreatDoor
open Go Go.Isea
set_option maxRecDepth 100000
set_option maxHeartbeats 8000000
theorem s_LeastDict (w : Wld) (n : Need) (d : Int) (h : AH) (hw : w.Sm) (hn : n.Sm) (hd : -9223372036854775808 ≤ d ∧ d ≤ 9223372036854775807) (hc : w.cs.length ≤ 1048576) (hi : w.is.length ≤ 1048576) (hio : ∀ i ∈ w.is, i.Ok) :
    Isea.Good Tryz.prog 48 [.agg w.row, .agg n.row, .v (.int .i64 d)] h [] (.tup [str (leastD w n d), .v (.bool (decide (¬ leastD w n d = [])))]) h := by
  have hA := fun H => s_AllDicts w n d H hw hn hd hc hi hio
  have hsz := fun x (hx : x ∈ adL w n d) => sizeD_txt hw hx
  have hne := fun x (hx : x ∈ adL w n d) => adL_ne hw hx
  have hle := fun x (hx : x ∈ adL w n d) => adL_len hw hx
  have hlen : (adL w n d).length ≤ 1099511627776 := allDicts_len w n d
  rw [leastD_eq]
  have e : (allDicts w n d).getD [] = adL w n d := rfl
  rw [e] at hA
  generalize adL w n d = L at hA hsz hne hle hlen
  refine good [] [] Tryz.func48 rfl rfl Tryz.ntmps48 (by kernel_rfl) mixed (by kernel_rfl) ?_
  simp -dsimp only [go_sem, Wld.row, Need.row] at hA ⊢
  refine call_pure (hA _) ?_
  simp -dsimp only [go_sem, List.length_map]
  generalize hY : leastL L [] = Y
  refine loop_ruleH [20, 0] (fun (x : {x : Nat × L8 // x.1 ≤ L.length ∧ Y = leastL (L.drop x.1) x.2 ∧ (x.2 = [] ∨ x.2 ∈ L)}) H => ([(8, str x.1.2), (22, .v (.int .i64 (x.1.1 : Nat)))], H)) (fun x => L.length - x.1.1) ⟨(0, []), Nat.zero_le _, hY.symm, .inl rfl⟩ ?_ ?_
  · exact weak_at rfl (by simp -dsimp only [go_sem]) (fun x hx => by simp -dsimp only [go_sem, hx]) (by simp -dsimp only [go_sem])
  · rintro ⟨⟨k, b⟩, hk, hinv, hb⟩
    have hk : k ≤ L.length := hk
    have hinv : Y = leastL (L.drop k) b := hinv
    clear hY
    have hb : b = [] ∨ b ∈ L := hb
    have h1 : k + 1 ≤ 9223372036854775807 := by omega
    by_cases hkl : k < L.length
    · obtain ⟨x, hx⟩ := get_some hkl
      have hxm := List.mem_of_getElem? hx
      have hxl := hle x hxm
      rw [drop_get hx, leastL] at hinv
      rcases hb with rfl | hbm
      · rw [if_pos (.inl rfl)] at hinv
        simp -dsimp only [go_sem, hkl, hx, sRow, h1]
        exact round_to ⟨(k + 1, x), hkl, hinv, .inr hxm⟩ (by simp; omega) (weak_at rfl (by simp -dsimp only [go_sem]) (fun x hx => by simp -dsimp only [go_sem, hx]) (by simp -dsimp only [go_sem]))
      · have hbn := hne b hbm
        have hbl := hle b hbm
        simp -dsimp only [go_sem, hkl, hx, sRow, hbn]
        refine call_pure (s_SizeOfDict x _ (by omega)) ?_
        simp -dsimp only [go_sem, hkl, hx, sRow, hbn]
        refine call_pure (s_SizeOfDict b _ (by omega)) ?_
        rw [hsz x hxm, hsz b hbm]
        by_cases hlt : digitsL x < digitsL b
        · rw [if_pos (.inr hlt)] at hinv
          simp -dsimp only [go_sem, hlt, h1]
          exact round_to ⟨(k + 1, x), hkl, hinv, .inr hxm⟩ (by simp; omega) (weak_at rfl (by simp -dsimp only [go_sem]) (fun x hx => by simp -dsimp only [go_sem, hx]) (by simp -dsimp only [go_sem]))
        · rw [if_neg (fun e => e.elim hbn hlt)] at hinv
          simp -dsimp only [go_sem, hlt, h1]
          exact round_to ⟨(k + 1, b), hkl, hinv, .inr hbm⟩ (by simp; omega) (weak_at rfl (by simp -dsimp only [go_sem]) (fun x hx => by simp -dsimp only [go_sem, hx]) (by simp -dsimp only [go_sem]))
    · have hke : k = L.length := by omega
      subst hke
      rw [List.drop_length, leastL] at hinv
      subst hinv
      simp -dsimp only [go_sem, hkl]
      exact fin_pure (by simp -dsimp only [go_sem]) (by simp -dsimp only [go_sem])
theorem i_LeastDict (w : Wld) (n : Need) (d : Int) (h : AH) (hw : w.Sm) (hn : n.Sm) (hd : -9223372036854775808 ≤ d ∧ d ≤ 9223372036854775807) :
    Isea.Good Tryz.prog 47 [.agg w.row, .agg n.row, .v (.int .i64 d)] h [] (.tup [str (leastD w n d), .v (.bool (decide (¬ leastD w n d = [])))]) h := by
  have hA := fun H => i_AllDicts w n d H hw hn hd
  have hne := fun x (hx : x ∈ adL w n d) => adL_ne hw hx
  have hle := fun x (hx : x ∈ adL w n d) => adL_len hw hx
  have hlen : (adL w n d).length ≤ 1099511627776 := allDicts_len w n d
  rw [leastD_eq]
  have e : (allDicts w n d).getD [] = adL w n d := rfl
  rw [e] at hA
  generalize adL w n d = L at hA hne hle hlen
  have hAl : (∀ r, r ∈ L.map sRow → r.length = 1) = True := eq_true fun r hr => by obtain ⟨j, _, rfl⟩ := List.mem_map.1 hr; rfl
  refine good [] [] Tryz.func47 rfl rfl Tryz.ntmps47 (by kernel_rfl) mixed (by kernel_rfl) ?_
  simp -dsimp only [go_sem, Wld.row, Need.row] at hA ⊢
  refine call_pure (hA _) ?_
  simp -dsimp only [go_sem, List.length_map]
  generalize hY : leastL L [] = Y
  refine loop_ruleH [20, 0] (fun (x : {x : Nat × L8 // x.1 ≤ L.length ∧ Y = leastL (L.drop x.1) x.2 ∧ (x.2 = [] ∨ x.2 ∈ L)}) H => ([(10, str x.1.2), (22, .v (.int .i64 (x.1.1 : Nat)))], ⟨h.n + 1, upd H.o h.n (.rows 9 1 (L.map sRow))⟩)) (fun x => L.length - x.1.1) ⟨(0, []), Nat.zero_le _, hY.symm, .inl rfl⟩ ?_ ?_
  · refine weak_objs [h.n] (by simp -dsimp only [go_sem]) (by simp -dsimp only [go_sem]) (by simp -dsimp only [go_sem]) ?_ ?_ ?_
    · intro t h1 h2
      have a1 : ¬ t = h.n := by omega
      simp -dsimp only [go_sem, a1]
    · intro x h1 h2; have h1 : x < h.n + 1 := h1; simp at h2 ⊢; omega
    · simp -dsimp only [go_sem]
  · rintro ⟨⟨k, b⟩, hk, hinv, hb⟩
    have hk : k ≤ L.length := hk
    have hinv : Y = leastL (L.drop k) b := hinv
    clear hY
    have hb : b = [] ∨ b ∈ L := hb
    have h1 : k + 1 ≤ 9223372036854775807 := by omega
    by_cases hkl : k < L.length
    · obtain ⟨x, hx⟩ := get_some hkl
      have hxm := List.mem_of_getElem? hx
      have hxl := hle x hxm
      rw [drop_get hx, leastL] at hinv
      rcases hb with rfl | hbm
      · rw [if_pos (.inl rfl)] at hinv
        simp -dsimp only [go_sem, hkl, hx, hAl, sRow, h1, List.length_map]
        refine round_to ⟨(k + 1, x), hkl, hinv, .inr hxm⟩ (by simp; omega) (weak_objs [h.n] (by simp -dsimp only [go_sem]) (by simp -dsimp only [go_sem]) (by simp -dsimp only [go_sem]) ?_ ?_ ?_)
        · intro t h1 h2
          have a1 : ¬ t = h.n := by omega
          simp -dsimp only [go_sem, a1]
        · intro x h1 h2; have h1 : x < h.n + 1 := h1; simp at h2 ⊢; omega
        · simp -dsimp only [go_sem]
      · have hbn := hne b hbm
        have hbl := hle b hbm
        simp -dsimp only [go_sem, hkl, hx, hAl, sRow, hbn, List.length_map]
        refine call_pure (i_digits x _ (by omega)) ?_
        simp -dsimp only [go_sem, hkl, hx, sRow, hbn]
        refine call_pure (i_digits b _ (by omega)) ?_
        by_cases hlt : digitsL x < digitsL b
        · rw [if_pos (.inr hlt)] at hinv
          simp -dsimp only [go_sem, hlt, h1]
          refine round_to ⟨(k + 1, x), hkl, hinv, .inr hxm⟩ (by simp; omega) (weak_objs [h.n] (by simp -dsimp only [go_sem]) (by simp -dsimp only [go_sem]) (by simp -dsimp only [go_sem]) ?_ ?_ ?_)
          · intro t h1 h2
            have a1 : ¬ t = h.n := by omega
            simp -dsimp only [go_sem, a1]
          · intro x h1 h2; have h1 : x < h.n + 1 := h1; simp at h2 ⊢; omega
          · simp -dsimp only [go_sem]
        · rw [if_neg (fun e => e.elim hbn hlt)] at hinv
          simp -dsimp only [go_sem, hlt, h1]
          refine round_to ⟨(k + 1, b), hkl, hinv, .inr hbm⟩ (by simp; omega) (weak_objs [h.n] (by simp -dsimp only [go_sem]) (by simp -dsimp only [go_sem]) (by simp -dsimp only [go_sem]) ?_ ?_ ?_)
          · intro t h1 h2
            have a1 : ¬ t = h.n := by omega
            simp -dsimp only [go_sem, a1]
          · intro x h1 h2; have h1 : x < h.n + 1 := h1; simp at h2 ⊢; omega
          · simp -dsimp only [go_sem]
    · have hke : k = L.length := by omega
      subst hke
      rw [List.drop_length, leastL] at hinv
      subst hinv
      simp -dsimp only [go_sem, hkl, List.length_map]
      exact fin_pure (by simp -dsimp only [go_sem]) (by simp -dsimp only [go_sem])
end Go.Proofs.YtiphcdmjlkngfaaGreatDoor
