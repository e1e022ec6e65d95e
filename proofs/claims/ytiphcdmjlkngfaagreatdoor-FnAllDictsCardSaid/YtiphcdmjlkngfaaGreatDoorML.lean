/- Contracts of functions of this program, for all arguments that satisfy what each lemma asks for. -/
import Derived.Test.YtiphcdmjlkngfaaGreatDoorMJ
import Derived.Test.YtiphcdmjlkngfaaGreatDoorMI
set_option linter.all false
namespace Go.Proofs.YtiphcdmjlkngfaaGreatDoor
open Go Go.Isea
set_option maxRecDepth 100000
set_option maxHeartbeats 8000000
theorem l_inTexts (a : List L8) (h : AH) (ha : a.length ≤ 1000000) : Isea.Good Tryz.prog 23 [.sl (a.map sRow), .sl (a.map sRow)] h [] (.v (.bool true)) h := by
  have hm : (((a.length : Nat) : Int) < ((a.length : Nat) : Int)) = False := eq_false (by omega)
  refine good [] [] Tryz.func23 rfl rfl Tryz.ntmps23 (by kernel_rfl) mixed (by kernel_rfl) ?_
  simp -dsimp only [go_sem, List.length_map, hm]
  refine loop_ruleH [0, 0, 8, 0] (fun (k : {k : Nat // k ≤ a.length}) H => ([(11, .v (.int .i64 (k.1 : Nat)))], H)) (fun k => a.length - k.1) ⟨0, Nat.zero_le _⟩ ?_ ?_
  · refine weak_objs [] (by simp -dsimp only [go_sem]) (by simp -dsimp only [go_sem]) (by simp -dsimp only [go_sem]) ?_ ?_ ?_
    · intro t h1 h2
      simp -dsimp only [go_sem]
    · intro x h1 h2; have h1 : x < h.n := h1; simp at h2 ⊢; omega
    · simp -dsimp only [go_sem]
  · rintro ⟨k, hk⟩
    have k1 : k + 1 ≤ 9223372036854775807 := by omega
    by_cases hkl : k < a.length
    · obtain ⟨n, hn⟩ := get_some hkl
      have hkc : (((k : Nat) : Int) < ((a.length : Nat) : Int)) = True := eq_true (by omega)
      simp -dsimp only [go_sem, hkc, hkl, hn, k1, sRow, List.length_map]
      refine round_to ⟨k + 1, hkl⟩ (by show a.length - (k + 1) < a.length - k; omega) ?_
      refine weak_objs [] (by simp -dsimp only [go_sem]) (by simp -dsimp only [go_sem]) (by simp -dsimp only [go_sem]) ?_ ?_ ?_
      · intro t h1 h2
        simp -dsimp only [go_sem]
      · intro x h1 h2; have h1 : x < h.n := h1; simp at h2 ⊢; omega
      · simp -dsimp only [go_sem]
    · have hkc : (((k : Nat) : Int) < ((a.length : Nat) : Int)) = False := eq_false (by omega)
      simp -dsimp only [go_sem, hkc, List.length_map]
      exact fin_pure (by simp -dsimp only [go_sem]) (by simp -dsimp only [go_sem])
end Go.Proofs.YtiphcdmjlkngfaaGreatDoor

namespace Go.Proofs.YtiphcdmjlkngfaaGreatDoor
open Go Go.Isea
set_option maxRecDepth 100000
set_option maxHeartbeats 16000000
theorem s_l7Some (b : L8) (p : Nat) (hb : b.length ≤ 2000) (hp : p + 20000 ≤ 1000000000) : ∃ (w : Wld) (n : Need) (d : Int) (q : Nat), smW w = true ∧ w.cs.length ≤ 6 ∧ w.is.length ≤ 30 ∧ smNd n = true ∧ -1 ≤ d ∧ d ≤ 7 ∧ p ≤ q ∧ q ≤ p + 3000 ∧ ∀ (l : Nat) (h : AH), l < h.n → h.o l = .cells (rdCE b p) →
    Isea.Good Tryz.prog 73 [.ptr l 0] h [l] (.tup [.agg w.row, .agg n.row, .v (.int .i64 d)]) (h.set l (.cells (rdCE b q))) := by
  obtain ⟨w, n, q1, w1, w2, w3, w4, g1, e1, hS⟩ := s_l4Some b p hb (by omega)
  obtain ⟨d, hd, hG⟩ := s_num b q1 [3, 2, 4, 1, 0, 3, 6, -1, 7] hb (by omega) (by decide)
  simp only [List.map_cons, List.map_nil] at hG
  have hd2 : -1 ≤ d ∧ d ≤ 7 := by
    have : ∀ z ∈ ([3, 2, 4, 1, 0, 3, 6, -1, 7] : List Int), -1 ≤ z ∧ z ≤ 7 := by decide
    exact this d hd
  refine ⟨w, n, d, q1 + 1, w1, w2, w3, w4, hd2.1, hd2.2, by omega, by omega, fun l h hl ho => ?_⟩
  obtain ⟨cs, is⟩ := w
  have hW : (⟨cs, is⟩ : Wld).row = [.sl (cs.map Cls.row), .sl (is.map Inst.row)] := rfl
  have hN : n.row = [str n.c, str n.t] := rfl
  rw [hW, hN] at hS ⊢
  have n0 : ¬ l = h.n := by omega
  have n1 : ¬ l = h.n + 1 := by omega
  have n2 : ¬ l = h.n + 2 := by omega
  have n3 : ¬ l = h.n + 3 := by omega
  refine good [] [] Tryz.func73 rfl rfl Tryz.ntmps73 (by kernel_rfl) mixed (by kernel_rfl) ?_
  simp -dsimp only [go_sem, hl]
  refine call_one (hS l _ (by simp -dsimp only [go_sem, hl]) (by simp -dsimp only [go_sem, ho, hl, rdCE])) (by simp -dsimp only [go_sem]) (by simp -dsimp only [go_sem, hl, not_false_eq_true]) ?_
  simp -dsimp only [go_sem, hl, n0, n1, n2, n3]
  refine call_one (hG l _ (by simp -dsimp only [go_sem, hl]) (by simp -dsimp only [go_sem, ho, hl, rdCE])) (by simp -dsimp only [go_sem]) (by simp -dsimp only [go_sem, hl, not_false_eq_true]) ?_
  simp -dsimp only [go_sem, hl, n0, n1, n2, n3]
  refine fin_one (by simp -dsimp only [go_sem]) ?_ ?_
  · simp -dsimp only [go_sem, hl]
  · simp -dsimp only [go_sem, hl, rdCE]
theorem s_DrawAllDicts (b : L8) : ∃ (w : Wld) (n : Need) (d : Int), smW w = true ∧ w.cs.length ≤ 6 ∧ w.is.length ≤ 30 ∧ smNd n = true ∧ -1 ≤ d ∧ d ≤ 7 ∧ ∀ h : AH, Isea.Good Tryz.prog 19 [.sl (b.map byR)] h [] (.tup [.agg w.row, .agg n.row, .v (.int .i64 d)]) h := by
  obtain ⟨w, n, d, q, w1, w2, w3, w4, w5, w6, _, _, hS⟩ := s_l7Some (b.take 2000) 0 (by rw [List.length_take]; omega) (by decide)
  refine ⟨w, n, d, w1, w2, w3, w4, w5, w6, fun h => ?_⟩
  obtain ⟨cs, is⟩ := w
  have hW : (⟨cs, is⟩ : Wld).row = [.sl (cs.map Cls.row), .sl (is.map Inst.row)] := rfl
  rw [hW] at hS ⊢
  have hN : n.row = [str n.c, str n.t] := rfl
  rw [hN] at hS ⊢
  refine good [] [] Tryz.func19 rfl rfl Tryz.ntmps19 (by kernel_rfl) mixed (by kernel_rfl) ?_
  simp -dsimp only [go_sem]
  refine call_pure (s_l13Open b _) ?_
  simp -dsimp only [go_sem]
  refine call_one (hS _ _ (by simp -dsimp only [go_sem]) (by simp -dsimp only [go_sem])) (by simp -dsimp only [go_sem]) (by simp -dsimp only [go_sem, not_false_eq_true]) ?_
  simp -dsimp only [go_sem]
  exact fin_pure (by simp -dsimp only [go_sem]) (by simp -dsimp only [go_sem])
end Go.Proofs.YtiphcdmjlkngfaaGreatDoor
