/- Contracts of functions of this program, for all arguments that satisfy what each lemma asks for. -/
import Derived.Test.YtiphcdmjlkngfaaGreatDoorMJ
import Derived.Test.YtiphcdmjlkngfaaGreatDoorMI
set_option linter.all false
namespace Go.Proofs.YtiphcdmjlkngfaaGreatDoor
open Go Go.Isea
set_option maxRecDepth 100000
set_option maxHeartbeats 8000000
end Go.Proofs.YtiphcdmjlkngfaaGreatDoor

namespace Go.Proofs.YtiphcdmjlkngfaaGreatDoor
open Go Go.Isea
set_option maxRecDepth 100000
set_option maxHeartbeats 16000000
theorem s_l7Some (b : L8) (p : Nat) (hb : b.length ≤ 2000) (hp : p + 20000 ≤ 1000000000) : ∃ (w : Wld) (n : Need) (d : Int) (q : Nat), smW w = true ∧ w.cs.length ≤ 6 ∧ w.is.length ≤ 30 ∧ smNd n = true ∧ -1 ≤ d ∧ d ≤ 7 ∧ p ≤ q ∧ q ≤ p + 3000 ∧ ∀ (l : Nat) (h : AH), l < h.n → h.o l = .cells (rdCE b p) →
    Isea.Good Tryz.prog 73 [.ptr l 0] h [l] (.tup [.agg w.row, .agg n.row, .v (.int .i64 d)]) (h.set l (.cells (rdCE b q))) := by
  obtain ⟨w, n, q1, w1, w2, w3, w4, g1, e1, hS⟩ := s_l4Some b p hb (by omega)
  obtain ⟨d, hd, hG⟩ := s_num b q1 [3, 2, 4, 1, 0, 3, 6, -1, 7] hb (by omega) (by decide)
  simp only [List.map_cons, List.map_nil] at hG
  have hd2 : -1 ≤ d ∧ d ≤ 7 := by
    have : ∀ z ∈ ([3, 2, 4, 1, 0, 3, 6, -1, 7] : List Int), -1 ≤ z ∧ z ≤ 7 := by decide
    exact this d hd
  refine ⟨w, n, d, q1 + 1, w1, w2, w3, w4, hd2.1, hd2.2, by omega, by omega, fun l h hl ho => ?_⟩
  obtain ⟨cs, is⟩ := w
  have hW : (⟨cs, is⟩ : Wld).row = [.sl (cs.map Cls.row), .sl (is.map Inst.row)] := rfl
  have hN : n.row = [str n.c, str n.t] := rfl
  rw [hW, hN] at hS ⊢
  have n0 : ¬ l = h.n := by omega
  have n1 : ¬ l = h.n + 1 := by omega
  have n2 : ¬ l = h.n + 2 := by omega
  have n3 : ¬ l = h.n + 3 := by omega
  refine good [] [] Tryz.func73 rfl rfl Tryz.ntmps73 (by kernel_rfl) mixed (by kernel_rfl) ?_
  simp -dsimp only [go_sem, hl]
  refine call_one (hS l _ (by simp -dsimp only [go_sem, hl]) (by simp -dsimp only [go_sem, ho, hl, rdCE])) (by simp -dsimp only [go_sem]) (by simp -dsimp only [go_sem, hl, not_false_eq_true]) ?_
  simp -dsimp only [go_sem, hl, n0, n1, n2, n3]
  refine call_one (hG l _ (by simp -dsimp only [go_sem, hl]) (by simp -dsimp only [go_sem, ho, hl, rdCE])) (by simp -dsimp only [go_sem]) (by simp -dsimp only [go_sem, hl, not_false_eq_true]) ?_
  simp -dsimp only [go_sem, hl, n0, n1, n2, n3]
  refine fin_one (by simp -dsimp only [go_sem]) ?_ ?_
  · simp -dsimp only [go_sem, hl]
  · simp -dsimp only [go_sem, hl, rdCE]
end Go.Proofs.YtiphcdmjlkngfaaGreatDoor
