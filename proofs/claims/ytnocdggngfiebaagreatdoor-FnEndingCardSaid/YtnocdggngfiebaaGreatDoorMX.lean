/- Contracts of functions of this program, for all arguments that satisfy what each lemma asks for. -/
import Derived.Test.YtnocdggngfiebaaGreatDoorMI
set_option linter.all false
namespace Go.Proofs.YtnocdggngfiebaaGreatDoor
open Go Go.Isea
set_option maxRecDepth 100000
set_option maxHeartbeats 16000000
def gTy : List L8 := [[120], [121], [120], [108, 40, 120, 41], [105], [122]]
def RoundG (b : L8) (w : Wld) (cnt k : Nat) (s s' : Nat × List Need) : Prop := k < cnt → ∃ (x t : L8) (q1 : Nat), s'.2 = s.2 ++ [(⟨x, t⟩ : Need)] ∧
  (∀ (l : Nat) (h : AH), l < h.n → h.o l = .cells (rdCE b s.1) → Isea.Good Tryz.prog 162 [.ptr l 0, .agg w.row] h [l] (str x) (h.set l (.cells (rdCE b q1)))) ∧
  (∀ (l : Nat) (h : AH), l < h.n → h.o l = .cells (rdCE b q1) → Isea.Good Tryz.prog 112 [.ptr l 0, .sl (gTy.map sRow)] h [l] (str t) (h.set l (.cells (rdCE b s'.1))))
def RoundG2 (b : L8) (w : Wld) (cnt k : Nat) (s s' : Nat × List Need) : Prop := k < cnt → ∃ (x : L8), s'.2 = s.2 ++ [(⟨x, [120]⟩ : Need)] ∧
  (∀ (l : Nat) (h : AH), l < h.n → h.o l = .cells (rdCE b s.1) → Isea.Good Tryz.prog 162 [.ptr l 0, .agg w.row] h [l] (str x) (h.set l (.cells (rdCE b s'.1))))
end Go.Proofs.YtnocdggngfiebaaGreatDoor
