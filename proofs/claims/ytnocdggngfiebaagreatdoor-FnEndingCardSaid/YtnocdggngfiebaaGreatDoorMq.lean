/- Contracts of functions of this program, for all arguments that satisfy what each lemma asks for. -/
import Derived.Test.YtnocdggngfiebaaGreatDoorMj
import Derived.Test.YtnocdggngfiebaaGreatDoorMg
import Derived.Test.YtnocdggngfiebaaGreatDoorMi
import Derived.Test.YtnocdggngfiebaaGreatDoorMk
set_option linter.all false
namespace Go.Isea
open Go
/-- the stack of a search that fails -/
def stB (w : Wld) (n : Need) : Bool := (worldOk w && needOk w n) && decide ((ask0 w false n).2.2 ≠ [])
def stL (w : Wld) (n : Need) : List Need := if stB w n = true then (ask0 w false n).2.1.st else []
end Go.Isea
namespace Go.Proofs.YtnocdggngfiebaaGreatDoor
open Go Go.Isea
set_option maxRecDepth 100000
set_option maxHeartbeats 8000000
theorem s_l13OwnInstance (i : Inst) (h : AH) (hl : i.ns.length ≤ 1099511627776) : Isea.Good Tryz.prog 275 [.agg i.row] h [] (.agg i.row) h := by
  have e6 : i.ns.length * 32 ≤ 140737488355328 := by omega
  refine good [1] [] Tryz.func275 rfl rfl Tryz.ntmps275 (by kernel_rfl) mixed (by kernel_rfl) ?_
  simp -dsimp only [go_sem, Inst.row, e6, List.length_map, Nat.zero_add, List.nil_append]
  exact fin_pure (by simp -dsimp only [go_sem]) (by simp -dsimp only [go_sem, List.length_map])
theorem s_l13OwnListInstance (l : List Inst) (h : AH) (hl : l.length ≤ 1099511627776) (hn : ∀ i ∈ l, i.ns.length ≤ 1099511627776) : Isea.Good Tryz.prog 216 [.sl (l.map Inst.row)] h [] (.sl (l.map Inst.row)) h := by
  refine good [] [] Tryz.func216 rfl rfl Tryz.ntmps216 (by kernel_rfl) mixed (by kernel_rfl) ?_
  simp -dsimp only [go_sem, List.length_map]
  refine loop_ruleH [7, 0] (fun (k : {k : Nat // k ≤ l.length}) H => ([(3, .so h.n k.1 k.1), (9, .v (.int .i64 (k.1 : Nat)))], ⟨h.n + 1, upd H.o h.n (.rows 45 3 ((l.take k.1).map Inst.row))⟩)) (fun k => l.length - k.1) ⟨0, Nat.zero_le _⟩ ?_ ?_
  · refine weak_objs [h.n] (by simp -dsimp only [go_sem]) (by simp -dsimp only [go_sem]) (by simp -dsimp only [go_sem, List.take_zero, List.length_nil, List.map_nil]) ?_ ?_ ?_
    · intro t h1 h2
      have a1 : ¬ t = h.n := by omega
      simp -dsimp only [go_sem, a1]
    · intro x h1 h2; have h1 : x < h.n + 1 := h1; simp at h2 ⊢; omega
    · simp -dsimp only [go_sem, List.take_zero, List.length_nil, List.map_nil]
  · rintro ⟨k, hk⟩
    have hk1 : k + 1 ≤ 9223372036854775807 := by omega
    have e6 : (k + 1) * 56 ≤ 140737488355328 := by omega
    have hne : ¬ h.n = h.n + 1 := by omega
    have htl : (l.take k).length = k := by rw [List.length_take]; omega
    by_cases hlt : k < l.length
    · obtain ⟨a, hb⟩ := get_some hlt
      have hg := fun H => s_l13OwnInstance a H (hn a (List.mem_of_getElem? hb))
      have en := take_next hb
      simp -dsimp only [go_sem, hlt, hb, Inst.row, hne] at hg ⊢
      refine call_pure (hg _) ?_
      simp -dsimp only [go_sem, hk1, e6, List.length_map, htl, hne]
      refine round_to ⟨k + 1, hlt⟩ (by simp; omega) ?_
      refine weak_objs [h.n] (by simp -dsimp only [go_sem]) (by simp -dsimp only [go_sem]) (by simp -dsimp only [go_sem, en, htl, List.length_append, List.length_cons, List.length_nil, List.map_append, List.map_cons, List.map_nil, Inst.row]) ?_ ?_ ?_
      · intro t h1 h2
        have a1 : ¬ t = h.n := by omega
        have a2 : ¬ t = h.n + 1 := by omega
        simp -dsimp only [go_sem, a1, a2]
      · intro x h1 h2; have h1 : x < h.n + 1 := h1; simp at h2 ⊢; omega
      · simp -dsimp only [go_sem, en, hne, List.length_append, List.length_cons, List.length_nil, List.map_append, List.map_cons, List.map_nil, Inst.row]
    · have ek : k = l.length := by omega
      subst ek
      simp -dsimp only [go_sem, hlt, List.take_length, List.length_map]
      exact fin_pure (by simp -dsimp only [go_sem]) (by simp -dsimp only [go_sem, List.length_map])
theorem s_l13OwnWorld (w : Wld) (h : AH) (hc : w.cs.length ≤ 1099511627776) (hi : w.is.length ≤ 1099511627776) (hn : ∀ i ∈ w.is, i.ns.length ≤ 1099511627776) : Isea.Good Tryz.prog 131 [.agg w.row] h [] (.agg w.row) h := by
  have e6 : w.cs.length * 32 ≤ 140737488355328 := by omega
  have hg := fun H => s_l13OwnListInstance w.is H hi hn
  have hgr : ∀ H : AH, goodRows H 2 (w.cs.map Cls.row) = True := fun H => good_map fun c => by simp -dsimp only [Cls.row, go_sem, List.length_cons, List.length_nil, List.all_cons, List.all_nil, Bool.and_self]
  refine good [1] [] Tryz.func131 rfl rfl Tryz.ntmps131 (by kernel_rfl) mixed (by kernel_rfl) ?_
  simp -dsimp only [go_sem, Wld.row, e6, List.length_map, Nat.zero_add, List.nil_append, hgr] at hg ⊢
  refine call_pure (hg _) ?_
  simp -dsimp only [go_sem]
  exact fin_pure (by simp -dsimp only [go_sem]) (by simp -dsimp only [go_sem, Wld.row, List.length_map])
end Go.Proofs.YtnocdggngfiebaaGreatDoor

namespace Go.Isea
open Go
end Go.Isea
namespace Go.Proofs.YtnocdggngfiebaaGreatDoor
open Go Go.Isea
set_option maxRecDepth 100000
set_option maxHeartbeats 8000000
end Go.Proofs.YtnocdggngfiebaaGreatDoor
