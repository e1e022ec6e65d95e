/- Contracts of functions of this program, for all arguments that satisfy what each lemma asks for. -/
import Derived.Test.YtokhnaokccjjnaaGreatDoorMk
set_option linter.all false
namespace Go.Isea
open Go
/-- the dictionaries of the small types that have a class -/
def dicF (w : Wld) (c : L8) (l : List L8) : List L8 := l.map fun t => (findD w false ⟨c, t⟩).1
def dicL (w : Wld) (c : L8) (n : Int) : List L8 := dicF w c (tyH w c n)
theorem dicF_next {w : Wld} {c : L8} {l : List L8} {k : Nat} {a : L8} (h : l[k]? = some a) : dicF w c (l.take (k + 1)) = dicF w c (l.take k) ++ [(findD w false ⟨c, a⟩).1] := by
  unfold dicF; rw [take_next h, List.map_append]; rfl
theorem dicF_len {w : Wld} {c : L8} {l : List L8} {k : Nat} (hk : k ≤ l.length) : (dicF w c (l.take k)).length = k := by
  unfold dicF; rw [List.length_map, List.length_take]; omega
theorem tyH_small (w : Wld) (c : L8) (n : Int) : (tyH w c n).length ≤ 4 * 4593483 ∧ ∀ t ∈ tyH w c n, t.length ≤ 90 := by
  unfold tyH
  split
  · rename_i e
    simp only [Bool.and_eq_true, smallOk_iff] at e
    exact ⟨Nat.le_trans (List.length_filter_le _ _) (smallT_len (by omega)), fun t h => smallT_txt (List.mem_filter.1 h).1⟩
  · exact ⟨Nat.zero_le _, fun t h => by cases h⟩
theorem len_dic (w : Wld) (c : L8) (n : Int) : (dicL w c n).length ≤ 1099511627776 := by
  unfold dicL dicF
  rw [List.length_map]
  exact Nat.le_trans (tyH_small w c n).1 (by decide)
end Go.Isea
namespace Go.Proofs.YtokhnaokccjjnaaGreatDoor
open Go Go.Isea
set_option maxRecDepth 100000
set_option maxHeartbeats 8000000
theorem i_TypesHavingF (w : Wld) (c : L8) (n : Int) (h : AH) (hw : w.Sm) (hc : c.length ≤ 4611686018427387904) (hn : -9223372036854775808 ≤ n ∧ n ≤ 9223372036854775807) : Isea.Good Tryz.prog 44 [.agg w.row, str c, .v (.int .i64 n)] h [] (.tup [.sl ((tyH w c n).map sRow), .v (.bool (hasClass w c && smallOk n))]) h := by
  have hS := fun H => i_small w c n H hw hn
  cases e : (hasClass w c && smallOk n) with
  | false =>
    have et : tyH w c n = [] := by unfold tyH; rw [if_neg (by rw [e]; simp)]
    rw [et]
    refine good [] [] Tryz.func44 rfl rfl Tryz.ntmps44 (by kernel_rfl) mixed (by kernel_rfl) ?_
    simp -dsimp only [go_sem, Wld.row] at hS ⊢
    refine call_pure (hS _) ?_
    rw [e]
    simp -dsimp only [go_sem]
    exact fin_pure (by simp -dsimp only [go_sem]) (by simp -dsimp only [go_sem, List.map_nil])
  | true =>
    have et : tyH w c n = havL w c (smallT n.toNat) := by unfold tyH; rw [if_pos e]
    have hs := e
    simp only [Bool.and_eq_true, smallOk_iff] at hs
    have hl := smallT_len (n := n.toNat) (by omega)
    have hG := fun H => i_having w c (smallT n.toNat) H hw hc hl (fun t h => smallT_txt h)
    rw [et]
    rw [e, if_pos rfl] at hS
    generalize smallT n.toNat = l at hS hG
    refine good [] [] Tryz.func44 rfl rfl Tryz.ntmps44 (by kernel_rfl) mixed (by kernel_rfl) ?_
    simp -dsimp only [go_sem, Wld.row] at hS hG ⊢
    refine call_pure (hS _) ?_
    simp -dsimp only [go_sem]
    refine call_pure (hG _) ?_
    simp -dsimp only [go_sem]
    exact fin_pure (by simp -dsimp only [go_sem]) (by simp -dsimp only [go_sem, List.length_map])
theorem s_DictsOf (w : Wld) (c : L8) (n : Int) (h : AH) (hw : w.Sm) (hc : c.length ≤ 4611686018427387904) (hn : -9223372036854775808 ≤ n ∧ n ≤ 9223372036854775807) : Isea.Good Tryz.prog 57 [.agg w.row, str c, .v (.int .i64 n)] h [] (.tup [.sl ((dicL w c n).map sRow), .v (.bool (hasClass w c && smallOk n))]) h := by
  have hT := fun H => s_TypesHaving w c n H hw hc hn
  have hH := fun t H ht => s_FindDict w ⟨c, t⟩ H hw ⟨hc, ht⟩
  obtain ⟨hl, ht⟩ := tyH_small w c n
  unfold dicL
  generalize tyH w c n = l at hT hl ht
  generalize (hasClass w c && smallOk n) = ok at hT
  refine good [] [] Tryz.func57 rfl rfl Tryz.ntmps57 (by kernel_rfl) mixed (by kernel_rfl) ?_
  simp -dsimp only [go_sem, Wld.row, Need.row] at hT hH ⊢
  refine call_pure (hT _) ?_
  simp -dsimp only [go_sem, List.length_map]
  refine loop_ruleH [1, 1, 6, 12, 0] (fun (k : {k : Nat // k ≤ l.length}) H => ([(8, .so h.n k.1 k.1), (25, .v (.int .i64 (k.1 : Nat)))], ⟨h.n + 1, upd H.o h.n (.rows 9 1 ((dicF w c (l.take k.1)).map sRow))⟩)) (fun k => l.length - k.1) ⟨0, Nat.zero_le _⟩ ?_ ?_
  · have e0 : dicF w c [] = [] := rfl
    refine weak_objs [h.n] (by simp -dsimp only [go_sem]) (by simp -dsimp only [go_sem]) (by simp -dsimp only [go_sem, e0, List.take_zero, List.length_nil, List.map_nil]) ?_ ?_ ?_
    · intro t h1 h2
      have a1 : ¬ t = h.n := by omega
      simp -dsimp only [go_sem, a1]
    · intro x h1 h2; have h1 : x < h.n + 1 := h1; simp at h2 ⊢; omega
    · simp -dsimp only [go_sem, e0, List.take_zero, List.length_nil, List.map_nil]
  · rintro ⟨k, hk⟩
    have hk1 : k + 1 ≤ 9223372036854775807 := by omega
    have hdl := dicF_len (w := w) (c := c) hk
    have e6 : (k + 1) * 16 ≤ 140737488355328 := by omega
    by_cases hlt : k < l.length
    · obtain ⟨t, hb⟩ := get_some hlt
      have htl := ht t (List.mem_of_getElem? hb)
      have en := dicF_next (w := w) (c := c) hb
      simp -dsimp only [go_sem, hlt, hb, sRow]
      refine call_pure (hH t _ (by omega)) ?_
      simp -dsimp only [go_sem, hk1, e6, List.length_map, hdl]
      refine round_to ⟨k + 1, hlt⟩ (by simp; omega) ?_
      refine weak_objs [h.n] (by simp -dsimp only [go_sem]) (by simp -dsimp only [go_sem]) (by simp -dsimp only [go_sem, en, hdl, List.length_append, List.length_cons, List.length_nil, List.map_append, List.map_cons, List.map_nil, sRow]) ?_ ?_ ?_
      · intro t h1 h2
        have a1 : ¬ t = h.n := by omega
        simp -dsimp only [go_sem, a1]
      · intro x h1 h2; have h1 : x < h.n + 1 := h1; simp at h2 ⊢; omega
      · simp -dsimp only [go_sem, en, List.length_append, List.length_cons, List.length_nil, List.map_append, List.map_cons, List.map_nil, sRow]
    · have ek : k = l.length := by omega
      subst ek
      rw [List.take_length] at hdl
      simp -dsimp only [go_sem, hlt, hdl, List.take_length, List.length_map]
      exact fin_pure (by simp -dsimp only [go_sem]) (by simp -dsimp only [go_sem, hdl, List.length_map])
theorem i_DictsOf (w : Wld) (c : L8) (n : Int) (h : AH) (hw : w.Sm) (hc : c.length ≤ 4611686018427387904) (hn : -9223372036854775808 ≤ n ∧ n ≤ 9223372036854775807) : Isea.Good Tryz.prog 58 [.agg w.row, str c, .v (.int .i64 n)] h [] (.tup [.so h.n (dicL w c n).length (dicL w c n).length, .v (.bool (hasClass w c && smallOk n))]) (h.push (.rows 9 1 ((dicL w c n).map sRow))) := by
  have hT := fun H => i_TypesHavingF w c n H hw hc hn
  have hH := fun t H ht => i_FindDict w ⟨c, t⟩ H hw ⟨hc, ht⟩
  obtain ⟨hl, ht⟩ := tyH_small w c n
  unfold dicL
  generalize tyH w c n = l at hT hl ht
  generalize (hasClass w c && smallOk n) = ok at hT
  refine good [] [] Tryz.func58 rfl rfl Tryz.ntmps58 (by kernel_rfl) mixed (by kernel_rfl) ?_
  simp -dsimp only [go_sem, Wld.row, Need.row] at hT hH ⊢
  refine call_pure (hT _) ?_
  simp -dsimp only [go_sem, List.length_map]
  refine loop_ruleH [1, 1, 5, 13, 0] (fun (k : {k : Nat // k ≤ l.length}) H => ([(10, .so h.n k.1 k.1), (25, .v (.int .i64 (k.1 : Nat)))], ⟨h.n + 1, upd H.o h.n (.rows 9 1 ((dicF w c (l.take k.1)).map sRow))⟩)) (fun k => l.length - k.1) ⟨0, Nat.zero_le _⟩ ?_ ?_
  · have e0 : dicF w c [] = [] := rfl
    refine weak_objs [h.n] (by simp -dsimp only [go_sem]) (by simp -dsimp only [go_sem]) (by simp -dsimp only [go_sem, e0, List.take_zero, List.length_nil, List.map_nil]) ?_ ?_ ?_
    · intro t h1 h2
      have a1 : ¬ t = h.n := by omega
      simp -dsimp only [go_sem, a1]
    · intro x h1 h2; have h1 : x < h.n + 1 := h1; simp at h2 ⊢; omega
    · simp -dsimp only [go_sem, e0, List.take_zero, List.length_nil, List.map_nil]
  · rintro ⟨k, hk⟩
    have hk1 : k + 1 ≤ 9223372036854775807 := by omega
    have hdl := dicF_len (w := w) (c := c) hk
    have e6 : (k + 1) * 16 ≤ 140737488355328 := by omega
    by_cases hlt : k < l.length
    · obtain ⟨t, hb⟩ := get_some hlt
      have htl := ht t (List.mem_of_getElem? hb)
      have en := dicF_next (w := w) (c := c) hb
      simp -dsimp only [go_sem, hlt, hb, sRow]
      refine call_pure (hH t _ (by omega)) ?_
      simp -dsimp only [go_sem, hk1, e6, List.length_map, hdl]
      refine round_to ⟨k + 1, hlt⟩ (by simp; omega) ?_
      refine weak_objs [h.n] (by simp -dsimp only [go_sem]) (by simp -dsimp only [go_sem]) (by simp -dsimp only [go_sem, en, hdl, List.length_append, List.length_cons, List.length_nil, List.map_append, List.map_cons, List.map_nil, sRow]) ?_ ?_ ?_
      · intro t h1 h2
        have a1 : ¬ t = h.n := by omega
        simp -dsimp only [go_sem, a1]
      · intro x h1 h2; have h1 : x < h.n + 1 := h1; simp at h2 ⊢; omega
      · simp -dsimp only [go_sem, en, List.length_append, List.length_cons, List.length_nil, List.map_append, List.map_cons, List.map_nil, sRow]
    · have ek : k = l.length := by omega
      subst ek
      rw [List.take_length] at hdl
      simp -dsimp only [go_sem, hlt, hdl, List.take_length, List.length_map]
      exact fin_push (by simp -dsimp only [go_sem]) (by simp -dsimp only [go_sem, hdl]) (by simp -dsimp only [go_sem])
end Go.Proofs.YtokhnaokccjjnaaGreatDoor
