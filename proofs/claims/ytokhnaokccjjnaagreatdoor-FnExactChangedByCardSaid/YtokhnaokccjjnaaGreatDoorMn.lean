/- Contracts of functions of this program, for all arguments that satisfy what each lemma asks for. -/
import Derived.Test.YtokhnaokccjjnaaGreatDoorMk
set_option linter.all false
namespace Go.Isea
open Go
/-- the small types of which one world has an instance and the other has none -/
def chgF (w v : Wld) (c : L8) (l : List L8) : List L8 := l.filter fun t => !(hasI w ⟨c, t⟩ == hasI v ⟨c, t⟩)
def chgB (w v : Wld) (c : L8) (n : Int) : Bool := (hasClass w c && smallOk n) && hasClass v c
def chgL (w v : Wld) (c : L8) (n : Int) : List L8 := if chgB w v c n = true then chgF w v c (smallT n.toNat) else []
theorem chgF_next {w v : Wld} {c : L8} {l : List L8} {k : Nat} {a : L8} (h : l[k]? = some a) : chgF w v c (l.take (k + 1)) = if (!(hasI w ⟨c, a⟩ == hasI v ⟨c, a⟩)) = true then chgF w v c (l.take k) ++ [a] else chgF w v c (l.take k) := filter_take h
theorem chgF_le {w v : Wld} {c : L8} {l : List L8} {k : Nat} : (chgF w v c (l.take k)).length ≤ l.length := Nat.le_trans (List.length_filter_le _ _) (by rw [List.length_take]; omega)
theorem len_chg (w v : Wld) (c : L8) (n : Int) : (chgL w v c n).length ≤ 1099511627776 := by
  unfold chgL
  split
  · rename_i e
    simp only [chgB, Bool.and_eq_true, smallOk_iff] at e
    exact Nat.le_trans (List.length_filter_le _ _) (Nat.le_trans (smallT_len (by omega)) (by decide))
  · exact Nat.zero_le _
end Go.Isea
namespace Go.Proofs.YtokhnaokccjjnaaGreatDoor
open Go Go.Isea
set_option maxRecDepth 100000
set_option maxHeartbeats 8000000
theorem s_ChangedBy (w v : Wld) (c : L8) (n : Int) (h : AH) (hw : w.Sm) (hv : v.Sm) (hc : c.length ≤ 4611686018427387904) (hn : -9223372036854775808 ≤ n ∧ n ≤ 9223372036854775807) : Isea.Good Tryz.prog 53 [.agg w.row, .agg v.row, str c, .v (.int .i64 n)] h [] (.tup [.sl ((chgL w v c n).map sRow), .v (.bool (chgB w v c n))]) h := by
  have hA := fun H => s_l11Asked w c n H hw
  have hA2 := fun H => s_l11Asked v c n H hv
  have hH := fun t H ht => s_HasInstance w ⟨c, t⟩ H hw ⟨hc, ht⟩
  have hH2 := fun t H ht => s_HasInstance v ⟨c, t⟩ H hv ⟨hc, ht⟩
  cases e1 : (hasClass w c && smallOk n) with
  | false =>
    have eb : chgB w v c n = false := by unfold chgB; rw [e1]; rfl
    have et : chgL w v c n = [] := by unfold chgL; rw [if_neg (by rw [eb]; simp)]
    rw [et, eb]
    refine good [] [(8, [0, 1, 3, 4, 2, 5, 6])] Tryz.func53 rfl rfl Tryz.ntmps53 (by kernel_rfl) mixed (by kernel_rfl) ?_
    simp -dsimp only [go_sem, Wld.row] at hA ⊢
    refine call_pure (hA _) ?_
    rw [e1]
    simp -dsimp only [go_sem]
    refine fin_pure (by simp -dsimp only [go_sem]) ?_
    simp -dsimp only [go_sem, List.map_nil]
  | true =>
  have hs := e1
  simp only [Bool.and_eq_true, smallOk_iff] at hs
  have hso : smallOk n = true := smallOk_iff.2 hs.2
  cases e2 : hasClass v c with
  | false =>
    have eb : chgB w v c n = false := by unfold chgB; rw [e2]; simp
    have et : chgL w v c n = [] := by unfold chgL; rw [if_neg (by rw [eb]; simp)]
    rw [et, eb]
    refine good [] [(8, [0, 1, 3, 4, 2, 5, 6])] Tryz.func53 rfl rfl Tryz.ntmps53 (by kernel_rfl) mixed (by kernel_rfl) ?_
    simp -dsimp only [go_sem, Wld.row] at hA hA2 ⊢
    refine call_pure (hA _) ?_
    rw [e1]
    simp -dsimp only [go_sem]
    refine call_pure (hA2 _) ?_
    rw [e2]
    simp -dsimp only [go_sem, Bool.false_and]
    refine fin_pure (by simp -dsimp only [go_sem]) ?_
    simp -dsimp only [go_sem, List.map_nil]
  | true =>
    have eb : chgB w v c n = true := by unfold chgB; rw [e1, e2]; rfl
    have et : chgL w v c n = chgF w v c (smallT n.toNat) := by unfold chgL; rw [if_pos eb]
    obtain ⟨m, rfl⟩ : ∃ m : Nat, n = (m : Int) := ⟨n.toNat, by omega⟩
    have hm1 : 1 ≤ m := by omega
    have hm4 : m ≤ 4 := by omega
    have hS := fun H => s_l11Small m H hm1 hm4
    have hl := smallT_len hm4
    have ht := fun t (h : t ∈ smallT m) => smallT_txt h
    rw [et, eb, Int.toNat_natCast]
    generalize smallT m = l at hS hl ht
    refine good [] [(8, [0, 1, 3, 4, 2, 5, 6])] Tryz.func53 rfl rfl Tryz.ntmps53 (by kernel_rfl) mixed (by kernel_rfl) ?_
    simp -dsimp only [go_sem, Wld.row, Need.row] at hA hA2 hH hH2 ⊢
    refine call_pure (hA _) ?_
    rw [e1]
    simp -dsimp only [go_sem]
    refine call_pure (hA2 _) ?_
    rw [e2, hso]
    simp -dsimp only [go_sem, Bool.and_self]
    refine call_pure (hS _) ?_
    simp -dsimp only [go_sem, List.length_map]
    refine loop_ruleH [2, 1, 0, 23, 0] (fun (k : {k : Nat // k ≤ l.length}) H => ([(10, .so h.n (chgF w v c (l.take k.1)).length (chgF w v c (l.take k.1)).length), (31, .v (.int .i64 (k.1 : Nat)))], ⟨h.n + 1, upd H.o h.n (.rows 9 1 ((chgF w v c (l.take k.1)).map sRow))⟩)) (fun k => l.length - k.1) ⟨0, Nat.zero_le _⟩ ?_ ?_
    · have e0 : chgF w v c [] = [] := rfl
      refine weak_objs [h.n] (by simp -dsimp only [go_sem]) (by simp -dsimp only [go_sem]) (by simp -dsimp only [go_sem, e0, List.take_zero, List.length_nil, List.map_nil]) ?_ ?_ ?_
      · intro t h1 h2
        have a1 : ¬ t = h.n := by omega
        simp -dsimp only [go_sem, a1]
      · intro x h1 h2; have h1 : x < h.n + 1 := h1; simp at h2 ⊢; omega
      · simp -dsimp only [go_sem, e0, List.take_zero, List.length_nil, List.map_nil]
    · rintro ⟨k, hk⟩
      have hk1 : k + 1 ≤ 9223372036854775807 := by omega
      have hle := chgF_le (w := w) (v := v) (c := c) (l := l) (k := k)
      have e6 : ((chgF w v c (l.take k)).length + 1) * 16 ≤ 140737488355328 := by omega
      have hne : ¬ h.n = h.n + 1 := by omega
      by_cases hlt : k < l.length
      · obtain ⟨t, hb⟩ := get_some hlt
        have htl := ht t (List.mem_of_getElem? hb)
        have en := chgF_next (w := w) (v := v) (c := c) hb
        simp -dsimp only [go_sem, hlt, hb, sRow, hne]
        refine call_pure (hH t _ (by omega)) ?_
        simp -dsimp only [go_sem, hne]
        refine call_pure (hH2 t _ (by omega)) ?_
        cases hh : (hasI w ⟨c, t⟩ == hasI v ⟨c, t⟩) with
        | false =>
          have hd : ¬ hasI w ⟨c, t⟩ = hasI v ⟨c, t⟩ := by simpa using hh
          rw [hh, Bool.not_false, if_pos rfl] at en
          simp -dsimp only [go_sem, hd, hk1, e6, List.length_map, hne]
          refine round_to ⟨k + 1, hlt⟩ (by simp; omega) ?_
          refine weak_objs [h.n] (by simp -dsimp only [go_sem]) (by simp -dsimp only [go_sem]) (by simp -dsimp only [go_sem, en, List.length_append, List.length_cons, List.length_nil, List.map_append, List.map_cons, List.map_nil, sRow]) ?_ ?_ ?_
          · intro t h1 h2
            have a1 : ¬ t = h.n := by omega
            have a2 : ¬ t = h.n + 1 := by omega
            simp -dsimp only [go_sem, a1, a2]
          · intro x h1 h2; have h1 : x < h.n + 1 := h1; simp at h2 ⊢; omega
          · simp -dsimp only [go_sem, en, hne, List.length_append, List.length_cons, List.length_nil, List.map_append, List.map_cons, List.map_nil, sRow]
        | true =>
          have hd : hasI w ⟨c, t⟩ = hasI v ⟨c, t⟩ := by simpa using hh
          rw [hh, Bool.not_true, if_neg (by simp)] at en
          simp -dsimp only [go_sem, hd, hk1]
          refine round_to ⟨k + 1, hlt⟩ (by simp; omega) ?_
          refine weak_objs [h.n] (by simp -dsimp only [go_sem]) (by simp -dsimp only [go_sem]) (by simp -dsimp only [go_sem, en]) ?_ ?_ ?_
          · intro t h1 h2
            have a1 : ¬ t = h.n := by omega
            have a2 : ¬ t = h.n + 1 := by omega
            simp -dsimp only [go_sem, a1, a2]
          · intro x h1 h2; have h1 : x < h.n + 1 := h1; simp at h2 ⊢; omega
          · simp -dsimp only [go_sem, en, hne]
      · have et : l.take k = l := List.take_of_length_le (by omega)
        simp -dsimp only [go_sem, hlt, et]
        exact fin_pure (by simp -dsimp only [go_sem]) (by simp -dsimp only [go_sem, List.length_map])
theorem i_ChangedBy (w v : Wld) (c : L8) (n : Int) (h : AH) (hw : w.Sm) (hv : v.Sm) (hc : c.length ≤ 4611686018427387904) (hn : -9223372036854775808 ≤ n ∧ n ≤ 9223372036854775807) : Isea.Good Tryz.prog 54 [.agg w.row, .agg v.row, str c, .v (.int .i64 n)] h [] (.tup [.so h.n (chgL w v c n).length (chgL w v c n).length, .v (.bool (chgB w v c n))]) (h.push (.rows 9 1 ((chgL w v c n).map sRow))) := by
  have hS := fun H => i_small w c n H hw hn
  have hC := fun H => i_HasClass v c H hv
  have hH := fun t H ht => i_HasInstance w ⟨c, t⟩ H hw ⟨hc, ht⟩
  have hH2 := fun t H ht => i_HasInstance v ⟨c, t⟩ H hv ⟨hc, ht⟩
  cases e1 : (hasClass w c && smallOk n) with
  | false =>
    have eb : chgB w v c n = false := by unfold chgB; rw [e1]; rfl
    have et : chgL w v c n = [] := by unfold chgL; rw [if_neg (by rw [eb]; simp)]
    rw [et, eb]
    refine Good.ghostR2 (h' := h) (by decide) ?_
    refine good [] [(9, [0, 1, 3, 4, 2, 5, 6])] Tryz.func54 rfl rfl Tryz.ntmps54 (by kernel_rfl) mixed (by kernel_rfl) ?_
    simp -dsimp only [go_sem, Wld.row] at hS ⊢
    refine call_pure (hS _) ?_
    rw [e1]
    simp -dsimp only [go_sem]
    exact fin_pure (by simp -dsimp only [go_sem]) (by simp -dsimp only [go_sem])
  | true =>
  have hs := e1
  simp only [Bool.and_eq_true, smallOk_iff] at hs
  cases e2 : hasClass v c with
  | false =>
    have eb : chgB w v c n = false := by unfold chgB; rw [e2]; simp
    have et : chgL w v c n = [] := by unfold chgL; rw [if_neg (by rw [eb]; simp)]
    rw [et, eb]
    refine Good.ghostR2 (h' := h) (by decide) ?_
    refine good [] [(9, [0, 1, 3, 4, 2, 5, 6])] Tryz.func54 rfl rfl Tryz.ntmps54 (by kernel_rfl) mixed (by kernel_rfl) ?_
    simp -dsimp only [go_sem, Wld.row] at hS hC ⊢
    refine call_pure (hS _) ?_
    rw [e1]
    simp -dsimp only [go_sem]
    refine call_pure (hC _) ?_
    rw [e2]
    simp -dsimp only [go_sem]
    exact fin_pure (by simp -dsimp only [go_sem]) (by simp -dsimp only [go_sem])
  | true =>
    have eb : chgB w v c n = true := by unfold chgB; rw [e1, e2]; rfl
    have et : chgL w v c n = chgF w v c (smallT n.toNat) := by unfold chgL; rw [if_pos eb]
    have hl := smallT_len (n := n.toNat) (by omega)
    have ht := fun t (h : t ∈ smallT n.toNat) => smallT_txt h
    rw [et, eb]
    rw [e1, if_pos rfl] at hS
    generalize smallT n.toNat = l at hS hl ht
    refine good [] [(9, [0, 1, 3, 4, 2, 5, 6])] Tryz.func54 rfl rfl Tryz.ntmps54 (by kernel_rfl) mixed (by kernel_rfl) ?_
    simp -dsimp only [go_sem, Wld.row, Need.row] at hS hC hH hH2 ⊢
    refine call_pure (hS _) ?_
    simp -dsimp only [go_sem]
    refine call_pure (hC _) ?_
    rw [e2]
    simp -dsimp only [go_sem, List.length_map]
    refine loop_ruleH [2, 1, 0, 26, 0] (fun (k : {k : Nat // k ≤ l.length}) H => ([(12, .so h.n (chgF w v c (l.take k.1)).length (chgF w v c (l.take k.1)).length), (34, .v (.int .i64 (k.1 : Nat)))], ⟨h.n + 1, upd H.o h.n (.rows 9 1 ((chgF w v c (l.take k.1)).map sRow))⟩)) (fun k => l.length - k.1) ⟨0, Nat.zero_le _⟩ ?_ ?_
    · have e0 : chgF w v c [] = [] := rfl
      refine weak_objs [h.n] (by simp -dsimp only [go_sem]) (by simp -dsimp only [go_sem]) (by simp -dsimp only [go_sem, e0, List.take_zero, List.length_nil, List.map_nil]) ?_ ?_ ?_
      · intro t h1 h2
        have a1 : ¬ t = h.n := by omega
        simp -dsimp only [go_sem, a1]
      · intro x h1 h2; have h1 : x < h.n + 1 := h1; simp at h2 ⊢; omega
      · simp -dsimp only [go_sem, e0, List.take_zero, List.length_nil, List.map_nil]
    · rintro ⟨k, hk⟩
      have hk1 : k + 1 ≤ 9223372036854775807 := by omega
      have hle := chgF_le (w := w) (v := v) (c := c) (l := l) (k := k)
      have e6 : ((chgF w v c (l.take k)).length + 1) * 16 ≤ 140737488355328 := by omega
      have hne : ¬ h.n = h.n + 1 := by omega
      by_cases hlt : k < l.length
      · obtain ⟨t, hb⟩ := get_some hlt
        have htl := ht t (List.mem_of_getElem? hb)
        have en := chgF_next (w := w) (v := v) (c := c) hb
        simp -dsimp only [go_sem, hlt, hb, sRow, hne]
        refine call_pure (hH t _ (by omega)) ?_
        simp -dsimp only [go_sem, hne]
        refine call_pure (hH2 t _ (by omega)) ?_
        cases hh : (hasI w ⟨c, t⟩ == hasI v ⟨c, t⟩) with
        | false =>
          have hd : ¬ hasI w ⟨c, t⟩ = hasI v ⟨c, t⟩ := by simpa using hh
          rw [hh, Bool.not_false, if_pos rfl] at en
          simp -dsimp only [go_sem, hd, hk1, e6, List.length_map, hne]
          refine round_to ⟨k + 1, hlt⟩ (by simp; omega) ?_
          refine weak_objs [h.n] (by simp -dsimp only [go_sem]) (by simp -dsimp only [go_sem]) (by simp -dsimp only [go_sem, en, List.length_append, List.length_cons, List.length_nil, List.map_append, List.map_cons, List.map_nil, sRow]) ?_ ?_ ?_
          · intro t h1 h2
            have a1 : ¬ t = h.n := by omega
            have a2 : ¬ t = h.n + 1 := by omega
            simp -dsimp only [go_sem, a1, a2]
          · intro x h1 h2; have h1 : x < h.n + 1 := h1; simp at h2 ⊢; omega
          · simp -dsimp only [go_sem, en, hne, List.length_append, List.length_cons, List.length_nil, List.map_append, List.map_cons, List.map_nil, sRow]
        | true =>
          have hd : hasI w ⟨c, t⟩ = hasI v ⟨c, t⟩ := by simpa using hh
          rw [hh, Bool.not_true, if_neg (by simp)] at en
          simp -dsimp only [go_sem, hd, hk1]
          refine round_to ⟨k + 1, hlt⟩ (by simp; omega) ?_
          refine weak_objs [h.n] (by simp -dsimp only [go_sem]) (by simp -dsimp only [go_sem]) (by simp -dsimp only [go_sem, en]) ?_ ?_ ?_
          · intro t h1 h2
            have a1 : ¬ t = h.n := by omega
            have a2 : ¬ t = h.n + 1 := by omega
            simp -dsimp only [go_sem, a1, a2]
          · intro x h1 h2; have h1 : x < h.n + 1 := h1; simp at h2 ⊢; omega
          · simp -dsimp only [go_sem, en, hne]
      · have et : l.take k = l := List.take_of_length_le (by omega)
        simp -dsimp only [go_sem, hlt, et]
        exact fin_push (by simp -dsimp only [go_sem]) (by simp -dsimp only [go_sem]) (by simp -dsimp only [go_sem])
end Go.Proofs.YtokhnaokccjjnaaGreatDoor
