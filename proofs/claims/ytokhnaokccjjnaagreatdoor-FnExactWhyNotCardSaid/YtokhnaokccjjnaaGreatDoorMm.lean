/- Contracts of functions of this program, for all arguments that satisfy what each lemma asks for. -/
import Derived.Test.YtokhnaokccjjnaaGreatDoorMk
set_option linter.all false
namespace Go.Isea
open Go
/-- which count a reason goes to -/
def whyK (s : L8) : Nat := if s = [] then 0 else if s = noneL then 1 else if s = manyL then 2 else 3
def whyN (w : Wld) (c : L8) (l : List L8) (j : Nat) : Nat := (l.filter fun t => decide (whyK (findD w false ⟨c, t⟩).2 = j)).length
def whyC (w : Wld) (c : L8) (l : List L8) : List Nat := [whyN w c l 0, whyN w c l 1, whyN w c l 2, whyN w c l 3]
def whyL (w : Wld) (c : L8) (n : Int) : List Nat := if (hasClass w c && smallOk n) = true then whyC w c (smallT n.toNat) else []
theorem whyN_next {w : Wld} {c : L8} {l : List L8} {k j : Nat} {a : L8} (h : l[k]? = some a) : whyN w c (l.take (k + 1)) j = if whyK (findD w false ⟨c, a⟩).2 = j then whyN w c (l.take k) j + 1 else whyN w c (l.take k) j := by
  unfold whyN
  rw [take_next h, List.filter_append, List.length_append]
  by_cases e : whyK (findD w false ⟨c, a⟩).2 = j
  · rw [if_pos e]; simp [e]
  · rw [if_neg e]; simp [e]
theorem whyN_le {w : Wld} {c : L8} {l : List L8} {k j : Nat} : whyN w c (l.take k) j ≤ l.length := Nat.le_trans (List.length_filter_le _ _) (by rw [List.length_take]; omega)
theorem len_why (w : Wld) (c : L8) (n : Int) : (whyL w c n).length ≤ 1099511627776 := by
  unfold whyL
  split
  · show 4 ≤ _; decide
  · exact Nat.zero_le _
@[go_sem] theorem idxA_so_0 {h : AH} {l n len : Nat} {a : Bool} {s : Nat} : idxA h (.so l n len) 0 (some (none, a, s)) = aelem (curRows h l n) s 0 len l n := idxA_so (k := 0)
@[go_sem] theorem aelem_0 {rs : List (List AV)} {s len l n : Nat} : aelem (some rs) s 0 len l n = if 0 < len ∧ (∀ r ∈ rs, r.length = s) then some (.pel l n 0 0) else none := aelem_s (k := 0)
@[go_sem] theorem idxA_so_1 {h : AH} {l n len : Nat} {a : Bool} {s : Nat} : idxA h (.so l n len) 1 (some (none, a, s)) = aelem (curRows h l n) s 1 len l n := idxA_so (k := 1)
@[go_sem] theorem aelem_1 {rs : List (List AV)} {s len l n : Nat} : aelem (some rs) s 1 len l n = if 1 < len ∧ (∀ r ∈ rs, r.length = s) then some (.pel l n 1 0) else none := aelem_s (k := 1)
@[go_sem] theorem idxA_so_2 {h : AH} {l n len : Nat} {a : Bool} {s : Nat} : idxA h (.so l n len) 2 (some (none, a, s)) = aelem (curRows h l n) s 2 len l n := idxA_so (k := 2)
@[go_sem] theorem aelem_2 {rs : List (List AV)} {s len l n : Nat} : aelem (some rs) s 2 len l n = if 2 < len ∧ (∀ r ∈ rs, r.length = s) then some (.pel l n 2 0) else none := aelem_s (k := 2)
@[go_sem] theorem idxA_so_3 {h : AH} {l n len : Nat} {a : Bool} {s : Nat} : idxA h (.so l n len) 3 (some (none, a, s)) = aelem (curRows h l n) s 3 len l n := idxA_so (k := 3)
@[go_sem] theorem aelem_3 {rs : List (List AV)} {s len l n : Nat} : aelem (some rs) s 3 len l n = if 3 < len ∧ (∀ r ∈ rs, r.length = s) then some (.pel l n 3 0) else none := aelem_s (k := 3)
@[go_sem] theorem mkD_4 {K : AV → AH → Prop} {h : AH} {k k2 : IntKind} {e sz bt : Nat} {z : Value} : mkD (.v (.int k 4)) (.v (.int k2 4)) (.mk K) h (some (e, sz, bt, z)) = (4 * bt ≤ 140737488355328 ∧ K (.so h.n 4 4) (h.push (.rows e sz (List.replicate 4 (zcells z))))) := mkD_s (n := 4)
@[go_sem] theorem all_len4 {a b c d : AV} : (∀ r ∈ [[a], [b], [c], [d]], r.length = 1) = True := by simp
end Go.Isea
namespace Go.Proofs.YtokhnaokccjjnaaGreatDoor
open Go Go.Isea
set_option maxRecDepth 100000
set_option maxHeartbeats 8000000
theorem s_WhyNot (w : Wld) (c : L8) (n : Int) (h : AH) (hw : w.Sm) (hc : c.length ≤ 4611686018427387904) (hn : -9223372036854775808 ≤ n ∧ n ≤ 9223372036854775807) : Isea.Good Tryz.prog 48 [.agg w.row, str c, .v (.int .i64 n)] h [] (.tup [.sl ((whyL w c n).map iRow), .v (.bool (hasClass w c && smallOk n))]) h := by
  have hA := fun H => s_l11Asked w c n H hw
  have hH := fun t H ht => s_FindDict w ⟨c, t⟩ H hw ⟨hc, ht⟩
  cases e : (hasClass w c && smallOk n) with
  | false =>
    have et : whyL w c n = [] := by unfold whyL; rw [if_neg (by rw [e]; simp)]
    rw [et]
    refine good [] [] Tryz.func48 rfl rfl Tryz.ntmps48 (by kernel_rfl) mixed (by kernel_rfl) ?_
    simp -dsimp only [go_sem, Wld.row] at hA ⊢
    refine call_pure (hA _) ?_
    rw [e]
    simp -dsimp only [go_sem]
    refine fin_pure (by simp -dsimp only [go_sem]) ?_
    simp -dsimp only [go_sem, List.map_nil]
  | true =>
    have et : whyL w c n = whyC w c (smallT n.toNat) := by unfold whyL; rw [if_pos e]
    have hs := e
    simp only [Bool.and_eq_true, smallOk_iff] at hs
    obtain ⟨m, rfl⟩ : ∃ m : Nat, n = (m : Int) := ⟨n.toNat, by omega⟩
    have hm1 : 1 ≤ m := by omega
    have hm4 : m ≤ 4 := by omega
    have hS := fun H => s_l11Small m H hm1 hm4
    have hl := smallT_len hm4
    have ht := fun t (h : t ∈ smallT m) => smallT_txt h
    rw [et, Int.toNat_natCast]
    generalize smallT m = l at hS hl ht
    refine good [19] [] Tryz.func48 rfl rfl Tryz.ntmps48 (by kernel_rfl) mixed (by kernel_rfl) ?_
    simp -dsimp only [go_sem, Wld.row, Need.row] at hA hH ⊢
    refine call_pure (hA _) ?_
    rw [e]
    simp -dsimp only [go_sem]
    refine call_pure (hS _) ?_
    simp -dsimp only [go_sem, List.length_map]
    refine loop_ruleH [1, 1, 17, 0] (fun (k : {k : Nat // k ≤ l.length}) H => ([(8, .so h.n 4 4), (23, .v (.int .i64 (k.1 : Nat)))], ⟨h.n + 1, upd H.o h.n (.rows 3 1 ((whyC w c (l.take k.1)).map iRow))⟩)) (fun k => l.length - k.1) ⟨0, Nat.zero_le _⟩ ?_ ?_
    · have e0 : whyC w c [] = [0, 0, 0, 0] := rfl
      refine weak_objs [h.n] (by simp -dsimp only [go_sem]) (by simp -dsimp only [go_sem]) (by simp -dsimp only [go_sem]) ?_ ?_ ?_
      · intro t h1 h2
        have a1 : ¬ t = h.n := by omega
        simp -dsimp only [go_sem, a1]
      · intro x h1 h2; have h1 : x < h.n + 1 := h1; simp at h2 ⊢; omega
      · simp -dsimp only [go_sem, e0, List.take_zero, List.map_cons, List.map_nil, iRow, List.replicate_succ, List.replicate_zero, Int.ofNat_zero, Int.natCast_zero]
    · rintro ⟨k, hk⟩
      have hk1 : k + 1 ≤ 9223372036854775807 := by omega
      by_cases hlt : k < l.length
      · obtain ⟨t, hb⟩ := get_some hlt
        have htl := ht t (List.mem_of_getElem? hb)
        have en := fun j => whyN_next (w := w) (c := c) (j := j) hb
        have el := fun j => whyN_le (w := w) (c := c) (l := l) (k := k) (j := j)
        have q0 : whyN w c (l.take k) 0 + 1 ≤ 9223372036854775807 := by have := el 0; omega
        have q1 : whyN w c (l.take k) 1 + 1 ≤ 9223372036854775807 := by have := el 1; omega
        have q2 : whyN w c (l.take k) 2 + 1 ≤ 9223372036854775807 := by have := el 2; omega
        have q3 : whyN w c (l.take k) 3 + 1 ≤ 9223372036854775807 := by have := el 3; omega
        simp -dsimp only [go_sem, hlt, hb, sRow]
        refine call_pure (hH t _ (by omega)) ?_
        generalize (findD w false ⟨c, t⟩).2 = z at en ⊢
        generalize (findD w false ⟨c, t⟩).1 = y
        simp -dsimp only [go_sem]
        by_cases z0 : z = []
        · have ez : whyK z = 0 := by unfold whyK; rw [if_pos z0]
          simp -dsimp only [go_sem, whyC, List.map_cons, List.map_nil, iRow, eq_true z0, q0]
          simp -dsimp only [go_sem, hk1]
          have f0 := en 0
          have f1 := en 1
          have f2 := en 2
          have f3 := en 3
          rw [ez] at f0 f1 f2 f3
          rw [if_pos rfl] at f0
          rw [if_neg (by decide)] at f1
          rw [if_neg (by decide)] at f2
          rw [if_neg (by decide)] at f3
          refine round_to ⟨k + 1, hlt⟩ (by simp; omega) ?_
          refine weak_objs [h.n] (by simp -dsimp only [go_sem]) (by simp -dsimp only [go_sem]) (by simp -dsimp only [go_sem]) ?_ ?_ ?_
          · intro t h1 h2
            have a1 : ¬ t = h.n := by omega
            simp -dsimp only [go_sem, a1]
          · intro x h1 h2; have h1 : x < h.n + 1 := h1; simp at h2 ⊢; omega
          · simp -dsimp only [go_sem, whyC, List.map_cons, List.map_nil, iRow, f0, f1, f2, f3]
        · by_cases z1 : z = [110, 111, 110, 101]
          · have ez : whyK z = 1 := by unfold whyK noneL; rw [if_neg z0, if_pos z1]
            simp -dsimp only [go_sem, whyC, List.map_cons, List.map_nil, iRow, eq_false z0, eq_true z1, q1]
            simp -dsimp only [go_sem, hk1]
            have f0 := en 0
            have f1 := en 1
            have f2 := en 2
            have f3 := en 3
            rw [ez] at f0 f1 f2 f3
            rw [if_neg (by decide)] at f0
            rw [if_pos rfl] at f1
            rw [if_neg (by decide)] at f2
            rw [if_neg (by decide)] at f3
            refine round_to ⟨k + 1, hlt⟩ (by simp; omega) ?_
            refine weak_objs [h.n] (by simp -dsimp only [go_sem]) (by simp -dsimp only [go_sem]) (by simp -dsimp only [go_sem]) ?_ ?_ ?_
            · intro t h1 h2
              have a1 : ¬ t = h.n := by omega
              simp -dsimp only [go_sem, a1]
            · intro x h1 h2; have h1 : x < h.n + 1 := h1; simp at h2 ⊢; omega
            · simp -dsimp only [go_sem, whyC, List.map_cons, List.map_nil, iRow, f0, f1, f2, f3]
          · by_cases z2 : z = [109, 97, 110, 121]
            · have ez : whyK z = 2 := by unfold whyK noneL manyL; rw [if_neg z0, if_neg z1, if_pos z2]
              simp -dsimp only [go_sem, whyC, List.map_cons, List.map_nil, iRow, eq_false z0, eq_false z1, eq_true z2, q2]
              simp -dsimp only [go_sem, hk1]
              have f0 := en 0
              have f1 := en 1
              have f2 := en 2
              have f3 := en 3
              rw [ez] at f0 f1 f2 f3
              rw [if_neg (by decide)] at f0
              rw [if_neg (by decide)] at f1
              rw [if_pos rfl] at f2
              rw [if_neg (by decide)] at f3
              refine round_to ⟨k + 1, hlt⟩ (by simp; omega) ?_
              refine weak_objs [h.n] (by simp -dsimp only [go_sem]) (by simp -dsimp only [go_sem]) (by simp -dsimp only [go_sem]) ?_ ?_ ?_
              · intro t h1 h2
                have a1 : ¬ t = h.n := by omega
                simp -dsimp only [go_sem, a1]
              · intro x h1 h2; have h1 : x < h.n + 1 := h1; simp at h2 ⊢; omega
              · simp -dsimp only [go_sem, whyC, List.map_cons, List.map_nil, iRow, f0, f1, f2, f3]
            · have ez : whyK z = 3 := by unfold whyK noneL manyL; rw [if_neg z0, if_neg z1, if_neg z2]
              simp -dsimp only [go_sem, whyC, List.map_cons, List.map_nil, iRow, eq_false z0, eq_false z1, eq_false z2, q3]
              simp -dsimp only [go_sem, hk1]
              have f0 := en 0
              have f1 := en 1
              have f2 := en 2
              have f3 := en 3
              rw [ez] at f0 f1 f2 f3
              rw [if_neg (by decide)] at f0
              rw [if_neg (by decide)] at f1
              rw [if_neg (by decide)] at f2
              rw [if_pos rfl] at f3
              refine round_to ⟨k + 1, hlt⟩ (by simp; omega) ?_
              refine weak_objs [h.n] (by simp -dsimp only [go_sem]) (by simp -dsimp only [go_sem]) (by simp -dsimp only [go_sem]) ?_ ?_ ?_
              · intro t h1 h2
                have a1 : ¬ t = h.n := by omega
                simp -dsimp only [go_sem, a1]
              · intro x h1 h2; have h1 : x < h.n + 1 := h1; simp at h2 ⊢; omega
              · simp -dsimp only [go_sem, whyC, List.map_cons, List.map_nil, iRow, f0, f1, f2, f3]
      · have et : l.take k = l := List.take_of_length_le (by omega)
        simp -dsimp only [go_sem, hlt, et]
        exact fin_pure (by simp -dsimp only [go_sem]) (by simp -dsimp only [go_sem, whyC, List.map_cons, List.map_nil, iRow])
theorem i_WhyNot (w : Wld) (c : L8) (n : Int) (h : AH) (hw : w.Sm) (hc : c.length ≤ 4611686018427387904) (hn : -9223372036854775808 ≤ n ∧ n ≤ 9223372036854775807) : Isea.Good Tryz.prog 49 [.agg w.row, str c, .v (.int .i64 n)] h [] (.tup [.so h.n (whyL w c n).length (whyL w c n).length, .v (.bool (hasClass w c && smallOk n))]) (h.push (.rows 3 1 ((whyL w c n).map iRow))) := by
  have hS := fun H => i_small w c n H hw hn
  have hH := fun t H ht => i_FindDict w ⟨c, t⟩ H hw ⟨hc, ht⟩
  cases e : (hasClass w c && smallOk n) with
  | false =>
    have et : whyL w c n = [] := by unfold whyL; rw [if_neg (by rw [e]; simp)]
    rw [et]
    refine Good.ghostR2 (h' := h) (by decide) ?_
    refine good [] [] Tryz.func49 rfl rfl Tryz.ntmps49 (by kernel_rfl) mixed (by kernel_rfl) ?_
    simp -dsimp only [go_sem, Wld.row] at hS ⊢
    refine call_pure (hS _) ?_
    rw [e]
    simp -dsimp only [go_sem]
    exact fin_pure (by simp -dsimp only [go_sem]) (by simp -dsimp only [go_sem])
  | true =>
    have et : whyL w c n = whyC w c (smallT n.toNat) := by unfold whyL; rw [if_pos e]
    have hs := e
    simp only [Bool.and_eq_true, smallOk_iff] at hs
    have hl := smallT_len (n := n.toNat) (by omega)
    have ht := fun t (h : t ∈ smallT n.toNat) => smallT_txt h
    rw [et]
    rw [e, if_pos rfl] at hS
    generalize smallT n.toNat = l at hS hl ht
    refine good [] [] Tryz.func49 rfl rfl Tryz.ntmps49 (by kernel_rfl) mixed (by kernel_rfl) ?_
    simp -dsimp only [go_sem, Wld.row, Need.row] at hS hH ⊢
    refine call_pure (hS _) ?_
    simp -dsimp only [go_sem, List.length_map]
    refine loop_ruleH [1, 1, 21, 0] (fun (k : {k : Nat // k ≤ l.length}) H => ([(10, .so h.n 4 4), (27, .v (.int .i64 (k.1 : Nat)))], ⟨h.n + 1, upd H.o h.n (.rows 3 1 ((whyC w c (l.take k.1)).map iRow))⟩)) (fun k => l.length - k.1) ⟨0, Nat.zero_le _⟩ ?_ ?_
    · have e0 : whyC w c [] = [0, 0, 0, 0] := rfl
      refine weak_objs [h.n] (by simp -dsimp only [go_sem]) (by simp -dsimp only [go_sem]) (by simp -dsimp only [go_sem]) ?_ ?_ ?_
      · intro t h1 h2
        have a1 : ¬ t = h.n := by omega
        simp -dsimp only [go_sem, a1]
      · intro x h1 h2; have h1 : x < h.n + 1 := h1; simp at h2 ⊢; omega
      · simp -dsimp only [go_sem, e0, List.take_zero, List.map_cons, List.map_nil, iRow, List.replicate_succ, List.replicate_zero, Int.ofNat_zero, Int.natCast_zero]
    · rintro ⟨k, hk⟩
      have hk1 : k + 1 ≤ 9223372036854775807 := by omega
      by_cases hlt : k < l.length
      · obtain ⟨t, hb⟩ := get_some hlt
        have htl := ht t (List.mem_of_getElem? hb)
        have en := fun j => whyN_next (w := w) (c := c) (j := j) hb
        have el := fun j => whyN_le (w := w) (c := c) (l := l) (k := k) (j := j)
        have q0 : whyN w c (l.take k) 0 + 1 ≤ 9223372036854775807 := by have := el 0; omega
        have q1 : whyN w c (l.take k) 1 + 1 ≤ 9223372036854775807 := by have := el 1; omega
        have q2 : whyN w c (l.take k) 2 + 1 ≤ 9223372036854775807 := by have := el 2; omega
        have q3 : whyN w c (l.take k) 3 + 1 ≤ 9223372036854775807 := by have := el 3; omega
        simp -dsimp only [go_sem, hlt, hb, sRow]
        refine call_pure (hH t _ (by omega)) ?_
        generalize (findD w false ⟨c, t⟩).2 = z at en ⊢
        generalize (findD w false ⟨c, t⟩).1 = y
        simp -dsimp only [go_sem]
        by_cases z0 : z = []
        · have ez : whyK z = 0 := by unfold whyK; rw [if_pos z0]
          simp -dsimp only [go_sem, whyC, List.map_cons, List.map_nil, iRow, eq_true z0, q0]
          simp -dsimp only [go_sem, hk1]
          have f0 := en 0
          have f1 := en 1
          have f2 := en 2
          have f3 := en 3
          rw [ez] at f0 f1 f2 f3
          rw [if_pos rfl] at f0
          rw [if_neg (by decide)] at f1
          rw [if_neg (by decide)] at f2
          rw [if_neg (by decide)] at f3
          refine round_to ⟨k + 1, hlt⟩ (by simp; omega) ?_
          refine weak_objs [h.n] (by simp -dsimp only [go_sem]) (by simp -dsimp only [go_sem]) (by simp -dsimp only [go_sem]) ?_ ?_ ?_
          · intro t h1 h2
            have a1 : ¬ t = h.n := by omega
            simp -dsimp only [go_sem, a1]
          · intro x h1 h2; have h1 : x < h.n + 1 := h1; simp at h2 ⊢; omega
          · simp -dsimp only [go_sem, whyC, List.map_cons, List.map_nil, iRow, f0, f1, f2, f3]
        · by_cases z1 : z = [110, 111, 110, 101]
          · have ez : whyK z = 1 := by unfold whyK noneL; rw [if_neg z0, if_pos z1]
            simp -dsimp only [go_sem, whyC, List.map_cons, List.map_nil, iRow, eq_false z0, eq_true z1, q1]
            simp -dsimp only [go_sem, hk1]
            have f0 := en 0
            have f1 := en 1
            have f2 := en 2
            have f3 := en 3
            rw [ez] at f0 f1 f2 f3
            rw [if_neg (by decide)] at f0
            rw [if_pos rfl] at f1
            rw [if_neg (by decide)] at f2
            rw [if_neg (by decide)] at f3
            refine round_to ⟨k + 1, hlt⟩ (by simp; omega) ?_
            refine weak_objs [h.n] (by simp -dsimp only [go_sem]) (by simp -dsimp only [go_sem]) (by simp -dsimp only [go_sem]) ?_ ?_ ?_
            · intro t h1 h2
              have a1 : ¬ t = h.n := by omega
              simp -dsimp only [go_sem, a1]
            · intro x h1 h2; have h1 : x < h.n + 1 := h1; simp at h2 ⊢; omega
            · simp -dsimp only [go_sem, whyC, List.map_cons, List.map_nil, iRow, f0, f1, f2, f3]
          · by_cases z2 : z = [109, 97, 110, 121]
            · have ez : whyK z = 2 := by unfold whyK noneL manyL; rw [if_neg z0, if_neg z1, if_pos z2]
              simp -dsimp only [go_sem, whyC, List.map_cons, List.map_nil, iRow, eq_false z0, eq_false z1, eq_true z2, q2]
              simp -dsimp only [go_sem, hk1]
              have f0 := en 0
              have f1 := en 1
              have f2 := en 2
              have f3 := en 3
              rw [ez] at f0 f1 f2 f3
              rw [if_neg (by decide)] at f0
              rw [if_neg (by decide)] at f1
              rw [if_pos rfl] at f2
              rw [if_neg (by decide)] at f3
              refine round_to ⟨k + 1, hlt⟩ (by simp; omega) ?_
              refine weak_objs [h.n] (by simp -dsimp only [go_sem]) (by simp -dsimp only [go_sem]) (by simp -dsimp only [go_sem]) ?_ ?_ ?_
              · intro t h1 h2
                have a1 : ¬ t = h.n := by omega
                simp -dsimp only [go_sem, a1]
              · intro x h1 h2; have h1 : x < h.n + 1 := h1; simp at h2 ⊢; omega
              · simp -dsimp only [go_sem, whyC, List.map_cons, List.map_nil, iRow, f0, f1, f2, f3]
            · have ez : whyK z = 3 := by unfold whyK noneL manyL; rw [if_neg z0, if_neg z1, if_neg z2]
              simp -dsimp only [go_sem, whyC, List.map_cons, List.map_nil, iRow, eq_false z0, eq_false z1, eq_false z2, q3]
              simp -dsimp only [go_sem, hk1]
              have f0 := en 0
              have f1 := en 1
              have f2 := en 2
              have f3 := en 3
              rw [ez] at f0 f1 f2 f3
              rw [if_neg (by decide)] at f0
              rw [if_neg (by decide)] at f1
              rw [if_neg (by decide)] at f2
              rw [if_pos rfl] at f3
              refine round_to ⟨k + 1, hlt⟩ (by simp; omega) ?_
              refine weak_objs [h.n] (by simp -dsimp only [go_sem]) (by simp -dsimp only [go_sem]) (by simp -dsimp only [go_sem]) ?_ ?_ ?_
              · intro t h1 h2
                have a1 : ¬ t = h.n := by omega
                simp -dsimp only [go_sem, a1]
              · intro x h1 h2; have h1 : x < h.n + 1 := h1; simp at h2 ⊢; omega
              · simp -dsimp only [go_sem, whyC, List.map_cons, List.map_nil, iRow, f0, f1, f2, f3]
      · have et : l.take k = l := List.take_of_length_le (by omega)
        simp -dsimp only [go_sem, hlt, et]
        exact fin_push (by simp -dsimp only [go_sem]) (by simp -dsimp only [go_sem, whyC]) (by simp -dsimp only [go_sem, whyC, List.map_cons, List.map_nil, iRow])
end Go.Proofs.YtokhnaokccjjnaaGreatDoor
