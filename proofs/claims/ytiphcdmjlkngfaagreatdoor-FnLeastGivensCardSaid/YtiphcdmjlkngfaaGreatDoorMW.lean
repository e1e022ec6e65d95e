/- Contracts of functions of this program, for all arguments that satisfy what each lemma asks for. -/
import Derived.Test.YtiphcdmjlkngfaaGreatDoorMG
import Derived.Test.YtiphcdmjlkngfaaGreatDoorMx
import Derived.Lib.Join
import Derived.Test.YtiphcdmjlkngfaaGreatDoorMz
import Derived.Test.YtiphcdmjlkngfaaGreatDoorMV
import Derived.Lib.Split
import Derived.Lib.SplitLaws
import Derived.Lib.IndexBytes
import Derived.WalkKit
import Derived.KernelRfl
import Derived.WalkSmall
import Derived.Deep.LoopGhost
import Derived.Deep.RegionLaw
import Derived.Lib.Walk
set_option linter.all false
namespace Go.Isea
open Go
def parseNs (s : L8) : Option (List Need) := if s = [45] then some [] else parseNds (cutL s 38)
def jn (l : List Need) : L8 := Lib.join (l.map fmtN) [38]
def fmtNs (l : List Need) : L8 := if l.length = 0 then [45] else jn l
theorem jn_nil : jn [] = [] := rfl
theorem jn_one (n : Need) : jn [n] = fmtN n := Lib.join_one _ _
theorem joinTail_snoc (sep : L8) (r : List L8) (x : L8) : Lib.joinTail sep (r ++ [x]) = Lib.joinTail sep r ++ (sep ++ x) := by unfold Lib.joinTail; simp
theorem jn_snoc {l : List Need} (h : 0 < l.length) (n : Need) : jn (l ++ [n]) = jn l ++ [38] ++ fmtN n := by
  unfold jn
  cases l with
  | nil => simp at h
  | cons a l =>
    rw [List.map_append, List.map_cons, List.map_cons, List.map_nil, List.cons_append, Lib.join_cons, Lib.join_cons, joinTail_snoc]
    simp
theorem fmtN_pos (n : Need) : 0 < (fmtN n).length := by unfold fmtN; simp; omega
theorem jn_len {l : List Need} (hl : ∀ n ∈ l, (fmtN n).length ≤ 2001) : (jn l).length ≤ 2002 * l.length := by
  unfold jn
  cases l with
  | nil => simp [Lib.join]
  | cons a l =>
    rw [List.map_cons, Lib.join_cons]
    have key : ∀ l : List Need, (∀ n ∈ l, (fmtN n).length ≤ 2001) → (Lib.joinTail [38] (l.map fmtN)).length ≤ 2002 * l.length := by
      intro l
      induction l with
      | nil => intro _; simp [Lib.joinTail]
      | cons b l ih =>
        intro h
        have h1 := h b (List.mem_cons_self ..)
        have h2 := ih fun n hn => h n (List.mem_cons_of_mem _ hn)
        have e : Lib.joinTail [38] ((b :: l).map fmtN) = [38] ++ fmtN b ++ Lib.joinTail [38] (l.map fmtN) := by unfold Lib.joinTail; simp
        rw [e]
        simp only [List.length_append, List.length_cons, List.length_nil]
        omega
    have h1 := hl a (List.mem_cons_self ..)
    have h2 := key l fun n hn => hl n (List.mem_cons_of_mem _ hn)
    simp only [List.length_append, List.length_cons]
    omega
theorem jn_pos {l : List Need} (h : 0 < l.length) : jn l ≠ [] := by
  cases l with
  | nil => simp at h
  | cons a l =>
    intro e
    unfold jn at e
    rw [List.map_cons, Lib.join_cons] at e
    have := congrArg List.length e
    have h1 := fmtN_pos a
    rw [List.length_append, List.length_nil] at this
    omega
theorem parseNd_fmt {p : L8} {n : Need} (h : parseNd p = some n) : fmtN n = p := by
  unfold parseNd at h
  split at h
  · split at h
    · rename_i hc
      injection h with h
      rw [← h, hc.1]
      rfl
    · cases h
  · cases h
theorem parseNds_fmt : ∀ {l : List L8} {r : List Need}, parseNds l = some r → r.map fmtN = l
  | [], r, h => by injection h with h; rw [← h]; rfl
  | x :: l, r, h => by
    unfold parseNds at h
    split at h
    · rename_i n q h1 h2
      injection h with h
      rw [← h, List.map_cons, parseNd_fmt h1, parseNds_fmt h2]
    · cases h
theorem join_two (a b : L8) (l : List L8) (sep : L8) : Lib.join (a :: b :: l) sep = a ++ sep ++ Lib.join (b :: l) sep := by
  rw [Lib.join_cons, Lib.join_cons]
  unfold Lib.joinTail
  simp
theorem join_cut (c : UInt8) : ∀ (r cur : L8), Lib.join (cutG c cur r) [c] = cur ++ r
  | [], cur => by rw [cutG, Lib.join_one]; simp
  | x :: r, cur => by
    rw [cutG]
    by_cases h : x = c
    · rw [if_pos h]
      obtain ⟨a, l, e⟩ := cutG_ne c r []
      have ih := join_cut c r []
      rw [e] at ih ⊢
      rw [join_two, ih, h]
      simp
    · rw [if_neg h, join_cut c r (cur ++ [x])]
      simp
theorem fmtNs_parse {s : L8} {r : List Need} (h : parseNs s = some r) : fmtNs r = s := by
  unfold parseNs at h
  split at h
  · rename_i e
    injection h with h
    rw [← h, e]; rfl
  · have h1 := parseNds_fmt h
    have h2 : r.length = (cutL s 38).length := by rw [← h1, List.length_map]
    obtain ⟨a, l, e⟩ := cutG_ne 38 s []
    have e2 : cutL s 38 = a :: l := e
    unfold fmtNs
    rw [if_neg (by rw [h2, e2]; simp)]
    unfold jn
    rw [h1]
    exact join_cut 38 s []
end Go.Isea

namespace Go.Proofs.YtiphcdmjlkngfaaGreatDoor
open Go Go.Isea
set_option maxRecDepth 100000
set_option maxHeartbeats 16000000
/-- needs that are not too long -/
def NsSm (l : List Need) : Prop := l.length ≤ 1000 ∧ ∀ n ∈ l, n.c.length ≤ 1000 ∧ n.t.length ≤ 1000
theorem NsSm.fmt {l : List Need} (h : NsSm l) : ∀ n ∈ l, (fmtN n).length ≤ 2001 := fun n hn => by
  have := h.2 n hn
  unfold fmtN
  simp
  omega
theorem NsSm.take {l : List Need} (h : NsSm l) (k : Nat) : NsSm (l.take k) := ⟨by rw [List.length_take]; have := h.1; omega, fun n hn => h.2 n (List.mem_of_mem_take hn)⟩
theorem s_FormatNeeds (l : List Need) (h : AH) (hl : NsSm l) : Isea.Good Tryz.prog 37 [.sl (l.map Need.row)] h [] (str (fmtNs l)) h := by
  have hlen := hl.1
  have hF : ∀ n ∈ l, ∀ H, Isea.Good Tryz.prog 97 [.agg n.row] H [] (str (fmtN n)) H := fun n hn H => s_FormatNeed n H ⟨by have := (hl.2 n hn).1; omega, by have := (hl.2 n hn).2; omega⟩ (hl.2 n hn).1
  have hjl : ∀ k, (jn (l.take k)).length ≤ 2002000 := fun k => by
    have h1 := jn_len (hl.take k).fmt
    have h2 := (hl.take k).1
    omega
  have hfl : ∀ n ∈ l, (fmtN n).length ≤ 2001 := hl.fmt
  refine good [] [] Tryz.func37 rfl rfl Tryz.ntmps37 (by kernel_rfl) mixed (by kernel_rfl) ?_
  simp -dsimp only [go_sem, List.length_map]
  refine loop_ruleH [6, 0] (fun (k : {k : Nat // k ≤ l.length}) H => ([(3, str (jn (l.take k.1))), (8, .v (.int .i64 (k.1 : Nat)))], H)) (fun k => l.length - k.1) ⟨0, Nat.zero_le _⟩ ?_ ?_
  · exact weak_at rfl (by simp -dsimp only [go_sem]) (fun x hx => by simp -dsimp only [go_sem, hx]) (by simp -dsimp only [go_sem, List.take_zero, jn_nil])
  · rintro ⟨k, hk⟩
    have hk : k ≤ l.length := hk
    have k1 : k + 1 ≤ 9223372036854775807 := by omega
    by_cases hkl : k < l.length
    · obtain ⟨n, hn⟩ := get_some hkl
      have hFn := hF n (List.mem_of_getElem? hn)
      have hfn := hfl n (List.mem_of_getElem? hn)
      have hjk := hjl k
      have hnx := take_next hn
      have hkc : (((k : Nat) : Int) < ((l.length : Nat) : Int)) = True := eq_true (by omega)
      simp -dsimp only [Need.row] at hFn
      by_cases h0 : 0 < k
      · have h0' : ((0 : Int) < ((k : Nat) : Int)) = True := eq_true (by omega)
        have en : jn (l.take (k + 1)) = jn (l.take k) ++ [38] ++ fmtN n := by rw [hnx]; exact jn_snoc (by rw [List.length_take]; omega) n
        have b1 : (jn (l.take k)).length + 1 ≤ 9223372036854775807 := by omega
        have b2 : (jn (l.take k)).length + 1 + (fmtN n).length ≤ 9223372036854775807 := by omega
        have b3 : (jn (l.take k)).length + (1 + (fmtN n).length) ≤ 9223372036854775807 := by omega
        simp -dsimp only [go_sem, hkc, hkl, hn, h0', b1, Need.row, List.length_append, List.length_cons, List.length_nil]
        refine call_pure (hFn _) ?_
        simp -dsimp only [go_sem, k1, b1, b2, b3, List.length_append, List.length_cons, List.length_nil]
        refine round_to ⟨k + 1, hkl⟩ (by show l.length - (k + 1) < l.length - k; omega) ?_
        refine weak_objs [] (by simp -dsimp only [go_sem]) (by simp -dsimp only [go_sem]) (by simp -dsimp only [go_sem, en]) ?_ ?_ ?_
        · intro t h1 h2
          have a0 : ¬ t = h.n := by omega
          simp -dsimp only [go_sem, a0]
        · intro x h1 h2; have h1 : x < h.n := h1; simp at h2 ⊢; omega
        · simp -dsimp only [go_sem]
      · have h0' : ((0 : Int) < ((k : Nat) : Int)) = False := eq_false (by omega)
        have hk0 : k = 0 := by omega
        have en : jn (l.take (k + 1)) = jn (l.take k) ++ fmtN n := by rw [hnx, hk0, List.take_zero, List.nil_append, jn_one, jn_nil, List.nil_append]
        have b1 : (jn (l.take k)).length + (fmtN n).length ≤ 9223372036854775807 := by omega
        simp -dsimp only [go_sem, hkc, hkl, hn, h0', Need.row]
        refine call_pure (hFn _) ?_
        simp -dsimp only [go_sem, k1, b1]
        refine round_to ⟨k + 1, hkl⟩ (by show l.length - (k + 1) < l.length - k; omega) ?_
        refine weak_objs [] (by simp -dsimp only [go_sem]) (by simp -dsimp only [go_sem]) (by simp -dsimp only [go_sem, en]) ?_ ?_ ?_
        · intro t h1 h2
          have a0 : ¬ t = h.n := by omega
          simp -dsimp only [go_sem, a0]
        · intro x h1 h2; have h1 : x < h.n := h1; simp at h2 ⊢; omega
        · simp -dsimp only [go_sem]
    · have hkc : (((k : Nat) : Int) < ((l.length : Nat) : Int)) = False := eq_false (by omega)
      have et : l.take k = l := List.take_of_length_le (by omega)
      rcases Nat.eq_zero_or_pos l.length with h0 | h0
      · have e0 : l = [] := List.eq_nil_of_length_eq_zero h0
        have ef : fmtNs l = [45] := by unfold fmtNs; rw [if_pos h0]
        have ej : jn l = [] := by rw [e0]; rfl
        simp -dsimp only [go_sem, hkc, et, ej]
        exact fin_pure (by simp -dsimp only [go_sem]) (by simp -dsimp only [go_sem, ef])
      · have ef : fmtNs l = jn l := by unfold fmtNs; rw [if_neg (by omega)]
        have ej : (jn l = []) = False := eq_false (jn_pos h0)
        simp -dsimp only [go_sem, hkc, et, ej]
        exact fin_pure (by simp -dsimp only [go_sem]) (by simp -dsimp only [go_sem, ef])
theorem i_FormatNeeds (l : List Need) (h : AH) (hl : NsSm l) : Isea.Good Tryz.prog 36 [.sl (l.map Need.row)] h [] (str (fmtNs l)) h := by
  have hlen := hl.1
  have hF : ∀ n ∈ l, ∀ H, Isea.Good Tryz.prog 95 [.agg n.row] H [] (str (fmtN n)) H := fun n hn H => i_FormatNeed n H ⟨by have := (hl.2 n hn).1; omega, by have := (hl.2 n hn).2; omega⟩ (hl.2 n hn).1
  have hjl : (jn l).length ≤ 2002000 := by
    have h1 := jn_len hl.fmt
    omega
  obtain ⟨X, hX⟩ : ∃ X, l.map fmtN = X := ⟨_, rfl⟩
  have hXl : X.length = l.length := by rw [← hX, List.length_map]
  have hXk : ∀ (k : Nat) n, l[k]? = some n → X[k]? = some (fmtN n) := fun k n hn => by rw [← hX, List.getElem?_map, hn]; rfl
  have ej : jn l = Lib.join X [38] := by unfold jn; rw [hX]
  rw [ej] at hjl
  have hJ := l_Join X [38] ⟨0, fun _ => default⟩ (by omega) (by omega)
  clear hX
  refine good [] [] Tryz.func36 rfl rfl Tryz.ntmps36 (by kernel_rfl) mixed (by kernel_rfl) ?_
  simp -dsimp only [go_sem, List.length_map]
  refine loop_ruleH [7, 0] (fun (k : {k : Nat // k ≤ l.length}) H => ([(3, .so h.n k.1 k.1), (9, .v (.int .i64 (k.1 : Nat)))], ⟨h.n + 1, upd H.o h.n (.rows 9 1 ((X.take k.1).map sRow))⟩)) (fun k => l.length - k.1) ⟨0, Nat.zero_le _⟩ ?_ ?_
  · refine weak_objs [h.n] (by simp -dsimp only [go_sem]) (by simp -dsimp only [go_sem]) (by simp -dsimp only [go_sem, List.take_zero, List.map_nil]) ?_ ?_ ?_
    · intro t h1 h2
      have a1 : ¬ t = h.n := by omega
      simp -dsimp only [go_sem, a1]
    · intro x h1 h2; have h1 : x < h.n + 1 := h1; simp at h2 ⊢; omega
    · simp -dsimp only [go_sem, List.take_zero, List.map_nil]
  · rintro ⟨k, hk⟩
    have hk : k ≤ l.length := hk
    have k1 : k + 1 ≤ 9223372036854775807 := by omega
    have hln : (X.take k).length = k := by rw [List.length_take]; omega
    by_cases hkl : k < l.length
    · obtain ⟨n, hn⟩ := get_some hkl
      have hFn := hF n (List.mem_of_getElem? hn)
      have en := take_next (hXk k n hn)
      have e6 : (k + 1) * 16 ≤ 140737488355328 := by omega
      have hkc : (((k : Nat) : Int) < ((l.length : Nat) : Int)) = True := eq_true (by omega)
      simp -dsimp only [Need.row] at hFn
      simp -dsimp only [go_sem, hkc, hkl, hn, Need.row]
      refine call_pure (hFn _) ?_
      simp -dsimp only [go_sem, k1, e6, hln, List.length_map]
      refine round_to ⟨k + 1, hkl⟩ (by show l.length - (k + 1) < l.length - k; omega) ?_
      refine weak_objs [h.n] (by simp -dsimp only [go_sem]) (by simp -dsimp only [go_sem]) (by simp -dsimp only [go_sem]) ?_ ?_ ?_
      · intro t h1 h2
        have a1 : ¬ t = h.n := by omega
        have a2 : ¬ t = h.n + 1 := by omega
        simp -dsimp only [go_sem, a1, a2]
      · intro x h1 h2; have h1 : x < h.n + 1 := h1; simp at h2 ⊢; omega
      · simp -dsimp only [go_sem, en, List.map_append, List.map_cons, List.map_nil, sRow]
    · have hkc : (((k : Nat) : Int) < ((l.length : Nat) : Int)) = False := eq_false (by omega)
      have et : X.take k = X := List.take_of_length_le (by omega)
      have hke : X.length = k := by omega
      rcases Nat.eq_zero_or_pos l.length with h0 | h0
      · have ef : fmtNs l = [45] := by unfold fmtNs; rw [if_pos h0]
        have hk0 : (((k : Nat) : Int) = 0) = True := eq_true (by omega)
        simp -dsimp only [go_sem, hkc, et, hk0, hke, List.length_map]
        exact fin_pure (by simp -dsimp only [go_sem]) (by simp -dsimp only [go_sem, ef])
      · have ef : fmtNs l = Lib.join X [38] := by unfold fmtNs; rw [if_neg (by omega)]; exact ej
        have hk0 : (((k : Nat) : Int) = 0) = False := eq_false (by omega)
        simp -dsimp only [go_sem, hkc, et, hk0, hke, List.length_map]
        refine call_pure (Good.frozen hJ (Flat.v _) (by simp -dsimp only [go_sem, hke, List.length_map])) ?_
        simp -dsimp only [go_sem]
        exact fin_pure (by simp -dsimp only [go_sem]) (by simp -dsimp only [go_sem, ef])
theorem parseNs_step {L : List L8} {R : Option (List Need)} {k : Nat} {done : List Need} (h : R = mapOp (done ++ ·) (parseNds (L.drop k))) (hk : ¬ k < L.length) : R = some done := by
  rw [h, List.drop_of_length_le (by omega)]
  show some (done ++ []) = _
  simp
theorem s_ParseNeeds (s : L8) (h : AH) (hs : s.length ≤ 1000000) : Isea.Good Tryz.prog 33 [str s] h [] (.tup [.sl (((parseNs s).getD []).map Need.row), .v (.bool (parseNs s).isSome)]) h := by
  have hCut := fun H => s_l13Cut s 38 H hs
  have hm := cutG_mem 38 s []
  have hl2 := cutG_len 38 s []
  have ec : cutL s 38 = cutG 38 [] s := rfl
  rw [← ec] at hm hl2
  by_cases h45 : s = [45]
  · have e : parseNs s = some [] := by unfold parseNs; rw [if_pos h45]
    have h45' : (s = [45]) = True := eq_true h45
    rw [e]
    refine good [] [] Tryz.func33 rfl rfl Tryz.ntmps33 (by kernel_rfl) mixed (by kernel_rfl) ?_
    simp -dsimp only [go_sem, h45']
    exact fin_pure (by simp -dsimp only [go_sem]) (by simp -dsimp only [go_sem, Option.getD_some, Option.isSome_some, List.map_nil])
  · have e : parseNs s = parseNds (cutL s 38) := by unfold parseNs; rw [if_neg h45]
    have h45' : (s = [45]) = False := eq_false h45
    rw [e]
    generalize cutL s 38 = L at hCut hm hl2
    generalize hR : parseNds L = R
    refine good [] [] Tryz.func33 rfl rfl Tryz.ntmps33 (by kernel_rfl) mixed (by kernel_rfl) ?_
    simp -dsimp only [go_sem, h45']
    refine call_pure (hCut _) ?_
    simp -dsimp only [go_sem, List.length_map]
    refine loop_ruleH [14, 0] (fun (x : {x : Nat × List Need // x.1 ≤ L.length ∧ x.2.length = x.1 ∧ R = mapOp (x.2 ++ ·) (parseNds (L.drop x.1))}) H =>
        ([(4, .so h.n x.1.2.length x.1.2.length), (16, .v (.int .i64 (x.1.1 : Nat)))], ⟨h.n + 1, upd H.o h.n (.rows 28 2 (x.1.2.map Need.row))⟩))
      (fun x => L.length - x.1.1) ⟨(0, []), Nat.zero_le _, rfl, by show R = mapOp ([] ++ ·) (parseNds (L.drop 0)); rw [List.drop_zero, hR]; cases R <;> rfl⟩ ?_ ?_
    · refine weak_objs [h.n] (by simp -dsimp only [go_sem]) (by simp -dsimp only [go_sem]) (by simp -dsimp only [go_sem, List.length_nil]) ?_ ?_ ?_
      · intro t h1 h2
        have a1 : ¬ t = h.n := by omega
        simp -dsimp only [go_sem, a1]
      · intro x h1 h2; have h1 : x < h.n + 1 := h1; simp at h2 ⊢; omega
      · simp -dsimp only [go_sem, List.map_nil, List.length_nil]
    · rintro ⟨⟨k, done⟩, hk, hd, hinv⟩
      have hk : k ≤ L.length := hk
      have hd : done.length = k := hd
      have hinv : R = mapOp (done ++ ·) (parseNds (L.drop k)) := hinv
      clear hR
      have h1 : k + 1 ≤ 9223372036854775807 := by omega
      have e6 : (done.length + 1) * 32 ≤ 140737488355328 := by omega
      by_cases hkl : k < L.length
      · obtain ⟨x, hx⟩ := get_some hkl
        have hxl := hm x (List.mem_of_getElem? hx)
        simp only [List.length_nil] at hxl
        have hN2 := fun H => s_ParseNeed x H (by omega)
        rw [drop_get hx, parseNds_next] at hinv
        cases hnx : parseNd x with
        | none =>
          rw [hnx] at hinv hN2
          simp only at hinv
          subst hinv
          simp -dsimp only [go_sem, hkl, hx, sRow, needR, Need.row, Option.getD_none, Option.isSome_none] at hN2 ⊢
          refine call_pure (hN2 _) ?_
          simp -dsimp only [go_sem]
          exact fin_pure (by simp -dsimp only [go_sem]) (by simp -dsimp only [go_sem, Option.getD_none, Option.isSome_none, List.map_nil])
        | some m =>
          rw [hnx] at hinv hN2
          simp only at hinv
          simp -dsimp only [go_sem, hkl, hx, sRow, needR, Need.row, Option.getD_some, Option.isSome_some] at hN2 ⊢
          refine call_pure (hN2 _) ?_
          simp -dsimp only [go_sem, h1, e6, List.length_map]
          refine round_to ⟨(k + 1, done ++ [m]), hkl, by show (done ++ [m]).length = k + 1; simp [hd], hinv⟩ (by show L.length - (k + 1) < L.length - k; omega) ?_
          refine weak_objs [h.n] (by simp -dsimp only [go_sem]) (by simp -dsimp only [go_sem]) (by simp -dsimp only [go_sem, List.length_append, List.length_cons, List.length_nil]) ?_ ?_ ?_
          · intro t h1 h2
            have a1 : ¬ t = h.n := by omega
            have a2 : ¬ t = h.n + 1 := by omega
            have a3 : ¬ t = h.n + 2 := by omega
            simp -dsimp only [go_sem, a1, a2, a3]
          · intro x h1 h2; have h1 : x < h.n + 1 := h1; simp at h2 ⊢; omega
          · simp -dsimp only [go_sem, List.map_append, List.map_cons, List.map_nil, List.length_append, List.length_cons, List.length_nil, Need.row]
      · have hinv := parseNs_step hinv hkl
        subst hinv
        simp -dsimp only [go_sem, hkl]
        exact fin_pure (by simp -dsimp only [go_sem]) (by simp -dsimp only [go_sem, Option.getD_some, Option.isSome_some, List.length_map])
end Go.Proofs.YtiphcdmjlkngfaaGreatDoor

namespace Go.Isea
open Go
theorem cutG_ix (c : UInt8) : ∀ (s cur : L8), cutG c cur s = if ix s c < 0 then [cur ++ s] else (cur ++ s.take (ix s c).toNat) :: cutG c [] (s.drop ((ix s c).toNat + 1))
  | [], cur => by simp [cutG, ix]
  | x :: s, cur => by
    have ih := cutG_ix c s (cur ++ [x])
    have hg := ix_ge s c
    rw [cutG, ix]
    by_cases h : x = c
    · rw [if_pos h, if_pos h, if_neg (by omega)]
      simp
    · rw [if_neg h, if_neg h, ih]
      by_cases hn : ix s c < 0
      · rw [if_pos hn, if_pos hn, if_pos (by omega)]; simp
      · obtain ⟨i, hi⟩ : ∃ i : Nat, ix s c = (i : Int) := ⟨(ix s c).toNat, by omega⟩
        rw [if_neg hn, if_neg hn, if_neg (by omega), hi]
        have e1 : ((i : Int) + 1).toNat = i + 1 := by omega
        have e2 : ((i : Int)).toNat = i := by omega
        rw [e1, e2]
        simp
theorem count_ix (c : UInt8) : ∀ (s : L8), s.count c = if ix s c < 0 then 0 else 1 + (s.drop ((ix s c).toNat + 1)).count c
  | [] => by simp [ix]
  | x :: s => by
    have ih := count_ix c s
    have hg := ix_ge s c
    rw [ix]
    by_cases h : x = c
    · rw [if_pos h, if_neg (by omega), h]
      simp
      omega
    · have h' : (x == c) = false := by simpa using h
      rw [if_neg h, List.count_cons, h', ih]
      simp only [Bool.false_eq_true, if_false, Nat.add_zero]
      by_cases hn : ix s c < 0
      · rw [if_pos hn, if_pos hn, if_pos (by omega)]
      · obtain ⟨i, hi⟩ : ∃ i : Nat, ix s c = (i : Int) := ⟨(ix s c).toNat, by omega⟩
        rw [if_neg hn, if_neg hn, if_neg (by omega), hi]
        have e1 : ((i : Int) + 1).toNat = i + 1 := by omega
        have e2 : ((i : Int)).toNat = i := by omega
        rw [e1, e2]
        simp
theorem split_cut (c : UInt8) : ∀ (k : Nat) (s : L8), s.count c = k → Lib.splitK [c] 0 k s = cutL s c
  | 0, s, h => by
    rw [count_ix] at h
    unfold cutL
    rw [cutG_ix]
    by_cases hn : ix s c < 0
    · rw [if_pos hn]; simp [Lib.splitK]
    · rw [if_neg hn] at h; omega
  | k + 1, s, h => by
    rw [count_ix] at h
    unfold cutL
    rw [cutG_ix]
    by_cases hn : ix s c < 0
    · rw [if_pos hn] at h; omega
    · rw [if_neg hn] at h ⊢
      have e : Lib.index s [c] = ix s c := by rw [Lib.index_one, indexByte_ix]
      have hne : ¬ (Lib.index s [c] == -1) = true := fun q => by have := beq_iff_eq.1 q; omega
      rw [Lib.splitK, if_neg hne, e, split_cut c k _ (by show (s.drop ((ix s c).toNat + 1)).count c = k; omega)]
      simp [cutL]
/-- a need from its text, as the program reads it -/
theorem tv_nil : tv [] = false := by decide
theorem capital_len {l : L8} (h : capital l = true) : l.length = 1 := by
  unfold capital at h
  split at h
  · rfl
  · cases h
theorem parseNd_ix (s : L8) : parseNd s = if 0 ≤ ix s 32 ∧ capital (s.take (ix s 32).toNat) = true ∧ tv (s.drop ((ix s 32).toNat + 1)) = true then some ⟨s.take (ix s 32).toNat, s.drop ((ix s 32).toNat + 1)⟩ else none := by
  rcases s with _ | ⟨a, _ | ⟨b, r⟩⟩
  · simp [parseNd, ix]
  · by_cases ha : a = 32
    · subst ha
      have : ix [32] 32 = 0 := by decide
      rw [this]
      simp [parseNd, capital]
    · have : ix [a] 32 = -1 := by simp [ix, ha]
      rw [this]
      simp [parseNd]
  · by_cases ha : a = 32
    · subst ha
      have e : ix (32 :: b :: r) 32 = 0 := by simp [ix]
      have hc : capital [32] = false := by decide
      have hc0 : capital [] = false := rfl
      rw [e, if_neg (by simp [hc0])]
      unfold parseNd
      cases r with
      | nil => rfl
      | cons d r => simp [hc]
    · by_cases hb : b = 32
      · subst hb
        have e : ix (a :: 32 :: r) 32 = 1 := by simp [ix, ha]
        rw [e]
        cases r with
        | nil => simp [parseNd, tv_nil]
        | cons d r =>
          unfold parseNd
          simp
      · have h2 : ∀ i : Nat, ix (a :: b :: r) 32 = (i : Int) → 2 ≤ i := fun i hi => by
          have hg := ix_ge r 32
          simp only [ix, ha, hb, if_false] at hi
          split at hi
          · omega
          · split at hi <;> omega
        have e1 : parseNd (a :: b :: r) = none := by
          unfold parseNd
          cases r with
          | nil => rfl
          | cons d r => simp [hb]
        rw [e1, if_neg]
        rintro ⟨h0, hc, _⟩
        obtain ⟨i, hi⟩ : ∃ i : Nat, ix (a :: b :: r) 32 = (i : Int) := ⟨(ix (a :: b :: r) 32).toNat, by omega⟩
        have h3 := h2 i hi
        have h4 := capital_len hc
        rw [hi, List.length_take] at h4
        simp at h4
        omega
end Go.Isea
namespace Go.Proofs.YtiphcdmjlkngfaaGreatDoor
open Go Go.Isea Go.Shelf
set_option maxRecDepth 100000
set_option maxHeartbeats 16000000
theorem l_Index1 (s : L8) (c : UInt8) (h : AH) : Isea.Good Tryz.prog 241 [str s, str [c]] h [] (.v (.int .i64 (ix s c))) h := by
  have hI := fun H => l_IndexByte s c H
  by_cases he : [c] = s
  · have e0 : ix s c = 0 := by rw [← he]; simp [ix]
    have he' : ([c] = s) = True := eq_true he
    rw [e0]
    refine good [] [] Tryz.func241 rfl rfl Tryz.ntmps241 (by kernel_rfl) mixed (by kernel_rfl) ?_
    simp -dsimp only [go_sem, he', List.length_cons, List.length_nil]
    exact fin_pure (by simp -dsimp only [go_sem]) (by simp -dsimp only [go_sem])
  · have he' : ([c] = s) = False := eq_false he
    refine good [] [] Tryz.func241 rfl rfl Tryz.ntmps241 (by kernel_rfl) mixed (by kernel_rfl) ?_
    simp -dsimp only [go_sem, he', List.length_cons, List.length_nil]
    refine call_pure (hI _) ?_
    simp -dsimp only [go_sem]
    exact fin_pure (by simp -dsimp only [go_sem]) (by simp -dsimp only [go_sem])
theorem ix_lt : ∀ (s : L8) (c : UInt8) (i : Nat), ix s c = (i : Int) → i < s.length
  | [], c, i, h => by simp [ix] at h
  | x :: s, c, i, h => by
    rw [ix] at h
    have hg := ix_ge s c
    split at h
    · simp; omega
    · split at h
      · omega
      · have := ix_lt s c (i - 1) (by omega)
        simp only [List.length_cons]; omega
theorem l_Cut1 (s : L8) (c : UInt8) (h : AH) (hs : s.length ≤ 1000000) : Isea.Good Tryz.prog 212 [str s, str [c]] h []
    (if 0 ≤ ix s c then .tup [str (s.take (ix s c).toNat), str (s.drop ((ix s c).toNat + 1)), .v (.bool true)] else .tup [str s, str [], .v (.bool false)]) h := by
  have hI := fun H => l_Index1 s c H
  by_cases h0 : 0 ≤ ix s c
  · obtain ⟨i, hi⟩ : ∃ i : Nat, ix s c = (i : Int) := ⟨(ix s c).toNat, by omega⟩
    have hil := ix_lt s c i hi
    rw [if_pos h0, hi, Int.toNat_natCast]
    rw [hi] at hI
    have q0 : ((0 : Int) ≤ ((i : Nat) : Int)) = True := eq_true (by omega)
    have q1 : i ≤ s.length := by omega
    have q2 : i + 1 ≤ s.length := by omega
    have q3 : i + 1 ≤ 9223372036854775807 := by omega
    have q4 : (s.drop (i + 1)).take (s.length - (i + 1)) = s.drop (i + 1) := List.take_of_length_le (by rw [List.length_drop]; omega)
    refine good [] [] Tryz.func212 rfl rfl Tryz.ntmps212 (by kernel_rfl) mixed (by kernel_rfl) ?_
    simp -dsimp only [go_sem]
    refine call_pure (hI _) ?_
    simp -dsimp only [go_sem, q0, q1, q2, q3, q4, List.length_cons, List.length_nil]
    exact fin_pure (by simp -dsimp only [go_sem]) (by simp -dsimp only [go_sem])
  · rw [if_neg h0]
    have hI' := hI
    have q0 : ((0 : Int) ≤ ix s c) = False := eq_false h0
    refine good [] [] Tryz.func212 rfl rfl Tryz.ntmps212 (by kernel_rfl) mixed (by kernel_rfl) ?_
    simp -dsimp only [go_sem]
    refine call_pure (hI _) ?_
    simp -dsimp only [go_sem, q0]
    exact fin_pure (by simp -dsimp only [go_sem]) (by simp -dsimp only [go_sem])
theorem l_Cut (s : L8) (c : UInt8) (h : AH) (hs : s.length ≤ 1000000) : Isea.Good Tryz.prog 152 [str s, str [c]] h []
    (if 0 ≤ ix s c then .tup [str (s.take (ix s c).toNat), str (s.drop ((ix s c).toNat + 1)), .v (.bool true)] else .tup [str s, str [], .v (.bool false)]) h := by
  have hI := fun H => l_Cut1 s c H hs
  by_cases h0 : 0 ≤ ix s c
  · simp only [if_pos h0] at hI ⊢
    refine good [] [] Tryz.func152 rfl rfl Tryz.ntmps152 (by kernel_rfl) mixed (by kernel_rfl) ?_
    simp -dsimp only [go_sem]
    refine call_pure (hI _) ?_
    simp -dsimp only [go_sem]
    exact fin_pure (by simp -dsimp only [go_sem]) (by simp -dsimp only [go_sem])
  · simp only [if_neg h0] at hI ⊢
    refine good [] [] Tryz.func152 rfl rfl Tryz.ntmps152 (by kernel_rfl) mixed (by kernel_rfl) ?_
    simp -dsimp only [go_sem]
    refine call_pure (hI _) ?_
    simp -dsimp only [go_sem]
    exact fin_pure (by simp -dsimp only [go_sem]) (by simp -dsimp only [go_sem])
theorem i_ParseNeed (s : L8) (h : AH) (hs : s.length ≤ 1000000) : Isea.Good Tryz.prog 92 [str s] h [] (needR (parseNd s)) h := by
  have hC := fun H => l_Cut s 32 H hs
  have hCl := fun H => i_isClass (s.take (ix s 32).toNat) H
  have hTv := fun H => i_TypeValid (s.drop ((ix s 32).toNat + 1)) H (by rw [List.length_drop]; omega)
  rw [parseNd_ix]
  by_cases h0 : 0 ≤ ix s 32
  · simp only [if_pos h0] at hC
    generalize s.take (ix s 32).toNat = A at hC hCl ⊢
    generalize s.drop ((ix s 32).toNat + 1) = B at hC hTv ⊢
    cases hc : capital A with
    | false =>
      rw [hc] at hCl
      rw [if_neg (by simp)]
      refine good [] [] Tryz.func92 rfl rfl Tryz.ntmps92 (by kernel_rfl) mixed (by kernel_rfl) ?_
      simp -dsimp only [go_sem]
      refine call_pure (hC _) ?_
      simp -dsimp only [go_sem]
      refine call_pure (hCl _) ?_
      simp -dsimp only [go_sem]
      exact fin_pure (by simp -dsimp only [go_sem]) (by simp -dsimp only [go_sem, needR, Need.row, Option.getD_none, Option.isSome_none])
    | true =>
      rw [hc] at hCl
      cases ht : tv B with
      | false =>
        rw [ht] at hTv
        rw [if_neg (by simp)]
        refine good [] [] Tryz.func92 rfl rfl Tryz.ntmps92 (by kernel_rfl) mixed (by kernel_rfl) ?_
        simp -dsimp only [go_sem]
        refine call_pure (hC _) ?_
        simp -dsimp only [go_sem]
        refine call_pure (hCl _) ?_
        simp -dsimp only [go_sem]
        refine call_pure (hTv _) ?_
        simp -dsimp only [go_sem]
        exact fin_pure (by simp -dsimp only [go_sem]) (by simp -dsimp only [go_sem, needR, Need.row, Option.getD_none, Option.isSome_none])
      | true =>
        rw [ht] at hTv
        rw [if_pos ⟨h0, rfl, rfl⟩]
        refine good [] [] Tryz.func92 rfl rfl Tryz.ntmps92 (by kernel_rfl) mixed (by kernel_rfl) ?_
        simp -dsimp only [go_sem]
        refine call_pure (hC _) ?_
        simp -dsimp only [go_sem]
        refine call_pure (hCl _) ?_
        simp -dsimp only [go_sem]
        refine call_pure (hTv _) ?_
        simp -dsimp only [go_sem]
        exact fin_pure (by simp -dsimp only [go_sem]) (by simp -dsimp only [go_sem, needR, Need.row, Option.getD_some, Option.isSome_some])
  · simp only [if_neg h0] at hC
    rw [if_neg (fun q => h0 q.1)]
    refine good [] [] Tryz.func92 rfl rfl Tryz.ntmps92 (by kernel_rfl) mixed (by kernel_rfl) ?_
    simp -dsimp only [go_sem]
    refine call_pure (hC _) ?_
    simp -dsimp only [go_sem]
    exact fin_pure (by simp -dsimp only [go_sem]) (by simp -dsimp only [go_sem, needR, Need.row, Option.getD_none, Option.isSome_none])
theorem w_Split (s : ByteArray) (c : UInt8) (w : World) (hs : s.size < 4294967281) :
    Calls Tryz.prog 91 #[.string s, .string ⟨#[c]⟩] w fun e w' =>
      e = .returned (.slice (some ⟨w.heap.size, 0, none⟩) (Lib.countB s ⟨#[c]⟩ + 1) (Lib.countB s ⟨#[c]⟩ + 1)) ∧ w' = w.alloc (.cells ((Lib.splitB ⟨#[c]⟩ 0 (Lib.countB s ⟨#[c]⟩) s).map Value.string).toArray 9) := by
  have h1 : 1 ≤ (⟨#[c]⟩ : ByteArray).size := Nat.le_refl _
  have hle := Lib.countB_le ⟨#[c]⟩ h1 s.size s (Nat.le_refl _)
  have hlen := Lib.splitB_all ⟨#[c]⟩ h1 0 _ s rfl
  have hi9 : (Tryz.prog.info? 9).map (fun i => (i.zero, i.size, i.bytes)) = some (some (.string ByteArray.empty), 1, 16) := by kernel_rfl
  have hI : ∀ (x : ByteArray) (cs : Array Value), x.size ≤ s.size → Calls Tryz.prog 179 #[.string x, .string ⟨#[c]⟩] (w.alloc (.cells cs 9)) fun e w' => e = .returned (.int .i64 (Lib.indexB x ⟨#[c]⟩)) ∧ w' = w.alloc (.cells cs 9) := fun x cs hx => by
    refine (Any.strings_Index_one (ρ := Tryz.lays146_ren) { Tryz.lays146 with } x c (w.alloc (.cells cs 9))).mono fun e w' ⟨he, hw⟩ => ⟨?_, hw⟩
    rw [he]
    show _ = Ending.returned (Value.int .i64 (Lib.index x.data.toList [c]))
    rw [Lib.index_one]
  have hC : Calls Tryz.prog 211 #[.string s, .string ⟨#[c]⟩] w fun e w' => e = .returned (.int .i64 (Lib.countB s ⟨#[c]⟩)) ∧ w' = w := by
    refine (Any.strings_Count_one (ρ := Tryz.lays146_ren) { Tryz.lays146 with } s c w).mono fun e w' ⟨he, hw⟩ => ⟨?_, hw⟩
    rw [he]
    show _ = Ending.returned (Value.int .i64 ((Lib.count s.data.toList [c] : Nat) : Int))
    rw [Lib.count_one]
    rfl
  have cc := Any.strings_genSplit_core (ρ := Tryz.lays146_ren) { Tryz.lays146 with } hi9 s ⟨#[c]⟩ 0 (-1) (Lib.countB s ⟨#[c]⟩ + 1) w hs h1 (Nat.zero_le _) hI hC (by decide) (by decide) (by rw [if_pos (by decide)]; omega)
  rw [Nat.add_sub_cancel, hlen] at cc
  have e2 : Lib.cellsOf (Lib.splitB ⟨#[c]⟩ 0 (Lib.countB s ⟨#[c]⟩) s) (Lib.countB s ⟨#[c]⟩ + 1) = ((Lib.splitB ⟨#[c]⟩ 0 (Lib.countB s ⟨#[c]⟩) s).map Value.string).toArray := by rw [← hlen]; exact Lib.cellsOf_full _
  rw [e2] at cc
  change Calls Tryz.prog 151 _ _ _ at cc
  go_enter Tryz.func91, Tryz.ntmps91
  go_wp2_with (refine cc.mono ?_; rintro e w' ⟨rfl, hw⟩; rw [hw])
  go_ret
  exact ⟨rfl, rfl⟩
end Go.Proofs.YtiphcdmjlkngfaaGreatDoor

namespace Go.Proofs.YtiphcdmjlkngfaaGreatDoor
open Go Go.Isea Go.Shelf
set_option maxRecDepth 100000
set_option maxHeartbeats 16000000
theorem l_Split (s : L8) (c : UInt8) (h : AH) (hs : s.length ≤ 1000000) : Isea.Good Tryz.prog 91 [str s, str [c]] h [] (.sl ((cutL s c).map sRow)) h := by
  refine ⟨⟨_, Tryz.func91, by kernel_rfl, by kernel_rfl⟩, fun K w vs hK hr => ?_⟩
  obtain ⟨u, v, rfl, hu, hv⟩ := repL_two hr
  rw [rep_str hu, rep_str hv]
  have hsz : (bs s).size < 4294967281 := by
    have : (bs s).size = s.length := by simp [ByteArray.size]
    omega
  refine (w_Split (bs s) c w hsz).mono ?_
  rintro e w' ⟨rfl, hw'⟩
  have hd : ∀ k, (Lib.splitB ⟨#[c]⟩ 0 k (bs s)).map (·.data.toList) = Lib.splitK [c] 0 k s := fun k => by
    have := Lib.splitB_data ⟨#[c]⟩ 0 k (bs s)
    simpa using this
  have hcnt : s.count c = Lib.countB (bs s) ⟨#[c]⟩ := by
    have h2 : Lib.countB (bs s) ⟨#[c]⟩ = Lib.count (bs s).data.toList [c] := rfl
    rw [h2, Lib.count_one]
  have hpc := split_cut c _ s hcnt
  have hlen : (Lib.splitB ⟨#[c]⟩ 0 (Lib.countB (bs s) ⟨#[c]⟩) (bs s)).length = Lib.countB (bs s) ⟨#[c]⟩ + 1 := Lib.splitB_all ⟨#[c]⟩ (Nat.le_refl _) 0 _ (bs s) rfl
  have hd := hd (Lib.countB (bs s) ⟨#[c]⟩)
  rw [hpc] at hd
  generalize Lib.splitB ⟨#[c]⟩ 0 (Lib.countB (bs s) ⟨#[c]⟩) (bs s) = Z at hw' hd hlen
  rw [← hlen]
  have hX : Ext [] K h w K h w' := by rw [hw']; exact Ext.was rfl rfl rfl (by simp) (was_alloc w _)
  have key : ∀ (w : World) (o : Obj), (w.alloc o).heap[w.heap.size]? = some o ∧ w.heap.size < (w.alloc o).heap.size := fun w o => by
    unfold World.alloc
    constructor
    · exact Array.getElem?_push_size ..
    · show w.heap.size < (w.heap.push o).size
      rw [Array.size_push]
      exact Nat.lt_succ_self _
  have hgb : w'.heap[w.heap.size]? = some (.cells (Z.map Value.string).toArray 9 (0, 0)) := by rw [hw']; exact (key w _).1
  have hglt : w.heap.size < w'.heap.size := by rw [hw']; exact (key w _).2
  clear key
  have hcl : (cutL s c).length = Z.length := by rw [← hd, List.length_map]
  refine ⟨K, _, rfl, hK.stay hX, hX, ?_⟩
  have hcur : ∀ k x, (cutL s c)[k]? = some x → (Z.map Value.string)[k]? = some (Value.string (bs x)) := fun k x hx => by
    rw [← hd, List.getElem?_map] at hx
    rw [List.getElem?_map]
    cases hz : Z[k]? with
    | none => rw [hz] at hx; cases hx
    | some z =>
      rw [hz] at hx
      simp only [Option.map_some, Option.some.injEq] at hx
      simp only [Option.map_some, ← hx]
  have := Rep.sl (K := K) (h := h) (w := w') (rows := (cutL s c).map sRow) (b := w.heap.size) (o := 0) (c := Z.length) (sz := 1) (f := fun k => (Z.map Value.string).toArray.getD k undef) ⟨hglt, fun t ht hbk => by
      have := hK.lt t _ ht hbk; omega⟩ (by simp [hcl]) (fun r hr => by obtain ⟨c, _, rfl⟩ := List.mem_map.1 hr; rfl)
    (fun k hk => by
      have hk' : k < (Z.map Value.string).toArray.size := by simp only [List.length_map] at hk; simp; omega
      rw [Nat.zero_add, cell_of_heap hgb, Array.getD_eq_getD_getElem?, Array.getElem?_eq_getElem hk']; rfl)
    (fun i j r y hi hj => by
      rw [List.getElem?_map] at hi
      cases hc : (cutL s c)[i]? with
      | none => rw [hc] at hi; cases hi
      | some x =>
        rw [hc] at hi
        simp only [Option.map_some, Option.some.injEq] at hi
        subst hi
        have hj0 : j = 0 := by
          have := (List.getElem?_eq_some_iff.1 hj).1
          simp [sRow] at this; exact this
        subst hj0
        have hy : y = str x := by simp [sRow] at hj; exact hj.symm
        subst hy
        have h1 := hcur i x hc
        simp only [Nat.mul_one, Nat.add_zero, Array.getD_eq_getD_getElem?, List.getElem?_toArray, h1, Option.getD_some]
        exact .v _)
  rw [List.length_map, hcl] at this
  exact this
theorem i_ParseNeeds (s : L8) (h : AH) (hs : s.length ≤ 1000000) : Isea.Good Tryz.prog 32 [str s] h [] (.tup [.sl (((parseNs s).getD []).map Need.row), .v (.bool (parseNs s).isSome)]) h := by
  have hCut := fun H => l_Split s 38 H hs
  have hm := cutG_mem 38 s []
  have hl2 := cutG_len 38 s []
  have ec : cutL s 38 = cutG 38 [] s := rfl
  rw [← ec] at hm hl2
  by_cases h45 : s = [45]
  · have e : parseNs s = some [] := by unfold parseNs; rw [if_pos h45]
    have h45' : (s = [45]) = True := eq_true h45
    rw [e]
    refine good [] [] Tryz.func32 rfl rfl Tryz.ntmps32 (by kernel_rfl) mixed (by kernel_rfl) ?_
    simp -dsimp only [go_sem, h45']
    exact fin_pure (by simp -dsimp only [go_sem]) (by simp -dsimp only [go_sem, Option.getD_some, Option.isSome_some, List.map_nil])
  · have e : parseNs s = parseNds (cutL s 38) := by unfold parseNs; rw [if_neg h45]
    have h45' : (s = [45]) = False := eq_false h45
    rw [e]
    generalize cutL s 38 = L at hCut hm hl2
    generalize hR : parseNds L = R
    refine good [] [] Tryz.func32 rfl rfl Tryz.ntmps32 (by kernel_rfl) mixed (by kernel_rfl) ?_
    simp -dsimp only [go_sem, h45']
    refine call_pure (hCut _) ?_
    simp -dsimp only [go_sem, List.length_map]
    refine loop_ruleH [14, 0] (fun (x : {x : Nat × List Need // x.1 ≤ L.length ∧ x.2.length = x.1 ∧ R = mapOp (x.2 ++ ·) (parseNds (L.drop x.1))}) H =>
        ([(4, .so h.n x.1.2.length x.1.2.length), (16, .v (.int .i64 (x.1.1 : Nat)))], ⟨h.n + 1, upd H.o h.n (.rows 28 2 (x.1.2.map Need.row))⟩))
      (fun x => L.length - x.1.1) ⟨(0, []), Nat.zero_le _, rfl, by show R = mapOp ([] ++ ·) (parseNds (L.drop 0)); rw [List.drop_zero, hR]; cases R <;> rfl⟩ ?_ ?_
    · refine weak_objs [h.n] (by simp -dsimp only [go_sem]) (by simp -dsimp only [go_sem]) (by simp -dsimp only [go_sem, List.length_nil]) ?_ ?_ ?_
      · intro t h1 h2
        have a1 : ¬ t = h.n := by omega
        simp -dsimp only [go_sem, a1]
      · intro x h1 h2; have h1 : x < h.n + 1 := h1; simp at h2 ⊢; omega
      · simp -dsimp only [go_sem, List.map_nil, List.length_nil]
    · rintro ⟨⟨k, done⟩, hk, hd, hinv⟩
      have hk : k ≤ L.length := hk
      have hd : done.length = k := hd
      have hinv : R = mapOp (done ++ ·) (parseNds (L.drop k)) := hinv
      clear hR
      have h1 : k + 1 ≤ 9223372036854775807 := by omega
      have e6 : (done.length + 1) * 32 ≤ 140737488355328 := by omega
      by_cases hkl : k < L.length
      · obtain ⟨x, hx⟩ := get_some hkl
        have hxl := hm x (List.mem_of_getElem? hx)
        simp only [List.length_nil] at hxl
        have hN2 := fun H => i_ParseNeed x H (by omega)
        rw [drop_get hx, parseNds_next] at hinv
        cases hnx : parseNd x with
        | none =>
          rw [hnx] at hinv hN2
          simp only at hinv
          subst hinv
          simp -dsimp only [go_sem, hkl, hx, sRow, needR, Need.row, Option.getD_none, Option.isSome_none] at hN2 ⊢
          refine call_pure (hN2 _) ?_
          simp -dsimp only [go_sem]
          exact fin_pure (by simp -dsimp only [go_sem]) (by simp -dsimp only [go_sem, Option.getD_none, Option.isSome_none, List.map_nil])
        | some m =>
          rw [hnx] at hinv hN2
          simp only at hinv
          simp -dsimp only [go_sem, hkl, hx, sRow, needR, Need.row, Option.getD_some, Option.isSome_some] at hN2 ⊢
          refine call_pure (hN2 _) ?_
          simp -dsimp only [go_sem, h1, e6, List.length_map]
          refine round_to ⟨(k + 1, done ++ [m]), hkl, by show (done ++ [m]).length = k + 1; simp [hd], hinv⟩ (by show L.length - (k + 1) < L.length - k; omega) ?_
          refine weak_objs [h.n] (by simp -dsimp only [go_sem]) (by simp -dsimp only [go_sem]) (by simp -dsimp only [go_sem, List.length_append, List.length_cons, List.length_nil]) ?_ ?_ ?_
          · intro t h1 h2
            have a1 : ¬ t = h.n := by omega
            have a2 : ¬ t = h.n + 1 := by omega
            have a3 : ¬ t = h.n + 2 := by omega
            simp -dsimp only [go_sem, a1, a2, a3]
          · intro x h1 h2; have h1 : x < h.n + 1 := h1; simp at h2 ⊢; omega
          · simp -dsimp only [go_sem, List.map_append, List.map_cons, List.map_nil, List.length_append, List.length_cons, List.length_nil, Need.row]
      · have hinv := parseNs_step hinv hkl
        subst hinv
        simp -dsimp only [go_sem, hkl]
        exact fin_pure (by simp -dsimp only [go_sem]) (by simp -dsimp only [go_sem, Option.getD_some, Option.isSome_some, List.length_map])
end Go.Proofs.YtiphcdmjlkngfaaGreatDoor
