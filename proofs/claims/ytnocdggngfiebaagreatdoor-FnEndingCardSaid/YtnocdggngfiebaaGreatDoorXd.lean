/- Contracts of functions of this program, for all arguments that satisfy what each lemma asks for. -/
import Derived.Test.YtnocdggngfiebaaGreatDoorXa
import Derived.Test.YtnocdggngfiebaaGreatDoorMd
import Derived.Test.YtnocdggngfiebaaGreatDoorMI
import Derived.Test.YtnocdggngfiebaaGreatDoorMJ
set_option linter.all false
namespace Go.Isea
open Go
set_option maxRecDepth 100000
def szP (ts : List Ty) (k : Nat) : Nat := ((ts.take k).map Ty.sz).sum
theorem szP_succ {ts : List Ty} {k : Nat} {p : Ty} (h : ts[k]? = some p) : szP ts (k + 1) = szP ts k + p.sz := by
  unfold szP
  rw [take_next h, List.map_append, List.sum_append]
  simp
theorem szP_all (t : Ty) : 1 + szP t.parts t.parts.length = t.sz := by
  unfold szP
  rw [List.take_of_length_le (Nat.le_refl _)]
  cases t <;> simp [Ty.parts, Ty.sz] <;> omega
theorem sz_text (t : Ty) : t.sz ≤ t.text.length := by
  cases t with
  | leaf c => simp [Ty.sz, Ty.text]
  | un c t => have := sz_text t; simp [Ty.sz, Ty.text]; omega
  | bin c t u => have := sz_text t; have := sz_text u; simp [Ty.sz, Ty.text]; omega
theorem szP_le (t : Ty) {k : Nat} {p : Ty} (h : t.parts[k]? = some p) : 1 + szP t.parts k + p.sz ≤ t.sz := by
  have : szP t.parts t.parts.length = szP t.parts k + (((t.parts.drop k)).map Ty.sz).sum := by
    unfold szP
    rw [List.take_of_length_le (Nat.le_refl _), ← List.sum_append, ← List.map_append, List.take_append_drop]
  rw [← szP_all t, this, drop_get h]
  simp; omega
theorem all_end {α : Type} {p : α → Bool} {l : List α} {k : Nat} (h : ∀ j c, j < k → l[j]? = some c → p c = true) (hk : l.length ≤ k) : l.all p = true := by
  rw [List.all_eq_true]
  intro c hc
  obtain ⟨j, hj⟩ := List.mem_iff_getElem?.1 hc
  exact h j c (by have := (List.getElem?_eq_some_iff.1 hj).1; omega) hj
theorem all_no {α : Type} {p : α → Bool} {l : List α} {k : Nat} {c : α} (h : l[k]? = some c) (hp : p c = false) : l.all p = false := by
  rw [List.all_eq_false]
  exact ⟨c, List.mem_of_getElem? h, by simp [hp]⟩
theorem all_step {α : Type} {p : α → Bool} {l : List α} {k : Nat} {c : α} (h : ∀ j c, j < k → l[j]? = some c → p c = true) (hc : l[k]? = some c) (hp : p c = true) : ∀ j c, j < k + 1 → l[j]? = some c → p c = true := by
  intro j d hj hd
  by_cases e : j = k
  · subst e; rw [hc] at hd; injection hd with hd; rw [← hd]; exact hp
  · exact h j d (by omega) hd
def leC (a b : L8) (v : UInt8) : Bool := decide (countVar a [v] ≤ countVar b [v])
theorem smallB_eq (i n : L8) : smallB i n = (vars6.all (leC n i) && decide (sizeT n < sizeT i)) := rfl
theorem countVar_o (s : L8) (c : UInt8) : countVar s [c] = if (tv s && isV c) = true then (s.count c : Int) else -1 := rfl
/-- only the variables that stand there count -/
theorem leC_in {a b : L8} (ha : tv a = true) (hb : tv b = true) : (varsIn a).all (leC a b) = vars6.all (leC a b) := by
  rw [Bool.eq_iff_iff, List.all_eq_true, List.all_eq_true]
  constructor
  · intro h v hv
    by_cases hin : v ∈ a
    · exact h v (by unfold varsIn; rw [List.mem_filter]; exact ⟨hv, by simpa using hin⟩)
    · have hV : isV v = true := by
        have : ∀ c ∈ vars6, isV c = true := by decide
        exact this v hv
      have h0 : a.count v = 0 := List.count_eq_zero.2 hin
      unfold leC
      rw [decide_eq_true_eq, countVar_o, countVar_o, ha, hb, hV]
      simp only [Bool.and_self, if_true, h0]
      omega
  · intro h v hv
    unfold varsIn at hv
    exact h v (List.mem_filter.1 hv).1
theorem grow_succ {w : Wld} {k : Nat} {x : Inst} (h : w.is[k]? = some x) : growTake w (k + 1) = if (x.ns.any fun n => !smallB x.t n.t) = true then growTake w k ++ [k] else growTake w k := by
  rw [growTake_succ]
  unfold growAt
  rw [h]
theorem any_fd {α : Type} {p : α → Bool} {l : List α} {k : Nat} {a : α} (h : l[k]? = some a) : (l.take (k + 1)).any p = ((l.take k).any p || p a) := by
  rw [take_next h, List.any_append]
  simp
end Go.Isea
namespace Go.Proofs.YtnocdggngfiebaaGreatDoor
open Go Go.Isea
set_option maxRecDepth 100000
set_option maxHeartbeats 16000000
theorem s_l1Size_step {n : Nat} (ih : ∀ (t : Ty) (h : AH), t.text.length ≤ n → Isea.Good Tryz.prog 272 [.agg t.cells] h [] (.v (.int .i64 (t.sz : Nat))) h) (t : Ty) (h : AH) (hl : t.text.length ≤ n + 1) (hn : n ≤ 1000000) :
    Isea.Good Tryz.prog 272 [.agg t.cells] h [] (.v (.int .i64 (t.sz : Nat))) h := by
  have hsz := sz_text t
  have hall := szP_all t
  have hle := fun k p (hp : t.parts[k]? = some p) => szP_le t hp
  refine good [] [] Tryz.func272 rfl rfl Tryz.ntmps272 (by kernel_rfl) mixed (by kernel_rfl) ?_
  simp -dsimp only [go_sem, List.length_map, Ty.cells_one]
  refine loop_ruleH [] (fun (i : {i : Nat // i ≤ t.parts.length}) H => ([(3, .v (.int .i64 ((1 + szP t.parts i.1 : Nat) : Int))), (7, .sl (t.parts.map Ty.cells)), (8, .v (.int .i64 (t.parts.length : Nat))), (9, .v (.int .i64 (i.1 : Nat)))], ⟨h.n, H.o⟩)) (fun i => t.parts.length - i.1) ⟨0, Nat.zero_le _⟩ ?_ ?_
  · have e0 : szP t.parts 0 = 0 := rfl
    refine weak_objs [] (by simp -dsimp only [go_sem]) (by simp -dsimp only [go_sem]) (by simp -dsimp only [go_sem, e0]) ?_ ?_ ?_
    · intro x h1 h2
      have a0 : ¬ x = h.n := by omega
      have a1 : ¬ x = h.n + 1 := by omega
      have a2 : ¬ x = h.n + 2 := by omega
      have a3 : ¬ x = h.n + 3 := by omega
      simp -dsimp only [go_sem, a0, a1, a2, a3]
    · intro x h1 h2; have h1 : x < h.n := h1; simp at h2 ⊢; omega
    · simp -dsimp only [go_sem, e0]
  · rintro ⟨i, hi⟩
    by_cases hlt : i < t.parts.length
    · obtain ⟨p, hp⟩ := get_some hlt
      obtain ⟨hp1, hp2⟩ := part_le t hp
      have hic : (((i : Nat) : Int) < ((t.parts.length : Nat) : Int)) = True := eq_true (by omega)
      have h1 : i + 1 ≤ 9223372036854775807 := by omega
      have hs := szP_succ hp
      have hb := hle i p hp
      have hI := ih p
      have h2 : 1 + szP t.parts i + p.sz ≤ 9223372036854775807 := by omega
      simp -dsimp only [go_sem, hic, hlt, hp, Ty.cells_one]
      refine call_pure (hI _ (by omega)) ?_
      simp -dsimp only [go_sem, h1, h2]
      refine round_to ⟨i + 1, hlt⟩ (by show t.parts.length - (i + 1) < t.parts.length - i; omega) ?_
      have h3 : 1 + szP t.parts (i + 1) = 1 + szP t.parts i + p.sz := by omega
      refine weak_objs [] (by simp -dsimp only [go_sem]) (by simp -dsimp only [go_sem]) (by simp -dsimp only [go_sem, h3]) ?_ ?_ ?_
      · intro x h1 h2
        have a0 : ¬ x = h.n := by omega
        have a1 : ¬ x = h.n + 1 := by omega
        have a2 : ¬ x = h.n + 2 := by omega
        have a3 : ¬ x = h.n + 3 := by omega
        simp -dsimp only [go_sem, a0, a1, a2, a3]
      · intro x h1 h2; have h1 : x < h.n := h1; simp at h2 ⊢; omega
      · simp -dsimp only [go_sem, h3]
    · have hic : (((i : Nat) : Int) < ((t.parts.length : Nat) : Int)) = False := eq_false (by omega)
      have hil : i = t.parts.length := by omega
      subst hil
      simp -dsimp only [go_sem, hic, hall]
      exact fin_pure (by simp -dsimp only [go_sem]) (by simp -dsimp only [go_sem])
theorem s_l1Size (t : Ty) (h : AH) (hl : t.text.length ≤ 1000000) : Isea.Good Tryz.prog 272 [.agg t.cells] h [] (.v (.int .i64 (t.sz : Nat))) h := by
  have : ∀ n, n ≤ 1000000 → ∀ (t : Ty) (h : AH), t.text.length ≤ n → Isea.Good Tryz.prog 272 [.agg t.cells] h [] (.v (.int .i64 (t.sz : Nat))) h := by
    intro n
    induction n with
    | zero => intro _ t h hl; have := t.text_pos; omega
    | succ n ih => intro hn t h hl; exact s_l1Size_step (ih (by omega)) t h hl (by omega)
  exact this 1000000 (Nat.le_refl _) t h hl
theorem s_SizeOf (s : L8) (h : AH) (hs : s.length ≤ 4611686018427387904) : Isea.Good Tryz.prog 213 [str s] h [] (.v (.int .i64 (sizeT s))) h := by
  have hR := fun H => s_l1Read s hs H
  unfold readV at hR
  unfold sizeT
  cases ht : typeOf s with
  | none =>
    rw [ht] at hR
    refine good [] [] Tryz.func213 rfl rfl Tryz.ntmps213 (by kernel_rfl) mixed (by kernel_rfl) ?_
    simp -dsimp only [go_sem, zNode] at hR ⊢
    refine call_pure (hR _) ?_
    simp -dsimp only [go_sem]
    exact fin_pure (by simp -dsimp only [go_sem]) (by simp -dsimp only [go_sem])
  | some a =>
    rw [ht] at hR
    obtain ⟨e, _, hl⟩ := typeOf_some ht
    have hZ := fun H => s_l1Size a H (by rw [← e]; omega)
    refine good [] [] Tryz.func213 rfl rfl Tryz.ntmps213 (by kernel_rfl) mixed (by kernel_rfl) ?_
    simp -dsimp only [go_sem]
    refine call_pure (hR _) ?_
    have hz := hZ
    simp -dsimp only [go_sem, Ty.cells_one, Ty.cells_eq] at hz ⊢
    refine call_pure (hz _) ?_
    simp -dsimp only [go_sem]
    exact fin_pure (by simp -dsimp only [go_sem]) (by simp -dsimp only [go_sem])
theorem s_l8Smaller (t : L8) (n : Need) (h : AH) (ht : t.length ≤ 4611686018427387904) (hn : n.Sm) : Isea.Good Tryz.prog 127 [str t, .agg n.row] h [] (.v (.bool (smallB t n.t))) h := by
  have hC := fun (s : L8) (c : UInt8) H hs => s_CountVar s [c] H hs (by simp)
  have hZ1 := fun H => s_SizeOf n.t H hn.2
  have hZ2 := fun H => s_SizeOf t H ht
  have ev : ([[str [88]], [str [89]], [str [90]], [str [120]], [str [121]], [str [122]]] : List (List AV)) = vars6.map cRow := rfl
  rw [smallB_eq]
  refine good [] [] Tryz.func127 rfl rfl Tryz.ntmps127 (by kernel_rfl) mixed (by kernel_rfl) ?_
  simp -dsimp only [go_sem, Need.row]
  rw [ev]
  refine loop_ruleH [] (fun (k : {k : Nat // k ≤ vars6.length ∧ ∀ j c, j < k → vars6[j]? = some c → leC n.t t c = true}) H => ([(0, str t), (3, .ref [str n.c, str n.t] 0), (7, .sl (vars6.map cRow)), (8, .v (.int .i64 ((6 : Nat) : Int))), (9, .v (.int .i64 (k.1 : Nat)))], ⟨h.n, H.o⟩)) (fun k => vars6.length - k.1) ⟨0, Nat.zero_le _, fun j c hj => absurd hj (Nat.not_lt_zero _)⟩ ?_ ?_
  · skip
    refine weak_objs [] (by simp -dsimp only [go_sem]) (by simp -dsimp only [go_sem]) (by simp -dsimp only [go_sem]) ?_ ?_ ?_
    · intro x h1 h2
      have a0 : ¬ x = h.n := by omega
      have a1 : ¬ x = h.n + 1 := by omega
      have a2 : ¬ x = h.n + 2 := by omega
      have a3 : ¬ x = h.n + 3 := by omega
      simp -dsimp only [go_sem, a0, a1, a2, a3]
    · intro x h1 h2; have h1 : x < h.n := h1; simp at h2 ⊢; omega
    · simp -dsimp only [go_sem]
  · rintro ⟨k, hk, hall⟩
    have hk : k ≤ 6 := hk
    have k1 : k + 1 ≤ 9223372036854775807 := by omega
    by_cases hlt : k < 6
    · obtain ⟨c, hc⟩ := get_some (l := vars6) (k := k) hlt
      have hkc : (((k : Nat) : Int) < ((6 : Nat) : Int)) = True := eq_true (by omega)
      have hkl : k < vars6.length := hlt
      have h1 := fun H => hC n.t c H hn.2
      have h2 := fun H => hC t c H ht
      cases hp : leC n.t t c with
      | true =>
        have hg : (countVar t [c] < countVar n.t [c]) = False := eq_false (by unfold leC at hp; have := of_decide_eq_true hp; omega)
        generalize countVar t [c] = A at *
        generalize countVar n.t [c] = B at *
        simp -dsimp only [go_sem, hkc, hkl, hc, cRow, List.length_map]
        refine call_pure (h1 _) ?_
        simp -dsimp only [go_sem]
        refine call_pure (h2 _) ?_
        simp -dsimp only [go_sem, hg, k1]
        refine round_to ⟨k + 1, hlt, all_step hall hc hp⟩ (by show 6 - (k + 1) < 6 - k; omega) ?_
        refine weak_objs [] (by simp -dsimp only [go_sem]) (by simp -dsimp only [go_sem]) (by simp -dsimp only [go_sem]) ?_ ?_ ?_
        · intro x h1 h2
          have a0 : ¬ x = h.n := by omega
          have a1 : ¬ x = h.n + 1 := by omega
          have a2 : ¬ x = h.n + 2 := by omega
          have a3 : ¬ x = h.n + 3 := by omega
          simp -dsimp only [go_sem, a0, a1, a2, a3]
        · intro x h1 h2; have h1 : x < h.n := h1; simp at h2 ⊢; omega
        · simp -dsimp only [go_sem]
      | false =>
        have hg : (countVar t [c] < countVar n.t [c]) = True := eq_true (by unfold leC at hp; have := of_decide_eq_false hp; omega)
        have ha := all_no hc hp
        rw [ha]
        generalize countVar t [c] = A at *
        generalize countVar n.t [c] = B at *
        simp -dsimp only [go_sem, hkc, hkl, hc, cRow, List.length_map]
        refine call_pure (h1 _) ?_
        simp -dsimp only [go_sem]
        refine call_pure (h2 _) ?_
        simp -dsimp only [go_sem, hg]
        exact fin_pure (by simp -dsimp only [go_sem]) (by simp -dsimp only [go_sem])
    · have hkc : (((k : Nat) : Int) < ((6 : Nat) : Int)) = False := eq_false (by omega)
      have ha := all_end hall (by show 6 ≤ k; omega)
      rw [ha]
      simp -dsimp only [go_sem, hkc]
      refine call_pure (hZ1 _) ?_
      simp -dsimp only [go_sem]
      refine call_pure (hZ2 _) ?_
      simp -dsimp only [go_sem]
      exact fin_pure (by simp -dsimp only [go_sem]) (by simp -dsimp only [go_sem])
theorem i_smaller (a b : L8) (h : AH) (ha : a.length ≤ 4611686018427387904) (hb : b.length ≤ 4611686018427387904) (ta : tv a = true) (tb : tv b = true) : Isea.Good Tryz.prog 126 [str a, str b] h [] (.v (.bool (smallB b a))) h := by
  have hC := fun (s : L8) (c : UInt8) H hs => i_CountVar s c H hs
  have hZ1 := fun H => i_SizeOf a H ha
  have hZ2 := fun H => i_SizeOf b H hb
  have hV := fun H => i_vars a H
  rw [smallB_eq, ← leC_in ta tb]
  have hvl : (varsIn a).length ≤ 6 := by rw [← varsK_all a (Nat.le_refl 6)]; exact varsK_len a 6
  generalize varsIn a = V at *
  refine good [] [] Tryz.func126 rfl rfl Tryz.ntmps126 (by kernel_rfl) mixed (by kernel_rfl) ?_
  simp -dsimp only [go_sem]
  refine call_pure (hV _) ?_
  simp -dsimp only [go_sem, List.length_map]
  refine loop_ruleH [] (fun (k : {k : Nat // k ≤ V.length ∧ ∀ j c, j < k → V[j]? = some c → leC a b c = true}) H => ([(0, str a), (1, str b), (8, .sl (V.map cRow)), (9, .v (.int .i64 (V.length : Nat))), (10, .v (.int .i64 (k.1 : Nat)))], ⟨h.n, H.o⟩)) (fun k => V.length - k.1) ⟨0, Nat.zero_le _, fun j c hj => absurd hj (Nat.not_lt_zero _)⟩ ?_ ?_
  · skip
    refine weak_objs [] (by simp -dsimp only [go_sem]) (by simp -dsimp only [go_sem]) (by simp -dsimp only [go_sem]) ?_ ?_ ?_
    · intro x h1 h2
      have a0 : ¬ x = h.n := by omega
      have a1 : ¬ x = h.n + 1 := by omega
      have a2 : ¬ x = h.n + 2 := by omega
      have a3 : ¬ x = h.n + 3 := by omega
      simp -dsimp only [go_sem, a0, a1, a2, a3]
    · intro x h1 h2; have h1 : x < h.n := h1; simp at h2 ⊢; omega
    · simp -dsimp only [go_sem]
  · rintro ⟨k, hk, hall⟩
    have hk : k ≤ V.length := hk
    have k1 : k + 1 ≤ 9223372036854775807 := by omega
    by_cases hlt : k < V.length
    · obtain ⟨c, hc⟩ := get_some hlt
      have hkc : (((k : Nat) : Int) < ((V.length : Nat) : Int)) = True := eq_true (by omega)
      have h1 := fun H => hC a c H ha
      have h2 := fun H => hC b c H hb
      cases hp : leC a b c with
      | true =>
        have hg : (countVar b [c] < countVar a [c]) = False := eq_false (by unfold leC at hp; have := of_decide_eq_true hp; omega)
        generalize countVar b [c] = A at *
        generalize countVar a [c] = B at *
        simp -dsimp only [go_sem, hkc, hlt, hc, cRow, List.length_map]
        refine call_pure (h1 _) ?_
        simp -dsimp only [go_sem]
        refine call_pure (h2 _) ?_
        simp -dsimp only [go_sem, hg, k1]
        refine round_to ⟨k + 1, hlt, all_step hall hc hp⟩ (by show V.length - (k + 1) < V.length - k; omega) ?_
        refine weak_objs [] (by simp -dsimp only [go_sem]) (by simp -dsimp only [go_sem]) (by simp -dsimp only [go_sem]) ?_ ?_ ?_
        · intro x h1 h2
          have a0 : ¬ x = h.n := by omega
          have a1 : ¬ x = h.n + 1 := by omega
          have a2 : ¬ x = h.n + 2 := by omega
          have a3 : ¬ x = h.n + 3 := by omega
          simp -dsimp only [go_sem, a0, a1, a2, a3]
        · intro x h1 h2; have h1 : x < h.n := h1; simp at h2 ⊢; omega
        · simp -dsimp only [go_sem]
      | false =>
        have hg : (countVar b [c] < countVar a [c]) = True := eq_true (by unfold leC at hp; have := of_decide_eq_false hp; omega)
        have hno := all_no hc hp
        rw [hno]
        generalize countVar b [c] = A at *
        generalize countVar a [c] = B at *
        simp -dsimp only [go_sem, hkc, hlt, hc, cRow, List.length_map]
        refine call_pure (h1 _) ?_
        simp -dsimp only [go_sem]
        refine call_pure (h2 _) ?_
        simp -dsimp only [go_sem, hg]
        exact fin_pure (by simp -dsimp only [go_sem]) (by simp -dsimp only [go_sem])
    · have hkc : (((k : Nat) : Int) < ((V.length : Nat) : Int)) = False := eq_false (by omega)
      have hno := all_end hall (by omega)
      rw [hno]
      simp -dsimp only [go_sem, hkc]
      refine call_pure (hZ1 _) ?_
      simp -dsimp only [go_sem]
      refine call_pure (hZ2 _) ?_
      simp -dsimp only [go_sem]
      exact fin_pure (by simp -dsimp only [go_sem]) (by simp -dsimp only [go_sem])
theorem i_GrowingOf1 (n : Need) (x : Inst) (l : Nat) (h : AH) (hl : l < h.n) (ho : h.o l = .cells x.row) (hn : n.Sm) (hx : x.t.length ≤ 4611686018427387904) (tn : tv n.t = true) (tx : tv x.t = true) : Isea.Good Tryz.prog 125 [.agg n.row, .ptr l 0] h [] (.v (.bool (!smallB x.t n.t))) h := by
  have hS := fun H => i_smaller n.t x.t H hn.2 hx tn tx
  refine good [] [] Tryz.func125 rfl rfl Tryz.ntmps125 (by kernel_rfl) mixed (by kernel_rfl) ?_
  simp -dsimp only [go_sem, Need.row, hl, ho, Inst.row]
  refine call_pure (hS _) ?_
  simp -dsimp only [go_sem]
  exact fin_pure (by simp -dsimp only [go_sem]) (by simp -dsimp only [go_sem])
theorem l_IndexFunc_NeedP (l : List Need) (k : FuncId) (cap : List AV) (p : Need → Bool) (h : AH) (hl : l.length ≤ 4611686018427387904) (hcap : FzL h h.n cap cap) (hp : ∀ c ∈ l, Isea.Good Tryz.prog k (.agg c.row :: cap) h [] (.v (.bool (p c))) h) : Isea.Good Tryz.prog 210 [.sl (l.map Need.row), .fn k cap] h [] (.v (.int .i64 (findIx p l))) h := by
  refine good [] [] Tryz.func210 rfl rfl Tryz.ntmps210 (by kernel_rfl) mixed (by kernel_rfl) ?_
  simp -dsimp only [go_sem]
  refine loop_ruleH [0, 0, 5] (fun (k : {k : Nat // k ≤ l.length ∧ FIxAt p l k}) H => ([(8, .v (.int .i64 (k.1 : Nat)))], H)) (fun k => l.length - k.1) ⟨0, Nat.zero_le _, fIxAt_zero _ _⟩ ?_ ?_
  · exact weak_at rfl (Nat.le_refl _) (fun _ _ => rfl) (by simp -dsimp only [go_sem, hcap])
  · rintro ⟨k, hk, hi⟩
    have h1 : k + 1 ≤ 9223372036854775807 := by omega
    by_cases hlt : k < l.length
    · obtain ⟨c, hb⟩ := get_some hlt
      have hg := hp c (List.mem_of_getElem? hb)
      simp only [Need.row] at hg
      simp -dsimp only [go_sem, hlt, hb, Need.row]
      refine call_pure hg ?_
      cases hpc : p c with
      | true =>
        simp -dsimp only [go_sem]
        exact fin_int (Nat.le_refl _) (fIxAt_here hi hb hpc).symm
      | false =>
        simp -dsimp only [go_sem, h1]
        exact round_to ⟨k + 1, hlt, fIxAt_succ hi hb hpc⟩ (by simp; omega) (weak_at rfl (by simp -dsimp only [go_sem]) (fun x hx => by simp -dsimp only [go_sem, hx]) (by simp -dsimp only [go_sem, hcap]))
    · simp -dsimp only [go_sem, hlt]
      exact fin_int (Nat.le_refl _) (fIxAt_end hi (by omega)).symm
theorem l_ContainsFunc_NeedP (l : List Need) (k : FuncId) (cap : List AV) (p : Need → Bool) (h : AH) (hl : l.length ≤ 4611686018427387904) (hcap : FzL h h.n cap cap) (hp : ∀ c ∈ l, Isea.Good Tryz.prog k (.agg c.row :: cap) h [] (.v (.bool (p c))) h) : Isea.Good Tryz.prog 124 [.sl (l.map Need.row), .fn k cap] h [] (.v (.bool (l.any p))) h := by
  refine good [] [] Tryz.func124 rfl rfl Tryz.ntmps124 (by kernel_rfl) mixed (by kernel_rfl) ?_
  simp -dsimp only [go_sem]
  refine call_pure (l_IndexFunc_NeedP l k cap p h hl hcap hp) ?_
  simp -dsimp only [go_sem]
  exact fin_bool (Nat.le_refl _) (findIx_any p l)
theorem s_GrowingOf (w : Wld) (h : AH) (hw : w.Sm) : Isea.Good Tryz.prog 50 [.agg w.row] h [] (.tup [.sl ((growingOf w).map iRow), .v (.bool (worldOk w))]) h := by
  have hv := fun H => s_WorldValid w H hw
  cases hok : worldOk w with
  | false =>
    rw [hok] at hv
    have e : growingOf w = [] := by unfold growingOf; rw [if_neg (by rw [hok]; simp)]
    rw [e]
    refine good [] [] Tryz.func50 rfl rfl Tryz.ntmps50 (by kernel_rfl) mixed (by kernel_rfl) ?_
    simp -dsimp only [go_sem, Wld.row] at hv ⊢
    refine call_pure (hv _) ?_
    simp -dsimp only [go_sem]
    exact fin_pure (by simp -dsimp only [go_sem]) (by simp -dsimp only [go_sem, List.map_nil])
  | true =>
    rw [hok] at hv
    have e : growingOf w = growTake w w.is.length := by unfold growingOf; rw [if_pos hok]; rfl
    have hwl := world_len hok
    rw [e]
    refine good [] [] Tryz.func50 rfl rfl Tryz.ntmps50 (by kernel_rfl) mixed (by kernel_rfl) ?_
    simp -dsimp only [go_sem, Wld.row] at hv ⊢
    refine call_pure (hv _) ?_
    simp -dsimp only [go_sem, List.length_map]
    have e0 : growTake w 0 = [] := rfl
    refine loop_ruleH [] (fun (k : {k : Nat // k ≤ w.is.length}) H => ([(4, .so h.n (growTake w k.1).length (growTake w k.1).length), (16, .sl (w.is.map Inst.row)), (17, .v (.int .i64 (w.is.length : Nat))), (18, .v (.int .i64 (k.1 : Nat)))], ⟨h.n + 1, upd H.o h.n (.rows 3 1 ((growTake w k.1).map iRow))⟩)) (fun k => w.is.length - k.1) ⟨0, Nat.zero_le _⟩ ?_ ?_
    · skip
      refine weak_objs [h.n] (by simp -dsimp only [go_sem]) (by simp -dsimp only [go_sem]) (by simp -dsimp only [go_sem, e0, List.length_nil]) ?_ ?_ ?_
      · intro x h1 h2
        have a1 : ¬ x = h.n + 1 := by omega
        have a2 : ¬ x = h.n + 2 := by omega
        have a3 : ¬ x = h.n + 3 := by omega
        have a0 : ¬ x = h.n := by omega
        simp -dsimp only [go_sem, a0, a1, a2, a3]
      · intro x h1 h2; have h1 : x < h.n + 1 := h1; simp at h2 ⊢; omega
      · simp -dsimp only [go_sem, e0, List.map_nil]
    · rintro ⟨k, hk⟩
      have hk : k ≤ w.is.length := hk
      have k1 : k + 1 ≤ 9223372036854775807 := by omega
      have hgl := growTake_len w k
      have e6 : ((growTake w k).length + 1) * 8 ≤ 140737488355328 := by omega
      by_cases hlt : k < w.is.length
      · obtain ⟨x, hx⟩ := get_some hlt
        have hkc : (((k : Nat) : Int) < ((w.is.length : Nat) : Int)) = True := eq_true (by omega)
        have hxs := hw.i x (List.mem_of_getElem? hx)
        obtain ⟨_, _, htx, _, _, hnl, hnn⟩ := world_inst hok hx
        have hgs := grow_succ hx
        have hnt : ∀ n ∈ x.ns, tv n.t = true := fun n hn => by
          have := hnn n hn
          simp only [needIn, Bool.and_eq_true] at this
          exact this.1.1.2
        have hS := fun (n : Need) (hn : n ∈ x.ns) H => s_l8Smaller x.t n H hxs.2.1 (hxs.2.2.2 n hn)
        simp -dsimp only [go_sem, hkc, hlt, hx, Inst.row, List.length_map]
        refine loop_ruleH [] (fun (j : {j : Nat // j ≤ x.ns.length}) H => ([(4, .so h.n (growTake w k).length (growTake w k).length), (5, .v (.int .i64 (k : Nat))), (6, .ptr (h.n + 1) 0), (7, .v (.bool ((x.ns.take j.1).any fun n => !smallB x.t n.t))), (16, .sl (w.is.map Inst.row)), (17, .v (.int .i64 (w.is.length : Nat))), (18, .v (.int .i64 (k : Nat))), (24, .sl (x.ns.map Need.row)), (25, .v (.int .i64 (x.ns.length : Nat))), (26, .v (.int .i64 (j.1 : Nat)))], ⟨h.n + 2, upd (upd H.o h.n (.rows 3 1 ((growTake w k).map iRow))) (h.n + 1) (.cells [str x.c, str x.t, .sl (x.ns.map Need.row)])⟩)) (fun j => x.ns.length - j.1) ⟨0, Nat.zero_le _⟩ ?_ ?_
        · skip
          refine weak_objs [h.n, h.n + 1] (by simp -dsimp only [go_sem]) (by simp -dsimp only [go_sem]) (by simp -dsimp only [go_sem, List.take_zero, List.any_nil]) ?_ ?_ ?_
          · intro x h1 h2
            have a0 : ¬ x = h.n := by omega
            have a1 : ¬ x = h.n + 1 := by omega
            have a2 : ¬ x = h.n + 2 := by omega
            have a3 : ¬ x = h.n + 3 := by omega
            simp -dsimp only [go_sem, a0, a1, a2, a3]
          · intro x h1 h2; have h1 : x < h.n + 2 := h1; simp at h2 ⊢; omega
          · simp -dsimp only [go_sem, List.take_zero, List.any_nil]
        · rintro ⟨j, hj⟩
          have hj : j ≤ x.ns.length := hj
          have j1 : j + 1 ≤ 9223372036854775807 := by omega
          by_cases hjl : j < x.ns.length
          · obtain ⟨n, hn⟩ := get_some hjl
            have hjc : (((j : Nat) : Int) < ((x.ns.length : Nat) : Int)) = True := eq_true (by omega)
            have hfd := any_fd (p := fun n : Need => !smallB x.t n.t) hn
            have hSn := hS n (List.mem_of_getElem? hn)
            simp only [Need.row] at hSn
            cases hf : (x.ns.take j).any fun n => !smallB x.t n.t with
            | true =>
              rw [hf, Bool.true_or] at hfd
              simp -dsimp only [go_sem, hjc, hjl, hn, j1, hf, Need.row, List.length_map]
              refine round_to ⟨j + 1, hjl⟩ (by show x.ns.length - (j + 1) < x.ns.length - j; omega) ?_
              refine weak_objs [h.n, h.n + 1] (by simp -dsimp only [go_sem]) (by simp -dsimp only [go_sem]) (by simp -dsimp only [go_sem, hfd]) ?_ ?_ ?_
              · intro x h1 h2
                have a0 : ¬ x = h.n := by omega
                have a1 : ¬ x = h.n + 1 := by omega
                have a2 : ¬ x = h.n + 2 := by omega
                have a3 : ¬ x = h.n + 3 := by omega
                simp -dsimp only [go_sem, a0, a1, a2, a3]
              · intro x h1 h2; have h1 : x < h.n + 2 := h1; simp at h2 ⊢; omega
              · simp -dsimp only [go_sem, hfd]
            | false =>
              rw [hf, Bool.false_or] at hfd
              simp -dsimp only [go_sem, hjc, hjl, hn, j1, hf, Need.row, List.length_map]
              refine call_pure (hSn _) ?_
              simp -dsimp only [go_sem, j1]
              refine round_to ⟨j + 1, hjl⟩ (by show x.ns.length - (j + 1) < x.ns.length - j; omega) ?_
              refine weak_objs [h.n, h.n + 1] (by simp -dsimp only [go_sem]) (by simp -dsimp only [go_sem]) (by simp -dsimp only [go_sem, hfd]) ?_ ?_ ?_
              · intro x h1 h2
                have a0 : ¬ x = h.n := by omega
                have a1 : ¬ x = h.n + 1 := by omega
                have a2 : ¬ x = h.n + 2 := by omega
                have a3 : ¬ x = h.n + 3 := by omega
                simp -dsimp only [go_sem, a0, a1, a2, a3]
              · intro x h1 h2; have h1 : x < h.n + 2 := h1; simp at h2 ⊢; omega
              · simp -dsimp only [go_sem, hfd]
          · have hjc : (((j : Nat) : Int) < ((x.ns.length : Nat) : Int)) = False := eq_false (by omega)
            have hje : j = x.ns.length := by omega
            subst hje
            rw [List.take_of_length_le (Nat.le_refl _)]
            cases hf : x.ns.any fun n => !smallB x.t n.t with
            | true =>
              rw [hf, if_pos rfl] at hgs
              simp -dsimp only [go_sem, hjc, k1, e6, List.length_map]
              refine round_to ⟨k + 1, hlt⟩ (by show w.is.length - (k + 1) < w.is.length - k; omega) ?_
              refine weak_objs [h.n] (by simp -dsimp only [go_sem]) (by simp -dsimp only [go_sem]) (by simp -dsimp only [go_sem, hgs, List.length_append, List.length_cons, List.length_nil]) ?_ ?_ ?_
              · intro x h1 h2
                have a1 : ¬ x = h.n + 1 := by omega
                have a2 : ¬ x = h.n + 2 := by omega
                have a3 : ¬ x = h.n + 3 := by omega
                have a0 : ¬ x = h.n := by omega
                simp -dsimp only [go_sem, a0, a1, a2, a3]
              · intro x h1 h2; have h1 : x < h.n + 1 := h1; simp at h2 ⊢; omega
              · simp -dsimp only [go_sem, hgs, List.map_append, List.map_cons, List.map_nil, iRow]
            | false =>
              rw [hf, if_neg (by simp)] at hgs
              simp -dsimp only [go_sem, hjc, k1, List.length_map]
              refine round_to ⟨k + 1, hlt⟩ (by show w.is.length - (k + 1) < w.is.length - k; omega) ?_
              refine weak_objs [h.n] (by simp -dsimp only [go_sem]) (by simp -dsimp only [go_sem]) (by simp -dsimp only [go_sem, hgs]) ?_ ?_ ?_
              · intro x h1 h2
                have a1 : ¬ x = h.n + 1 := by omega
                have a2 : ¬ x = h.n + 2 := by omega
                have a3 : ¬ x = h.n + 3 := by omega
                have a0 : ¬ x = h.n := by omega
                simp -dsimp only [go_sem, a0, a1, a2, a3]
              · intro x h1 h2; have h1 : x < h.n + 1 := h1; simp at h2 ⊢; omega
              · simp -dsimp only [go_sem, hgs]
      · have ek : k = w.is.length := by omega
        have hkc : (((k : Nat) : Int) < ((w.is.length : Nat) : Int)) = False := eq_false (by omega)
        subst ek
        simp -dsimp only [go_sem, hkc]
        refine fin_pure (by simp -dsimp only [go_sem]) ?_
        simp -dsimp only [go_sem, List.length_map]
theorem s_IsEnding (w : Wld) (h : AH) (hw : w.Sm) : Isea.Good Tryz.prog 46 [.agg w.row] h [] (.v (.bool (endB w))) h := by
  have hG := fun H => s_GrowingOf w H hw
  unfold endB
  cases hok : worldOk w with
  | false =>
    rw [hok] at hG
    refine good [] [] Tryz.func46 rfl rfl Tryz.ntmps46 (by kernel_rfl) mixed (by kernel_rfl) ?_
    simp -dsimp only [go_sem, Wld.row] at hG ⊢
    refine call_pure (hG _) ?_
    simp -dsimp only [go_sem]
    exact fin_pure (by simp -dsimp only [go_sem]) (by simp -dsimp only [go_sem])
  | true =>
    rw [hok] at hG
    have e : growingOf w = growL w := by unfold growingOf; rw [if_pos hok]
    rw [e] at hG
    have e2 : decide (growL w = []) = decide ((growL w).length = 0) := by cases growL w <;> simp
    rw [e2]
    generalize growL w = L at *
    refine good [] [] Tryz.func46 rfl rfl Tryz.ntmps46 (by kernel_rfl) mixed (by kernel_rfl) ?_
    simp -dsimp only [go_sem, Wld.row] at hG ⊢
    refine call_pure (hG _) ?_
    by_cases h0 : L.length = 0
    · have h0' : (((L.length : Nat) : Int) = 0) = True := eq_true (by omega)
      simp -dsimp only [go_sem, h0', h0, List.length_map]
      exact fin_pure (by simp -dsimp only [go_sem]) (by simp -dsimp only [go_sem])
    · have h0' : (((L.length : Nat) : Int) = 0) = False := eq_false (by omega)
      simp -dsimp only [go_sem, h0', h0, List.length_map]
      exact fin_pure (by simp -dsimp only [go_sem]) (by simp -dsimp only [go_sem])
theorem i_GrowingOf (w : Wld) (h : AH) (hw : w.Sm) : Isea.Good Tryz.prog 49 [.agg w.row] h [] (.tup [.sl ((growingOf w).map iRow), .v (.bool (worldOk w))]) h := by
  have hv := fun H => i_WorldValid w H hw
  cases hok : worldOk w with
  | false =>
    rw [hok] at hv
    have e : growingOf w = [] := by unfold growingOf; rw [if_neg (by rw [hok]; simp)]
    rw [e]
    refine good [] [] Tryz.func49 rfl rfl Tryz.ntmps49 (by kernel_rfl) mixed (by kernel_rfl) ?_
    simp -dsimp only [go_sem, Wld.row] at hv ⊢
    refine call_pure (hv _) ?_
    simp -dsimp only [go_sem]
    exact fin_pure (by simp -dsimp only [go_sem]) (by simp -dsimp only [go_sem, List.map_nil])
  | true =>
    rw [hok] at hv
    have e : growingOf w = growTake w w.is.length := by unfold growingOf; rw [if_pos hok]; rfl
    have hwl := world_len hok
    rw [e]
    refine good [] [] Tryz.func49 rfl rfl Tryz.ntmps49 (by kernel_rfl) mixed (by kernel_rfl) ?_
    simp -dsimp only [go_sem, Wld.row] at hv ⊢
    refine call_pure (hv _) ?_
    simp -dsimp only [go_sem, List.length_map]
    have e0 : growTake w 0 = [] := rfl
    refine loop_ruleH [] (fun (k : {k : Nat // k ≤ w.is.length}) H => ([(4, .so h.n (growTake w k.1).length (growTake w k.1).length), (12, .sl (w.is.map Inst.row)), (13, .v (.int .i64 (w.is.length : Nat))), (14, .v (.int .i64 (k.1 : Nat)))], ⟨h.n + 1, upd H.o h.n (.rows 3 1 ((growTake w k.1).map iRow))⟩)) (fun k => w.is.length - k.1) ⟨0, Nat.zero_le _⟩ ?_ ?_
    · skip
      refine weak_objs [h.n] (by simp -dsimp only [go_sem]) (by simp -dsimp only [go_sem]) (by simp -dsimp only [go_sem, e0, List.length_nil]) ?_ ?_ ?_
      · intro x h1 h2
        have a1 : ¬ x = h.n + 1 := by omega
        have a2 : ¬ x = h.n + 2 := by omega
        have a3 : ¬ x = h.n + 3 := by omega
        have a0 : ¬ x = h.n := by omega
        simp -dsimp only [go_sem, a0, a1, a2, a3]
      · intro x h1 h2; have h1 : x < h.n + 1 := h1; simp at h2 ⊢; omega
      · simp -dsimp only [go_sem, e0, List.map_nil]
    · rintro ⟨k, hk⟩
      have hk : k ≤ w.is.length := hk
      have k1 : k + 1 ≤ 9223372036854775807 := by omega
      have hgl := growTake_len w k
      have e6 : ((growTake w k).length + 1) * 8 ≤ 140737488355328 := by omega
      by_cases hlt : k < w.is.length
      · obtain ⟨x, hx⟩ := get_some hlt
        have hkc : (((k : Nat) : Int) < ((w.is.length : Nat) : Int)) = True := eq_true (by omega)
        have hxs := hw.i x (List.mem_of_getElem? hx)
        obtain ⟨_, _, htx, _, _, hnl, hnn⟩ := world_inst hok hx
        have hgs := grow_succ hx
        have hnt : ∀ n ∈ x.ns, tv n.t = true := fun n hn => by
          have := hnn n hn
          simp only [needIn, Bool.and_eq_true] at this
          exact this.1.1.2
        have hF := fun (H : AH) (hl : h.n + 1 < H.n) (ho : H.o (h.n + 1) = .cells [str x.c, str x.t, .sl (x.ns.map Need.row)]) => l_ContainsFunc_NeedP x.ns 125 [.ptr (h.n + 1) 0] (fun n => !smallB x.t n.t) H (by omega) (by simp -dsimp only [go_sem, hl]) (fun n hn => i_GrowingOf1 n x (h.n + 1) H hl ho (hxs.2.2.2 n hn) hxs.2.1 (hnt n hn) htx)
        simp -dsimp only [go_sem, hkc, hlt, hx, Inst.row, List.length_map]
        refine call_pure (hF _ (by simp -dsimp only [go_sem]) (by simp -dsimp only [go_sem])) ?_
        cases hf : x.ns.any fun n => !smallB x.t n.t with
        | true =>
          rw [hf, if_pos rfl] at hgs
          simp -dsimp only [go_sem, k1, e6, List.length_map]
          refine round_to ⟨k + 1, hlt⟩ (by show w.is.length - (k + 1) < w.is.length - k; omega) ?_
          refine weak_objs [h.n] (by simp -dsimp only [go_sem]) (by simp -dsimp only [go_sem]) (by simp -dsimp only [go_sem, hgs, List.length_append, List.length_cons, List.length_nil]) ?_ ?_ ?_
          · intro x h1 h2
            have a1 : ¬ x = h.n + 1 := by omega
            have a2 : ¬ x = h.n + 2 := by omega
            have a3 : ¬ x = h.n + 3 := by omega
            have a0 : ¬ x = h.n := by omega
            simp -dsimp only [go_sem, a0, a1, a2, a3]
          · intro x h1 h2; have h1 : x < h.n + 1 := h1; simp at h2 ⊢; omega
          · simp -dsimp only [go_sem, hgs, List.map_append, List.map_cons, List.map_nil, iRow]
        | false =>
          rw [hf, if_neg (by simp)] at hgs
          simp -dsimp only [go_sem, k1, List.length_map]
          refine round_to ⟨k + 1, hlt⟩ (by show w.is.length - (k + 1) < w.is.length - k; omega) ?_
          refine weak_objs [h.n] (by simp -dsimp only [go_sem]) (by simp -dsimp only [go_sem]) (by simp -dsimp only [go_sem, hgs]) ?_ ?_ ?_
          · intro x h1 h2
            have a1 : ¬ x = h.n + 1 := by omega
            have a2 : ¬ x = h.n + 2 := by omega
            have a3 : ¬ x = h.n + 3 := by omega
            have a0 : ¬ x = h.n := by omega
            simp -dsimp only [go_sem, a0, a1, a2, a3]
          · intro x h1 h2; have h1 : x < h.n + 1 := h1; simp at h2 ⊢; omega
          · simp -dsimp only [go_sem, hgs]
      · have ek : k = w.is.length := by omega
        have hkc : (((k : Nat) : Int) < ((w.is.length : Nat) : Int)) = False := eq_false (by omega)
        subst ek
        simp -dsimp only [go_sem, hkc]
        refine fin_pure (by simp -dsimp only [go_sem]) ?_
        simp -dsimp only [go_sem, List.length_map]
theorem i_IsEnding (w : Wld) (h : AH) (hw : w.Sm) : Isea.Good Tryz.prog 45 [.agg w.row] h [] (.v (.bool (endB w))) h := by
  have hG := fun H => i_GrowingOf w H hw
  unfold endB
  cases hok : worldOk w with
  | false =>
    rw [hok] at hG
    refine good [] [] Tryz.func45 rfl rfl Tryz.ntmps45 (by kernel_rfl) mixed (by kernel_rfl) ?_
    simp -dsimp only [go_sem, Wld.row] at hG ⊢
    refine call_pure (hG _) ?_
    simp -dsimp only [go_sem]
    exact fin_pure (by simp -dsimp only [go_sem]) (by simp -dsimp only [go_sem])
  | true =>
    rw [hok] at hG
    have e : growingOf w = growL w := by unfold growingOf; rw [if_pos hok]
    rw [e] at hG
    have e2 : decide (growL w = []) = decide ((growL w).length = 0) := by cases growL w <;> simp
    rw [e2]
    generalize growL w = L at *
    refine good [] [] Tryz.func45 rfl rfl Tryz.ntmps45 (by kernel_rfl) mixed (by kernel_rfl) ?_
    simp -dsimp only [go_sem, Wld.row] at hG ⊢
    refine call_pure (hG _) ?_
    by_cases h0 : L.length = 0
    · have h0' : (((L.length : Nat) : Int) = 0) = True := eq_true (by omega)
      simp -dsimp only [go_sem, h0', h0, List.length_map]
      exact fin_pure (by simp -dsimp only [go_sem]) (by simp -dsimp only [go_sem])
    · have h0' : (((L.length : Nat) : Int) = 0) = False := eq_false (by omega)
      simp -dsimp only [go_sem, h0', h0, List.length_map]
      exact fin_pure (by simp -dsimp only [go_sem]) (by simp -dsimp only [go_sem])
end Go.Proofs.YtnocdggngfiebaaGreatDoor

namespace Go.Proofs.YtnocdggngfiebaaGreatDoor
open Go Go.Isea
set_option maxRecDepth 100000
set_option maxHeartbeats 16000000
theorem s_DrawFindDict' (b : L8) : ∃ (w : Wld) (n : Need), smW w = true ∧ w.cs.length ≤ 6 ∧ w.is.length ≤ 30 ∧ smNd n = true ∧ ∀ h : AH, Isea.Good Tryz.prog 43 [.sl (b.map byR)] h [] (.tup [.agg w.row, .agg n.row]) h := by
  obtain ⟨w, n, q, w1, w2, w3, w4, _, _, hS⟩ := s_l4Some (b.take 2000) 0 (by rw [List.length_take]; omega) (by decide)
  refine ⟨w, n, w1, w2, w3, w4, fun h => ?_⟩
  obtain ⟨cs, is⟩ := w
  have hW : (⟨cs, is⟩ : Wld).row = [.sl (cs.map Cls.row), .sl (is.map Inst.row)] := rfl
  rw [hW] at hS ⊢
  have hN : n.row = [str n.c, str n.t] := rfl
  rw [hN] at hS ⊢
  refine good [] [] Tryz.func43 rfl rfl Tryz.ntmps43 (by kernel_rfl) mixed (by kernel_rfl) ?_
  simp -dsimp only [go_sem]
  refine call_pure (s_l13Open b _) ?_
  simp -dsimp only [go_sem]
  refine call_one (hS _ _ (by simp -dsimp only [go_sem]) (by simp -dsimp only [go_sem])) (by simp -dsimp only [go_sem]) (by simp -dsimp only [go_sem, not_false_eq_true]) ?_
  simp -dsimp only [go_sem]
  exact fin_pure (by simp -dsimp only [go_sem]) (by simp -dsimp only [go_sem])
theorem l_inSame' (a : List Nat) (h : AH) (ha : a.length ≤ 1000000) : Isea.Good Tryz.prog 51 [.sl (a.map iRow), .sl (a.map iRow)] h [] (.v (.bool true)) h := by
  have hm : (((a.length : Nat) : Int) < ((a.length : Nat) : Int)) = False := eq_false (by omega)
  refine good [] [] Tryz.func51 rfl rfl Tryz.ntmps51 (by kernel_rfl) mixed (by kernel_rfl) ?_
  simp -dsimp only [go_sem, List.length_map, hm]
  refine loop_ruleH [0, 0, 8, 0] (fun (k : {k : Nat // k ≤ a.length}) H => ([(11, .v (.int .i64 (k.1 : Nat)))], H)) (fun k => a.length - k.1) ⟨0, Nat.zero_le _⟩ ?_ ?_
  · refine weak_objs [] (by simp -dsimp only [go_sem]) (by simp -dsimp only [go_sem]) (by simp -dsimp only [go_sem]) ?_ ?_ ?_
    · intro t h1 h2
      simp -dsimp only [go_sem]
    · intro x h1 h2; have h1 : x < h.n := h1; simp at h2 ⊢; omega
    · simp -dsimp only [go_sem]
  · rintro ⟨k, hk⟩
    have k1 : k + 1 ≤ 9223372036854775807 := by omega
    by_cases hkl : k < a.length
    · obtain ⟨n, hn⟩ := get_some hkl
      have hkc : (((k : Nat) : Int) < ((a.length : Nat) : Int)) = True := eq_true (by omega)
      simp -dsimp only [go_sem, hkc, hkl, hn, k1, iRow, List.length_map]
      refine round_to ⟨k + 1, hkl⟩ (by show a.length - (k + 1) < a.length - k; omega) ?_
      refine weak_objs [] (by simp -dsimp only [go_sem]) (by simp -dsimp only [go_sem]) (by simp -dsimp only [go_sem]) ?_ ?_ ?_
      · intro t h1 h2
        simp -dsimp only [go_sem]
      · intro x h1 h2; have h1 : x < h.n := h1; simp at h2 ⊢; omega
      · simp -dsimp only [go_sem]
    · have hkc : (((k : Nat) : Int) < ((a.length : Nat) : Int)) = False := eq_false (by omega)
      simp -dsimp only [go_sem, hkc, List.length_map]
      exact fin_pure (by simp -dsimp only [go_sem]) (by simp -dsimp only [go_sem])
end Go.Proofs.YtnocdggngfiebaaGreatDoor
