/- Contracts of functions of this program, for all arguments that satisfy what each lemma asks for. -/
import Derived.Test.YtnocdggngfiebaaGreatDoorMq
import Derived.Test.YtnocdggngfiebaaGreatDoorMr
import Derived.Test.YtnocdggngfiebaaGreatDoorMl
import Derived.Test.YtnocdggngfiebaaGreatDoorMj
set_option linter.all false
namespace Go.Isea
open Go
def rdC (w : Wld) (ta : Nat) (s : RdS) : List AV := [.sl (w.cs.map Cls.row), .sl (w.is.map Inst.row), .so ta s.1.length s.1.length, .v (.int .i64 (s.2 : Nat))]
theorem onceL_in {l : List Need} {n : Need} (h : n ∈ l) : onceL l n = l := if_pos h
theorem onceL_out {l : List Need} {n : Need} (h : ¬ n ∈ l) : onceL l n = l ++ [n] := if_neg h
theorem mem_take_succ {α : Type} {l : List α} {k : Nat} {x n : α} (hb : l[k]? = some x) (h1 : ¬ n ∈ l.take k) (h2 : ¬ x = n) : ¬ n ∈ l.take (k + 1) := by
  rw [take_next hb]
  intro hm
  rcases List.mem_append.1 hm with hm | hm
  · exact h1 hm
  · exact h2 (List.mem_singleton.1 hm).symm
theorem cand_two (w : Wld) (n : Need) (hmem : ∀ k, k ∈ candIx w n → ∃ i, w.is[k]? = some i ∧ i.c = n.c ∧ (matchS i.t n.t).isSome = true) : (¬ (candIx w n).length = 1 ∧ ∀ fd s, redB fd w n s = (false, s)) ∨ (∃ k i, candIx w n = [k] ∧ w.is[k]? = some i ∧ needsOf i n.t = none) ∨ ∃ k i ms, candIx w n = [k] ∧ w.is[k]? = some i ∧ needsOf i n.t = some ms := by
  rcases cand_four w n hmem with h | h | h | ⟨k, k2, r, h⟩
  · exact .inl ⟨by rw [h]; simp, fun fd s => by unfold redB; rw [h]⟩
  · exact .inr (.inl h)
  · exact .inr (.inr h)
  · exact .inl ⟨by rw [h]; simp, fun fd s => by unfold redB; rw [h]⟩
theorem onceA_append : ∀ (a b l : List Need), onceA l (a ++ b) = onceA (onceA l a) b
  | [], b, l => rfl
  | n :: a, b, l => by
    show onceA (onceL l n) (a ++ b) = onceA (onceA (onceL l n) a) b
    exact onceA_append a b _
theorem onceA_next {l r : List Need} {j : Nat} {m : Need} (h : r[j]? = some m) : onceA l (r.take (j + 1)) = onceL (onceA l (r.take j)) m := by
  rw [take_next h, onceA_append]; rfl
theorem onceA_take_len (l r : List Need) (j : Nat) : (onceA l (r.take j)).length ≤ l.length + j := by
  have h1 := onceA_len (r.take j) l
  have h2 : (r.take j).length ≤ j := by rw [List.length_take]; omega
  omega
theorem fullL_cons {w : Wld} {x : Inst} {d : UInt8} {ds : L8} {l : List Need} : fullL w x (d :: ds) l = match reduceN w ⟨[d], x.t⟩ with | some r => fullL w x ds (onceA l r) | none => none := rfl
theorem instAt_get {w : Wld} {i : Int} {x : Inst} (h : instAt w i = some x) : worldOk w = true ∧ ∃ k : Nat, i = (k : Int) ∧ w.is[k]? = some x := by
  unfold instAt at h
  split at h
  · rename_i hc
    exact ⟨hc.1, i.toNat, by omega, h⟩
  · cases h
end Go.Isea
namespace Go.Proofs.YtnocdggngfiebaaGreatDoor
open Go Go.Isea
set_option maxRecDepth 100000
set_option maxHeartbeats 8000000
theorem s_l9In (l : List Need) (n : Need) (h : AH) (hl : l.length ≤ 4611686018427387904) : Isea.Good Tryz.prog 101 [.sl (l.map Need.row), .agg n.row] h [] (.v (.bool (decide (n ∈ l)))) h := by
  refine good [] [] Tryz.func101 rfl rfl Tryz.ntmps101 (by kernel_rfl) mixed (by kernel_rfl) ?_
  simp -dsimp only [go_sem, Need.row, List.length_map]
  refine loop_ruleH [3, 3, 0] (fun (k : {k : Nat // k ≤ l.length ∧ ¬ n ∈ l.take k}) H => ([(9, .v (.int .i64 (k.1 : Nat)))], H)) (fun k => l.length - k.1) ⟨0, Nat.zero_le _, by simp⟩ ?_ ?_
  · exact weak_at rfl (by simp -dsimp only [go_sem]) (fun x hx => by simp -dsimp only [go_sem, hx]) (by simp -dsimp only [go_sem])
  · rintro ⟨k, hk, hi⟩
    have h1 : k + 1 ≤ 9223372036854775807 := by omega
    by_cases hlt : k < l.length
    · obtain ⟨c, hb⟩ := get_some hlt
      by_cases hc : c.c = n.c ∧ c.t = n.t
      · have e : c = n := by cases c; cases n; simp only at hc; simp [hc]
        have hm : decide (n ∈ l) = true := decide_eq_true (e ▸ List.mem_of_getElem? hb)
        rw [hm]
        simp -dsimp only [go_sem, hlt, hb, Need.row, hc]
        exact fin_bool (by simp -dsimp only [go_sem]) rfl
      · have hne : ¬ c = n := fun e => hc (by subst e; exact ⟨rfl, rfl⟩)
        simp -dsimp only [go_sem, hlt, hb, Need.row, hc, h1]
        exact round_to ⟨k + 1, hlt, mem_take_succ hb hi hne⟩ (by simp; omega) (weak_at rfl (by simp -dsimp only [go_sem]) (fun x hx => by simp -dsimp only [go_sem, hx]) (by simp -dsimp only [go_sem]))
    · rw [List.take_of_length_le (by omega)] at hi
      rw [decide_eq_false hi]
      simp -dsimp only [go_sem, hlt]
      exact fin_bool (by simp -dsimp only [go_sem]) rfl
def RedOkS (w : Wld) (f : Nat) : Prop := ∀ (l ta : Nat) (n : Need) (s : RdS) (h : AH), l < h.n → ta < h.n → ¬ l = ta → h.o l = .cells (rdC w ta s) → h.o ta = .rows 28 2 (s.1.map Need.row) → NOk w n → tv n.t = true → s.1.length ≤ 2 * s.2 + 1000 → s.2 ≤ 300 → f ≤ 31 →
    Isea.Good Tryz.prog 88 [.ptr l 0, .agg n.row, .v (.int .i64 ((31 - f : Nat) : Int))] h [l, ta] (.v (.bool (redF w f n s).1))
      ⟨h.n, upd (upd h.o l (.cells (rdC w ta (redF w f n s).2))) ta (.rows 28 2 ((redF w f n s).2.1.map Need.row))⟩
theorem s_reduce_step {w : Wld} (hok : worldOk w = true) (hw : w.Sm) {f : Nat} (ih : ∀ g, f = g + 1 → RedOkS w g) : RedOkS w f := by
  intro l ta n s h hl hta hla ho hoa hn htv hs1 hs2 hf
  have hal : ¬ ta = l := fun e => hla e.symm
  have hwl := world_len hok
  simp only [rdC] at ho
  obtain ⟨c0, t0, et, e0, eh⟩ := tv_cons htv
  have hVar := fun H => s_l1Variable c0 H
  have hIn := fun H => s_l9In s.1 n H (by omega)
  have hcand := fun H => s_l4Candidates w n H hw hn.2 (by omega)
  have hmem : ∀ k, k ∈ candIx w n → ∃ i, w.is[k]? = some i ∧ i.c = n.c ∧ (matchS i.t n.t).isSome = true := fun k hk => cand_mem hk
  have ha6 : (s.1.length + 1) * 32 ≤ 140737488355328 := by omega
  refine good [] [] Tryz.func88 rfl rfl Tryz.ntmps88 (by kernel_rfl) mixed (by kernel_rfl) ?_
  simp -dsimp only [go_sem, Need.row, Wld.row, e0] at hIn hcand ⊢
  refine call_pure (hVar _) ?_
  cases hv : isV c0 with
  | true =>
    have eF : redF w f n s = (true, (onceL s.1 n, s.2)) := by cases f <;> (unfold redF; rw [eh, hv, if_pos rfl])
    rw [eF]
    simp -dsimp only [go_sem, hl, hta, ho, hoa, rdC, List.length_map]
    refine call_pure (Good.frozen (hIn ⟨0, h.o⟩) (.v _) (FzL.cons ?_ (FzL.cons ?_ FzL.nil))) ?_
    · exact fz_rowsL hoa (of_eq_true puR_needs)
    · simp -dsimp only [go_sem]
    by_cases hm : n ∈ s.1
    · rw [decide_eq_true hm, onceL_in hm]
      simp -dsimp only [go_sem]
      exact fin_two hla (by simp -dsimp only [go_sem]) (by simp -dsimp only [go_sem]) (by simp -dsimp only [go_sem, ho, hta, rdC]) (by simp -dsimp only [go_sem, hoa])
    · rw [decide_eq_false hm, onceL_out hm]
      simp -dsimp only [go_sem, hl, hta, ho, hoa, hla, hal, rdC, ha6, List.length_map]
      refine ⟨out_prS (by kernel_rfl), ?_⟩
      exact fin_two hla (by simp -dsimp only [go_sem]) (by simp -dsimp only [go_sem]) (by simp -dsimp only [go_sem, ho, hta, hl, hla, hal, rdC, List.length_append, List.length_cons, List.length_nil]) (by simp -dsimp only [go_sem, hoa, hta, hl, hla, hal, List.map_append, List.map_cons, List.map_nil, Need.row])
  | false =>
    have eZ : f = 0 → redF w f n s = (false, s) := fun e => by subst e; unfold redF; rw [eh, hv, if_neg (by simp)]
    have eS : ∀ g, f = g + 1 → redF w f n s = redB (redF w g) w n s := fun g e => by subst e; unfold redF; rw [eh, hv, if_neg (by simp)]
    rcases cand_two w n hmem with ⟨hbad, hB⟩ | ⟨k, i, hcl, hi, hN⟩ | ⟨k, i, ms, hcl, hi, hN⟩
    · have h1' : ¬ (((candIx w n).length : Nat) : Int) = 1 := by omega
      have eF : redF w f n s = (false, s) := by
        rcases Nat.eq_zero_or_pos f with h0 | h0
        · exact eZ h0
        · rw [eS (f - 1) (by omega)]; exact hB _ _
      rw [eF]
      simp -dsimp only [go_sem, hl, hta, ho, hoa, rdC]
      refine call_pure (hcand _) ?_
      simp -dsimp only [go_sem, List.length_map, h1', hbad]
      exact fin_two hla (by simp -dsimp only [go_sem]) (by simp -dsimp only [go_sem]) (by simp -dsimp only [go_sem, ho, hta, rdC]) (by simp -dsimp only [go_sem, hoa])
    all_goals
      rw [hcl] at hcand
      simp -dsimp only [go_sem, hl, hta, ho, hoa, rdC, List.map_cons, List.map_nil, iRow] at hcand ⊢
      refine call_pure (hcand _) ?_
      by_cases hf0 : f = 0
      · have eF : redF w f n s = (false, s) := eZ hf0
        have h31 : (30 : Int) < ((31 - f : Nat) : Int) := by omega
        rw [eF]
        simp -dsimp only [go_sem, h31]
        exact fin_two hla (by simp -dsimp only [go_sem]) (by simp -dsimp only [go_sem]) (by simp -dsimp only [go_sem, ho, hta, rdC]) (by simp -dsimp only [go_sem, hoa])
      obtain ⟨g, rfl⟩ : ∃ g, f = g + 1 := ⟨f - 1, by omega⟩
      have h31 : ¬ (30 : Int) < ((31 - (g + 1) : Nat) : Int) := by omega
      have eF : redF w (g + 1) n s = redB (redF w g) w n s := eS g rfl
      clear eZ eS
      unfold redB at eF
      rw [hcl] at eF
      simp only [hi, hN] at eF
      by_cases h300 : 300 ≤ s.2
      · have h300' : (300 : Int) ≤ (s.2 : Nat) := by omega
        rw [if_pos h300] at eF
        rw [eF]
        simp -dsimp only [go_sem, h31, hl, ho, h300']
        exact fin_two hla (by simp -dsimp only [go_sem]) (by simp -dsimp only [go_sem]) (by simp -dsimp only [go_sem, ho, hta, rdC]) (by simp -dsimp only [go_sem, hoa])
      have h300' : ¬ (300 : Int) ≤ (s.2 : Nat) := by omega
      rw [if_neg h300] at eF
      have hs2' : s.2 + 1 ≤ 9223372036854775807 := by omega
      have hwi := world_inst hok hi
      have hk10 := hwi.1
      have h6 := hwi.2.2.2.2.2.1
      clear hwi
      have hism := hw.i i (List.mem_of_getElem? hi)
      have hN4 := fun H => s_l4Needs i n.t H hism hn.2.2 (by omega)
      rw [hN] at hN4
      simp -dsimp only [go_sem, h31, hl, hta, ho, hoa, h300', hs2', hi, Inst.row] at hN4 ⊢
      refine call_pure (hN4 _) ?_
    · rw [eF]
      simp -dsimp only [go_sem, needsV]
      refine loop_ruleH [0, 1, 73, 0] (fun (_ : Unit) H => ([(9, .v (.bool false)), (78, .v (.int .i64 0))], H)) (fun _ => 0) () ?_ ?_
      · refine weak_objs [l, ta] (by simp -dsimp only [go_sem]) (by simp -dsimp only [go_sem]) (by simp -dsimp only [go_sem, hl]) ?_ ?_ ?_
        · intro x h1 h2; rfl
        · intro x h1 h2; have h1 : x < h.n := h1; simp at h2 ⊢; omega
        · simp -dsimp only [go_sem, ho, hoa, hl, hta, hla, hal]
      · intro u
        simp -dsimp only [go_sem]
        exact fin_two hla (by simp -dsimp only [go_sem]) (by simp -dsimp only [go_sem]) (by simp -dsimp only [go_sem, ho, hta, hl, hla, hal, rdC]) (by simp -dsimp only [go_sem, hoa, hta, hl, hla, hal])
    · have hno := needs_ok hok hw hi hN
      have hml := hno.1
      have hmm := hno.2
      clear hno
      have ihg := ih g rfl
      unfold RedOkS at ihg
      have fb := fun m s => redF_bd hok hw g m s
      have ihn := fun m s' H => ihg l ta m s' H
      have hwd : IntKind.i64.wrap (((31 - (g + 1) : Nat) : Int) + 1) = ((31 - g : Nat) : Int) := by rw [wrap_i64] <;> omega
      rw [eF]
      simp -dsimp only [go_sem, needsV, List.length_map, Need.row] at ihn ⊢
      generalize hfd : redF w g = fd at fb ihn ⊢
      generalize hT : redL fd ms (s.1, s.2 + 1) = T
      refine loop_ruleH [0, 1, 73, 0] (fun (x : {x : Nat × Bool × RdS // x.1 ≤ ms.length ∧ T = (if x.2.1 = true then redL fd (ms.drop x.1) x.2.2 else (false, x.2.2)) ∧ x.2.2.1.length + 2 * s.2 + 2 ≤ s.1.length + x.1 + 2 * x.2.2.2 ∧ x.2.2.2 ≤ 300} ) H => ([(9, .v (.bool x.1.2.1)), (78, .v (.int .i64 (x.1.1 : Nat)))], ⟨h.n, upd (upd h.o l (.cells (rdC w ta x.1.2.2))) ta (.rows 28 2 (x.1.2.2.1.map Need.row))⟩)) (fun x => ms.length - x.1.1) ⟨(0, true, (s.1, s.2 + 1)), Nat.zero_le _, by simp [hT], by simp only; omega, by simp only; omega⟩ ?_ ?_
      · refine weak_objs [l, ta] (by simp -dsimp only [go_sem]) (by simp -dsimp only [go_sem]) (by simp -dsimp only [go_sem, hl]) ?_ ?_ ?_
        · intro x h1 h2; have h2 : ¬ x = l ∧ ¬ x = ta := by simpa using h2
          simp -dsimp only [go_sem, h2]
        · intro x h1 h2; have h1 : x < h.n := h1; simp at h2 ⊢; omega
        · simp -dsimp only [go_sem, ho, hoa, hl, hta, hla, hal, rdC]
      · rintro ⟨⟨j, ok, s'⟩, hj, heq, hb1, hb2⟩
        have hj : j ≤ ms.length := hj
        have heq : T = (if ok = true then redL fd (ms.drop j) s' else (false, s')) := heq
        have hb1 : s'.1.length + 2 * s.2 + 2 ≤ s.1.length + j + 2 * s'.2 := hb1
        have hb2 : s'.2 ≤ 300 := hb2
        have hj1 : j + 1 ≤ 9223372036854775807 := by omega
        by_cases hlj : j < ms.length
        · obtain ⟨m, hb⟩ := get_some hlj
          have hmok := (hmm m (List.mem_of_getElem? hb)).1
          have hmtv := (hmm m (List.mem_of_getElem? hb)).2.1
          cases ok with
          | false =>
            rw [if_neg (by simp)] at heq
            simp -dsimp only [go_sem, hlj, hb, Need.row, hj1]
            refine round_to ⟨(j + 1, false, s'), hlj, by rw [if_neg (by simp)]; exact heq, by simp only; omega, hb2⟩ (by simp; omega) ?_
            refine weak_objs [l, ta] (by simp -dsimp only [go_sem]) (by simp -dsimp only [go_sem]) (by simp -dsimp only [go_sem, hl]) ?_ ?_ ?_
            · intro x h1 h2; have h2 : ¬ x = l ∧ ¬ x = ta := by simpa using h2
              have h3 : ¬ x = h.n := by have h1 : x < h.n := h1; omega
              simp -dsimp only [go_sem, h2, h3]
            · intro x h1 h2; have h1 : x < h.n := h1; simp at h2 ⊢; omega
            · simp -dsimp only [go_sem, hl, hta, hla, hal, rdC]
          | true =>
            rw [if_pos rfl, drop_get hb, redL_cons] at heq
            have hfb := fb m s'
            have hln : ¬ l = h.n := by omega
            have htn : ¬ ta = h.n := by omega
            simp -dsimp only [go_sem, hlj, hb, Need.row, hwd]
            refine call_turn (ihn m s' _ (by simp -dsimp only [go_sem, hl]) (by simp -dsimp only [go_sem, hta]) hla (by simp -dsimp only [go_sem, hla, hln]) (by simp -dsimp only [go_sem, htn]) hmok hmtv (by omega) hb2 (by omega)) (fun t ht _ => .inr ht) (fun t ht => by cases ht) ?_
            obtain ⟨q1, q2, q3⟩ := hfb
            have q3 := q3 hb2
            simp -dsimp only [go_sem, hj1]
            refine round_to ⟨(j + 1, (fd m s').1, (fd m s').2), hlj, heq, by simp only; omega, q3⟩ (by simp; omega) ?_
            refine weak_objs [l, ta] (by simp -dsimp only [go_sem]) (by simp -dsimp only [go_sem]) (by simp -dsimp only [go_sem, hl]) ?_ ?_ ?_
            · intro x h1 h2; have h2 : ¬ x = l ∧ ¬ x = ta := by simpa using h2
              have h3 : ¬ x = h.n := by have h1 : x < h.n := h1; omega
              simp -dsimp only [go_sem, h2, h3]
            · intro x h1 h2; have h1 : x < h.n := h1; simp at h2 ⊢; omega
            · simp -dsimp only [go_sem, hl, hta, hla, hal, hln, htn, rdC]
        · have hjm : j = ms.length := by omega
          have e2 : T = (ok, s') := by
            rw [heq, List.drop_of_length_le (by omega), redL_nil]
            cases ok <;> rfl
          clear hT heq
          subst e2
          simp -dsimp only [go_sem, hlj]
          exact fin_two hla (by simp -dsimp only [go_sem]) (by simp -dsimp only [go_sem]) (by simp -dsimp only [go_sem, hl, hta, hla, hal, rdC]) (by simp -dsimp only [go_sem, hl, hta, hla, hal])
theorem s_reduce {w : Wld} (hok : worldOk w = true) (hw : w.Sm) : ∀ f, RedOkS w f
  | 0 => s_reduce_step hok hw fun g e => (by cases e)
  | f + 1 => s_reduce_step hok hw fun g e => by cases e; exact s_reduce hok hw f
theorem s_ReduceNeed (w : Wld) (n : Need) (h : AH) (hw : w.Sm) (hn : n.Sm) : Isea.Good Tryz.prog 14 [.agg w.row, .agg n.row] h [] (.tup [.sl (((reduceN w n).getD []).map Need.row), .v (.bool (reduceN w n).isSome)]) h := by
  have hv := fun H => s_NeedValid w n H hw hn
  cases e : (worldOk w && needOk w n) with
  | false =>
    have er : reduceN w n = none := by unfold reduceN; rw [if_neg (by rw [e]; simp)]
    rw [er]
    refine good [10] [] Tryz.func14 rfl rfl Tryz.ntmps14 (by kernel_rfl) mixed (by kernel_rfl) ?_
    simp -dsimp only [go_sem, Wld.row, Need.row] at hv ⊢
    refine call_pure (hv _) ?_
    rw [e]
    simp -dsimp only [go_sem]
    exact fin_pure (by simp -dsimp only [go_sem]) (by simp -dsimp only [go_sem, Option.getD_none, Option.isSome_none, List.map_nil])
  | true =>
    have e2 := e
    rw [Bool.and_eq_true] at e2
    have htv : tv n.t = true := by have := e2.2; simp only [needOk, Bool.and_eq_true] at this; exact this.2
    have hR := fun H => s_reduce e2.1 hw 31 (h.n + 1) h.n n ([], 0) H
    have er : reduceN w n = if (redF w 31 n ([], 0)).1 = true then some (redF w 31 n ([], 0)).2.1 else none := by unfold reduceN; rw [if_pos e]
    rw [er]
    generalize redF w 31 n ([], 0) = r at hR ⊢
    simp only [Need.row, show ((31 - 31 : Nat) : Int) = 0 from rfl] at hR
    have a1 : ¬ h.n + 1 = h.n := by omega
    have a2 : ¬ h.n = h.n + 1 := by omega
    refine good [10] [] Tryz.func14 rfl rfl Tryz.ntmps14 (by kernel_rfl) mixed (by kernel_rfl) ?_
    simp -dsimp only [go_sem, Wld.row, Need.row] at hv ⊢
    refine call_pure (hv _) ?_
    rw [e]
    simp -dsimp only [go_sem]
    refine call_turn (hR _ (by simp -dsimp only [go_sem]) (by simp -dsimp only [go_sem]) a1 (by simp -dsimp only [go_sem, rdC, Wld.row]) (by simp -dsimp only [go_sem, a2, List.map_nil]) (nok_of e2.2 hn) htv (by simp) (by simp) (Nat.le_refl _)) (fun t ht _ => .inl (by simp at ht; show h.n ≤ t; omega)) (fun t ht => by cases ht) ?_
    obtain ⟨b, l', m'⟩ := r
    cases b with
    | true =>
      simp -dsimp only [go_sem, rdC, a1, a2]
      exact fin_pure (by simp -dsimp only [go_sem]) (by simp -dsimp only [go_sem, a2, if_true, Option.getD_some, Option.isSome_some, List.length_map])
    | false =>
      simp -dsimp only [go_sem, rdC, a1, a2]
      exact fin_pure (by simp -dsimp only [go_sem]) (by simp -dsimp only [go_sem, Bool.false_eq_true, if_false, Option.getD_none, Option.isSome_none, List.map_nil])
end Go.Proofs.YtnocdggngfiebaaGreatDoor

namespace Go.Isea
open Go
/-- the first need for which it fails -/
def ixR (fd : Need → RdS → Bool × RdS) : List Need → RdS → Nat → Int
  | [], _, _ => -1
  | m :: ms, s, j => if (fd m s).1 = true then ixR fd ms (fd m s).2 (j + 1) else (j : Nat)
theorem ixR_cons {fd : Need → RdS → Bool × RdS} {m : Need} {ms : List Need} {s : RdS} {j : Nat} : ixR fd (m :: ms) s j = if (fd m s).1 = true then ixR fd ms (fd m s).2 (j + 1) else (j : Nat) := rfl
theorem ixR_red {fd : Need → RdS → Bool × RdS} : ∀ (ms : List Need) (s : RdS) (j : Nat), decide (0 ≤ ixR fd ms s j) = !(redL fd ms s).1
  | [], _, _ => rfl
  | m :: ms, s, j => by
    rw [ixR_cons, redL_cons]
    split
    · exact ixR_red ms _ _
    · simp
theorem any_need (l : List Need) (n : Need) : (l.any fun m => decide (m = n)) = decide (n ∈ l) := by
  rw [Bool.eq_iff_iff, List.any_eq_true, decide_eq_true_iff]
  constructor
  · rintro ⟨x, hx, e⟩
    have e : x = n := by simpa using e
    rw [← e]; exact hx
  · intro hx
    exact ⟨n, hx, by simp⟩
/-- the classes of the gaps of one instance -/
def gapAt (k : Nat) (l : List (Nat × UInt8)) : L8 := l.filterMap fun p => if p.1 = k then some p.2 else none
theorem gapAt_none {k : Nat} : ∀ {l : List (Nat × UInt8)}, (∀ p ∈ l, p.1 ≠ k) → gapAt k l = []
  | [], _ => rfl
  | p :: l, h => by
    unfold gapAt
    rw [List.filterMap_cons_none (by simp [h p (List.mem_cons_self ..)])]
    exact gapAt_none fun q hq => h q (List.mem_cons_of_mem _ hq)
theorem gapAt_all {k : Nat} : ∀ l : L8, gapAt k (l.map fun d => (k, d)) = l
  | [] => rfl
  | d :: l => by
    unfold gapAt
    rw [List.map_cons, List.filterMap_cons_some (b := d) (by simp)]
    exact congrArg _ (gapAt_all l)
theorem gapAt_append {k : Nat} (a b : List (Nat × UInt8)) : gapAt k (a ++ b) = gapAt k a ++ gapAt k b := List.filterMap_append ..
theorem gapAt_to {w : Wld} {k : Nat} {x : Inst} (hx : w.is[k]? = some x) : ∀ m, gapAt k (gapsTo w m) = if k < m then gapL w x else []
  | 0 => rfl
  | m + 1 => by
    have ih := gapAt_to hx m
    cases hm : w.is[m]? with
    | none =>
      have hk := (List.getElem?_eq_some_iff.1 hx).1
      have hm' := List.getElem?_eq_none_iff.1 hm
      have e : gapsTo w (m + 1) = gapsTo w m := by unfold gapsTo; rw [List.range_succ, List.flatMap_append]; simp [hm]
      rw [e, ih, if_pos (by omega), if_pos (by omega)]
    | some y =>
      rw [gapsTo_succ hm, gapAt_append, ih]
      by_cases h1 : k = m
      · subst h1
        rw [hx] at hm
        injection hm with hm
        subst hm
        rw [if_neg (Nat.lt_irrefl _), if_pos (Nat.lt_succ_self _), List.nil_append, gapAt_all]
      · rw [gapAt_none (fun p hp => by obtain ⟨d, _, rfl⟩ := List.mem_map.1 hp; exact fun e => h1 e.symm), List.append_nil]
        by_cases h2 : k < m
        · rw [if_pos h2, if_pos (by omega)]
        · rw [if_neg h2, if_neg (by omega)]
theorem gapAt_of {w : Wld} (hok : worldOk w = true) {k : Nat} {x : Inst} (hx : w.is[k]? = some x) : gapAt k (gapsOf w) = gapL w x := by
  unfold gapsOf
  rw [if_pos hok, gapAt_to hx, if_pos (List.getElem?_eq_some_iff.1 hx).1]
theorem gapAt_drop {k q : Nat} {l : List (Nat × UInt8)} {p : Nat × UInt8} (h : l[q]? = some p) : gapAt k (l.drop q) = if p.1 = k then p.2 :: gapAt k (l.drop (q + 1)) else gapAt k (l.drop (q + 1)) := by
  rw [drop_get h]
  unfold gapAt
  by_cases hp : p.1 = k
  · rw [if_pos hp, List.filterMap_cons_some (b := p.2) (by simp [hp])]
  · rw [if_neg hp, List.filterMap_cons_none (by simp [hp])]
end Go.Isea
namespace Go.Proofs.YtnocdggngfiebaaGreatDoor
open Go Go.Isea
set_option maxRecDepth 100000
set_option maxHeartbeats 8000000
theorem l_Contains_Need (l : List Need) (n : Need) (h : AH) (hl : l.length ≤ 4611686018427387904) : Isea.Good Tryz.prog 185 [.sl (l.map Need.row), .agg n.row] h [] (.v (.bool (decide (n ∈ l)))) h := by
  have hI := fun H => l_Index_Need l n H hl
  refine good [] [] Tryz.func185 rfl rfl Tryz.ntmps185 (by kernel_rfl) mixed (by kernel_rfl) ?_
  simp -dsimp only [go_sem, Need.row] at hI ⊢
  refine call_pure (hI _) ?_
  simp -dsimp only [go_sem]
  exact fin_bool (by simp -dsimp only [go_sem]) (by rw [← any_need, ← findIx_any])
theorem i_once (l more : List Need) (t : Nat) (h : AH) (ht : t < h.n) (ho : h.o t = .rows 28 2 (l.map Need.row)) (hl : l.length + more.length ≤ 100000000) :
    Isea.Good Tryz.prog 98 [.so t l.length l.length, .sl (more.map Need.row)] h [t] (.so t (onceA l more).length (onceA l more).length) (h.set t (.rows 28 2 ((onceA l more).map Need.row))) := by
  refine good [] [] Tryz.func98 rfl rfl Tryz.ntmps98 (by kernel_rfl) mixed (by kernel_rfl) ?_
  simp -dsimp only [go_sem, List.length_map]
  refine loop_ruleH [7, 0] (fun (q : {q : Nat // q ≤ more.length}) H => ([(0, .so t (onceA l (more.take q.1)).length (onceA l (more.take q.1)).length), (9, .v (.int .i64 (q.1 : Nat)))], ⟨H.n, upd H.o t (.rows 28 2 ((onceA l (more.take q.1)).map Need.row))⟩)) (fun q => more.length - q.1) ⟨0, Nat.zero_le _⟩ ?_ ?_
  · have e0 : onceA l [] = l := rfl
    refine weak_objs [t] (by simp -dsimp only [go_sem]) (by simp -dsimp only [go_sem]) (by simp -dsimp only [go_sem, List.take_zero, e0, ht]) ?_ ?_ ?_
    · intro x h1 h2; have h2 : ¬ x = t := by simpa using h2
      simp -dsimp only [go_sem, h2]
    · intro x h1 h2; have h1 : x < h.n := h1; simp at h2 ⊢; omega
    · simp -dsimp only [go_sem, List.take_zero, e0, ho]
  · rintro ⟨q, hq⟩
    have hq1 : q + 1 ≤ 9223372036854775807 := by omega
    have hol := onceA_take_len l more q
    have hIn := fun m H => l_Contains_Need (onceA l (more.take q)) m H (by omega)
    have e7 : ((onceA l (more.take q)).length + 1) * 32 ≤ 140737488355328 := by omega
    have htn : ¬ t = h.n := by omega
    by_cases hqt : q < more.length
    · obtain ⟨m, hb⟩ := get_some hqt
      have hnx := onceA_next (l := l) hb
      simp -dsimp only [go_sem, hqt, hb, Need.row] at hIn ⊢
      refine call_pure (Good.frozen (hIn m ⟨0, h.o⟩) (.v _) (FzL.cons ?_ (FzL.cons ?_ FzL.nil))) ?_
      · refine fz_rowsL (e := 28) (sz := 2) ?_ (of_eq_true puR_needs)
        simp -dsimp only [go_sem, htn]
      · simp -dsimp only [go_sem]
      by_cases hm : m ∈ onceA l (more.take q)
      · rw [onceL_in hm] at hnx
        rw [decide_eq_true hm]
        simp -dsimp only [go_sem, hq1]
        refine round_to ⟨q + 1, hqt⟩ (by simp; omega) ?_
        refine weak_objs [t] (by simp -dsimp only [go_sem]) (by simp -dsimp only [go_sem]) (by simp -dsimp only [go_sem, hnx, ht]) ?_ ?_ ?_
        · intro x h1 h2; have h2 : ¬ x = t := by simpa using h2
          have h3 : ¬ x = h.n := by have h1 : x < h.n := h1; omega
          simp -dsimp only [go_sem, h2, h3]
        · intro x h1 h2; have h1 : x < h.n := h1; simp at h2 ⊢; omega
        · simp -dsimp only [go_sem, hnx, htn]
      · rw [onceL_out hm] at hnx
        rw [decide_eq_false hm]
        simp -dsimp only [go_sem, hq1, e7, htn, List.length_map]
        refine round_to ⟨q + 1, hqt⟩ (by simp; omega) ?_
        refine weak_objs [t] (by simp -dsimp only [go_sem]) (by simp -dsimp only [go_sem]) (by simp -dsimp only [go_sem, hnx, ht, List.length_append, List.length_cons, List.length_nil]) ?_ ?_ ?_
        · intro x h1 h2; have h2 : ¬ x = t := by simpa using h2
          have h3 : ¬ x = h.n := by have h1 : x < h.n := h1; omega
          simp -dsimp only [go_sem, h2, h3]
        · intro x h1 h2; have h1 : x < h.n := h1; simp at h2 ⊢; omega
        · simp -dsimp only [go_sem, hnx, htn, List.map_append, List.map_cons, List.map_nil, Need.row]
    · have et : more.take q = more := List.take_of_length_le (by omega)
      simp -dsimp only [go_sem, hqt, et]
      exact fin_one (by simp -dsimp only [go_sem]) (by simp -dsimp only [go_sem, ht]) (by simp -dsimp only [go_sem])
/-- what a closure is to do with each need -/
def CloOk (w : Wld) (l ta : Nat) (k : FuncId) (cap : List AV) (fd : Need → RdS → Bool × RdS) (ms : List Need) : Prop := ∀ m ∈ ms, ∀ (s : RdS) (H : AH), s.1.length ≤ 2 * s.2 + 1000 → s.2 ≤ 300 → l < H.n → ta < H.n → H.o l = .cells (rdC w ta s) → H.o ta = .rows 28 2 (s.1.map Need.row) →
  Isea.Good Tryz.prog k (.agg m.row :: cap) H [l, ta] (.v (.bool (!(fd m s).1))) ⟨H.n, upd (upd H.o l (.cells (rdC w ta (fd m s).2))) ta (.rows 28 2 ((fd m s).2.1.map Need.row))⟩
theorem l_IndexFunc_red (w : Wld) (l ta : Nat) (k : FuncId) (cap : List AV) (fd : Need → RdS → Bool × RdS) (ms : List Need) (s0 : RdS) (h : AH) (hl : l < h.n) (hta : ta < h.n) (hla : ¬ l = ta) (ho : h.o l = .cells (rdC w ta s0)) (hoa : h.o ta = .rows 28 2 (s0.1.map Need.row))
    (hcap : ∀ H : AH, ∀ m, h.n ≤ m → FzL H m cap cap) (hclo : CloOk w l ta k cap fd ms) (hms : ms.length ≤ 3) (hs1 : s0.1.length + 2 ≤ 2 * s0.2 + 1000) (hs2 : s0.2 ≤ 300) (hbd : ∀ m s, RBd 1 s (fd m s).2) :
    Isea.Good Tryz.prog 210 [.sl (ms.map Need.row), .fn k cap] h [l, ta] (.v (.int .i64 (ixR fd ms s0 0))) ⟨h.n, upd (upd h.o l (.cells (rdC w ta (redL fd ms s0).2))) ta (.rows 28 2 ((redL fd ms s0).2.1.map Need.row))⟩ := by
  have hal : ¬ ta = l := fun e => hla e.symm
  refine good [] [] Tryz.func210 rfl rfl Tryz.ntmps210 (by kernel_rfl) mixed (by kernel_rfl) ?_
  simp -dsimp only [go_sem, List.length_map]
  generalize hT : redL fd ms s0 = T
  generalize hX : ixR fd ms s0 0 = X
  refine loop_ruleH [0, 0, 5] (fun (x : {x : Nat × RdS // x.1 ≤ ms.length ∧ T = redL fd (ms.drop x.1) x.2 ∧ X = ixR fd (ms.drop x.1) x.2 x.1 ∧ x.2.1.length + 2 ≤ 2 * x.2.2 + 1000 + x.1 ∧ x.2.2 ≤ 300}) H => ([(8, .v (.int .i64 (x.1.1 : Nat)))], ⟨h.n, upd (upd H.o l (.cells (rdC w ta x.1.2))) ta (.rows 28 2 (x.1.2.1.map Need.row))⟩)) (fun x => ms.length - x.1.1) ⟨(0, s0), Nat.zero_le _, hT.symm, hX.symm, by simp only; omega, hs2⟩ ?_ ?_
  · refine weak_objs [l, ta] (by simp -dsimp only [go_sem]) (by simp -dsimp only [go_sem]) (by simp -dsimp only [go_sem, hcap _ _ (Nat.le_refl _)]) ?_ ?_ ?_
    · intro x h1 h2; have h2 : ¬ x = l ∧ ¬ x = ta := by simpa using h2
      simp -dsimp only [go_sem, h2]
    · intro x h1 h2; have h1 : x < h.n := h1; simp at h2 ⊢; omega
    · simp -dsimp only [go_sem, ho, hoa, hl, hta, hla, hal, rdC]
  · rintro ⟨⟨j, s⟩, hj, heq, hix, hb1, hb2⟩
    have hj : j ≤ ms.length := hj
    have heq : T = redL fd (ms.drop j) s := heq
    have hix : X = ixR fd (ms.drop j) s j := hix
    clear hT hX
    have hb1 : s.1.length + 2 ≤ 2 * s.2 + 1000 + j := hb1
    have hb2 : s.2 ≤ 300 := hb2
    have hj1 : j + 1 ≤ 9223372036854775807 := by omega
    have hln : ¬ l = h.n := by omega
    have htn : ¬ ta = h.n := by omega
    by_cases hlj : j < ms.length
    · obtain ⟨m, hb⟩ := get_some hlj
      rw [drop_get hb, redL_cons] at heq
      rw [drop_get hb, ixR_cons] at hix
      have hC := fun H => hclo m (List.mem_of_getElem? hb) s H (by omega) hb2
      obtain ⟨q1, q2, q3⟩ := hbd m s
      have q3 := q3 hb2
      simp only [Need.row] at hC
      simp -dsimp only [go_sem, hlj, hb, Need.row]
      refine call_turn (hC _ (by simp -dsimp only [go_sem, hl]) (by simp -dsimp only [go_sem, hta]) (by simp -dsimp only [go_sem, hla, hln]) (by simp -dsimp only [go_sem, htn])) (fun t ht _ => .inr ht) (fun t ht => by cases ht) ?_
      by_cases hfm : (fd m s).1 = true
      · rw [if_pos hfm] at heq hix
        simp -dsimp only [go_sem, hfm, hj1]
        refine round_to ⟨(j + 1, (fd m s).2), hlj, heq, hix, by simp only; omega, q3⟩ (by simp; omega) ?_
        refine weak_objs [l, ta] (by simp -dsimp only [go_sem]) (by simp -dsimp only [go_sem]) (by simp -dsimp only [go_sem, hcap _ _ (Nat.le_refl _)]) ?_ ?_ ?_
        · intro x h1 h2; have h2 : ¬ x = l ∧ ¬ x = ta := by simpa using h2
          have h3 : ¬ x = h.n := by have h1 : x < h.n := h1; omega
          simp -dsimp only [go_sem, h2, h3]
        · intro x h1 h2; have h1 : x < h.n := h1; simp at h2 ⊢; omega
        · simp -dsimp only [go_sem, hl, hta, hla, hal, hln, htn, rdC]
      · have hff : (fd m s).1 = false := by simpa using hfm
        rw [if_neg hfm] at heq hix
        subst heq
        subst hix
        simp -dsimp only [go_sem, hff]
        exact fin_two hla (by simp -dsimp only [go_sem]) (by simp -dsimp only [go_sem]) (by simp -dsimp only [go_sem, hl, hta, hla, hal, hln, htn, rdC]) (by simp -dsimp only [go_sem, hl, hta, hla, hal, hln, htn])
    · have ed : ms.drop j = [] := List.drop_of_length_le (by omega)
      rw [ed] at heq hix
      rw [redL_nil] at heq
      have hix : X = -1 := hix
      subst heq
      subst hix
      simp -dsimp only [go_sem, hlj]
      exact fin_two hla (by simp -dsimp only [go_sem]) (by simp -dsimp only [go_sem]) (by simp -dsimp only [go_sem, hl, hta, hla, hal, hln, htn, rdC]) (by simp -dsimp only [go_sem, hl, hta, hla, hal, hln, htn])
theorem l_ContainsFunc_red (w : Wld) (l ta : Nat) (k : FuncId) (cap : List AV) (fd : Need → RdS → Bool × RdS) (ms : List Need) (s0 : RdS) (h : AH) (hl : l < h.n) (hta : ta < h.n) (hla : ¬ l = ta) (ho : h.o l = .cells (rdC w ta s0)) (hoa : h.o ta = .rows 28 2 (s0.1.map Need.row))
    (hcap : ∀ H : AH, ∀ m, h.n ≤ m → FzL H m cap cap) (hclo : CloOk w l ta k cap fd ms) (hms : ms.length ≤ 3) (hs1 : s0.1.length + 2 ≤ 2 * s0.2 + 1000) (hs2 : s0.2 ≤ 300) (hbd : ∀ m s, RBd 1 s (fd m s).2) :
    Isea.Good Tryz.prog 124 [.sl (ms.map Need.row), .fn k cap] h [l, ta] (.v (.bool (!(redL fd ms s0).1))) ⟨h.n, upd (upd h.o l (.cells (rdC w ta (redL fd ms s0).2))) ta (.rows 28 2 ((redL fd ms s0).2.1.map Need.row))⟩ := by
  have hI := l_IndexFunc_red w l ta k cap fd ms s0 h hl hta hla ho hoa hcap hclo hms hs1 hs2 hbd
  have hal : ¬ ta = l := fun e => hla e.symm
  refine good [] [] Tryz.func124 rfl rfl Tryz.ntmps124 (by kernel_rfl) mixed (by kernel_rfl) ?_
  simp -dsimp only [go_sem]
  refine call_turn hI (fun t ht _ => .inr ht) (fun t ht => by cases ht) ?_
  rw [← ixR_red ms s0 0]
  simp -dsimp only [go_sem]
  exact fin_two hla (by simp -dsimp only [go_sem]) (by simp -dsimp only [go_sem]) (by simp -dsimp only [go_sem, hl, hta, hla, hal, rdC]) (by simp -dsimp only [go_sem, hl, hta, hla, hal])
def RedOkI (w : Wld) (f : Nat) : Prop := ∀ (l ta : Nat) (n : Need) (s : RdS) (h : AH), l < h.n → ta < h.n → ¬ l = ta → h.o l = .cells (rdC w ta s) → h.o ta = .rows 28 2 (s.1.map Need.row) → NOk w n → tv n.t = true → s.1.length ≤ 2 * s.2 + 1000 → s.2 ≤ 300 → f ≤ 31 →
    Isea.Good Tryz.prog 86 [.ptr l 0, .agg n.row, .v (.int .i64 ((31 - f : Nat) : Int))] h [l, ta] (.v (.bool (redF w f n s).1))
      ⟨h.n, upd (upd h.o l (.cells (rdC w ta (redF w f n s).2))) ta (.rows 28 2 ((redF w f n s).2.1.map Need.row))⟩
theorem i_reduce1 {w : Wld} {g : Nat} (ih : RedOkI w g) (hg : g ≤ 30) (l ta : Nat) (hla : ¬ l = ta) (ms : List Need) (hmm : ∀ m ∈ ms, NOk w m ∧ tv m.t = true ∧ m.t.length ≤ 60) : CloOk w l ta 166 [.ref [.ptr l 0] 0, .ref [.v (.int .i64 ((31 - (g + 1) : Nat) : Int))] 0] (redF w g) ms := by
  intro m hm s H hs1 hs2 hl hta ho hoa
  have hal : ¬ ta = l := fun e => hla e.symm
  have hm' := hmm m hm
  have hwd : IntKind.i64.wrap (((31 - (g + 1) : Nat) : Int) + 1) = ((31 - g : Nat) : Int) := by rw [wrap_i64] <;> omega
  have hR := ih l ta m s H hl hta hla ho hoa hm'.1 hm'.2.1 hs1 hs2 (by omega)
  refine good [] [] Tryz.func166 rfl rfl Tryz.ntmps166 (by kernel_rfl) mixed (by kernel_rfl) ?_
  simp -dsimp only [go_sem, Need.row, hwd] at hR ⊢
  refine call_turn hR (fun t ht _ => .inr ht) (fun t ht => by cases ht) ?_
  simp -dsimp only [go_sem]
  exact fin_two hla (by simp -dsimp only [go_sem]) (by simp -dsimp only [go_sem]) (by simp -dsimp only [go_sem, hl, hta, hla, hal, rdC]) (by simp -dsimp only [go_sem, hl, hta, hla, hal])
theorem i_reduce_step {w : Wld} (hok : worldOk w = true) (hw : w.Sm) {f : Nat} (ih : ∀ g, f = g + 1 → RedOkI w g) : RedOkI w f := by
  intro l ta n s h hl hta hla ho hoa hn htv hs1 hs2 hf
  have hal : ¬ ta = l := fun e => hla e.symm
  have hwl := world_len hok
  simp only [rdC] at ho
  have hVar := fun H => i_isVar n.t H
  rw [isVL_tv htv] at hVar
  have hcand := fun H => i_candidates w n H hw hn.2 (by omega)
  have hmem : ∀ k, k ∈ candIx w n → ∃ i, w.is[k]? = some i ∧ i.c = n.c ∧ (matchS i.t n.t).isSome = true := fun k hk => cand_mem hk
  have ha6 : (s.1.length + 1) * 32 ≤ 140737488355328 := by omega
  refine good [] [] Tryz.func86 rfl rfl Tryz.ntmps86 (by kernel_rfl) mixed (by kernel_rfl) ?_
  simp -dsimp only [go_sem, Need.row, Wld.row, hl] at hcand ⊢
  refine call_pure (hVar _) ?_
  cases hv : isV (n.t.headD 0) with
  | true =>
    have eF : redF w f n s = (true, (onceL s.1 n, s.2)) := by cases f <;> (unfold redF; rw [hv, if_pos rfl])
    have hO := fun H => i_once s.1 [n] ta H
    have e1 : onceA s.1 [n] = onceL s.1 n := rfl
    rw [e1] at hO
    rw [eF]
    simp -dsimp only [go_sem, hl, hta, ho, hoa, rdC, List.length_map, List.map_cons, List.map_nil, Need.row] at hO ⊢
    refine call_one (hO _ (by first | exact hta | (simp -dsimp only [go_sem, hta]) | (show ta < h.n + _; omega)) (by first | exact hoa | simp -dsimp only [go_sem, hoa]) (by first | omega | (simp; omega))) (.inr (by simp)) (out_prS (by kernel_rfl)) ?_
    simp -dsimp only [go_sem, hl, hta, ho, hla, hal]
    refine ⟨out_prS (by kernel_rfl), ?_⟩
    exact fin_two hla (by simp -dsimp only [go_sem]) (by simp -dsimp only [go_sem]) (by simp -dsimp only [go_sem, ho, hta, hl, hla, hal, rdC]) (by simp -dsimp only [go_sem, hoa, hta, hl, hla, hal])
  | false =>
    have eZ : f = 0 → redF w f n s = (false, s) := fun e => by subst e; unfold redF; rw [hv, if_neg (by simp)]
    have eS : ∀ g, f = g + 1 → redF w f n s = redB (redF w g) w n s := fun g e => by subst e; unfold redF; rw [hv, if_neg (by simp)]
    by_cases h300 : 300 ≤ s.2
    · have h300' : (300 : Int) ≤ (s.2 : Nat) := by omega
      have eF : redF w f n s = (false, s) := by
        rcases Nat.eq_zero_or_pos f with h0 | h0
        · exact eZ h0
        · rw [eS (f - 1) (by omega)]
          rcases cand_two w n hmem with ⟨_, hB⟩ | ⟨k, i, hcl, hi, hN⟩ | ⟨k, i, ms, hcl, hi, hN⟩
          · exact hB _ _
          · unfold redB; rw [hcl]; simp only [h300, if_true]
          · unfold redB; rw [hcl]; simp only [h300, if_true]
      rw [eF]
      simp -dsimp only [go_sem, hl, hta, ho, hoa, rdC]
      refine call_pure (hcand _) ?_
      simp -dsimp only [go_sem, hl, ho, h300']
      exact fin_two hla (by simp -dsimp only [go_sem]) (by simp -dsimp only [go_sem]) (by simp -dsimp only [go_sem, ho, hta, rdC]) (by simp -dsimp only [go_sem, hoa])
    have h300' : ¬ (300 : Int) ≤ (s.2 : Nat) := by omega
    by_cases hf0 : f = 0
    · have eF : redF w f n s = (false, s) := eZ hf0
      have h31 : (30 : Int) < ((31 - f : Nat) : Int) := by omega
      rw [eF]
      simp -dsimp only [go_sem, hl, hta, ho, hoa, rdC]
      refine call_pure (hcand _) ?_
      simp -dsimp only [go_sem, hl, ho, h300', h31]
      exact fin_two hla (by simp -dsimp only [go_sem]) (by simp -dsimp only [go_sem]) (by simp -dsimp only [go_sem, ho, hta, rdC]) (by simp -dsimp only [go_sem, hoa])
    obtain ⟨g, rfl⟩ : ∃ g, f = g + 1 := ⟨f - 1, by omega⟩
    have h31 : ¬ (30 : Int) < ((31 - (g + 1) : Nat) : Int) := by omega
    have eF : redF w (g + 1) n s = redB (redF w g) w n s := eS g rfl
    clear eZ eS
    rcases cand_two w n hmem with ⟨hbad, hB⟩ | ⟨k, i, hcl, hi, hN⟩ | ⟨k, i, ms, hcl, hi, hN⟩
    · have h1' : ¬ (((candIx w n).length : Nat) : Int) = 1 := by omega
      rw [hB] at eF
      rw [eF]
      simp -dsimp only [go_sem, hl, hta, ho, hoa, rdC]
      refine call_pure (hcand _) ?_
      simp -dsimp only [go_sem, hl, ho, h300', h31, List.length_map, h1', hbad]
      exact fin_two hla (by simp -dsimp only [go_sem]) (by simp -dsimp only [go_sem]) (by simp -dsimp only [go_sem, ho, hta, rdC]) (by simp -dsimp only [go_sem, hoa])
    all_goals
      unfold redB at eF
      rw [hcl] at eF
      simp only [hi, hN] at eF
      rw [if_neg h300] at eF
      rw [eF]
      rw [hcl] at hcand
      simp -dsimp only [go_sem, hl, hta, ho, hoa, rdC, List.map_cons, List.map_nil, iRow] at hcand ⊢
      refine call_pure (hcand _) ?_
      have hs2' : s.2 + 1 ≤ 9223372036854775807 := by omega
      have hwi := world_inst hok hi
      have hk10 := hwi.1
      have h6 := hwi.2.2.2.2.2.1
      clear hwi
      have hism := hw.i i (List.mem_of_getElem? hi)
      have hnd := fun H => i_needs i n.t H hism hn.2.2 (by omega)
      rw [hN] at hnd
      simp -dsimp only [go_sem, h31, hl, hta, ho, hoa, h300', hs2', hi, Inst.row] at hnd ⊢
      refine call_pure (hnd _) ?_
    · simp -dsimp only [go_sem, needsV]
      exact fin_two hla (by simp -dsimp only [go_sem]) (by simp -dsimp only [go_sem]) (by simp -dsimp only [go_sem, ho, hta, hl, hla, hal, rdC]) (by simp -dsimp only [go_sem, hoa, hta, hl, hla, hal])
    · have hno := needs_ok hok hw hi hN
      have hC := fun H => l_ContainsFunc_red w l ta 166 [.ref [.ptr l 0] 0, .ref [.v (.int .i64 ((31 - (g + 1) : Nat) : Int))] 0] (redF w g) ms (s.1, s.2 + 1) H
      have hlen : (s.1, s.2 + 1).1.length + 2 ≤ 2 * (s.1, s.2 + 1).2 + 1000 := by simp only; omega
      have hCl := i_reduce1 (ih g rfl) (by omega) l ta hla ms hno.2
      simp -dsimp only [go_sem, needsV, List.length_map, hl, hta, hla, hal, ho]
      refine call_turn (hC _ (by simp -dsimp only [go_sem, hl]) (by simp -dsimp only [go_sem, hta]) hla (by simp -dsimp only [go_sem, rdC, hla, Wld.row]) (by simp -dsimp only [go_sem, hoa, hal]) (fun H m hm => ?_) hCl hno.1 hlen (by simp only; omega) (fun m s => redF_bd hok hw g m s)) (fun t ht _ => .inr ht) (fun t ht => by cases ht) ?_
      · have hlm : l < m := by have : h.n ≤ m := hm; omega
        simp -dsimp only [go_sem, hlm]
      generalize redL (redF w g) ms (s.1, s.2 + 1) = R
      simp -dsimp only [go_sem]
      exact fin_two hla (by simp -dsimp only [go_sem]) (by simp -dsimp only [go_sem, Bool.not_not]) (by simp -dsimp only [go_sem, hl, hta, hla, hal, rdC]) (by simp -dsimp only [go_sem, hl, hta, hla, hal])
theorem i_reduce {w : Wld} (hok : worldOk w = true) (hw : w.Sm) : ∀ f, RedOkI w f
  | 0 => i_reduce_step hok hw fun g e => (by cases e)
  | f + 1 => i_reduce_step hok hw fun g e => by cases e; exact i_reduce hok hw f
theorem i_reduce_first {w : Wld} (hok : worldOk w = true) (hw : w.Sm) (l : Nat) (n : Need) (h : AH) (hl : l < h.n) (ho : h.o l = .cells [.sl (w.cs.map Cls.row), .sl (w.is.map Inst.row), .v (.slice none 0 0), .v (.int .i64 0)]) (hn : NOk w n) (htv : tv n.t = true) :
    ∃ o', Isea.Good Tryz.prog 86 [.ptr l 0, .agg n.row, .v (.int .i64 0)] h [l] (.v (.bool (redF w 31 n ([], 0)).1)) ⟨h.n + 1, o'⟩ ∧ o' l = .cells (rdC w h.n (redF w 31 n ([], 0)).2) ∧ o' h.n = .rows 28 2 ((redF w 31 n ([], 0)).2.1.map Need.row) := by
  have hlt : ¬ l = h.n := by omega
  have := i_reduce hok hw 31 l h.n n ([], 0) ⟨h.n + 1, upd (upd h.o l (.cells (rdC w h.n ([], 0)))) h.n (.rows 28 2 [])⟩ (by show l < h.n + 1; omega) (by show h.n < h.n + 1; omega) hlt
    (by show upd (upd h.o l _) h.n _ l = _; rw [upd_ne _ _ hlt, upd_same]) (by show upd (upd h.o l _) h.n _ h.n = _; rw [upd_same]; rfl) hn htv (by simp) (by simp) (Nat.le_refl _)
  refine ⟨_, Good.ghost (e := 28) (sz := 2) (cs := [.sl (w.cs.map Cls.row), .sl (w.is.map Inst.row), .v (.slice none 0 0), .v (.int .i64 0)]) (cs' := rdC w h.n ([], 0)) (by decide) hl ho rfl (fun i x y h1 h2 => ?_) this, ?_, ?_⟩
  · unfold rdC at h2
    rcases i with _ | _ | _ | _ | i <;> simp at h1 h2 <;> subst h1 <;> subst h2 <;> simp
  · show upd (upd _ l _) h.n _ l = _; rw [upd_ne _ _ hlt, upd_same]
  · show upd (upd _ l _) h.n _ h.n = _; rw [upd_same]
theorem i_ReduceNeed (w : Wld) (n : Need) (h : AH) (hw : w.Sm) (hn : n.Sm) : Isea.Good Tryz.prog 13 [.agg w.row, .agg n.row] h [] (.tup [.sl (((reduceN w n).getD []).map Need.row), .v (.bool (reduceN w n).isSome)]) h := by
  have hv := fun H => i_NeedValid w n H hw hn
  cases e : (worldOk w && needOk w n) with
  | false =>
    have er : reduceN w n = none := by unfold reduceN; rw [if_neg (by rw [e]; simp)]
    rw [er]
    refine good [9] [] Tryz.func13 rfl rfl Tryz.ntmps13 (by kernel_rfl) mixed (by kernel_rfl) ?_
    simp -dsimp only [go_sem, Wld.row, Need.row] at hv ⊢
    refine call_pure (hv _) ?_
    rw [e]
    simp -dsimp only [go_sem]
    exact fin_pure (by simp -dsimp only [go_sem]) (by simp -dsimp only [go_sem, Option.getD_none, Option.isSome_none, List.map_nil])
  | true =>
    have e2 := e
    rw [Bool.and_eq_true] at e2
    have htv : tv n.t = true := by have := e2.2; simp only [needOk, Bool.and_eq_true] at this; exact this.2
    obtain ⟨o', hR, p1, p2⟩ := i_reduce_first e2.1 hw h.n n ⟨h.n + 1, upd h.o h.n (.cells [.sl (w.cs.map Cls.row), .sl (w.is.map Inst.row), .v (.slice none 0 0), .v (.int .i64 0)])⟩ (Nat.lt_succ_self _) (upd_same _ _ _) (nok_of e2.2 hn) htv
    have er : reduceN w n = if (redF w 31 n ([], 0)).1 = true then some (redF w 31 n ([], 0)).2.1 else none := by unfold reduceN; rw [if_pos e]
    rw [er]
    generalize redF w 31 n ([], 0) = r at hR p1 p2 ⊢
    have p2 : o' (h.n + 1) = _ := p2
    have hc : isCur r.2.1.length (o' (h.n + 1)) = true := by rw [p2]; simp [isCur]
    refine good [9] [] Tryz.func13 rfl rfl Tryz.ntmps13 (by kernel_rfl) mixed (by kernel_rfl) ?_
    simp -dsimp only [go_sem, Wld.row, Need.row] at hv hR ⊢
    refine call_pure (hv _) ?_
    rw [e]
    simp -dsimp only [go_sem]
    refine call_one hR (by simp -dsimp only [go_sem]) (by simp -dsimp only [go_sem]) ?_
    obtain ⟨b, l', m'⟩ := r
    cases b with
    | true =>
      simp -dsimp only [go_sem, rdC, p1, p2, hc]
      exact fin_pure (by simp -dsimp only [go_sem]) (by simp -dsimp only [go_sem, p2, if_true, Option.getD_some, Option.isSome_some, List.length_map])
    | false =>
      simp -dsimp only [go_sem, rdC, p1, p2]
      exact fin_pure (by simp -dsimp only [go_sem]) (by simp -dsimp only [go_sem, Bool.false_eq_true, if_false, Option.getD_none, Option.isSome_none, List.map_nil])
end Go.Proofs.YtnocdggngfiebaaGreatDoor

namespace Go.Proofs.YtnocdggngfiebaaGreatDoor
open Go Go.Isea
set_option maxRecDepth 100000
set_option maxHeartbeats 8000000
theorem i_GapsOfF (w : Wld) (h : AH) (hw : w.Sm) : Isea.Good Tryz.prog 25 [.agg w.row] h [] (.tup [.sl ((gapsOf w).map gapRow), .v (.bool (worldOk w))]) h :=
  (i_GapsOf w h hw).fin (fin_pure (Nat.le_succ _) (by
    have hp : PuR ((gapsOf w).map gapRow) := of_eq_true puR_gaps
    have := Fz.so_lo (h := h.push (.rows 50 2 ((gapsOf w).map gapRow))) (m := h.n) (t := h.n) (Nat.le_refl _) (upd_same _ _ _) rfl (hp h.n)
    rw [List.length_map] at this
    exact Fz.tupL (FzL.cons this (FzL.cons (.v _) FzL.nil))))
/-- what FullNeeds leaves behind -/
def fnM (h : AH) : Option (List Need) → AH
  | none => h
  | some l => ⟨h.n + 2, upd (upd h.o h.n (.cells [.junk, .junk, .junk])) (h.n + 1) (.rows 28 2 (l.map Need.row))⟩
def fnV (h : AH) : Option (List Need) → AV
  | none => .tup [.v (.slice none 0 0), .v (.bool false)]
  | some l => .tup [.so (h.n + 1) l.length l.length, .v (.bool true)]
theorem i_FullNeeds0 (w : Wld) (i : Int) (h : AH) (hw : w.Sm) (hi : -9223372036854775808 ≤ i ∧ i ≤ 9223372036854775807) : Isea.Good Tryz.prog 23 [.agg w.row, .v (.int .i64 i)] h [] (fnV h (fullN w i)) (fnM h (fullN w i)) := by
  have hG := fun H => i_GapsOfF w H hw
  rcases opt_cases (instAt w i) with e | ⟨x, e⟩
  · have er : fullN w i = none := by unfold fullN; rw [e]
    rw [er]
    show Isea.Good _ _ _ h [] (.tup [.v (.slice none 0 0), .v (.bool false)]) h
    refine good [] [] Tryz.func23 rfl rfl Tryz.ntmps23 (by kernel_rfl) mixed (by kernel_rfl) ?_
    simp -dsimp only [go_sem, Wld.row] at hG ⊢
    refine call_pure (hG _) ?_
    cases hok : worldOk w with
    | false =>
      simp -dsimp only [go_sem]
      exact fin_pure (by simp -dsimp only [go_sem]) (by simp -dsimp only [go_sem])
    | true =>
      by_cases h0 : i < 0
      · simp -dsimp only [go_sem, h0]
        exact fin_pure (by simp -dsimp only [go_sem]) (by simp -dsimp only [go_sem])
      · have h1 : ((w.is.length : Nat) : Int) ≤ i := by
          unfold instAt at e
          rw [if_pos ⟨hok, by omega⟩] at e
          have := List.getElem?_eq_none_iff.1 e
          omega
        simp -dsimp only [go_sem, h0, h1, List.length_map]
        exact fin_pure (by simp -dsimp only [go_sem]) (by simp -dsimp only [go_sem])
  · obtain ⟨hok, k, rfl, hk⟩ := instAt_get e
    have er : fullN w (k : Nat) = fullL w x (gapAt k (gapsOf w)) x.ns := by unfold fullN; rw [e, gapAt_of hok hk]
    have hkl := (List.getElem?_eq_some_iff.1 hk).1
    have hwl := world_len hok
    have hgl : (gapsOf w).length ≤ 2560 := by unfold gapsOf; rw [if_pos hok]; have := gapsTo_len w w.is.length; omega
    have hns := (inst_givens hok hk).2
    have hxs := hw.i x (List.mem_of_getElem? hk)
    have hR := fun d H => i_ReduceNeed w ⟨[d], x.t⟩ H hw ⟨by simp, hxs.2.1⟩
    have hC := fun H => l_CloneA_Need x.ns H (by omega)
    have hk0 : ¬ ((k : Nat) : Int) < 0 := by omega
    have hk1 : ¬ ((w.is.length : Nat) : Int) ≤ ((k : Nat) : Int) := by omega
    have hkl' : ¬ w.is.length ≤ k := by omega
    rw [er]
    generalize gapsOf w = A at hG hgl ⊢
    generalize hT : fullL w x (gapAt k A) x.ns = T
    refine good [] [] Tryz.func23 rfl rfl Tryz.ntmps23 (by kernel_rfl) mixed (by kernel_rfl) ?_
    simp -dsimp only [go_sem, Wld.row] at hG hC hR ⊢
    refine call_pure (hG _) ?_
    rw [hok]
    simp -dsimp only [go_sem, hk0, hk1, hkl', hk, Inst.row, List.length_map]
    refine call_pure (hC _) ?_
    have n1 : ¬ h.n = h.n + 1 := by omega
    simp -dsimp only [go_sem, List.length_map]
    refine loop_ruleH [1, 0, 5, 31, 0] (fun (y : {y : Nat × List Need // y.1 ≤ A.length ∧ T = fullL w x (gapAt k (A.drop y.1)) y.2 ∧ y.2.length ≤ 3 + y.1 * 601}) H => ([(9, .so (h.n + 1) y.1.2.length y.1.2.length), (42, .v (.int .i64 (y.1.1 : Nat)))], ⟨h.n + 2, upd (upd h.o h.n (.cells [str x.c, str x.t, .sl (x.ns.map Need.row)])) (h.n + 1) (.rows 28 2 (y.1.2.map Need.row))⟩)) (fun y => A.length - y.1.1) ⟨(0, x.ns), Nat.zero_le _, hT.symm, by simp only; omega⟩ ?_ ?_
    · refine weak_objs [h.n, h.n + 1] (by simp -dsimp only [go_sem]) (by simp -dsimp only [go_sem]) (by simp -dsimp only [go_sem, List.length_map]) ?_ ?_ ?_
      · intro t h1 h2
        have a1 : ¬ t = h.n := by omega
        have a2 : ¬ t = h.n + 1 := by omega
        simp -dsimp only [go_sem, a1, a2]
      · intro x h1 h2; have h1 : x < h.n + 2 := h1; simp at h2 ⊢; omega
      · simp -dsimp only [go_sem, n1]
    · rintro ⟨⟨j, l⟩, hj, heq, hbd⟩
      have hj : j ≤ A.length := hj
      have heq : T = fullL w x (gapAt k (A.drop j)) l := heq
      have hbd : l.length ≤ 3 + j * 601 := hbd
      have hj1 : j + 1 ≤ 9223372036854775807 := by omega
      by_cases hlt : j < A.length
      · obtain ⟨⟨pj, d⟩, hd⟩ := get_some hlt
        rw [gapAt_drop hd] at heq
        by_cases hp : pj = k
        · subst hp
          rw [if_pos rfl, fullL_cons] at heq
          simp -dsimp only [go_sem, hlt, hd, gapRow, n1]
          refine call_pure (hR d _) ?_
          rcases opt_cases (reduceN w ⟨[d], x.t⟩) with hr | ⟨r, hr⟩
          · rw [hr] at heq ⊢
            clear hT
            have heq : T = none := heq
            subst heq
            simp -dsimp only [go_sem, Option.getD_none, Option.isSome_none, List.map_nil, fnV, fnM]
            exact fin_pure (by simp -dsimp only [go_sem]) (by simp -dsimp only [go_sem])
          · have hrl := reduceN_len hw hr
            have hO := fun H => i_once l r (h.n + 1) H
            rw [hr] at heq ⊢
            simp only at heq
            simp -dsimp only [go_sem, Option.getD_some, Option.isSome_some]
            refine call_one (hO _ (by simp -dsimp only [go_sem]) (by simp -dsimp only [go_sem]) (by have : j * 601 ≤ 2559 * 601 := Nat.mul_le_mul_right _ (by omega); omega)) (.inl (Nat.le_succ _)) (by first | exact (by simp) | exact out_prS (by kernel_rfl)) ?_
            have ho2 := onceA_len r l
            simp -dsimp only [go_sem, hj1]
            refine round_to ⟨(j + 1, onceA l r), hlt, heq, by simp only; omega⟩ (by simp; omega) ?_
            refine weak_objs [h.n, h.n + 1] (by simp -dsimp only [go_sem]) (by simp -dsimp only [go_sem]) (by simp -dsimp only [go_sem]) ?_ ?_ ?_
            · intro t h1 h2
              have a1 : ¬ t = h.n := by omega
              have a2 : ¬ t = h.n + 1 := by omega
              have a3 : ¬ t = h.n + 2 := by omega
              simp -dsimp only [go_sem, a1, a2, a3]
            · intro x h1 h2; have h1 : x < h.n + 2 := h1; simp at h2 ⊢; omega
            · simp -dsimp only [go_sem, n1]
        · have hp' : ¬ ((pj : Nat) : Int) = ((k : Nat) : Int) := by omega
          rw [if_neg hp] at heq
          simp -dsimp only [go_sem, hlt, hd, gapRow, hp', hp, hj1]
          refine round_to ⟨(j + 1, l), hlt, heq, by simp only; omega⟩ (by simp; omega) ?_
          refine weak_objs [h.n, h.n + 1] (by simp -dsimp only [go_sem]) (by simp -dsimp only [go_sem]) (by simp -dsimp only [go_sem]) ?_ ?_ ?_
          · intro t h1 h2
            have a1 : ¬ t = h.n := by omega
            have a2 : ¬ t = h.n + 1 := by omega
            have a3 : ¬ t = h.n + 2 := by omega
            simp -dsimp only [go_sem, a1, a2, a3]
          · intro x h1 h2; have h1 : x < h.n + 2 := h1; simp at h2 ⊢; omega
          · simp -dsimp only [go_sem, n1]
      · have ed : A.drop j = [] := List.drop_of_length_le (by omega)
        have e9 : T = some l := by rw [heq, ed]; rfl
        clear hT heq
        subst e9
        simp -dsimp only [go_sem, hlt, fnV, fnM]
        refine fin_objs [h.n, h.n + 1] (by simp -dsimp only [go_sem]) (by simp -dsimp only [go_sem]) (by simp -dsimp only [go_sem]) ?_ ?_ ?_
        · intro t h1 _
          have e0 : ¬ t = h.n := by omega
          have e1 : ¬ t = h.n + 1 := by omega
          simp -dsimp only [go_sem, e0, e1]
        · intro t h1 h2
          have h1 : t < h.n + 2 := h1
          simp at h2 ⊢; omega
        · simp -dsimp only [go_sem, n1]
theorem i_FullNeeds (w : Wld) (i : Int) (h : AH) (hw : w.Sm) (hi : -9223372036854775808 ≤ i ∧ i ≤ 9223372036854775807) : Isea.Good Tryz.prog 23 [.agg w.row, .v (.int .i64 i)] h [] (.tup [.so h.n ((fullN w i).getD []).length ((fullN w i).getD []).length, .v (.bool (fullN w i).isSome)]) (h.push (.rows 28 2 (((fullN w i).getD []).map Need.row))) := by
  have h0 := i_FullNeeds0 w i h hw hi
  rcases opt_cases (fullN w i) with e | ⟨l, e⟩
  · rw [e] at h0 ⊢
    exact Good.ghostR2 (h' := h) (by decide) h0
  · rw [e] at h0 ⊢
    refine Good.shift 1 h0 rfl (Nat.le_succ _) (fun t ht => upd_ne _ _ (by omega)) (fun t h1 h2 => ?_) ?_
    · have h2 : t < h.n + 1 := h2
      obtain rfl : t = h.n := by omega
      show RenO True _ _ (upd _ (h.n + 1) _ (h.n + 1)) (upd h.o h.n _ h.n)
      rw [upd_same, upd_same]
      exact RenO.of_rows (of_eq_true puR_needs)
    · refine .tup rfl fun i x y h1 h2 => ?_
      rcases i with _ | _ | i
      · simp at h1 h2; subst h1; subst h2
        exact Ren.so' (Nat.lt_succ_self _) (dn_hi (Nat.le_refl _))
      · simp at h1 h2; subst h1; subst h2; exact .v _
      · simp at h1
end Go.Proofs.YtnocdggngfiebaaGreatDoor

namespace Go.Proofs.YtnocdggngfiebaaGreatDoor
open Go Go.Isea
set_option maxRecDepth 100000
set_option maxHeartbeats 8000000
theorem s_FullNeeds (w : Wld) (i : Int) (h : AH) (hw : w.Sm) (hi : -9223372036854775808 ≤ i ∧ i ≤ 9223372036854775807) : Isea.Good Tryz.prog 24 [.agg w.row, .v (.int .i64 i)] h [] (.tup [.sl (((fullN w i).getD []).map Need.row), .v (.bool (fullN w i).isSome)]) h := by
  have hH := fun H => s_l10Has w i H hw
  rcases opt_cases (instAt w i) with e | ⟨x, e⟩
  · have er : fullN w i = none := by unfold fullN; rw [e]
    rw [er]
    refine good [] [] Tryz.func24 rfl rfl Tryz.ntmps24 (by kernel_rfl) mixed (by kernel_rfl) ?_
    simp -dsimp only [go_sem, Wld.row] at hH ⊢
    refine call_pure (hH _) ?_
    rw [e]
    simp -dsimp only [go_sem, Option.isSome_none]
    exact fin_pure (by simp -dsimp only [go_sem]) (by simp -dsimp only [go_sem, Option.getD_none, Option.isSome_none, List.map_nil])
  · obtain ⟨hok, k, rfl, hk⟩ := instAt_get e
    have er : fullN w (k : Nat) = fullL w x (gapL w x) x.ns := by unfold fullN; rw [e]
    have hG := fun H => s_l10Gaps w k x H hw hok hk
    have hgl := gapL_len w x
    have hns := (inst_givens hok hk).2
    have hxs := hw.i x (List.mem_of_getElem? hk)
    have hR := fun d H => s_ReduceNeed w ⟨[d], x.t⟩ H hw ⟨by simp, hxs.2.1⟩
    have e6 : (0 + x.ns.length) * 32 ≤ 140737488355328 := by omega
    have e6' : x.ns.length * 32 ≤ 140737488355328 := by omega
    rw [er]
    generalize gapL w x = A at hG hgl ⊢
    generalize hT : fullL w x A x.ns = T
    refine good [] [] Tryz.func24 rfl rfl Tryz.ntmps24 (by kernel_rfl) mixed (by kernel_rfl) ?_
    simp -dsimp only [go_sem, Wld.row] at hH hG hR ⊢
    refine call_pure (hH _) ?_
    rw [e]
    simp -dsimp only [go_sem, Option.isSome_some, hk, Inst.row, List.length_map, e6, e6']
    refine call_pure (hG _) ?_
    simp -dsimp only [go_sem]
    refine loop_ruleH [1, 0, 4, 22] (fun (y : {y : Nat × List Need // y.1 ≤ A.length ∧ T = fullL w x (A.drop y.1) y.2 ∧ y.2.length ≤ 3 + y.1 * 601}) H => ([(6, .so h.n y.1.2.length y.1.2.length), (31, .v (.int .i64 (y.1.1 : Nat)))], ⟨h.n + 1, upd H.o h.n (.rows 28 2 (y.1.2.map Need.row))⟩)) (fun y => A.length - y.1.1) ⟨(0, x.ns), Nat.zero_le _, hT.symm, by simp only; omega⟩ ?_ ?_
    · refine weak_objs [h.n] (by simp -dsimp only [go_sem]) (by simp -dsimp only [go_sem]) (by simp -dsimp only [go_sem, List.length_map, Nat.zero_add]) ?_ ?_ ?_
      · intro t h1 h2
        have a1 : ¬ t = h.n := by omega
        simp -dsimp only [go_sem, a1]
      · intro x h1 h2; have h1 : x < h.n + 1 := h1; simp at h2 ⊢; omega
      · simp -dsimp only [go_sem]
    · rintro ⟨⟨j, l⟩, hj, heq, hbd⟩
      have hj : j ≤ A.length := hj
      have heq : T = fullL w x (A.drop j) l := heq
      have hbd : l.length ≤ 3 + j * 601 := hbd
      have hj1 : j + 1 ≤ 9223372036854775807 := by omega
      by_cases hlt : j < A.length
      · obtain ⟨d, hd⟩ := get_some hlt
        have e5 : (A.drop j).take (j + 1 - j) = [d] := by rw [drop_get hd, Nat.add_sub_cancel_left]; rfl
        have hlt1 : j + 1 ≤ A.length := hlt
        rw [drop_get hd, fullL_cons] at heq
        simp -dsimp only [go_sem, hlt, hj1, e5, hlt1, hk, Inst.row, List.length_map]
        refine call_pure (hR d _) ?_
        rcases opt_cases (reduceN w ⟨[d], x.t⟩) with hr | ⟨r, hr⟩
        · rw [hr] at heq ⊢
          clear hT
          have heq : T = none := heq
          subst heq
          simp -dsimp only [go_sem, Option.getD_none, Option.isSome_none, List.map_nil]
          exact fin_pure (by simp -dsimp only [go_sem]) (by simp -dsimp only [go_sem, Option.getD_none, Option.isSome_none, List.map_nil])
        · have hrl := reduceN_len hw hr
          rw [hr] at heq ⊢
          simp only at heq
          simp -dsimp only [go_sem, Option.getD_some, Option.isSome_some, List.length_map]
          refine loop_ruleH [1, 0, 4, 22, 0, 23, 0] (fun (q : {q : Nat // q ≤ r.length}) H => ([(6, .so h.n (onceA l (r.take q.1)).length (onceA l (r.take q.1)).length), (57, .v (.int .i64 (q.1 : Nat)))], ⟨h.n + 1, upd H.o h.n (.rows 28 2 ((onceA l (r.take q.1)).map Need.row))⟩)) (fun q => r.length - q.1) ⟨0, Nat.zero_le _⟩ ?_ ?_
          · have e0 : onceA l [] = l := rfl
            refine weak_objs [h.n] (by simp -dsimp only [go_sem]) (by simp -dsimp only [go_sem]) (by simp -dsimp only [go_sem, List.take_zero, e0]) ?_ ?_ ?_
            · intro t h1 h2
              have a1 : ¬ t = h.n := by omega
              simp -dsimp only [go_sem, a1]
            · intro x h1 h2; have h1 : x < h.n + 1 := h1; simp at h2 ⊢; omega
            · simp -dsimp only [go_sem, List.take_zero, e0]
          · rintro ⟨q, hq⟩
            have hq1 : q + 1 ≤ 9223372036854775807 := by omega
            have hol := onceA_take_len l r q
            have hIn := fun m H => s_l9In (onceA l (r.take q)) m H (by omega)
            have e7 : ((onceA l (r.take q)).length + 1) * 32 ≤ 140737488355328 := by omega
            by_cases hqt : q < r.length
            · obtain ⟨m, hb⟩ := get_some hqt
              have hnx := onceA_next (l := l) hb
              simp -dsimp only [go_sem, hqt, hb, Need.row] at hIn ⊢
              refine call_pure (Good.frozen (hIn m ⟨0, h.o⟩) (.v _) (FzL.cons ?_ (FzL.cons ?_ FzL.nil))) ?_
              · refine fz_rowsL (e := 28) (sz := 2) ?_ (of_eq_true puR_needs)
                have a2 : ¬ h.n = h.n + 1 := by omega
                simp -dsimp only [go_sem, a2]
              · simp -dsimp only [go_sem]
              by_cases hm : m ∈ onceA l (r.take q)
              · rw [onceL_in hm] at hnx
                rw [decide_eq_true hm]
                simp -dsimp only [go_sem, hq1]
                refine round_to ⟨q + 1, hqt⟩ (by simp; omega) ?_
                refine weak_objs [h.n] (by simp -dsimp only [go_sem]) (by simp -dsimp only [go_sem]) (by simp -dsimp only [go_sem, hnx]) ?_ ?_ ?_
                · intro t h1 h2
                  have a1 : ¬ t = h.n := by omega
                  have a2 : ¬ t = h.n + 1 := by omega
                  simp -dsimp only [go_sem, a1, a2]
                · intro x h1 h2; have h1 : x < h.n + 1 := h1; simp at h2 ⊢; omega
                · simp -dsimp only [go_sem, hnx]
              · rw [onceL_out hm] at hnx
                rw [decide_eq_false hm]
                simp -dsimp only [go_sem, hq1, e7, List.length_map]
                refine round_to ⟨q + 1, hqt⟩ (by simp; omega) ?_
                refine weak_objs [h.n] (by simp -dsimp only [go_sem]) (by simp -dsimp only [go_sem]) (by simp -dsimp only [go_sem, hnx, List.length_append, List.length_cons, List.length_nil]) ?_ ?_ ?_
                · intro t h1 h2
                  have a1 : ¬ t = h.n := by omega
                  have a2 : ¬ t = h.n + 1 := by omega
                  simp -dsimp only [go_sem, a1, a2]
                · intro x h1 h2; have h1 : x < h.n + 1 := h1; simp at h2 ⊢; omega
                · simp -dsimp only [go_sem, hnx, List.map_append, List.map_cons, List.map_nil, Need.row]
            · have et : r.take q = r := List.take_of_length_le (by omega)
              simp -dsimp only [go_sem, hqt, hj1, et]
              have ho2 := onceA_len r l
              refine round_to ⟨(j + 1, onceA l r), hlt, heq, by simp only; omega⟩ (by simp; omega) ?_
              refine weak_objs [h.n] (by simp -dsimp only [go_sem]) (by simp -dsimp only [go_sem]) (by simp -dsimp only [go_sem]) ?_ ?_ ?_
              · intro t h1 h2
                have a1 : ¬ t = h.n := by omega
                simp -dsimp only [go_sem, a1]
              · intro x h1 h2; have h1 : x < h.n + 1 := h1; simp at h2 ⊢; omega
              · simp -dsimp only [go_sem]
      · have ed : A.drop j = [] := List.drop_of_length_le (by omega)
        have e9 : T = some l := by rw [heq, ed]; rfl
        clear hT heq
        subst e9
        simp -dsimp only [go_sem, hlt]
        exact fin_pure (by simp -dsimp only [go_sem]) (by simp -dsimp only [go_sem, Option.getD_some, Option.isSome_some, List.length_map])
end Go.Proofs.YtnocdggngfiebaaGreatDoor
