/- Contracts of functions of this program, for all arguments that satisfy what each lemma asks for. -/
import Derived.Test.YtnocdggngfiebaaGreatDoorMd
import Derived.Test.YtnocdggngfiebaaGreatDoorXb
import Derived.Test.YtnocdggngfiebaaGreatDoorMx
import Derived.Test.YtnocdggngfiebaaGreatDoorMf
import Derived.Test.YtnocdggngfiebaaGreatDoorXa
set_option linter.all false
namespace Go.Isea
open Go
set_option maxRecDepth 100000
theorem givenL_len2 {w : Wld} (h : worldOk w = true) (gs : List Need) (n : Need) (hn : NOk w n) : (givenL w gs n).length ≤ 2 := by
  obtain ⟨d, hd, _⟩ := known_letter (world_cls h) hn.1
  unfold givenL
  split
  · exact Nat.le_trans (letterL_len _) (by decide)
  · split
    · rename_i k _
      rw [List.length_append, hd]
      have := letterL_len k
      simp; omega
    · simp
theorem findL_le {fd : Need → Nat → L8 × Nat × L8} : ∀ (ms : List Need) (k : Nat) (out : L8) (a : Nat), (∀ m ∈ ms, ∀ a, (fd m a).1.length + 11 * a ≤ 2 + 11 * (fd m a).2.1) →
    (findL fd ms k out a).1.length + 11 * a ≤ out.length + 3 * ms.length + 11 * (findL fd ms k out a).2.1 ∧ ((findL fd ms k out a).2.2 = [] → out.length ≤ (findL fd ms k out a).1.length)
  | [], k, out, a, _ => by simp [findL]
  | m :: ms, k, out, a, h => by
    have h1 := h m (List.mem_cons_self ..) a
    rw [findL_cons]
    split
    · have := findL_le ms (k + 1) (out ++ [sep k] ++ (fd m a).1) (fd m a).2.1 (fun m' hm' => h m' (List.mem_cons_of_mem _ hm'))
      simp only [List.length_append, List.length_cons, List.length_nil] at this ⊢
      refine ⟨by omega, fun e => ?_⟩
      have := this.2 e
      omega
    · rename_i e
      refine ⟨?_, fun x => absurd x e⟩
      show ([] : L8).length + 11 * a ≤ out.length + 3 * (ms.length + 1) + 11 * (fd m a).2.1
      rw [List.length_nil]; omega
theorem findS_le {w : Wld} {gs : List Need} (h : worldOk w = true) (hw : w.Sm) : ∀ (f : Nat) (n : Need) (a : Nat), NOk w n → (findS w gs f n a).1.length + 11 * a ≤ 2 + 11 * (findS w gs f n a).2.1 ∧ ((findS w gs f n a).2.2 = [] → 1 ≤ (findS w gs f n a).1.length) ∧ ((findS w gs f n a).2.2 ≠ [] → (findS w gs f n a).1 = []) := by
  have hgl := givenL_len2 h gs
  have hgp : ∀ n, givenL w gs n ≠ [] → 1 ≤ (givenL w gs n).length := fun n e => by
    cases hh : givenL w gs n with
    | nil => exact absurd hh e
    | cons a l => simp
  intro f
  induction f with
  | zero =>
    intro n a hn
    have := hgl n hn
    unfold findS
    split
    · rename_i e; exact ⟨by simp only; omega, fun _ => hgp n e, fun q => absurd rfl q⟩
    · split <;> exact ⟨by simp only [List.length_nil]; omega, fun q => by simp [longL, deepL] at q, fun _ => rfl⟩
  | succ f ih =>
    intro n a hn
    have hg := hgl n hn
    unfold findS
    split
    · rename_i e; exact ⟨by simp only; omega, fun _ => hgp n e, fun q => absurd rfl q⟩
    · split
      · exact ⟨by simp only [List.length_nil]; omega, fun q => by simp [longL] at q, fun _ => rfl⟩
      · unfold findB
        split
        · exact ⟨by simp only [List.length_nil]; omega, fun q => by simp [noneL] at q, fun _ => rfl⟩
        · split
          · rename_i i hi
            split
            · rename_i ms hms
              obtain ⟨hl, hmm⟩ := needs_ok h hw hi hms
              rename_i k _ _ _
              have := findL_le (fd := findS w gs f) ms 0 (digitL k) (a + 1) (fun m hm a => (ih m a (hmm m hm).1).1)
              have e1 : (digitL k).length = 1 := rfl
              rw [e1] at this
              obtain ⟨t1, t2⟩ := this
              unfold closeL
              split
              · rename_i e
                have := t2 e
                refine ⟨?_, fun _ => ?_, fun q => absurd rfl q⟩
                · simp only [List.length_append]
                  split <;> simp only [List.length_cons, List.length_nil] <;> omega
                · simp only [List.length_append]; omega
              · rename_i e
                exact ⟨by show ([] : L8).length + _ ≤ 2 + 11 * (findL (findS w gs f) ms 0 (digitL k) (a + 1)).2.1; rw [List.length_nil]; omega, fun q => absurd q e, fun _ => rfl⟩
            · exact ⟨by show ([] : L8).length + _ ≤ 2 + 11 * (a + 1); rw [List.length_nil]; omega, fun q => by simp [bigL] at q, fun _ => rfl⟩
          · exact ⟨by simp only [List.length_nil]; omega, fun q => by simp [noneL] at q, fun _ => rfl⟩
        · exact ⟨by simp only [List.length_nil]; omega, fun q => by simp [manyL] at q, fun _ => rfl⟩
theorem findGiven_sz {w : Wld} {gs : List Need} {n : Need} (hw : w.Sm) (hn : n.Sm) : (findGiven w gs n).1.length ≤ 4000 ∧ ((findGiven w gs n).2 = [] → 1 ≤ (findGiven w gs n).1.length) ∧ ((findGiven w gs n).2 ≠ [] → (findGiven w gs n).1 = []) := by
  unfold findGiven
  split
  · rename_i hb
    rw [Bool.and_eq_true, Bool.and_eq_true] at hb
    have ho := hb.2.2
    simp only [needOk, Bool.and_eq_true, decide_eq_true_eq] at ho
    obtain ⟨h1, h2, h3⟩ := findS_le (gs := gs) hb.2.1 hw 31 n 0 ⟨ho.1, hn⟩
    have h4 := (findS_bd (gs := gs) hb.2.1 hw 31 n 0 ⟨ho.1, hn⟩ (by decide)).2
    exact ⟨by show (findS w gs 31 n 0).1.length ≤ 4000; omega, h2, h3⟩
  · exact ⟨by simp, fun q => by simp [wrongL] at q, fun _ => rfl⟩
end Go.Isea

namespace Go.Isea
open Go
theorem any_ixN (l : L8) (d : UInt8) : (l.any fun c => decide (([d] : L8) = [c])) = decide (0 ≤ ix l d) := by
  rw [Bool.eq_iff_iff, List.any_eq_true, decide_eq_true_eq, ix_mem]
  constructor
  · rintro ⟨c, hc, e⟩
    have : d = c := by simpa using e
    rw [this]; exact hc
  · intro h; exact ⟨d, h, by simp⟩
theorem capital_one (d : UInt8) : capital [d] = isCap d := rfl
theorem u8_sub97 (c : UInt8) (h : isAf c = true) : IntKind.u8.wrap (((c.toNat : Nat) : Int) - 97) = ((c.toNat - 97 : Nat) : Int) := forall_u8 (p := fun c => isAf c = true → IntKind.u8.wrap (((c.toNat : Nat) : Int) - 97) = ((c.toNat - 97 : Nat) : Int)) (by decide +kernel) c h
theorem u8_sub48 (c : UInt8) (h : isDig c = true) : IntKind.u8.wrap (((c.toNat : Nat) : Int) - 48) = ((c.toNat - 48 : Nat) : Int) := forall_u8 (p := fun c => isDig c = true → IntKind.u8.wrap (((c.toNat : Nat) : Int) - 48) = ((c.toNat - 48 : Nat) : Int)) (by decide +kernel) c h
theorem isAf_two (c : UInt8) : isAf c = (decide ((97 : Int) ≤ ((c.toNat : Nat) : Int)) && decide (((c.toNat : Nat) : Int) ≤ 102)) := forall_u8 (p := fun c => isAf c = (decide ((97 : Int) ≤ ((c.toNat : Nat) : Int)) && decide (((c.toNat : Nat) : Int) ≤ 102))) (by decide +kernel) c
theorem wrap_smallN {k : Nat} (h : k < 256) : IntKind.i64.wrap ((k : Nat) : Int) = ((k : Nat) : Int) := by rw [wrap_i64] <;> omega
end Go.Isea
namespace Go.Proofs.YtnocdggngfiebaaGreatDoor
open Go Go.Isea
set_option maxRecDepth 100000
set_option maxHeartbeats 16000000
theorem l_Index_intV (l : List Nat) (n : Nat) (h : AH) (hl : l.length ≤ 4611686018427387904) : Isea.Good Tryz.prog 263 [.sl (l.map iRow), .v (.int .i64 (n : Nat))] h [] (.v (.int .i64 (findIx (fun m => decide (m = n)) l))) h := by
  refine good [] [] Tryz.func263 rfl rfl Tryz.ntmps263 (by kernel_rfl) mixed (by kernel_rfl) ?_
  simp -dsimp only [go_sem]
  refine loop_ruleH [0, 0, 5] (fun (k : {k : Nat // k ≤ l.length ∧ FIxAt (fun m => decide (m = n)) l k}) H => ([(8, .v (.int .i64 (k.1 : Nat)))], H)) (fun k => l.length - k.1) ⟨0, Nat.zero_le _, fIxAt_zero _ _⟩ ?_ ?_
  · exact weak_at rfl (by simp -dsimp only [go_sem]) (fun x hx => by simp -dsimp only [go_sem, hx]) (by simp -dsimp only [go_sem])
  · rintro ⟨k, hk, hi⟩
    have h1 : k + 1 ≤ 9223372036854775807 := by omega
    by_cases hlt : k < l.length
    · obtain ⟨c, hb⟩ := get_some hlt
      by_cases hc : c = n
      · have hpc : decide (c = n) = true := by simp [hc]
        have hc1 : (((n : Nat) : Int) = ((c : Nat) : Int)) = True := eq_true (by rw [hc])
        simp -dsimp only [go_sem, hlt, hb, iRow, hc1]
        exact fin_int (Nat.le_refl _) (fIxAt_here hi hb hpc).symm
      · have hpc : decide (c = n) = false := by simpa using hc
        have hc1 : (((n : Nat) : Int) = ((c : Nat) : Int)) = False := eq_false (by omega)
        simp -dsimp only [go_sem, hlt, hb, iRow, hc1, h1]
        exact round_to ⟨k + 1, hlt, fIxAt_succ hi hb hpc⟩ (by simp; omega) (weak_at rfl (by simp -dsimp only [go_sem]) (fun x hx => by simp -dsimp only [go_sem, hx]) (by simp -dsimp only [go_sem]))
    · simp -dsimp only [go_sem, hlt]
      exact fin_int (Nat.le_refl _) (fIxAt_end hi (by omega)).symm
theorem l_Contains_intV (l : List Nat) (n : Nat) (h : AH) (hl : l.length ≤ 4611686018427387904) : Isea.Good Tryz.prog 197 [.sl (l.map iRow), .v (.int .i64 (n : Nat))] h [] (.v (.bool (decide (n ∈ l)))) h := by
  refine good [] [] Tryz.func197 rfl rfl Tryz.ntmps197 (by kernel_rfl) mixed (by kernel_rfl) ?_
  simp -dsimp only [go_sem]
  refine call_pure (l_Index_intV l n _ hl) ?_
  simp -dsimp only [go_sem]
  exact fin_bool (Nat.le_refl _) (by rw [findIx_any, Bool.eq_iff_iff, List.any_eq_true, decide_eq_true_eq]; exact ⟨fun ⟨x, h1, h2⟩ => by rw [← of_decide_eq_true h2]; exact h1, fun h => ⟨n, h, by simp⟩⟩)
def ReOk (w : Wld) (gs : List Need) (F : Nat) : Prop := ∀ (n : Need) (s : L8) (h : AH), NOk w n → s.length < F → s.length ≤ 1000000 →
    Isea.Good Tryz.prog 109 [.agg w.row, .sl (gs.map Need.row), .agg n.row, str s] h [] (.tup [str (rdE w gs F n s).1, str (rdE w gs F n s).2]) h
theorem i_readEv_step {w : Wld} {gs : List Need} (hok : worldOk w = true) (hw : w.Sm) {F : Nat} (ih : ∀ G, F = G + 1 → ReOk w gs G) : ReOk w gs F := by
  intro n s h hn hF0 hs
  obtain ⟨G, rfl⟩ : ∃ G, F = G + 1 := ⟨F - 1, by omega⟩
  have ih := ih G rfl
  have hwl := world_len hok
  cases s with
  | nil =>
    rw [rdE_nil]
    refine good [] [(8, OT.o 0 (OT.o 1 (OT.o 2 (OT.o 4 (OT.o 5 (OT.o 3 (OT.o 6 (OT.o 7 OT.e)))))))), (15, OT.o 0 (OT.o 1 (OT.o 2 (OT.o 3 (OT.o 4 (OT.o 5 (OT.o 6 (OT.o 7 (OT.o 8 (OT.o 9 (OT.o 10 (OT.o 11 (OT.o 12 (OT.o 13 (OT.o 14 (OT.o 16 (OT.o 17 (OT.o 18 (OT.o 19 (OT.o 15 (OT.o 20 (OT.o 21 (OT.o 22 OT.e)))))))))))))))))))))))] Tryz.func109 rfl rfl Tryz.ntmps109 (by kernel_rfl) mixed (by kernel_rfl) ?_
    simp -dsimp only [go_sem, Wld.row, Need.row]
    exact fin_pure (by simp -dsimp only [go_sem]) (by simp -dsimp only [go_sem]; rfl)
  | cons c r =>
    have hrl : r.length + 1 ≤ 1000000 := by simpa using hs
    have hrF : r.length < G := by simp only [List.length_cons] at hF0; omega
    have l1 : 1 ≤ r.length + 1 := by omega
    have hc8 := UInt8.toNat_lt c
    rw [rdE_cons]
    cases haf : isAf c with
    | true =>
      have haf2 := haf
      rw [isAf_two, Bool.and_eq_true, decide_eq_true_eq, decide_eq_true_eq] at haf2
      have a1 := eq_true haf2.1
      have a2 := eq_true haf2.2
      obtain ⟨_, h6⟩ := (isAf_ix c).1 haf
      have hsub := u8_sub97 c haf
      have hwr := wrap_smallN (k := c.toNat - 97) (by omega)
      simp only [if_true]
      generalize c.toNat - 97 = i at *
      cases hg : gs[i]? with
      | none =>
        have hge : (((gs.length : Nat) : Int) ≤ ((i : Nat) : Int)) = True := eq_true (by have := List.getElem?_eq_none_iff.1 hg; omega)
        refine good [] [(8, OT.o 0 (OT.o 1 (OT.o 2 (OT.o 4 (OT.o 5 (OT.o 3 (OT.o 6 (OT.o 7 OT.e)))))))), (15, OT.o 0 (OT.o 1 (OT.o 2 (OT.o 3 (OT.o 4 (OT.o 5 (OT.o 6 (OT.o 7 (OT.o 8 (OT.o 9 (OT.o 10 (OT.o 11 (OT.o 12 (OT.o 13 (OT.o 14 (OT.o 16 (OT.o 17 (OT.o 18 (OT.o 19 (OT.o 15 (OT.o 20 (OT.o 21 (OT.o 22 OT.e)))))))))))))))))))))))] Tryz.func109 rfl rfl Tryz.ntmps109 (by kernel_rfl) mixed (by kernel_rfl) ?_
        simp -dsimp only [go_sem, a1, a2, hsub, hwr, l1, hge, Wld.row, Need.row, List.length_map, List.length_cons]
        exact fin_pure (by simp -dsimp only [go_sem]) (by simp -dsimp only [go_sem]; rfl)
      | some g =>
        have hil := (List.getElem?_eq_some_iff.1 hg).1
        have hge : (((gs.length : Nat) : Int) ≤ ((i : Nat) : Int)) = False := eq_false (by omega)
        simp only
        cases r with
        | nil =>
          by_cases hgn : g = n
          · have hgn1 : (¬(g.c = n.c ∧ g.t = n.t)) = False := eq_false fun q => q (by rw [hgn]; exact ⟨rfl, rfl⟩)
            have e2 : givE w n g [] = ([], okW) := by simp [givE, hgn]
            rw [e2]
            refine good [] [(8, OT.o 0 (OT.o 1 (OT.o 2 (OT.o 4 (OT.o 5 (OT.o 3 (OT.o 6 (OT.o 7 OT.e)))))))), (15, OT.o 0 (OT.o 1 (OT.o 2 (OT.o 3 (OT.o 4 (OT.o 5 (OT.o 6 (OT.o 7 (OT.o 8 (OT.o 9 (OT.o 10 (OT.o 11 (OT.o 12 (OT.o 13 (OT.o 14 (OT.o 16 (OT.o 17 (OT.o 18 (OT.o 19 (OT.o 15 (OT.o 20 (OT.o 21 (OT.o 22 OT.e)))))))))))))))))))))))] Tryz.func109 rfl rfl Tryz.ntmps109 (by kernel_rfl) mixed (by kernel_rfl) ?_
            simp -dsimp only [go_sem, a1, a2, hsub, hwr, l1, hge, hil, hg, hgn1, Wld.row, Need.row, List.length_map, List.length_cons, List.length_nil]
            exact fin_pure (by simp -dsimp only [go_sem]) (by simp -dsimp only [go_sem]; rfl)
          · have hgn1 : (¬(g.c = n.c ∧ g.t = n.t)) = True := eq_true fun q => hgn (by cases g; cases n; simp at q; rw [q.1, q.2])
            have e2 : givE w n g [] = ([], givenW) := by simp [givE, hgn]
            rw [e2]
            refine good [] [(8, OT.o 0 (OT.o 1 (OT.o 2 (OT.o 4 (OT.o 5 (OT.o 3 (OT.o 6 (OT.o 7 OT.e)))))))), (15, OT.o 0 (OT.o 1 (OT.o 2 (OT.o 3 (OT.o 4 (OT.o 5 (OT.o 6 (OT.o 7 (OT.o 8 (OT.o 9 (OT.o 10 (OT.o 11 (OT.o 12 (OT.o 13 (OT.o 14 (OT.o 16 (OT.o 17 (OT.o 18 (OT.o 19 (OT.o 15 (OT.o 20 (OT.o 21 (OT.o 22 OT.e)))))))))))))))))))))))] Tryz.func109 rfl rfl Tryz.ntmps109 (by kernel_rfl) mixed (by kernel_rfl) ?_
            simp -dsimp only [go_sem, a1, a2, hsub, hwr, l1, hge, hil, hg, hgn1, Wld.row, Need.row, List.length_map, List.length_cons, List.length_nil]
            exact fin_pure (by simp -dsimp only [go_sem]) (by simp -dsimp only [go_sem]; rfl)
        | cons d r =>
          have l2 : 1 ≤ r.length + 1 := by omega
          have l3 : 1 ≤ r.length + 2 := by omega
          have t2 : List.take (r.length + 2 - 1) (d :: r) = d :: r := List.take_of_length_le (by simp)
          have hK := fun H => i_isClass [d] H
          rw [capital_one] at hK
          have e0 : givE w n g (d :: r) = if isCap d = true then (if 0 ≤ ix (supersOf w g.c) d then (r, if (⟨[d], g.t⟩ : Need) = n then okW else givenW) else (d :: r, givenW)) else (d :: r, if g = n then okW else givenW) := rfl
          rw [e0]
          cases hcap : isCap d with
          | false =>
            rw [hcap] at hK
            simp only [Bool.false_eq_true, if_false]
            by_cases hgn : g = n
            · have hgn1 : (¬(g.c = n.c ∧ g.t = n.t)) = False := eq_false fun q => q (by rw [hgn]; exact ⟨rfl, rfl⟩)
              rw [if_pos hgn]
              refine good [] [(8, OT.o 0 (OT.o 1 (OT.o 2 (OT.o 4 (OT.o 5 (OT.o 3 (OT.o 6 (OT.o 7 OT.e)))))))), (15, OT.o 0 (OT.o 1 (OT.o 2 (OT.o 3 (OT.o 4 (OT.o 5 (OT.o 6 (OT.o 7 (OT.o 8 (OT.o 9 (OT.o 10 (OT.o 11 (OT.o 12 (OT.o 13 (OT.o 14 (OT.o 16 (OT.o 17 (OT.o 18 (OT.o 19 (OT.o 15 (OT.o 20 (OT.o 21 (OT.o 22 OT.e)))))))))))))))))))))))] Tryz.func109 rfl rfl Tryz.ntmps109 (by kernel_rfl) mixed (by kernel_rfl) ?_
              simp -dsimp only [go_sem, a1, a2, hsub, hwr, l1, l2, l3, t2, hge, hil, hg, Wld.row, Need.row, List.length_map, List.length_cons]
              refine call_pure (hK _) ?_
              simp -dsimp only [go_sem, hgn1]
              exact fin_pure (by simp -dsimp only [go_sem]) (by simp -dsimp only [go_sem]; rfl)
            · have hgn1 : (¬(g.c = n.c ∧ g.t = n.t)) = True := eq_true fun q => hgn (by cases g; cases n; simp at q; rw [q.1, q.2])
              rw [if_neg hgn]
              refine good [] [(8, OT.o 0 (OT.o 1 (OT.o 2 (OT.o 4 (OT.o 5 (OT.o 3 (OT.o 6 (OT.o 7 OT.e)))))))), (15, OT.o 0 (OT.o 1 (OT.o 2 (OT.o 3 (OT.o 4 (OT.o 5 (OT.o 6 (OT.o 7 (OT.o 8 (OT.o 9 (OT.o 10 (OT.o 11 (OT.o 12 (OT.o 13 (OT.o 14 (OT.o 16 (OT.o 17 (OT.o 18 (OT.o 19 (OT.o 15 (OT.o 20 (OT.o 21 (OT.o 22 OT.e)))))))))))))))))))))))] Tryz.func109 rfl rfl Tryz.ntmps109 (by kernel_rfl) mixed (by kernel_rfl) ?_
              simp -dsimp only [go_sem, a1, a2, hsub, hwr, l1, l2, l3, t2, hge, hil, hg, Wld.row, Need.row, List.length_map, List.length_cons]
              refine call_pure (hK _) ?_
              simp -dsimp only [go_sem, hgn1]
              exact fin_pure (by simp -dsimp only [go_sem]) (by simp -dsimp only [go_sem]; rfl)
          | true =>
            rw [hcap] at hK
            simp only [if_true]
            have hSu := fun H => i_supers w g.c H hw
            have hSl : (supersOf w g.c).length ≤ 4611686018427387904 := by have := (supersOf_known w g.c).1; omega
            have hCo := fun H => l_Contains_string (supersOf w g.c) [d] H hSl
            rw [any_ixN] at hCo
            by_cases h0 : 0 ≤ ix (supersOf w g.c) d
            · rw [decide_eq_true h0] at hCo
              rw [if_pos h0]
              by_cases hgn : (⟨[d], g.t⟩ : Need) = n
              · have hgn1 : (¬([d] = n.c ∧ g.t = n.t)) = False := eq_false fun q => q (by rw [← hgn]; exact ⟨rfl, rfl⟩)
                rw [if_pos hgn]
                refine good [] [(8, OT.o 0 (OT.o 1 (OT.o 2 (OT.o 4 (OT.o 5 (OT.o 3 (OT.o 6 (OT.o 7 OT.e)))))))), (15, OT.o 0 (OT.o 1 (OT.o 2 (OT.o 3 (OT.o 4 (OT.o 5 (OT.o 6 (OT.o 7 (OT.o 8 (OT.o 9 (OT.o 10 (OT.o 11 (OT.o 12 (OT.o 13 (OT.o 14 (OT.o 16 (OT.o 17 (OT.o 18 (OT.o 19 (OT.o 15 (OT.o 20 (OT.o 21 (OT.o 22 OT.e)))))))))))))))))))))))] Tryz.func109 rfl rfl Tryz.ntmps109 (by kernel_rfl) mixed (by kernel_rfl) ?_
                simp -dsimp only [go_sem, a1, a2, hsub, hwr, l1, l2, l3, t2, hge, hil, hg, Wld.row, Need.row, List.length_map, List.length_cons]
                refine call_pure (hK _) ?_
                have hsu := hSu
                simp -dsimp only [go_sem, Wld.row] at hsu ⊢
                refine call_pure (hsu _) ?_
                simp -dsimp only [go_sem, l2, l3, t2, List.length_cons]
                refine call_pure (hCo _) ?_
                simp -dsimp only [go_sem, hgn1, l2, l3, t2, List.length_cons]
                exact fin_pure (by simp -dsimp only [go_sem]) (by simp -dsimp only [go_sem]; rfl)
              · have hgn1 : (¬([d] = n.c ∧ g.t = n.t)) = True := eq_true fun q => hgn (by cases n; simp at q; rw [q.1, q.2])
                rw [if_neg hgn]
                refine good [] [(8, OT.o 0 (OT.o 1 (OT.o 2 (OT.o 4 (OT.o 5 (OT.o 3 (OT.o 6 (OT.o 7 OT.e)))))))), (15, OT.o 0 (OT.o 1 (OT.o 2 (OT.o 3 (OT.o 4 (OT.o 5 (OT.o 6 (OT.o 7 (OT.o 8 (OT.o 9 (OT.o 10 (OT.o 11 (OT.o 12 (OT.o 13 (OT.o 14 (OT.o 16 (OT.o 17 (OT.o 18 (OT.o 19 (OT.o 15 (OT.o 20 (OT.o 21 (OT.o 22 OT.e)))))))))))))))))))))))] Tryz.func109 rfl rfl Tryz.ntmps109 (by kernel_rfl) mixed (by kernel_rfl) ?_
                simp -dsimp only [go_sem, a1, a2, hsub, hwr, l1, l2, l3, t2, hge, hil, hg, Wld.row, Need.row, List.length_map, List.length_cons]
                refine call_pure (hK _) ?_
                have hsu := hSu
                simp -dsimp only [go_sem, Wld.row] at hsu ⊢
                refine call_pure (hsu _) ?_
                simp -dsimp only [go_sem, l2, l3, t2, List.length_cons]
                refine call_pure (hCo _) ?_
                simp -dsimp only [go_sem, hgn1, l2, l3, t2, List.length_cons]
                exact fin_pure (by simp -dsimp only [go_sem]) (by simp -dsimp only [go_sem]; rfl)
            · rw [decide_eq_false h0] at hCo
              rw [if_neg h0]
              have hgn1 := True.intro
              refine good [] [(8, OT.o 0 (OT.o 1 (OT.o 2 (OT.o 4 (OT.o 5 (OT.o 3 (OT.o 6 (OT.o 7 OT.e)))))))), (15, OT.o 0 (OT.o 1 (OT.o 2 (OT.o 3 (OT.o 4 (OT.o 5 (OT.o 6 (OT.o 7 (OT.o 8 (OT.o 9 (OT.o 10 (OT.o 11 (OT.o 12 (OT.o 13 (OT.o 14 (OT.o 16 (OT.o 17 (OT.o 18 (OT.o 19 (OT.o 15 (OT.o 20 (OT.o 21 (OT.o 22 OT.e)))))))))))))))))))))))] Tryz.func109 rfl rfl Tryz.ntmps109 (by kernel_rfl) mixed (by kernel_rfl) ?_
              simp -dsimp only [go_sem, a1, a2, hsub, hwr, l1, l2, l3, t2, hge, hil, hg, Wld.row, Need.row, List.length_map, List.length_cons]
              refine call_pure (hK _) ?_
              have hsu := hSu
              simp -dsimp only [go_sem, Wld.row] at hsu ⊢
              refine call_pure (hsu _) ?_
              simp -dsimp only [go_sem, l2, l3, t2, List.length_cons]
              refine call_pure (hCo _) ?_
              simp -dsimp only [go_sem, hgn1, l2, l3, t2, List.length_cons]
              exact fin_pure (by simp -dsimp only [go_sem]) (by simp -dsimp only [go_sem]; rfl)
    | false =>
      simp only [Bool.false_eq_true, if_false]
      have haf2 := haf
      rw [isAf_two] at haf2
      have hmis : ¬ ((97 : Int) ≤ ((c.toNat : Nat) : Int) ∧ ((c.toNat : Nat) : Int) ≤ 102) := fun q => by
        rw [decide_eq_true q.1, decide_eq_true q.2] at haf2; cases haf2
      have hC := fun H => i_candidates w n H hw hn.2 (by omega)
      by_cases h97 : (97 : Int) ≤ ((c.toNat : Nat) : Int)
      · have a1 := eq_true h97
        have a2 : (((c.toNat : Nat) : Int) ≤ 102) = False := eq_false fun q => hmis ⟨h97, q⟩
        cases hdg : isDig c with
        | false =>
          have hno : ¬ (false = true ∧ (c.toNat - 48) ∈ candIx w n) := fun q => by cases q.1
          rw [if_neg hno]
          by_cases h48 : c.toNat < 48
          · have b1 : (((c.toNat : Nat) : Int) < 48) = True := eq_true (by omega)
            refine good [] [(8, OT.o 0 (OT.o 1 (OT.o 2 (OT.o 4 (OT.o 5 (OT.o 3 (OT.o 6 (OT.o 7 OT.e)))))))), (15, OT.o 0 (OT.o 1 (OT.o 2 (OT.o 3 (OT.o 4 (OT.o 5 (OT.o 6 (OT.o 7 (OT.o 8 (OT.o 9 (OT.o 10 (OT.o 11 (OT.o 12 (OT.o 13 (OT.o 14 (OT.o 16 (OT.o 17 (OT.o 18 (OT.o 19 (OT.o 15 (OT.o 20 (OT.o 21 (OT.o 22 OT.e)))))))))))))))))))))))] Tryz.func109 rfl rfl Tryz.ntmps109 (by kernel_rfl) mixed (by kernel_rfl) ?_
            simp -dsimp only [go_sem, a1, a2, b1, Wld.row, Need.row]
            exact fin_pure (by simp -dsimp only [go_sem]) (by simp -dsimp only [go_sem]; rfl)
          · have b1 : (((c.toNat : Nat) : Int) < 48) = False := eq_false (by omega)
            have b2 : ((57 : Int) < ((c.toNat : Nat) : Int)) = True := eq_true (by
              have : ¬ (48 ≤ c.toNat ∧ c.toNat ≤ 57) := fun q => by rw [(isDig_iff c).2 q] at hdg; cases hdg
              omega)
            refine good [] [(8, OT.o 0 (OT.o 1 (OT.o 2 (OT.o 4 (OT.o 5 (OT.o 3 (OT.o 6 (OT.o 7 OT.e)))))))), (15, OT.o 0 (OT.o 1 (OT.o 2 (OT.o 3 (OT.o 4 (OT.o 5 (OT.o 6 (OT.o 7 (OT.o 8 (OT.o 9 (OT.o 10 (OT.o 11 (OT.o 12 (OT.o 13 (OT.o 14 (OT.o 16 (OT.o 17 (OT.o 18 (OT.o 19 (OT.o 15 (OT.o 20 (OT.o 21 (OT.o 22 OT.e)))))))))))))))))))))))] Tryz.func109 rfl rfl Tryz.ntmps109 (by kernel_rfl) mixed (by kernel_rfl) ?_
            simp -dsimp only [go_sem, a1, a2, b1, b2, Wld.row, Need.row]
            exact fin_pure (by simp -dsimp only [go_sem]) (by simp -dsimp only [go_sem]; rfl)
        | true =>
          obtain ⟨d1, d2⟩ := (isDig_iff c).1 hdg
          have b1 : (((c.toNat : Nat) : Int) < 48) = False := eq_false (by omega)
          have b2 : ((57 : Int) < ((c.toNat : Nat) : Int)) = False := eq_false (by omega)
          have hsub := u8_sub48 c hdg
          have hwr := wrap_smallN (k := c.toNat - 48) (by omega)
          generalize c.toNat - 48 = k at *
          have hCo := fun H => l_Contains_intV (candIx w n) k H (by have := cand_len10 hok n; omega)
          by_cases hkc : k ∈ candIx w n
          · rw [decide_eq_true hkc] at hCo
            rw [if_pos ⟨rfl, hkc⟩]
            obtain ⟨x, hx, hcl, hin⟩ := cand_inst hkc
            have hkl := (List.getElem?_eq_some_iff.1 hx).1
            rw [hx]
            simp only
            have hxs := hw.i x (List.mem_of_getElem? hx)
            have hns : x.ns.length ≤ 1000 := by have := (world_inst hok hx).2.2.2.2.2.1; omega
            have hN := fun H => i_needs x n.t H hxs hn.2.2 hns
            have hnk := fun ms (e : needsOf x n.t = some ms) => needs_ok hok hw hx e
            simp -dsimp only [Inst.row] at hN
            cases hm : needsOf x n.t with
            | none =>
              rw [hm] at hN
              refine good [] [(8, OT.o 0 (OT.o 1 (OT.o 2 (OT.o 4 (OT.o 5 (OT.o 3 (OT.o 6 (OT.o 7 OT.e)))))))), (15, OT.o 0 (OT.o 1 (OT.o 2 (OT.o 3 (OT.o 4 (OT.o 5 (OT.o 6 (OT.o 7 (OT.o 8 (OT.o 9 (OT.o 10 (OT.o 11 (OT.o 12 (OT.o 13 (OT.o 14 (OT.o 16 (OT.o 17 (OT.o 18 (OT.o 19 (OT.o 15 (OT.o 20 (OT.o 21 (OT.o 22 OT.e)))))))))))))))))))))))] Tryz.func109 rfl rfl Tryz.ntmps109 (by kernel_rfl) mixed (by kernel_rfl) ?_
              simp -dsimp only [go_sem, a1, a2, b1, b2, Wld.row, Need.row] at hC ⊢
              refine call_pure (hC _) ?_
              simp -dsimp only [go_sem, hsub, hwr]
              refine call_pure (hCo _) ?_
              simp -dsimp only [go_sem, hsub, hwr, hx, hkl, Inst.row, List.length_map]
              refine call_pure (hN _) ?_
              simp -dsimp only [go_sem, needsV]
              exact fin_pure (by simp -dsimp only [go_sem]) (by simp -dsimp only [go_sem]; rfl)
            | some ms =>
              obtain ⟨k1, k2⟩ := hnk ms hm
              rw [hm] at hN
              simp only
              obtain ⟨X, hX⟩ : ∃ X, lpE (rdE w gs G) ms 0 r = X := ⟨_, rfl⟩
              rw [hX]
              refine good [] [(8, OT.o 0 (OT.o 1 (OT.o 2 (OT.o 4 (OT.o 5 (OT.o 3 (OT.o 6 (OT.o 7 OT.e)))))))), (15, OT.o 0 (OT.o 1 (OT.o 2 (OT.o 3 (OT.o 4 (OT.o 5 (OT.o 6 (OT.o 7 (OT.o 8 (OT.o 9 (OT.o 10 (OT.o 11 (OT.o 12 (OT.o 13 (OT.o 14 (OT.o 16 (OT.o 17 (OT.o 18 (OT.o 19 (OT.o 15 (OT.o 20 (OT.o 21 (OT.o 22 OT.e)))))))))))))))))))))))] Tryz.func109 rfl rfl Tryz.ntmps109 (by kernel_rfl) mixed (by kernel_rfl) ?_
              simp -dsimp only [go_sem, a1, a2, b1, b2, Wld.row, Need.row] at hC ⊢
              refine call_pure (hC _) ?_
              simp -dsimp only [go_sem, hsub, hwr]
              refine call_pure (hCo _) ?_
              simp -dsimp only [go_sem, hsub, hwr, hx, hkl, Inst.row, List.length_map]
              refine call_pure (hN _) ?_
              simp -dsimp only [go_sem, needsV, l1, List.length_map, List.length_cons]
              refine loop_ruleH [] (fun (y : {y : Nat × L8 // y.1 ≤ ms.length ∧ y.2.length ≤ r.length ∧ X = lpE (rdE w gs G) (ms.drop y.1) y.1 y.2}) H =>
                  ([(1, .sl (gs.map Need.row)), (3, str y.1.2), (4, .ref [.sl (w.cs.map Cls.row), .sl (w.is.map Inst.row)] 0), (6, .ref [str n.c, str n.t] 0), (12, .sl (ms.map Need.row)), (114, .sl (ms.map Need.row)), (115, .v (.int .i64 (ms.length : Nat))), (116, .v (.int .i64 (y.1.1 : Nat)))], ⟨h.n, H.o⟩))
                (fun y => ms.length - y.1.1) ⟨(0, r), Nat.zero_le _, Nat.le_refl _, by show X = _; rw [List.drop_zero]; exact hX.symm⟩ ?_ ?_
              · refine weak_objs [] (by simp -dsimp only [go_sem]) (by simp -dsimp only [go_sem]) (by simp -dsimp only [go_sem, Need.row, List.length_map]) ?_ ?_ ?_
                · intro t h1 h2
                  have a0 : ¬ t = h.n := by omega
                  have a1 : ¬ t = h.n + 1 := by omega
                  have a2 : ¬ t = h.n + 2 := by omega
                  have a3 : ¬ t = h.n + 3 := by omega
                  simp -dsimp only [go_sem, a0, a1, a2, a3]
                · intro x h1 h2; have h1 : x < h.n := h1; simp at h2 ⊢; omega
                · simp -dsimp only [go_sem]
              · clear hX
                rintro ⟨⟨j, z⟩, hj, hz, hX⟩
                have hj : j ≤ ms.length := hj
                have hz : z.length ≤ r.length := hz
                have hX : X = lpE (rdE w gs G) (ms.drop j) j z := hX
                have j1 : j + 1 ≤ 9223372036854775807 := by omega
                by_cases hjl : j < ms.length
                · obtain ⟨m, hmj⟩ := get_some hjl
                  have hjc : (((j : Nat) : Int) < ((ms.length : Nat) : Int)) = True := eq_true (by omega)
                  obtain ⟨hmn, _, _⟩ := k2 m (List.mem_of_getElem? hmj)
                  rw [drop_get hmj, lpE_cons] at hX
                  have hP := fun H => l_HasPrefix z (sep j) H
                  by_cases hpf : pfx z (sep j) = true
                  · rw [hpf] at hP
                    obtain ⟨z', rfl⟩ := pfx_true hpf
                    rw [if_pos hpf, List.tail_cons] at hX
                    have hz' : z'.length + 1 ≤ r.length := by simpa using hz
                    have hz1 : 1 ≤ z'.length + 1 := by omega
                    have hR := fun H => ih m z' H hmn (by omega) (by omega)
                    have hRl := rdE_len (w := w) (gs := gs) G m z'
                    generalize rdE w gs G m z' = R at *
                    have body : ∀ (D : UInt8), D = sep j → True := fun _ _ => trivial
                    by_cases hj0 : j = 0
                    · have hj0' : (((j : Nat) : Int) = 0) = True := eq_true (by omega)
                      have hsp : sep j = 40 := by rw [hj0]; rfl
                      rw [hsp] at hP
                      simp -dsimp only [go_sem, hsp, hjc, hjl, hmj, hj0', Need.row, List.length_map]
                      refine call_pure (hP _) ?_
                      have hR2 := hR
                      simp -dsimp only [go_sem, hz1, Wld.row, Need.row, List.length_cons] at hR2 ⊢
                      refine call_pure (hR2 _) ?_
                      by_cases hok' : R.2 = okW
                      · rw [if_pos hok'] at hX
                        have hok2 : R.2 = [111, 107] := hok'
                        rw [hok2]
                        simp -dsimp only [go_sem, j1]
                        refine round_to ⟨(j + 1, R.1), hjl, by show R.1.length ≤ r.length; omega, hX⟩ (by show ms.length - (j + 1) < ms.length - j; omega) ?_
                        refine weak_objs [] (by simp -dsimp only [go_sem]) (by simp -dsimp only [go_sem]) (by simp -dsimp only [go_sem, Need.row, List.length_map]) ?_ ?_ ?_
                        · intro t h1 h2
                          have a0 : ¬ t = h.n := by omega
                          have a1 : ¬ t = h.n + 1 := by omega
                          have a2 : ¬ t = h.n + 2 := by omega
                          have a3 : ¬ t = h.n + 3 := by omega
                          simp -dsimp only [go_sem, a0, a1, a2, a3]
                        · intro x h1 h2; have h1 : x < h.n := h1; simp at h2 ⊢; omega
                        · simp -dsimp only [go_sem]
                      · rw [if_neg hok'] at hX
                        have hok2 : (R.2 = [111, 107]) = False := eq_false hok'
                        have e9 : endE ms X = X := by unfold endE; rw [if_neg (by rw [hX]; exact hok')]
                        simp -dsimp only [go_sem, hok2]
                        exact fin_pure (by simp -dsimp only [go_sem]) (by rw [e9, hX]; simp -dsimp only [go_sem])
                    · have hj0' : (((j : Nat) : Int) = 0) = False := eq_false (by omega)
                      have hsp : sep j = 44 := by unfold sep; rw [if_neg hj0]
                      rw [hsp] at hP
                      simp -dsimp only [go_sem, hsp, hjc, hjl, hmj, hj0', Need.row, List.length_map]
                      refine call_pure (hP _) ?_
                      have hR2 := hR
                      simp -dsimp only [go_sem, hz1, Wld.row, Need.row, List.length_cons] at hR2 ⊢
                      refine call_pure (hR2 _) ?_
                      by_cases hok' : R.2 = okW
                      · rw [if_pos hok'] at hX
                        have hok2 : R.2 = [111, 107] := hok'
                        rw [hok2]
                        simp -dsimp only [go_sem, j1]
                        refine round_to ⟨(j + 1, R.1), hjl, by show R.1.length ≤ r.length; omega, hX⟩ (by show ms.length - (j + 1) < ms.length - j; omega) ?_
                        refine weak_objs [] (by simp -dsimp only [go_sem]) (by simp -dsimp only [go_sem]) (by simp -dsimp only [go_sem, Need.row, List.length_map]) ?_ ?_ ?_
                        · intro t h1 h2
                          have a0 : ¬ t = h.n := by omega
                          have a1 : ¬ t = h.n + 1 := by omega
                          have a2 : ¬ t = h.n + 2 := by omega
                          have a3 : ¬ t = h.n + 3 := by omega
                          simp -dsimp only [go_sem, a0, a1, a2, a3]
                        · intro x h1 h2; have h1 : x < h.n := h1; simp at h2 ⊢; omega
                        · simp -dsimp only [go_sem]
                      · rw [if_neg hok'] at hX
                        have hok2 : (R.2 = [111, 107]) = False := eq_false hok'
                        have e9 : endE ms X = X := by unfold endE; rw [if_neg (by rw [hX]; exact hok')]
                        simp -dsimp only [go_sem, hok2]
                        exact fin_pure (by simp -dsimp only [go_sem]) (by rw [e9, hX]; simp -dsimp only [go_sem])
                  · have hpf' : pfx z (sep j) = false := by simpa using hpf
                    rw [hpf'] at hP
                    rw [if_neg hpf] at hX
                    have e9 : endE ms X = X := by unfold endE; rw [if_neg (by rw [hX]; show ¬ partsW = okW; decide)]
                    by_cases hj0 : j = 0
                    · have hj0' : (((j : Nat) : Int) = 0) = True := eq_true (by omega)
                      have hsp : sep j = 40 := by rw [hj0]; rfl
                      rw [hsp] at hP
                      simp -dsimp only [go_sem, hjc, hjl, hmj, hj0', Need.row, List.length_map]
                      refine call_pure (hP _) ?_
                      simp -dsimp only [go_sem]
                      exact fin_pure (by simp -dsimp only [go_sem]) (by rw [e9, hX]; simp -dsimp only [go_sem]; rfl)
                    · have hj0' : (((j : Nat) : Int) = 0) = False := eq_false (by omega)
                      have hsp : sep j = 44 := by unfold sep; rw [if_neg hj0]
                      rw [hsp] at hP
                      simp -dsimp only [go_sem, hjc, hjl, hmj, hj0', Need.row, List.length_map]
                      refine call_pure (hP _) ?_
                      simp -dsimp only [go_sem]
                      exact fin_pure (by simp -dsimp only [go_sem]) (by rw [e9, hX]; simp -dsimp only [go_sem]; rfl)
                · have hjc : (((j : Nat) : Int) < ((ms.length : Nat) : Int)) = False := eq_false (by omega)
                  rw [List.drop_of_length_le (by omega), lpE_nil] at hX
                  have e9 : endE ms X = if ms.length = 0 then (z, okW) else if pfx z 41 = true then (z.tail, okW) else (z, partsW) := by rw [hX]; unfold endE; rw [if_pos rfl]
                  by_cases h0 : ms.length = 0
                  · have h0' : (((ms.length : Nat) : Int) = 0) = True := eq_true (by omega)
                    simp -dsimp only [go_sem, hjc, h0', List.length_map]
                    exact fin_pure (by simp -dsimp only [go_sem]) (by rw [e9, if_pos h0]; simp -dsimp only [go_sem]; rfl)
                  · have h0' : (((ms.length : Nat) : Int) = 0) = False := eq_false (by omega)
                    have hP := fun H => l_HasPrefix z 41 H
                    by_cases hpf : pfx z 41 = true
                    · rw [hpf] at hP
                      obtain ⟨z', rfl⟩ := pfx_true hpf
                      have hz1 : 1 ≤ z'.length + 1 := by omega
                      simp -dsimp only [go_sem, hjc, h0', List.length_map]
                      refine call_pure (hP _) ?_
                      simp -dsimp only [go_sem, hz1, List.length_cons]
                      exact fin_pure (by simp -dsimp only [go_sem]) (by rw [e9, if_neg h0, if_pos hpf, List.tail_cons]; simp -dsimp only [go_sem]; rfl)
                    · have hpf' : pfx z 41 = false := by simpa using hpf
                      rw [hpf'] at hP
                      simp -dsimp only [go_sem, hjc, h0', List.length_map]
                      refine call_pure (hP _) ?_
                      simp -dsimp only [go_sem]
                      exact fin_pure (by simp -dsimp only [go_sem]) (by rw [e9, if_neg h0, if_neg hpf]; simp -dsimp only [go_sem]; rfl)
          · rw [decide_eq_false hkc] at hCo
            rw [if_neg (fun q => hkc q.2)]
            refine good [] [(8, OT.o 0 (OT.o 1 (OT.o 2 (OT.o 4 (OT.o 5 (OT.o 3 (OT.o 6 (OT.o 7 OT.e)))))))), (15, OT.o 0 (OT.o 1 (OT.o 2 (OT.o 3 (OT.o 4 (OT.o 5 (OT.o 6 (OT.o 7 (OT.o 8 (OT.o 9 (OT.o 10 (OT.o 11 (OT.o 12 (OT.o 13 (OT.o 14 (OT.o 16 (OT.o 17 (OT.o 18 (OT.o 19 (OT.o 15 (OT.o 20 (OT.o 21 (OT.o 22 OT.e)))))))))))))))))))))))] Tryz.func109 rfl rfl Tryz.ntmps109 (by kernel_rfl) mixed (by kernel_rfl) ?_
            simp -dsimp only [go_sem, a1, a2, b1, b2, Wld.row, Need.row] at hC ⊢
            refine call_pure (hC _) ?_
            simp -dsimp only [go_sem, hsub, hwr]
            refine call_pure (hCo _) ?_
            simp -dsimp only [go_sem]
            exact fin_pure (by simp -dsimp only [go_sem]) (by simp -dsimp only [go_sem]; rfl)
      · have a1 := eq_false h97
        cases hdg : isDig c with
        | false =>
          have hno : ¬ (false = true ∧ (c.toNat - 48) ∈ candIx w n) := fun q => by cases q.1
          rw [if_neg hno]
          by_cases h48 : c.toNat < 48
          · have b1 : (((c.toNat : Nat) : Int) < 48) = True := eq_true (by omega)
            refine good [] [(8, OT.o 0 (OT.o 1 (OT.o 2 (OT.o 4 (OT.o 5 (OT.o 3 (OT.o 6 (OT.o 7 OT.e)))))))), (15, OT.o 0 (OT.o 1 (OT.o 2 (OT.o 3 (OT.o 4 (OT.o 5 (OT.o 6 (OT.o 7 (OT.o 8 (OT.o 9 (OT.o 10 (OT.o 11 (OT.o 12 (OT.o 13 (OT.o 14 (OT.o 16 (OT.o 17 (OT.o 18 (OT.o 19 (OT.o 15 (OT.o 20 (OT.o 21 (OT.o 22 OT.e)))))))))))))))))))))))] Tryz.func109 rfl rfl Tryz.ntmps109 (by kernel_rfl) mixed (by kernel_rfl) ?_
            simp -dsimp only [go_sem, a1, b1, Wld.row, Need.row]
            exact fin_pure (by simp -dsimp only [go_sem]) (by simp -dsimp only [go_sem]; rfl)
          · have b1 : (((c.toNat : Nat) : Int) < 48) = False := eq_false (by omega)
            have b2 : ((57 : Int) < ((c.toNat : Nat) : Int)) = True := eq_true (by
              have : ¬ (48 ≤ c.toNat ∧ c.toNat ≤ 57) := fun q => by rw [(isDig_iff c).2 q] at hdg; cases hdg
              omega)
            refine good [] [(8, OT.o 0 (OT.o 1 (OT.o 2 (OT.o 4 (OT.o 5 (OT.o 3 (OT.o 6 (OT.o 7 OT.e)))))))), (15, OT.o 0 (OT.o 1 (OT.o 2 (OT.o 3 (OT.o 4 (OT.o 5 (OT.o 6 (OT.o 7 (OT.o 8 (OT.o 9 (OT.o 10 (OT.o 11 (OT.o 12 (OT.o 13 (OT.o 14 (OT.o 16 (OT.o 17 (OT.o 18 (OT.o 19 (OT.o 15 (OT.o 20 (OT.o 21 (OT.o 22 OT.e)))))))))))))))))))))))] Tryz.func109 rfl rfl Tryz.ntmps109 (by kernel_rfl) mixed (by kernel_rfl) ?_
            simp -dsimp only [go_sem, a1, b1, b2, Wld.row, Need.row]
            exact fin_pure (by simp -dsimp only [go_sem]) (by simp -dsimp only [go_sem]; rfl)
        | true =>
          obtain ⟨d1, d2⟩ := (isDig_iff c).1 hdg
          have b1 : (((c.toNat : Nat) : Int) < 48) = False := eq_false (by omega)
          have b2 : ((57 : Int) < ((c.toNat : Nat) : Int)) = False := eq_false (by omega)
          have hsub := u8_sub48 c hdg
          have hwr := wrap_smallN (k := c.toNat - 48) (by omega)
          generalize c.toNat - 48 = k at *
          have hCo := fun H => l_Contains_intV (candIx w n) k H (by have := cand_len10 hok n; omega)
          by_cases hkc : k ∈ candIx w n
          · rw [decide_eq_true hkc] at hCo
            rw [if_pos ⟨rfl, hkc⟩]
            obtain ⟨x, hx, hcl, hin⟩ := cand_inst hkc
            have hkl := (List.getElem?_eq_some_iff.1 hx).1
            rw [hx]
            simp only
            have hxs := hw.i x (List.mem_of_getElem? hx)
            have hns : x.ns.length ≤ 1000 := by have := (world_inst hok hx).2.2.2.2.2.1; omega
            have hN := fun H => i_needs x n.t H hxs hn.2.2 hns
            have hnk := fun ms (e : needsOf x n.t = some ms) => needs_ok hok hw hx e
            simp -dsimp only [Inst.row] at hN
            cases hm : needsOf x n.t with
            | none =>
              rw [hm] at hN
              refine good [] [(8, OT.o 0 (OT.o 1 (OT.o 2 (OT.o 4 (OT.o 5 (OT.o 3 (OT.o 6 (OT.o 7 OT.e)))))))), (15, OT.o 0 (OT.o 1 (OT.o 2 (OT.o 3 (OT.o 4 (OT.o 5 (OT.o 6 (OT.o 7 (OT.o 8 (OT.o 9 (OT.o 10 (OT.o 11 (OT.o 12 (OT.o 13 (OT.o 14 (OT.o 16 (OT.o 17 (OT.o 18 (OT.o 19 (OT.o 15 (OT.o 20 (OT.o 21 (OT.o 22 OT.e)))))))))))))))))))))))] Tryz.func109 rfl rfl Tryz.ntmps109 (by kernel_rfl) mixed (by kernel_rfl) ?_
              simp -dsimp only [go_sem, a1, b1, b2, Wld.row, Need.row] at hC ⊢
              refine call_pure (hC _) ?_
              simp -dsimp only [go_sem, hsub, hwr]
              refine call_pure (hCo _) ?_
              simp -dsimp only [go_sem, hsub, hwr, hx, hkl, Inst.row, List.length_map]
              refine call_pure (hN _) ?_
              simp -dsimp only [go_sem, needsV]
              exact fin_pure (by simp -dsimp only [go_sem]) (by simp -dsimp only [go_sem]; rfl)
            | some ms =>
              obtain ⟨k1, k2⟩ := hnk ms hm
              rw [hm] at hN
              simp only
              obtain ⟨X, hX⟩ : ∃ X, lpE (rdE w gs G) ms 0 r = X := ⟨_, rfl⟩
              rw [hX]
              refine good [] [(8, OT.o 0 (OT.o 1 (OT.o 2 (OT.o 4 (OT.o 5 (OT.o 3 (OT.o 6 (OT.o 7 OT.e)))))))), (15, OT.o 0 (OT.o 1 (OT.o 2 (OT.o 3 (OT.o 4 (OT.o 5 (OT.o 6 (OT.o 7 (OT.o 8 (OT.o 9 (OT.o 10 (OT.o 11 (OT.o 12 (OT.o 13 (OT.o 14 (OT.o 16 (OT.o 17 (OT.o 18 (OT.o 19 (OT.o 15 (OT.o 20 (OT.o 21 (OT.o 22 OT.e)))))))))))))))))))))))] Tryz.func109 rfl rfl Tryz.ntmps109 (by kernel_rfl) mixed (by kernel_rfl) ?_
              simp -dsimp only [go_sem, a1, b1, b2, Wld.row, Need.row] at hC ⊢
              refine call_pure (hC _) ?_
              simp -dsimp only [go_sem, hsub, hwr]
              refine call_pure (hCo _) ?_
              simp -dsimp only [go_sem, hsub, hwr, hx, hkl, Inst.row, List.length_map]
              refine call_pure (hN _) ?_
              simp -dsimp only [go_sem, needsV, l1, List.length_map, List.length_cons]
              refine loop_ruleH [] (fun (y : {y : Nat × L8 // y.1 ≤ ms.length ∧ y.2.length ≤ r.length ∧ X = lpE (rdE w gs G) (ms.drop y.1) y.1 y.2}) H =>
                  ([(1, .sl (gs.map Need.row)), (3, str y.1.2), (4, .ref [.sl (w.cs.map Cls.row), .sl (w.is.map Inst.row)] 0), (6, .ref [str n.c, str n.t] 0), (12, .sl (ms.map Need.row)), (114, .sl (ms.map Need.row)), (115, .v (.int .i64 (ms.length : Nat))), (116, .v (.int .i64 (y.1.1 : Nat)))], ⟨h.n, H.o⟩))
                (fun y => ms.length - y.1.1) ⟨(0, r), Nat.zero_le _, Nat.le_refl _, by show X = _; rw [List.drop_zero]; exact hX.symm⟩ ?_ ?_
              · refine weak_objs [] (by simp -dsimp only [go_sem]) (by simp -dsimp only [go_sem]) (by simp -dsimp only [go_sem, Need.row, List.length_map]) ?_ ?_ ?_
                · intro t h1 h2
                  have a0 : ¬ t = h.n := by omega
                  have a1 : ¬ t = h.n + 1 := by omega
                  have a2 : ¬ t = h.n + 2 := by omega
                  have a3 : ¬ t = h.n + 3 := by omega
                  simp -dsimp only [go_sem, a0, a1, a2, a3]
                · intro x h1 h2; have h1 : x < h.n := h1; simp at h2 ⊢; omega
                · simp -dsimp only [go_sem]
              · clear hX
                rintro ⟨⟨j, z⟩, hj, hz, hX⟩
                have hj : j ≤ ms.length := hj
                have hz : z.length ≤ r.length := hz
                have hX : X = lpE (rdE w gs G) (ms.drop j) j z := hX
                have j1 : j + 1 ≤ 9223372036854775807 := by omega
                by_cases hjl : j < ms.length
                · obtain ⟨m, hmj⟩ := get_some hjl
                  have hjc : (((j : Nat) : Int) < ((ms.length : Nat) : Int)) = True := eq_true (by omega)
                  obtain ⟨hmn, _, _⟩ := k2 m (List.mem_of_getElem? hmj)
                  rw [drop_get hmj, lpE_cons] at hX
                  have hP := fun H => l_HasPrefix z (sep j) H
                  by_cases hpf : pfx z (sep j) = true
                  · rw [hpf] at hP
                    obtain ⟨z', rfl⟩ := pfx_true hpf
                    rw [if_pos hpf, List.tail_cons] at hX
                    have hz' : z'.length + 1 ≤ r.length := by simpa using hz
                    have hz1 : 1 ≤ z'.length + 1 := by omega
                    have hR := fun H => ih m z' H hmn (by omega) (by omega)
                    have hRl := rdE_len (w := w) (gs := gs) G m z'
                    generalize rdE w gs G m z' = R at *
                    have body : ∀ (D : UInt8), D = sep j → True := fun _ _ => trivial
                    by_cases hj0 : j = 0
                    · have hj0' : (((j : Nat) : Int) = 0) = True := eq_true (by omega)
                      have hsp : sep j = 40 := by rw [hj0]; rfl
                      rw [hsp] at hP
                      simp -dsimp only [go_sem, hsp, hjc, hjl, hmj, hj0', Need.row, List.length_map]
                      refine call_pure (hP _) ?_
                      have hR2 := hR
                      simp -dsimp only [go_sem, hz1, Wld.row, Need.row, List.length_cons] at hR2 ⊢
                      refine call_pure (hR2 _) ?_
                      by_cases hok' : R.2 = okW
                      · rw [if_pos hok'] at hX
                        have hok2 : R.2 = [111, 107] := hok'
                        rw [hok2]
                        simp -dsimp only [go_sem, j1]
                        refine round_to ⟨(j + 1, R.1), hjl, by show R.1.length ≤ r.length; omega, hX⟩ (by show ms.length - (j + 1) < ms.length - j; omega) ?_
                        refine weak_objs [] (by simp -dsimp only [go_sem]) (by simp -dsimp only [go_sem]) (by simp -dsimp only [go_sem, Need.row, List.length_map]) ?_ ?_ ?_
                        · intro t h1 h2
                          have a0 : ¬ t = h.n := by omega
                          have a1 : ¬ t = h.n + 1 := by omega
                          have a2 : ¬ t = h.n + 2 := by omega
                          have a3 : ¬ t = h.n + 3 := by omega
                          simp -dsimp only [go_sem, a0, a1, a2, a3]
                        · intro x h1 h2; have h1 : x < h.n := h1; simp at h2 ⊢; omega
                        · simp -dsimp only [go_sem]
                      · rw [if_neg hok'] at hX
                        have hok2 : (R.2 = [111, 107]) = False := eq_false hok'
                        have e9 : endE ms X = X := by unfold endE; rw [if_neg (by rw [hX]; exact hok')]
                        simp -dsimp only [go_sem, hok2]
                        exact fin_pure (by simp -dsimp only [go_sem]) (by rw [e9, hX]; simp -dsimp only [go_sem])
                    · have hj0' : (((j : Nat) : Int) = 0) = False := eq_false (by omega)
                      have hsp : sep j = 44 := by unfold sep; rw [if_neg hj0]
                      rw [hsp] at hP
                      simp -dsimp only [go_sem, hsp, hjc, hjl, hmj, hj0', Need.row, List.length_map]
                      refine call_pure (hP _) ?_
                      have hR2 := hR
                      simp -dsimp only [go_sem, hz1, Wld.row, Need.row, List.length_cons] at hR2 ⊢
                      refine call_pure (hR2 _) ?_
                      by_cases hok' : R.2 = okW
                      · rw [if_pos hok'] at hX
                        have hok2 : R.2 = [111, 107] := hok'
                        rw [hok2]
                        simp -dsimp only [go_sem, j1]
                        refine round_to ⟨(j + 1, R.1), hjl, by show R.1.length ≤ r.length; omega, hX⟩ (by show ms.length - (j + 1) < ms.length - j; omega) ?_
                        refine weak_objs [] (by simp -dsimp only [go_sem]) (by simp -dsimp only [go_sem]) (by simp -dsimp only [go_sem, Need.row, List.length_map]) ?_ ?_ ?_
                        · intro t h1 h2
                          have a0 : ¬ t = h.n := by omega
                          have a1 : ¬ t = h.n + 1 := by omega
                          have a2 : ¬ t = h.n + 2 := by omega
                          have a3 : ¬ t = h.n + 3 := by omega
                          simp -dsimp only [go_sem, a0, a1, a2, a3]
                        · intro x h1 h2; have h1 : x < h.n := h1; simp at h2 ⊢; omega
                        · simp -dsimp only [go_sem]
                      · rw [if_neg hok'] at hX
                        have hok2 : (R.2 = [111, 107]) = False := eq_false hok'
                        have e9 : endE ms X = X := by unfold endE; rw [if_neg (by rw [hX]; exact hok')]
                        simp -dsimp only [go_sem, hok2]
                        exact fin_pure (by simp -dsimp only [go_sem]) (by rw [e9, hX]; simp -dsimp only [go_sem])
                  · have hpf' : pfx z (sep j) = false := by simpa using hpf
                    rw [hpf'] at hP
                    rw [if_neg hpf] at hX
                    have e9 : endE ms X = X := by unfold endE; rw [if_neg (by rw [hX]; show ¬ partsW = okW; decide)]
                    by_cases hj0 : j = 0
                    · have hj0' : (((j : Nat) : Int) = 0) = True := eq_true (by omega)
                      have hsp : sep j = 40 := by rw [hj0]; rfl
                      rw [hsp] at hP
                      simp -dsimp only [go_sem, hjc, hjl, hmj, hj0', Need.row, List.length_map]
                      refine call_pure (hP _) ?_
                      simp -dsimp only [go_sem]
                      exact fin_pure (by simp -dsimp only [go_sem]) (by rw [e9, hX]; simp -dsimp only [go_sem]; rfl)
                    · have hj0' : (((j : Nat) : Int) = 0) = False := eq_false (by omega)
                      have hsp : sep j = 44 := by unfold sep; rw [if_neg hj0]
                      rw [hsp] at hP
                      simp -dsimp only [go_sem, hjc, hjl, hmj, hj0', Need.row, List.length_map]
                      refine call_pure (hP _) ?_
                      simp -dsimp only [go_sem]
                      exact fin_pure (by simp -dsimp only [go_sem]) (by rw [e9, hX]; simp -dsimp only [go_sem]; rfl)
                · have hjc : (((j : Nat) : Int) < ((ms.length : Nat) : Int)) = False := eq_false (by omega)
                  rw [List.drop_of_length_le (by omega), lpE_nil] at hX
                  have e9 : endE ms X = if ms.length = 0 then (z, okW) else if pfx z 41 = true then (z.tail, okW) else (z, partsW) := by rw [hX]; unfold endE; rw [if_pos rfl]
                  by_cases h0 : ms.length = 0
                  · have h0' : (((ms.length : Nat) : Int) = 0) = True := eq_true (by omega)
                    simp -dsimp only [go_sem, hjc, h0', List.length_map]
                    exact fin_pure (by simp -dsimp only [go_sem]) (by rw [e9, if_pos h0]; simp -dsimp only [go_sem]; rfl)
                  · have h0' : (((ms.length : Nat) : Int) = 0) = False := eq_false (by omega)
                    have hP := fun H => l_HasPrefix z 41 H
                    by_cases hpf : pfx z 41 = true
                    · rw [hpf] at hP
                      obtain ⟨z', rfl⟩ := pfx_true hpf
                      have hz1 : 1 ≤ z'.length + 1 := by omega
                      simp -dsimp only [go_sem, hjc, h0', List.length_map]
                      refine call_pure (hP _) ?_
                      simp -dsimp only [go_sem, hz1, List.length_cons]
                      exact fin_pure (by simp -dsimp only [go_sem]) (by rw [e9, if_neg h0, if_pos hpf, List.tail_cons]; simp -dsimp only [go_sem]; rfl)
                    · have hpf' : pfx z 41 = false := by simpa using hpf
                      rw [hpf'] at hP
                      simp -dsimp only [go_sem, hjc, h0', List.length_map]
                      refine call_pure (hP _) ?_
                      simp -dsimp only [go_sem]
                      exact fin_pure (by simp -dsimp only [go_sem]) (by rw [e9, if_neg h0, if_neg hpf]; simp -dsimp only [go_sem]; rfl)
          · rw [decide_eq_false hkc] at hCo
            rw [if_neg (fun q => hkc q.2)]
            refine good [] [(8, OT.o 0 (OT.o 1 (OT.o 2 (OT.o 4 (OT.o 5 (OT.o 3 (OT.o 6 (OT.o 7 OT.e)))))))), (15, OT.o 0 (OT.o 1 (OT.o 2 (OT.o 3 (OT.o 4 (OT.o 5 (OT.o 6 (OT.o 7 (OT.o 8 (OT.o 9 (OT.o 10 (OT.o 11 (OT.o 12 (OT.o 13 (OT.o 14 (OT.o 16 (OT.o 17 (OT.o 18 (OT.o 19 (OT.o 15 (OT.o 20 (OT.o 21 (OT.o 22 OT.e)))))))))))))))))))))))] Tryz.func109 rfl rfl Tryz.ntmps109 (by kernel_rfl) mixed (by kernel_rfl) ?_
            simp -dsimp only [go_sem, a1, b1, b2, Wld.row, Need.row] at hC ⊢
            refine call_pure (hC _) ?_
            simp -dsimp only [go_sem, hsub, hwr]
            refine call_pure (hCo _) ?_
            simp -dsimp only [go_sem]
            exact fin_pure (by simp -dsimp only [go_sem]) (by simp -dsimp only [go_sem]; rfl)
theorem i_readEv {w : Wld} {gs : List Need} (hok : worldOk w = true) (hw : w.Sm) : ∀ F, ReOk w gs F
  | 0 => i_readEv_step hok hw fun _ e => by omega
  | F + 1 => i_readEv_step hok hw fun G e => by
    have : F = G := by omega
    subst this
    exact i_readEv hok hw F
theorem i_CheckGiven (w : Wld) (gs : List Need) (n : Need) (s : L8) (h : AH) (hw : w.Sm) (hgl : gs.length ≤ 4611686018427387904) (hgs : ∀ g ∈ gs, g.Sm) (hn : n.Sm) (hs : s.length ≤ 1000000) :
    Isea.Good Tryz.prog 33 [.agg w.row, .sl (gs.map Need.row), .agg n.row, str s] h [] (str (checkGiven w gs n s)) h := by
  have hG := fun H => i_GivensValid w gs H hw hgl hgs
  have hV := fun H => i_needOk w n H hw hn
  unfold checkGiven
  cases hg : givensOk w gs with
  | false =>
    rw [hg] at hG
    rw [Bool.false_and, if_neg (by simp)]
    refine good [] [] Tryz.func33 rfl rfl Tryz.ntmps33 (by kernel_rfl) mixed (by kernel_rfl) ?_
    simp -dsimp only [go_sem, Wld.row, Need.row] at hG ⊢
    refine call_pure (hG _) ?_
    simp -dsimp only [go_sem]
    exact fin_pure (by simp -dsimp only [go_sem]) (by simp -dsimp only [go_sem]; rfl)
  | true =>
    have hwk : worldOk w = true := by
      have := hg
      simp only [givensOk, Bool.and_eq_true] at this
      exact this.1.2
    rw [hg] at hG
    rw [Bool.true_and, hwk, Bool.true_and]
    cases hv : needOk w n with
    | false =>
      rw [hv] at hV
      rw [if_neg (by simp)]
      refine good [] [] Tryz.func33 rfl rfl Tryz.ntmps33 (by kernel_rfl) mixed (by kernel_rfl) ?_
      simp -dsimp only [go_sem, Wld.row, Need.row] at hG hV ⊢
      refine call_pure (hG _) ?_
      simp -dsimp only [go_sem]
      refine call_pure (hV _) ?_
      simp -dsimp only [go_sem]
      exact fin_pure (by simp -dsimp only [go_sem]) (by simp -dsimp only [go_sem]; rfl)
    | true =>
      rw [hv] at hV
      rw [if_pos rfl]
      have hno := hv
      simp only [needOk, Bool.and_eq_true, decide_eq_true_eq] at hno
      have hC := fun (H : AH) => i_readEv (gs := gs) hwk hw (s.length + 1) n s H ⟨hno.1, hn⟩ (Nat.lt_succ_self _) hs
      generalize rdE w gs (s.length + 1) n s = R at *
      by_cases hok : R.2 = okW
      · have hok2 : R.2 = [111, 107] := hok
        rw [hok2] at hC
        by_cases hr : R.1 = []
        · rw [if_neg (fun x => x.2 hr), hok2]
          rw [hr] at hC
          refine good [] [] Tryz.func33 rfl rfl Tryz.ntmps33 (by kernel_rfl) mixed (by kernel_rfl) ?_
          simp -dsimp only [go_sem, Wld.row, Need.row] at hG hV hC ⊢
          refine call_pure (hG _) ?_
          simp -dsimp only [go_sem]
          refine call_pure (hV _) ?_
          simp -dsimp only [go_sem]
          refine call_pure (hC _) ?_
          simp -dsimp only [go_sem]
          exact fin_pure (by simp -dsimp only [go_sem]) (by simp -dsimp only [go_sem])
        · have hr' := eq_false hr
          rw [if_pos ⟨hok, hr⟩]
          refine good [] [] Tryz.func33 rfl rfl Tryz.ntmps33 (by kernel_rfl) mixed (by kernel_rfl) ?_
          simp -dsimp only [go_sem, Wld.row, Need.row] at hG hV hC ⊢
          refine call_pure (hG _) ?_
          simp -dsimp only [go_sem]
          refine call_pure (hV _) ?_
          simp -dsimp only [go_sem]
          refine call_pure (hC _) ?_
          simp -dsimp only [go_sem, hr']
          exact fin_pure (by simp -dsimp only [go_sem]) (by simp -dsimp only [go_sem]; rfl)
      · have hok2 : (R.2 = [111, 107]) = False := eq_false hok
        rw [if_neg (fun x => hok x.1)]
        generalize R.2 = R2 at hC hok2 ⊢
        refine good [] [] Tryz.func33 rfl rfl Tryz.ntmps33 (by kernel_rfl) mixed (by kernel_rfl) ?_
        simp -dsimp only [go_sem, Wld.row, Need.row] at hG hV hC ⊢
        refine call_pure (hG _) ?_
        simp -dsimp only [go_sem]
        refine call_pure (hV _) ?_
        simp -dsimp only [go_sem]
        refine call_pure (hC _) ?_
        simp -dsimp only [go_sem, hok2]
        exact fin_pure (by simp -dsimp only [go_sem]) (by simp -dsimp only [go_sem])
end Go.Proofs.YtnocdggngfiebaaGreatDoor

namespace Go.Proofs.YtnocdggngfiebaaGreatDoor
open Go Go.Isea
set_option maxRecDepth 100000
set_option maxHeartbeats 16000000
end Go.Proofs.YtnocdggngfiebaaGreatDoor
