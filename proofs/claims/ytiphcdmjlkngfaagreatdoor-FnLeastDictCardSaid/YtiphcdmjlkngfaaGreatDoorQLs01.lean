/- The law Ls0: its code returns true; its row and its card, which this claim proves. No condition is added. -/
import Derived.Test.YtiphcdmjlkngfaaGreatDoorML
import Derived.Test.YtiphcdmjlkngfaaGreatDoorMT
import Derived.Test.YtiphcdmjlkngfaaGreatDoorME
import Derived.Test.YtiphcdmjlkngfaaGreatDoorMJ
import Derived.Test.YtiphcdmjlkngfaaGreatDoorRows
import Derived.OpenShut
import Derived.Stop.Joined
import Derived.Lay
import Derived.LaidHandle
set_option linter.all false
namespace Go.Isea
open Go

end Go.Isea
namespace Go.Proofs.YtiphcdmjlkngfaaGreatDoor
open Go Go.Isea
set_option maxRecDepth 100000
set_option maxHeartbeats 16000000
theorem s_DrawLeastDict (b : L8) : ∃ (w : Wld) (n : Need) (d : Int), smW w = true ∧ w.cs.length ≤ 6 ∧ w.is.length ≤ 30 ∧ smNd n = true ∧ -1 ≤ d ∧ d ≤ 7 ∧ ∀ h : AH, Isea.Good Tryz.prog 46 [.sl (b.map byR)] h [] (.tup [.agg w.row, .agg n.row, .v (.int .i64 d)]) h := by
  obtain ⟨w, n, d, q, w1, w2, w3, w4, w5, w6, _, _, hS⟩ := s_l7Some (b.take 2000) 0 (by rw [List.length_take]; omega) (by decide)
  refine ⟨w, n, d, w1, w2, w3, w4, w5, w6, fun h => ?_⟩
  obtain ⟨cs, is⟩ := w
  have hW : (⟨cs, is⟩ : Wld).row = [.sl (cs.map Cls.row), .sl (is.map Inst.row)] := rfl
  rw [hW] at hS ⊢
  have hN : n.row = [str n.c, str n.t] := rfl
  rw [hN] at hS ⊢
  refine good [] [] Tryz.func46 rfl rfl Tryz.ntmps46 (by kernel_rfl) mixed (by kernel_rfl) ?_
  simp -dsimp only [go_sem]
  refine call_pure (s_l13Open b _) ?_
  simp -dsimp only [go_sem]
  refine call_one (hS _ _ (by simp -dsimp only [go_sem]) (by simp -dsimp only [go_sem])) (by simp -dsimp only [go_sem]) (by simp -dsimp only [go_sem, not_false_eq_true]) ?_
  simp -dsimp only [go_sem]
  exact fin_pure (by simp -dsimp only [go_sem]) (by simp -dsimp only [go_sem])
theorem law_LeastDict (b : L8) (h : AH) (_hb : b.length ≤ 9223372036854775807) : Isea.Good Tryz.prog 9 [.sl (b.map byR)] h [] (.v (.bool true)) h := by
  by_cases hl : 1048576 < b.length
  · have hl' : ((1048576 : Int) < ((b.length : Nat) : Int)) = True := eq_true (by omega)
    refine good [] [] Tryz.func9 rfl rfl Tryz.ntmps9 (by kernel_rfl) mixed (by kernel_rfl) ?_
    simp -dsimp only [go_sem, hl', List.length_map]
    exact fin_pure (by simp -dsimp only [go_sem]) (by simp -dsimp only [go_sem])
  · have hl' : ((1048576 : Int) < ((b.length : Nat) : Int)) = False := eq_false (by omega)
    obtain ⟨w, n, d, w1, w2, w3, w4, d1, d7, hD⟩ := s_DrawLeastDict b
    have hw := smW_Sm w1
    have hnn := smNd_iff.1 w4
    have hn : n.Sm := ⟨by omega, by omega⟩
    have hdr : -9223372036854775808 ≤ d ∧ d ≤ 9223372036854775807 := by omega
    have hio : ∀ i ∈ w.is, i.Ok := fun i hi => by have := (smIn_iff.1 ((smW_iff.1 w1).2.2.2 i hi)).2.2.1; show i.ns.length ≤ _; omega
    have hI := fun H => i_AllDictsF w n d H hw hn hdr
    have hLi := fun H => i_LeastDict w n d H hw hn hdr
    have hLs := fun H => s_LeastDict w n d H hw hn hdr (by omega) (by omega) hio
    have hUi : ∀ H, Isea.Good Tryz.prog 49 [.agg w.row, .agg n.row, .v (.int .i64 d)] H [] (.tup [.sl ((usedN w n d).map iRow), .v (.bool (allDicts w n d).isSome)]) H := fun H => (i_InstancesUsed w n d H hw hn hdr).fin (fin_pure (by simp -dsimp only [go_sem]) (by simp -dsimp only [go_sem, List.length_map]))
    have hUs := fun H => s_InstancesUsed w n d H hw hn hdr (by omega) (by omega) hio
    have hUl := usedN_len w n d
    have hEq := fun H => l_inSame (usedN w n d) H (by omega)
    rw [leastD_eq] at hLi hLs
    have eA : (allDicts w n d).getD [] = adL w n d := rfl
    rw [eA] at hI
    have hne := fun x (hx : x ∈ adL w n d) => adL_ne hw hx
    have hsz := fun x (hx : x ∈ adL w n d) => sizeD_txt hw hx
    have hle := fun x (hx : x ∈ adL w n d) => adL_len hw hx
    have hlen : (adL w n d).length ≤ 1099511627776 := allDicts_len w n d
    by_cases hLe : adL w n d = []
    · rw [hLe] at hI hLi hLs
      have e0 : leastL [] [] = [] := rfl
      have e1 : decide (¬ ([] : L8) = []) = false := by simp
      rw [e0, e1] at hLi hLs
      obtain ⟨B, hB⟩ : ∃ B, (allDicts w n d).isSome = B := ⟨_, rfl⟩
      rw [hB] at hI
      clear hUi hUs hEq hne hsz hle
      rcases Bool.eq_false_or_eq_true B with hb | hb
      all_goals
        rw [hb] at hI
        refine good [] [] Tryz.func9 rfl rfl Tryz.ntmps9 (by kernel_rfl) mixed (by kernel_rfl) ?_
        simp -dsimp only [go_sem, hl', Wld.row, Need.row, List.length_map, List.map_nil] at hD hI hLi hLs ⊢
        refine call_pure (hD _) ?_
        simp -dsimp only [go_sem]
        refine call_pure (hLi _) ?_
        simp -dsimp only [go_sem]
        refine call_pure (hLs _) ?_
        simp -dsimp only [go_sem]
        refine call_pure (hI _) ?_
        simp -dsimp only [go_sem, List.length_nil]
        exact fin_pure (by simp -dsimp only [go_sem]) (by simp -dsimp only [go_sem])
    · have hB : (allDicts w n d).isSome = true := by
        rcases opt_cases (allDicts w n d) with e | ⟨l, e⟩
        · unfold adL at hLe; rw [e] at hLe; exact absurd rfl hLe
        · rw [e]; rfl
      have hN10 : w.is.length ≤ 10 := by
        rcases opt_cases (allDicts w n d) with e | ⟨l, e⟩
        · unfold adL at hLe; rw [e] at hLe; exact absurd rfl hLe
        · exact world_len (adF hw e).wk
      obtain ⟨hrL, hfirst⟩ := leastL_first hne hLe
      have hr0 := hne _ hrL
      have hrl := hle _ hrL
      have hrs := hsz _ hrL
      have hin := used_has hw hN10 hrL
      have e1 : decide (¬ leastL (adL w n d) [] = []) = true := by simpa using hr0
      rw [e1] at hLi hLs
      rw [hB] at hI hUi hUs
      obtain ⟨L, hL⟩ : ∃ L, adL w n d = L := ⟨_, rfl⟩
      obtain ⟨U, hU⟩ : ∃ U, usedN w n d = U := ⟨_, rfl⟩
      rw [hL] at hI hLi hLs hne hsz hle hlen hrL hfirst hrl hrs hin hLe
      rw [hU] at hUi hUs hEq hin hUl
      obtain ⟨r, hr⟩ : ∃ r, leastL L [] = r := ⟨_, rfl⟩
      rw [hr] at hLi hLs hrL hfirst hrl hrs hin
      have hIn := fun H => i_InstancesInF r H (by omega)
      obtain ⟨I, hIe⟩ : ∃ I, instsIn r = I := ⟨_, rfl⟩
      have hIl : I.length ≤ 10 := by rw [← hIe]; exact insK_len r 10
      rw [hIe] at hIn hin
      have hSr : ∀ H, Isea.Good Tryz.prog 17 [str r] H [] (.v (.int .i64 ((digitsL r : Nat) : Int))) H := fun H => by
        have := i_SizeOfDict r H (by omega)
        rw [hrs] at this
        exact this
      have hSx : ∀ x ∈ L, ∀ H, Isea.Good Tryz.prog 17 [str x] H [] (.v (.int .i64 ((digitsL x : Nat) : Int))) H := fun x hx H => by
        have := i_SizeOfDict x H (by have := hle x hx; omega)
        rw [hsz x hx] at this
        exact this
      have hL0 : ((0 : Int) < ((L.length : Nat) : Int)) = True := eq_true (by have := List.length_pos_iff.2 hLe; omega)
      obtain ⟨fd, hfd⟩ : ∃ fd : Nat → Bool, fd = fun j => decide (r ∈ L.take j) := ⟨_, rfl⟩
      have fd0 : fd 0 = false := by rw [hfd]; simp
      have fde : fd L.length = true := by rw [hfd]; simpa using hrL
      have fds : ∀ j y, L[j]? = some y → fd (j + 1) = (fd j || decide (y = r)) := fun j y hy => by
        rw [hfd]
        simp only [take_next hy, List.mem_append, List.mem_singleton]
        have : (r = y) ↔ (y = r) := ⟨fun e => e.symm, fun e => e.symm⟩
        simp only [this, Bool.decide_or]
      have fdf : ∀ j y, L[j]? = some y → digitsL y = digitsL r → fd (j + 1) = true := fun j y hy hd => by
        rw [hfd]; exact decide_eq_true ((hfirst j y hy).2 hd)
      have hge : ∀ j y, L[j]? = some y → digitsL r ≤ digitsL y := fun j y hy => (hfirst j y hy).1
      clear hfd hfirst hr hIe hL hU hne hsz hle hrs hr0 hB hN10 eA e1
      refine good [] [] Tryz.func9 rfl rfl Tryz.ntmps9 (by kernel_rfl) mixed (by kernel_rfl) ?_
      simp -dsimp only [go_sem, hl', Wld.row, Need.row, List.length_map] at hD hI hLi hLs hUi hUs ⊢
      refine call_pure (hD _) ?_
      simp -dsimp only [go_sem]
      refine call_pure (hLi _) ?_
      simp -dsimp only [go_sem]
      refine call_pure (hLs _) ?_
      simp -dsimp only [go_sem]
      refine call_pure (hI _) ?_
      simp -dsimp only [go_sem, hL0, List.length_map]
      refine loop_ruleH [] (fun (j : {j : Nat // j ≤ L.length}) H => ([(3, .ref [.sl (w.cs.map Cls.row), .sl (w.is.map Inst.row)] 0), (4, .ref [str n.c, str n.t] 0), (5, .v (.int .i64 d)), (6, str r), (10, .sl (L.map sRow)), (12, .v (.bool (fd j.1))), (94, .sl (L.map sRow)), (95, .v (.int .i64 (L.length : Nat))), (96, .v (.int .i64 (j.1 : Nat)))], ⟨h.n, H.o⟩)) (fun j => L.length - j.1) ⟨0, Nat.zero_le _⟩ ?_ ?_
      · refine weak_objs [] (by simp -dsimp only [go_sem]) (by simp -dsimp only [go_sem]) (by simp -dsimp only [go_sem, fd0, List.length_map]) ?_ ?_ ?_
        · intro t h1 h2
          have a0 : ¬ t = h.n := by omega
          have a1 : ¬ t = h.n + 1 := by omega
          have a2 : ¬ t = h.n + 2 := by omega
          have a3 : ¬ t = h.n + 3 := by omega
          simp -dsimp only [go_sem, a0, a1, a2, a3]
        · intro x h1 h2; have h1 : x < h.n := h1; simp at h2 ⊢; omega
        · simp -dsimp only [go_sem]
      · rintro ⟨j, hj⟩
        have k2 : j + 1 ≤ 9223372036854775807 := by omega
        by_cases hjl : j < L.length
        · obtain ⟨y, hy⟩ := get_some hjl
          have hjc : (((j : Nat) : Int) < ((L.length : Nat) : Int)) = True := eq_true (by omega)
          have hnx := fds j y hy
          have hff := fdf j y hy
          have hSy := hSx y (List.mem_of_getElem? hy)
          have hlt : (((digitsL y : Nat) : Int) < ((digitsL r : Nat) : Int)) = False := eq_false (by have := hge j y hy; omega)
          obtain ⟨dy, hdy⟩ : ∃ dy, digitsL y = dy := ⟨_, rfl⟩
          obtain ⟨dr, hdr2⟩ : ∃ dr, digitsL r = dr := ⟨_, rfl⟩
          have hSr2 := hSr
          rw [hdy, hdr2] at hff hlt
          rw [hdy] at hSy
          rw [hdr2] at hSr2
          obtain ⟨g, hg⟩ : ∃ g, fd (j + 1) = g := ⟨_, rfl⟩
          have hstep : ∀ a : Prop, a → a := fun _ h => h
          cases hfj : fd j with
          | true =>
            rw [hfj, Bool.true_or] at hnx
            simp -dsimp only [go_sem, hjc, hy, hjl, k2, sRow, List.length_map]
            refine call_pure (hSy _) ?_
            simp -dsimp only [go_sem]
            refine call_pure (hSr2 _) ?_
            simp -dsimp only [go_sem, hlt]
            refine call_pure (hSy _) ?_
            simp -dsimp only [go_sem]
            refine call_pure (hSr2 _) ?_
            by_cases hdd : dy = dr
            · have hdd1 : (((dy : Nat) : Int) = ((dr : Nat) : Int)) = True := eq_true (by omega)
              simp -dsimp only [go_sem, hdd1, k2]
              refine round_to ⟨j + 1, hjl⟩ (by show L.length - (j + 1) < L.length - j; omega) ?_
              refine weak_objs [] (by simp -dsimp only [go_sem]) (by simp -dsimp only [go_sem]) (by simp -dsimp only [go_sem, hnx, List.length_map]) ?_ ?_ ?_
              · intro t h1 h2
                have a0 : ¬ t = h.n := by omega
                have a1 : ¬ t = h.n + 1 := by omega
                have a2 : ¬ t = h.n + 2 := by omega
                have a3 : ¬ t = h.n + 3 := by omega
                simp -dsimp only [go_sem, a0, a1, a2, a3]
              · intro x h1 h2; have h1 : x < h.n := h1; simp at h2 ⊢; omega
              · simp -dsimp only [go_sem]
            · have hdd1 : (((dy : Nat) : Int) = ((dr : Nat) : Int)) = False := eq_false (by omega)
              simp -dsimp only [go_sem, hdd1, k2]
              refine round_to ⟨j + 1, hjl⟩ (by show L.length - (j + 1) < L.length - j; omega) ?_
              refine weak_objs [] (by simp -dsimp only [go_sem]) (by simp -dsimp only [go_sem]) (by simp -dsimp only [go_sem, hnx, List.length_map]) ?_ ?_ ?_
              · intro t h1 h2
                have a0 : ¬ t = h.n := by omega
                have a1 : ¬ t = h.n + 1 := by omega
                have a2 : ¬ t = h.n + 2 := by omega
                have a3 : ¬ t = h.n + 3 := by omega
                simp -dsimp only [go_sem, a0, a1, a2, a3]
              · intro x h1 h2; have h1 : x < h.n := h1; simp at h2 ⊢; omega
              · simp -dsimp only [go_sem]
          | false =>
            rw [hfj, Bool.false_or] at hnx
            by_cases hyx : y = r
            · have hyx1 : (y = r) = True := eq_true hyx
              rw [decide_eq_true hyx] at hnx
              simp -dsimp only [go_sem, hjc, hy, hjl, k2, hyx1, sRow, List.length_map]
              refine call_pure (hSy _) ?_
              simp -dsimp only [go_sem]
              refine call_pure (hSr2 _) ?_
              simp -dsimp only [go_sem, hlt]
              refine call_pure (hSy _) ?_
              simp -dsimp only [go_sem]
              refine call_pure (hSr2 _) ?_
              by_cases hdd : dy = dr
              · have hdd1 : (((dy : Nat) : Int) = ((dr : Nat) : Int)) = True := eq_true (by omega)
                simp -dsimp only [go_sem, hdd1, k2]
                refine round_to ⟨j + 1, hjl⟩ (by show L.length - (j + 1) < L.length - j; omega) ?_
                refine weak_objs [] (by simp -dsimp only [go_sem]) (by simp -dsimp only [go_sem]) (by simp -dsimp only [go_sem, hnx, List.length_map]) ?_ ?_ ?_
                · intro t h1 h2
                  have a0 : ¬ t = h.n := by omega
                  have a1 : ¬ t = h.n + 1 := by omega
                  have a2 : ¬ t = h.n + 2 := by omega
                  have a3 : ¬ t = h.n + 3 := by omega
                  simp -dsimp only [go_sem, a0, a1, a2, a3]
                · intro x h1 h2; have h1 : x < h.n := h1; simp at h2 ⊢; omega
                · simp -dsimp only [go_sem]
              · have hdd1 : (((dy : Nat) : Int) = ((dr : Nat) : Int)) = False := eq_false (by omega)
                simp -dsimp only [go_sem, hdd1, k2]
                refine round_to ⟨j + 1, hjl⟩ (by show L.length - (j + 1) < L.length - j; omega) ?_
                refine weak_objs [] (by simp -dsimp only [go_sem]) (by simp -dsimp only [go_sem]) (by simp -dsimp only [go_sem, hnx, List.length_map]) ?_ ?_ ?_
                · intro t h1 h2
                  have a0 : ¬ t = h.n := by omega
                  have a1 : ¬ t = h.n + 1 := by omega
                  have a2 : ¬ t = h.n + 2 := by omega
                  have a3 : ¬ t = h.n + 3 := by omega
                  simp -dsimp only [go_sem, a0, a1, a2, a3]
                · intro x h1 h2; have h1 : x < h.n := h1; simp at h2 ⊢; omega
                · simp -dsimp only [go_sem]
            · have hyx1 : (y = r) = False := eq_false hyx
              rw [decide_eq_false hyx] at hnx
              simp -dsimp only [go_sem, hjc, hy, hjl, k2, hyx1, sRow, List.length_map]
              refine call_pure (hSy _) ?_
              simp -dsimp only [go_sem]
              refine call_pure (hSr2 _) ?_
              simp -dsimp only [go_sem, hlt]
              refine call_pure (hSy _) ?_
              simp -dsimp only [go_sem]
              refine call_pure (hSr2 _) ?_
              have hdd1 : (((dy : Nat) : Int) = ((dr : Nat) : Int)) = False := eq_false (fun q => by have := hff (by omega); rw [hnx] at this; cases this)
              simp -dsimp only [go_sem, hdd1, k2]
              refine round_to ⟨j + 1, hjl⟩ (by show L.length - (j + 1) < L.length - j; omega) ?_
              refine weak_objs [] (by simp -dsimp only [go_sem]) (by simp -dsimp only [go_sem]) (by simp -dsimp only [go_sem, hnx, List.length_map]) ?_ ?_ ?_
              · intro t h1 h2
                have a0 : ¬ t = h.n := by omega
                have a1 : ¬ t = h.n + 1 := by omega
                have a2 : ¬ t = h.n + 2 := by omega
                have a3 : ¬ t = h.n + 3 := by omega
                simp -dsimp only [go_sem, a0, a1, a2, a3]
              · intro x h1 h2; have h1 : x < h.n := h1; simp at h2 ⊢; omega
              · simp -dsimp only [go_sem]
        · have hjc : (((j : Nat) : Int) < ((L.length : Nat) : Int)) = False := eq_false (by omega)
          have hje : j = L.length := by omega
          subst hje
          simp -dsimp only [go_sem, hjc, fde]
          refine call_pure (hUi _) ?_
          simp -dsimp only [go_sem]
          refine call_pure (hUs _) ?_
          simp -dsimp only [go_sem]
          refine call_pure (hIn _) ?_
          simp -dsimp only [go_sem, List.length_map]
          refine loop_ruleH [] (fun (k : {k : Nat // k ≤ I.length}) H => ([(12, .v (.bool true)), (15, .sl (U.map iRow)), (17, .sl (U.map iRow)), (138, .sl (I.map iRow)), (139, .v (.int .i64 (I.length : Nat))), (140, .v (.int .i64 (k.1 : Nat)))], ⟨h.n, H.o⟩)) (fun k => I.length - k.1) ⟨0, Nat.zero_le _⟩ ?_ ?_
          · refine weak_objs [] (by simp -dsimp only [go_sem]) (by simp -dsimp only [go_sem]) (by simp -dsimp only [go_sem, List.length_map]) ?_ ?_ ?_
            · intro t h1 h2
              have a0 : ¬ t = h.n := by omega
              have a1 : ¬ t = h.n + 1 := by omega
              have a2 : ¬ t = h.n + 2 := by omega
              have a3 : ¬ t = h.n + 3 := by omega
              simp -dsimp only [go_sem, a0, a1, a2, a3]
            · intro x h1 h2; have h1 : x < h.n := h1; simp at h2 ⊢; omega
            · simp -dsimp only [go_sem]
          · rintro ⟨k, hk⟩
            have k1 : k + 1 ≤ 9223372036854775807 := by omega
            by_cases hkl : k < I.length
            · obtain ⟨i, hi⟩ := get_some hkl
              have hkc : (((k : Nat) : Int) < ((I.length : Nat) : Int)) = True := eq_true (by omega)
              have hiU := hin i (List.mem_of_getElem? hi)
              obtain ⟨gd, hgd⟩ : ∃ gd : Nat → Bool, gd = fun j => decide (i ∈ U.take j) := ⟨_, rfl⟩
              have gd0 : gd 0 = false := by rw [hgd]; simp
              have gde : gd U.length = true := by rw [hgd]; simpa using hiU
              have gds : ∀ j y, U[j]? = some y → gd (j + 1) = (gd j || decide (((y : Nat) : Int) = ((i : Nat) : Int))) := fun j y hy => by
                rw [hgd]
                simp only [take_next hy, List.mem_append, List.mem_singleton]
                have : (i = y) ↔ (((y : Nat) : Int) = ((i : Nat) : Int)) := by omega
                simp only [this, Bool.decide_or]
              clear hgd
              simp -dsimp only [go_sem, hkc, hkl, hi, iRow, List.length_map]
              refine loop_ruleH [] (fun (j : {j : Nat // j ≤ U.length}) H => ([(12, .v (.bool true)), (15, .sl (U.map iRow)), (17, .sl (U.map iRow)), (20, .v (.int .i64 (i : Nat))), (138, .sl (I.map iRow)), (139, .v (.int .i64 (I.length : Nat))), (140, .v (.int .i64 (k : Nat))), (21, .v (.bool (gd j.1))), (144, .sl (U.map iRow)), (145, .v (.int .i64 (U.length : Nat))), (146, .v (.int .i64 (j.1 : Nat)))], ⟨h.n, H.o⟩)) (fun j => U.length - j.1) ⟨0, Nat.zero_le _⟩ ?_ ?_
              · refine weak_objs [] (by simp -dsimp only [go_sem]) (by simp -dsimp only [go_sem]) (by simp -dsimp only [go_sem, gd0, List.length_map]) ?_ ?_ ?_
                · intro t h1 h2
                  have a0 : ¬ t = h.n := by omega
                  have a1 : ¬ t = h.n + 1 := by omega
                  have a2 : ¬ t = h.n + 2 := by omega
                  have a3 : ¬ t = h.n + 3 := by omega
                  simp -dsimp only [go_sem, a0, a1, a2, a3]
                · intro x h1 h2; have h1 : x < h.n := h1; simp at h2 ⊢; omega
                · simp -dsimp only [go_sem]
              · rintro ⟨j, hj⟩
                have k2 : j + 1 ≤ 9223372036854775807 := by omega
                by_cases hjl : j < U.length
                · obtain ⟨y, hy⟩ := get_some hjl
                  have hjc : (((j : Nat) : Int) < ((U.length : Nat) : Int)) = True := eq_true (by omega)
                  have hnx := gds j y hy
                  cases hfj : gd j with
                  | true =>
                    rw [hfj, Bool.true_or] at hnx
                    simp -dsimp only [go_sem, hjc, hy, hjl, k2, iRow, List.length_map]
                    refine round_to ⟨j + 1, hjl⟩ (by show U.length - (j + 1) < U.length - j; omega) ?_
                    refine weak_objs [] (by simp -dsimp only [go_sem]) (by simp -dsimp only [go_sem]) (by simp -dsimp only [go_sem, hnx, List.length_map]) ?_ ?_ ?_
                    · intro t h1 h2
                      have a0 : ¬ t = h.n := by omega
                      have a1 : ¬ t = h.n + 1 := by omega
                      have a2 : ¬ t = h.n + 2 := by omega
                      have a3 : ¬ t = h.n + 3 := by omega
                      simp -dsimp only [go_sem, a0, a1, a2, a3]
                    · intro x h1 h2; have h1 : x < h.n := h1; simp at h2 ⊢; omega
                    · simp -dsimp only [go_sem]
                  | false =>
                    rw [hfj, Bool.false_or] at hnx
                    by_cases hyx : ((y : Nat) : Int) = ((i : Nat) : Int)
                    · have hyx1 : (((y : Nat) : Int) = ((i : Nat) : Int)) = True := eq_true hyx
                      rw [decide_eq_true hyx] at hnx
                      simp -dsimp only [go_sem, hjc, hy, hjl, k2, hyx1, iRow, List.length_map]
                      refine round_to ⟨j + 1, hjl⟩ (by show U.length - (j + 1) < U.length - j; omega) ?_
                      refine weak_objs [] (by simp -dsimp only [go_sem]) (by simp -dsimp only [go_sem]) (by simp -dsimp only [go_sem, hnx, List.length_map]) ?_ ?_ ?_
                      · intro t h1 h2
                        have a0 : ¬ t = h.n := by omega
                        have a1 : ¬ t = h.n + 1 := by omega
                        have a2 : ¬ t = h.n + 2 := by omega
                        have a3 : ¬ t = h.n + 3 := by omega
                        simp -dsimp only [go_sem, a0, a1, a2, a3]
                      · intro x h1 h2; have h1 : x < h.n := h1; simp at h2 ⊢; omega
                      · simp -dsimp only [go_sem]
                    · have hyx1 : (((y : Nat) : Int) = ((i : Nat) : Int)) = False := eq_false hyx
                      rw [decide_eq_false hyx] at hnx
                      simp -dsimp only [go_sem, hjc, hy, hjl, k2, hyx1, iRow, List.length_map]
                      refine round_to ⟨j + 1, hjl⟩ (by show U.length - (j + 1) < U.length - j; omega) ?_
                      refine weak_objs [] (by simp -dsimp only [go_sem]) (by simp -dsimp only [go_sem]) (by simp -dsimp only [go_sem, hnx, List.length_map]) ?_ ?_ ?_
                      · intro t h1 h2
                        have a0 : ¬ t = h.n := by omega
                        have a1 : ¬ t = h.n + 1 := by omega
                        have a2 : ¬ t = h.n + 2 := by omega
                        have a3 : ¬ t = h.n + 3 := by omega
                        simp -dsimp only [go_sem, a0, a1, a2, a3]
                      · intro x h1 h2; have h1 : x < h.n := h1; simp at h2 ⊢; omega
                      · simp -dsimp only [go_sem]
                · have hjc : (((j : Nat) : Int) < ((U.length : Nat) : Int)) = False := eq_false (by omega)
                  have hje : j = U.length := by omega
                  subst hje
                  simp -dsimp only [go_sem, hjc, gde, k1]
                  refine round_to ⟨k + 1, hkl⟩ (by show I.length - (k + 1) < I.length - k; omega) ?_
                  refine weak_objs [] (by simp -dsimp only [go_sem]) (by simp -dsimp only [go_sem]) (by simp -dsimp only [go_sem, List.length_map]) ?_ ?_ ?_
                  · intro t h1 h2
                    have a0 : ¬ t = h.n := by omega
                    have a1 : ¬ t = h.n + 1 := by omega
                    have a2 : ¬ t = h.n + 2 := by omega
                    have a3 : ¬ t = h.n + 3 := by omega
                    simp -dsimp only [go_sem, a0, a1, a2, a3]
                  · intro x h1 h2; have h1 : x < h.n := h1; simp at h2 ⊢; omega
                  · simp -dsimp only [go_sem]
            · have hkc : (((k : Nat) : Int) < ((I.length : Nat) : Int)) = False := eq_false (by omega)
              simp -dsimp only [go_sem, hkc]
              refine call_pure (hEq _) ?_
              simp -dsimp only [go_sem]
              exact fin_pure (by simp -dsimp only [go_sem]) (by simp -dsimp only [go_sem])
end Go.Proofs.YtiphcdmjlkngfaaGreatDoor

namespace Go.Proofs.YtiphcdmjlkngfaaGreatDoor.LeastDict
open Go Go.Isea Go.ChangeShapes Go.WideShapes Go.ChangeAt Go.RowKit Go.Deep
set_option maxRecDepth 100000
set_option maxHeartbeats 4000000
theorem contract (W : World) (args : Array Value) (b0 : L8) (bl0 : b0.length ≤ 9223372036854775807)
    (hr : ∀ (K : KM) (o : Nat → AObj), RepL K ⟨0, o⟩ W [.sl (b0.map byR)] args) :
    Calls Tryz.prog 9 args W fun e W' => e = .returned (.bool true) ∧ W'.os = W.os ∧ W'.tape = W.tape ∧ W'.output = W.output ∧ W.heap.size ≤ W'.heap.size ∧ ∀ b, b < W.heap.size → W'.heap[b]? = W.heap[b]? := by
  have hg := law_LeastDict b0 ⟨0, fun _ => default⟩ bl0
  refine (hg.2 (fun _ => undef) W args ⟨fun t b ht => absurd ht (Nat.not_lt_zero _), fun s t b hs => absurd hs (Nat.not_lt_zero _), fun t ht => absurd ht (Nat.not_lt_zero _)⟩ (hr _ _)).mono ?_
  rintro e W' ⟨K', v, rfl, _, hE, hv⟩
  have e1 : v = .bool true := raw_rep (x := .v (.bool true)) rfl hv
  subst e1
  exact ⟨rfl, hE.os, hE.tape, hE.output, hE.size, fun b hb => hE.same b hb fun t ht => by cases ht⟩
theorem laidOut : laidOutB Tryz.prog = true := by kernel_rfl
theorem body (H : Type) (enc : TypeId × Value → H) (W : World) (base : Nat) (args : Array Value) (ds gs : List (DataW H)) (before : List MemPlace)
    (hval : ∀ (j : Nat) t v, Tryz.f9.params[j]? = some t → args[j]? = some v → Value.okWide Tryz.prog W .any base t v)
    (hW : DataW.Whole enc Tryz.prog Tryz.f9.params.toList Rows.fnLeastDictSpec.vars false W args.toList ds gs before) :
    Calls Tryz.prog 9 args W fun e W' => ∃ v, e = .returned v ∧ Rows.fnLeastDictSpec.post enc Tryz.prog Tryz.f9 false true false false W args v W' := by
  have hW' := hW
  obtain ⟨p, q, hA0, hV, rfl, hfz, hnd⟩ := hW
  have hA : DataW.TrodAll enc Tryz.prog W 0 (fun _ => true) true Tryz.f9.params.toList args.toList ds p := hA0
  rw [Tryz.params9] at hA hval
  obtain ⟨v0, vs0, d0, ds0, p0, q0, hargs, rfl, rfl, h0, r0⟩ := trodAll_cons hA
  obtain ⟨rfl, rfl, rfl⟩ := trodAll_nil r0
  obtain rfl : args = #[v0] := by cases args; simp_all
  obtain ⟨rfl, rfl⟩ := trodVars_none hV
  have o0 := hval 0 22 v0 rfl rfl
  unfold Value.okWide at o0
  rw [Tryz.underlying22] at o0
  have h0k := h0
  obtain ⟨f0, t0⟩ := h0
  have e0 : v0.cells.toList = [v0] := by
    cases v0 <;> first | rfl | (exfalso; simp [Cell.okWide, Cell.ok, Tryz.underlying22] at o0)
  rw [e0] at t0
  obtain ⟨b0, hb0, bl0⟩ := read_bytes t0
  have aggR : ∀ (K : KM) (o : Nat → AObj) (r : List AV) (c : Array Value), RowR W r c.toList → Rep K ⟨0, o⟩ W (.agg r) (.agg c) := fun K o r c h => .agg (by simpa using h.1) fun i x y a b => h.2 K o i x y a (by simpa using b)
  refine (contract W _ b0 bl0 fun K o => ⟨rfl, fun i x y a b => ?_⟩).mono ?_
  · rcases i with _ | i
    · simp at a b; subst a; subst b; exact hb0 K o
    · simp at a
  · rintro e W' ⟨rfl, h3, h3', h4, h5, h6⟩
    have hb : Below W.heap.size W W' := ⟨h3, h3', h4, h5, h6⟩
    have hlt := hW'.lt
    refine ⟨_, rfl, _, _, _, [], p0 ++ ([]), [], hW', ?_, ?_, ?_, ?_, fun h => by cases h⟩
    · exact trodAll_mk1 (shut_bool Tryz.underlying4 true)
    · exact trodAll_cons_mk (Below.trod laidOut (by kernel_rfl) (of_decide_eq_true (by kernel_rfl)) h0k hb (fun x hx => hlt x (by simp [hx]))) (trodAll_mk0)
    · rfl
    · refine ⟨h3, h4, fun i hi => ?_⟩
      rw [h6 i hi]
      cases W.heap[i]? with
      | none => rfl
      | some o => cases o <;> first | exact ⟨rfl, rfl, rfl, fun _ _ => rfl⟩ | exact .inr ⟨rfl, rfl⟩ | rfl
end Go.Proofs.YtiphcdmjlkngfaaGreatDoor.LeastDict

namespace Go.Proofs.YtiphcdmjlkngfaaGreatDoor.LeastDict
open Go Go.Isea Go.ChangeShapes Go.WideShapes Go.ChangeAt Go.RowKit Go.Deep
set_option maxRecDepth 100000
set_option maxHeartbeats 4000000
theorem own : ownKnob Tryz.prog.godebug = none := by kernel_rfl
noncomputable abbrev wit (os : Os) : World := World.laidAll Tryz.prog os Rows.fnLeastDictRow.laid
def witArgs : Array Value := #[.slice none 0 0]
theorem wit_met (os : Os) : laidMetH Tryz.prog Rows.fnLeastDictRow.laid ((wit os).forCall (fun _ _ => 0) ⟨#[], witArgs, []⟩).memory :=
  laidMetH_of_parts (laidMet_laidAll (os := os) witArgs (by kernel_rfl) (by kernel_rfl)) (by kernel_rfl)
theorem lifted (os : Os) (started : os.Started) (H : Type) (enc : TypeId × Value → H) :
    ReturnsInHanded {} Tryz.checked os 9 .any (fun w args => (Rows.fnLeastDictSpec.pre enc Tryz.prog Tryz.f9 [] false w args ∧ laidMetH Tryz.prog Rows.fnLeastDictRow.laid w) ∧ sizedMet enc Tryz.prog Tryz.f9 (OpenSpec.ofChange Rows.fnLeastDictSpec) false w args)
      (Rows.fnLeastDictSpec.post enc Tryz.prog Tryz.f9 false true false false) := by
  refine returnsInHanded_of_change_and (C := Tryz.checked) (X := fun w _ => laidMetH Tryz.prog Rows.fnLeastDictRow.laid w) (fun _ _ _ hh h => h.of_heap hh) own started (by kernel_rfl) Tryz.func9
    (ChangeSpec.witness_at (enc := enc) (C := Tryz.checked) (os := os) (X := fun w _ => laidMetH Tryz.prog Rows.fnLeastDictRow.laid w) false (wit os) witArgs 8 (World.laidAll_os _ _ _) (by kernel_rfl) (by kernel_rfl) (by kernel_rfl) (by kernel_rfl) (by kernel_rfl) (wit_met os)) ?_
  intro W base args ds gs before hval0 hW _ _ _ _
  exact body H enc W base args ds gs before hval0 hW
end Go.Proofs.YtiphcdmjlkngfaaGreatDoor.LeastDict
