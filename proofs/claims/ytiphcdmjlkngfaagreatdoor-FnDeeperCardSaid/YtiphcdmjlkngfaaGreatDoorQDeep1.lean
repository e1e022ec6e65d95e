/- The law Deep: its code returns true; its row and its card, which this claim proves. No condition is added. -/
import Derived.Test.YtiphcdmjlkngfaaGreatDoorMP
import Derived.Test.YtiphcdmjlkngfaaGreatDoorMN
import Derived.Test.YtiphcdmjlkngfaaGreatDoorMK
import Derived.Test.YtiphcdmjlkngfaaGreatDoorMD
import Derived.Test.YtiphcdmjlkngfaaGreatDoorMJ
import Derived.Test.YtiphcdmjlkngfaaGreatDoorRows
import Derived.OpenShut
import Derived.Stop.Joined
import Derived.Lay
import Derived.LaidHandle
set_option linter.all false
namespace Go.Isea
open Go
mutual
theorem depth_text : ∀ d : Dct, d.depth ≤ d.text.length
  | .mk i ps => by
    have h := depth_textB ps 0
    have h2 : (textB 0 ps).length ≤ (Dct.mk i ps).text.length := by
      cases ps with
      | nil => simp [textB]
      | cons q qs => simp only [Dct.text, List.length_append]; omega
    rw [Dct.depth]
    omega
theorem depth_textB : ∀ (ps : List Dct) (k : Nat), depthB ps ≤ (textB k ps).length
  | [], k => by rw [depthB]; exact Nat.zero_le _
  | p :: ps, k => by
    have h1 := depth_text p
    have h2 := depth_textB ps (k + 1)
    rw [depthB, textB]
    simp only [List.length_append, List.length_cons, List.length_nil]
    omega
end
end Go.Isea
namespace Go.Proofs.YtiphcdmjlkngfaaGreatDoor
open Go Go.Isea
set_option maxRecDepth 100000
set_option maxHeartbeats 16000000
/-- what is told at the depth of a text -/
theorem deep_in {w : Wld} {n : Need} {s : L8} {e : Int} {L : List L8} (hw : w.Sm) (he : e = if depthD s < 0 then 0 else depthD s) (hL : allDicts w n e = some L) : (s ∈ L) ↔ checkDict w n s = okW := by
  have F := adF hw hL
  constructor
  · intro hs
    obtain ⟨D, _, _, _, h4, _⟩ := F.ok s hs
    exact h4
  · intro hc
    have hc2 := hc
    unfold checkDict at hc
    cases hd : dictOf s with
    | none => rw [hd] at hc; exact absurd hc wrongL_ne
    | some D =>
      rw [hd] at hc
      simp only at hc
      split at hc
      · have hdp : depthD s = ((D.depth : Nat) : Int) := by unfold depthD; rw [hd]
        rw [hdp, if_neg (by omega)] at he
        have hal := F.al
        rw [he] at hal
        have := allD_has _ n L D hal (by omega) hc
        rw [(dictOf_some hd).1] at this
        exact this
      · exact absurd hc wrongL_ne
theorem deep_sub {w : Wld} {n : Need} {e : Int} {L M : List L8} (hw : w.Sm) (hL : allDicts w n e = some L) (hM : allDicts w n (e - 1) = some M) : ∀ x ∈ M, x ∈ L := by
  intro x hx
  have F := adF hw hL
  have G := adF hw hM
  obtain ⟨D, _, h2, _, _, h5, _, h7, _⟩ := G.ok x hx
  have h0 := F.d0
  have := allD_has _ n L D F.al (by omega) h5
  rw [h2] at this
  exact this
theorem depthD_rng (s : L8) (hs : s.length ≤ 1200) : -1 ≤ depthD s ∧ depthD s ≤ 1200 := by
  unfold depthD
  cases hd : dictOf s with
  | none => simp
  | some D =>
    obtain ⟨g1, _, _⟩ := dictOf_some hd
    have := depth_text D
    rw [g1] at this
    simp only
    omega
theorem law_Deeper (b : L8) (h : AH) (_hb : b.length ≤ 9223372036854775807) : Isea.Good Tryz.prog 8 [.sl (b.map byR)] h [] (.v (.bool true)) h := by
  by_cases hl : 1048576 < b.length
  · have hl' : ((1048576 : Int) < ((b.length : Nat) : Int)) = True := eq_true (by omega)
    refine good [] [] Tryz.func8 rfl rfl Tryz.ntmps8 (by kernel_rfl) mixed (by kernel_rfl) ?_
    simp -dsimp only [go_sem, hl', List.length_map]
    exact fin_pure (by simp -dsimp only [go_sem]) (by simp -dsimp only [go_sem])
  · have hl' : ((1048576 : Int) < ((b.length : Nat) : Int)) = False := eq_false (by omega)
    obtain ⟨w, n, s, w1, w2, w3, w4, hsl, hD⟩ := s_DrawCheckDict b
    have hw := smW_Sm w1
    have hnn := smNd_iff.1 w4
    have hn : n.Sm := ⟨by omega, by omega⟩
    have hC := fun H => i_CheckDict w n s H hw hn (by omega)
    have hS := fun H => s_CheckDict w n s H hw hn (by omega)
    have hT := fun H => i_DepthOfDict s H (by omega)
    have hr := depthD_rng s hsl
    obtain ⟨e, he⟩ : ∃ e : Int, e = if depthD s < 0 then 0 else depthD s := ⟨_, rfl⟩
    have he0 : 0 ≤ e ∧ e ≤ 1200 := by rw [he]; split <;> omega
    have hew : IntKind.i64.wrap (e - 1) = e - 1 := by rw [wrap_i64] <;> omega
    have hA := fun H => i_AllDictsF w n e H hw hn (by omega)
    have hM := fun H => i_AllDictsF w n (e - 1) H hw hn (by omega)
    have hIn := fun L => deep_in (L := L) (n := n) hw he
    have hSub := fun L M => deep_sub (L := L) (M := M) (n := n) (e := e) hw
    obtain ⟨L, hL⟩ : ∃ L, (allDicts w n e).getD [] = L := ⟨_, rfl⟩
    obtain ⟨B, hB⟩ : ∃ B, (allDicts w n e).isSome = B := ⟨_, rfl⟩
    obtain ⟨M, hMe⟩ : ∃ M, (allDicts w n (e - 1)).getD [] = M := ⟨_, rfl⟩
    obtain ⟨B2, hB2⟩ : ∃ B2, (allDicts w n (e - 1)).isSome = B2 := ⟨_, rfl⟩
    have hLl : L.length ≤ 1099511627776 := by rw [← hL]; exact allDicts_len w n e
    have hMl : M.length ≤ 1099511627776 := by rw [← hMe]; exact allDicts_len w n (e - 1)
    have hok1 : B = true → allDicts w n e = some L := fun hb => by
      rcases opt_cases (allDicts w n e) with q | ⟨l, q⟩
      · rw [q] at hB; rw [← hB] at hb; cases hb
      · rw [q] at hL; rw [q, ← hL]; rfl
    have hok2 : B2 = true → allDicts w n (e - 1) = some M := fun hb => by
      rcases opt_cases (allDicts w n (e - 1)) with q | ⟨l, q⟩
      · rw [q] at hB2; rw [← hB2] at hb; cases hb
      · rw [q] at hMe; rw [q, ← hMe]; rfl
    have hTI : B = true → ((s ∈ L) ↔ checkDict w n s = okW) := fun hb => hIn L (hok1 hb)
    have hss : B = true → B2 = true → ∀ x ∈ M, x ∈ L := fun h1 h2 => hSub L M (hok1 h1) (hok2 h2)
    rw [hL, hB] at hA
    rw [hMe, hB2] at hM
    obtain ⟨fd, hfd⟩ : ∃ fd : Nat → Bool, fd = fun j => decide (s ∈ L.take j) := ⟨_, rfl⟩
    have fd0 : fd 0 = false := by rw [hfd]; simp
    have fde : fd L.length = decide (s ∈ L) := by rw [hfd]; simp
    have fds : ∀ j y, L[j]? = some y → fd (j + 1) = (fd j || decide (y = s)) := fun j y hy => by
      rw [hfd]
      simp only [take_next hy, List.mem_append, List.mem_singleton]
      have : (s = y) ↔ (y = s) := ⟨fun e => e.symm, fun e => e.symm⟩
      simp only [this, Bool.decide_or]
    have hmx : (if depthD s < 0 then (0 : Int) else depthD s) = e := he.symm
    have hTok : (checkDict w n s = okW) = (checkDict w n s = [111, 107]) := rfl
    rw [hTok] at hTI
    clear hfd hok1 hok2 hL hB hMe hB2 hIn hSub he hTok
    generalize checkDict w n s = T at hC hS hTI
    generalize depthD s = dp at hT hmx
    refine good [] [] Tryz.func8 rfl rfl Tryz.ntmps8 (by kernel_rfl) mixed (by kernel_rfl) ?_
    simp -dsimp only [go_sem, hl', Wld.row, Need.row, List.length_map] at hD hC hS hA hM ⊢
    refine call_pure (hD _) ?_
    simp -dsimp only [go_sem]
    refine call_pure (hC _) ?_
    simp -dsimp only [go_sem]
    refine call_pure (hS _) ?_
    simp -dsimp only [go_sem]
    refine call_pure (hT _) ?_
    simp -dsimp only [go_sem, hmx]
    refine call_pure (hA _) ?_
    simp -dsimp only [go_sem, List.length_map]
    refine loop_ruleH [] (fun (j : {j : Nat // j ≤ L.length}) H => ([(3, .ref [.sl (w.cs.map Cls.row), .sl (w.is.map Inst.row)] 0), (4, .ref [str n.c, str n.t] 0), (5, str s), (6, str T), (7, .v (.int .i64 dp)), (8, .sl (L.map sRow)), (9, .v (.bool B)), (10, .v (.bool (fd j.1))), (49, .sl (L.map sRow)), (50, .v (.int .i64 (L.length : Nat))), (51, .v (.int .i64 (j.1 : Nat)))], ⟨h.n, H.o⟩)) (fun j => L.length - j.1) ⟨0, Nat.zero_le _⟩ ?_ ?_
    · refine weak_objs [] (by simp -dsimp only [go_sem]) (by simp -dsimp only [go_sem]) (by simp -dsimp only [go_sem, fd0, List.length_map]) ?_ ?_ ?_
      · intro t h1 h2
        have a0 : ¬ t = h.n := by omega
        have a1 : ¬ t = h.n + 1 := by omega
        have a2 : ¬ t = h.n + 2 := by omega
        have a3 : ¬ t = h.n + 3 := by omega
        simp -dsimp only [go_sem, a0, a1, a2, a3]
      · intro x h1 h2; have h1 : x < h.n := h1; simp at h2 ⊢; omega
      · simp -dsimp only [go_sem]
    · rintro ⟨j, hj⟩
      have k2 : j + 1 ≤ 9223372036854775807 := by omega
      by_cases hjl : j < L.length
      · obtain ⟨y, hy⟩ := get_some hjl
        have hjc : (((j : Nat) : Int) < ((L.length : Nat) : Int)) = True := eq_true (by omega)
        have hnx := fds j y hy
        cases hfj : fd j with
        | true =>
          rw [hfj, Bool.true_or] at hnx
          simp -dsimp only [go_sem, hjc, hy, hjl, k2, sRow, List.length_map]
          refine round_to ⟨j + 1, hjl⟩ (by show L.length - (j + 1) < L.length - j; omega) ?_
          refine weak_objs [] (by simp -dsimp only [go_sem]) (by simp -dsimp only [go_sem]) (by simp -dsimp only [go_sem, hnx, List.length_map]) ?_ ?_ ?_
          · intro t h1 h2
            have a0 : ¬ t = h.n := by omega
            have a1 : ¬ t = h.n + 1 := by omega
            have a2 : ¬ t = h.n + 2 := by omega
            have a3 : ¬ t = h.n + 3 := by omega
            simp -dsimp only [go_sem, a0, a1, a2, a3]
          · intro x h1 h2; have h1 : x < h.n := h1; simp at h2 ⊢; omega
          · simp -dsimp only [go_sem]
        | false =>
          rw [hfj, Bool.false_or] at hnx
          by_cases hyx : y = s
          · have hyx1 : (y = s) = True := eq_true hyx
            rw [decide_eq_true hyx] at hnx
            simp -dsimp only [go_sem, hjc, hy, hjl, k2, hyx1, sRow, List.length_map]
            refine round_to ⟨j + 1, hjl⟩ (by show L.length - (j + 1) < L.length - j; omega) ?_
            refine weak_objs [] (by simp -dsimp only [go_sem]) (by simp -dsimp only [go_sem]) (by simp -dsimp only [go_sem, hnx, List.length_map]) ?_ ?_ ?_
            · intro t h1 h2
              have a0 : ¬ t = h.n := by omega
              have a1 : ¬ t = h.n + 1 := by omega
              have a2 : ¬ t = h.n + 2 := by omega
              have a3 : ¬ t = h.n + 3 := by omega
              simp -dsimp only [go_sem, a0, a1, a2, a3]
            · intro x h1 h2; have h1 : x < h.n := h1; simp at h2 ⊢; omega
            · simp -dsimp only [go_sem]
          · have hyx1 : (y = s) = False := eq_false hyx
            rw [decide_eq_false hyx] at hnx
            simp -dsimp only [go_sem, hjc, hy, hjl, k2, hyx1, sRow, List.length_map]
            refine round_to ⟨j + 1, hjl⟩ (by show L.length - (j + 1) < L.length - j; omega) ?_
            refine weak_objs [] (by simp -dsimp only [go_sem]) (by simp -dsimp only [go_sem]) (by simp -dsimp only [go_sem, hnx, List.length_map]) ?_ ?_ ?_
            · intro t h1 h2
              have a0 : ¬ t = h.n := by omega
              have a1 : ¬ t = h.n + 1 := by omega
              have a2 : ¬ t = h.n + 2 := by omega
              have a3 : ¬ t = h.n + 3 := by omega
              simp -dsimp only [go_sem, a0, a1, a2, a3]
            · intro x h1 h2; have h1 : x < h.n := h1; simp at h2 ⊢; omega
            · simp -dsimp only [go_sem]
      · have hjc : (((j : Nat) : Int) < ((L.length : Nat) : Int)) = False := eq_false (by omega)
        have hje : j = L.length := by omega
        subst hje
        simp -dsimp only [go_sem, hjc, hmx, hew]
        refine call_pure (hM _) ?_
        simp -dsimp only [go_sem, List.length_map]
        refine loop_ruleH [] (fun (k : {k : Nat // k ≤ M.length}) H => ([(6, str T), (8, .sl (L.map sRow)), (9, .v (.bool B)), (10, .v (.bool (fd L.length))), (14, .v (.bool B2)), (71, .sl (M.map sRow)), (72, .v (.int .i64 (M.length : Nat))), (73, .v (.int .i64 (k.1 : Nat)))], ⟨h.n, H.o⟩)) (fun k => M.length - k.1) ⟨0, Nat.zero_le _⟩ ?_ ?_
        · refine weak_objs [] (by simp -dsimp only [go_sem]) (by simp -dsimp only [go_sem]) (by simp -dsimp only [go_sem, List.length_map]) ?_ ?_ ?_
          · intro t h1 h2
            have a0 : ¬ t = h.n := by omega
            have a1 : ¬ t = h.n + 1 := by omega
            have a2 : ¬ t = h.n + 2 := by omega
            have a3 : ¬ t = h.n + 3 := by omega
            simp -dsimp only [go_sem, a0, a1, a2, a3]
          · intro x h1 h2; have h1 : x < h.n := h1; simp at h2 ⊢; omega
          · simp -dsimp only [go_sem]
        · rintro ⟨k, hk⟩
          have k1 : k + 1 ≤ 9223372036854775807 := by omega
          by_cases hkl : k < M.length
          · obtain ⟨x, hx⟩ := get_some hkl
            have hkc : (((k : Nat) : Int) < ((M.length : Nat) : Int)) = True := eq_true (by omega)
            obtain ⟨gd, hgd⟩ : ∃ gd : Nat → Bool, gd = fun j => decide (x ∈ L.take j) := ⟨_, rfl⟩
            have gd0 : gd 0 = false := by rw [hgd]; simp
            have gde : B = true → B2 = true → gd L.length = true := fun q1 q2 => by rw [hgd]; simpa using hss q1 q2 x (List.mem_of_getElem? hx)
            have gds : ∀ j y, L[j]? = some y → gd (j + 1) = (gd j || decide (x = y)) := fun j y hy => by
              rw [hgd]
              simp only [take_next hy, List.mem_append, List.mem_singleton, Bool.decide_or]
            clear hgd
            simp -dsimp only [go_sem, hkc, hkl, hx, sRow, List.length_map]
            refine loop_ruleH [] (fun (j : {j : Nat // j ≤ L.length}) H => ([(6, str T), (8, .sl (L.map sRow)), (9, .v (.bool B)), (10, .v (.bool (fd L.length))), (14, .v (.bool B2)), (16, str x), (71, .sl (M.map sRow)), (72, .v (.int .i64 (M.length : Nat))), (73, .v (.int .i64 (k : Nat))), (17, .v (.bool (gd j.1))), (77, .sl (L.map sRow)), (78, .v (.int .i64 (L.length : Nat))), (79, .v (.int .i64 (j.1 : Nat)))], ⟨h.n, H.o⟩)) (fun j => L.length - j.1) ⟨0, Nat.zero_le _⟩ ?_ ?_
            · refine weak_objs [] (by simp -dsimp only [go_sem]) (by simp -dsimp only [go_sem]) (by simp -dsimp only [go_sem, gd0, List.length_map]) ?_ ?_ ?_
              · intro t h1 h2
                have a0 : ¬ t = h.n := by omega
                have a1 : ¬ t = h.n + 1 := by omega
                have a2 : ¬ t = h.n + 2 := by omega
                have a3 : ¬ t = h.n + 3 := by omega
                simp -dsimp only [go_sem, a0, a1, a2, a3]
              · intro x h1 h2; have h1 : x < h.n := h1; simp at h2 ⊢; omega
              · simp -dsimp only [go_sem]
            · rintro ⟨j, hj⟩
              have k2 : j + 1 ≤ 9223372036854775807 := by omega
              by_cases hjl : j < L.length
              · obtain ⟨y, hy⟩ := get_some hjl
                have hjc : (((j : Nat) : Int) < ((L.length : Nat) : Int)) = True := eq_true (by omega)
                have hnx := gds j y hy
                cases hfj : gd j with
                | true =>
                  rw [hfj, Bool.true_or] at hnx
                  simp -dsimp only [go_sem, hjc, hy, hjl, k2, sRow, List.length_map]
                  refine round_to ⟨j + 1, hjl⟩ (by show L.length - (j + 1) < L.length - j; omega) ?_
                  refine weak_objs [] (by simp -dsimp only [go_sem]) (by simp -dsimp only [go_sem]) (by simp -dsimp only [go_sem, hnx, List.length_map]) ?_ ?_ ?_
                  · intro t h1 h2
                    have a0 : ¬ t = h.n := by omega
                    have a1 : ¬ t = h.n + 1 := by omega
                    have a2 : ¬ t = h.n + 2 := by omega
                    have a3 : ¬ t = h.n + 3 := by omega
                    simp -dsimp only [go_sem, a0, a1, a2, a3]
                  · intro x h1 h2; have h1 : x < h.n := h1; simp at h2 ⊢; omega
                  · simp -dsimp only [go_sem]
                | false =>
                  rw [hfj, Bool.false_or] at hnx
                  by_cases hyx : x = y
                  · have hyx1 : (x = y) = True := eq_true hyx
                    rw [decide_eq_true hyx] at hnx
                    simp -dsimp only [go_sem, hjc, hy, hjl, k2, hyx1, sRow, List.length_map]
                    refine round_to ⟨j + 1, hjl⟩ (by show L.length - (j + 1) < L.length - j; omega) ?_
                    refine weak_objs [] (by simp -dsimp only [go_sem]) (by simp -dsimp only [go_sem]) (by simp -dsimp only [go_sem, hnx, List.length_map]) ?_ ?_ ?_
                    · intro t h1 h2
                      have a0 : ¬ t = h.n := by omega
                      have a1 : ¬ t = h.n + 1 := by omega
                      have a2 : ¬ t = h.n + 2 := by omega
                      have a3 : ¬ t = h.n + 3 := by omega
                      simp -dsimp only [go_sem, a0, a1, a2, a3]
                    · intro x h1 h2; have h1 : x < h.n := h1; simp at h2 ⊢; omega
                    · simp -dsimp only [go_sem]
                  · have hyx1 : (x = y) = False := eq_false hyx
                    rw [decide_eq_false hyx] at hnx
                    simp -dsimp only [go_sem, hjc, hy, hjl, k2, hyx1, sRow, List.length_map]
                    refine round_to ⟨j + 1, hjl⟩ (by show L.length - (j + 1) < L.length - j; omega) ?_
                    refine weak_objs [] (by simp -dsimp only [go_sem]) (by simp -dsimp only [go_sem]) (by simp -dsimp only [go_sem, hnx, List.length_map]) ?_ ?_ ?_
                    · intro t h1 h2
                      have a0 : ¬ t = h.n := by omega
                      have a1 : ¬ t = h.n + 1 := by omega
                      have a2 : ¬ t = h.n + 2 := by omega
                      have a3 : ¬ t = h.n + 3 := by omega
                      simp -dsimp only [go_sem, a0, a1, a2, a3]
                    · intro x h1 h2; have h1 : x < h.n := h1; simp at h2 ⊢; omega
                    · simp -dsimp only [go_sem]
              · have hjc : (((j : Nat) : Int) < ((L.length : Nat) : Int)) = False := eq_false (by omega)
                have hje : j = L.length := by omega
                subst hje
                rcases Bool.eq_false_or_eq_true B with hb | hb
                · rcases Bool.eq_false_or_eq_true B2 with hb2 | hb2
                  · have hge := gde hb hb2
                    simp -dsimp only [go_sem, hjc, hb, hb2, hge, k1]
                    refine round_to ⟨k + 1, hkl⟩ (by show M.length - (k + 1) < M.length - k; omega) ?_
                    refine weak_objs [] (by simp -dsimp only [go_sem]) (by simp -dsimp only [go_sem]) (by simp -dsimp only [go_sem, hb, hb2, List.length_map]) ?_ ?_ ?_
                    · intro t h1 h2
                      have a0 : ¬ t = h.n := by omega
                      have a1 : ¬ t = h.n + 1 := by omega
                      have a2 : ¬ t = h.n + 2 := by omega
                      have a3 : ¬ t = h.n + 3 := by omega
                      simp -dsimp only [go_sem, a0, a1, a2, a3]
                    · intro x h1 h2; have h1 : x < h.n := h1; simp at h2 ⊢; omega
                    · simp -dsimp only [go_sem]
                  · simp -dsimp only [go_sem, hjc, hb, hb2, k1]
                    refine round_to ⟨k + 1, hkl⟩ (by show M.length - (k + 1) < M.length - k; omega) ?_
                    refine weak_objs [] (by simp -dsimp only [go_sem]) (by simp -dsimp only [go_sem]) (by simp -dsimp only [go_sem, hb, hb2, List.length_map]) ?_ ?_ ?_
                    · intro t h1 h2
                      have a0 : ¬ t = h.n := by omega
                      have a1 : ¬ t = h.n + 1 := by omega
                      have a2 : ¬ t = h.n + 2 := by omega
                      have a3 : ¬ t = h.n + 3 := by omega
                      simp -dsimp only [go_sem, a0, a1, a2, a3]
                    · intro x h1 h2; have h1 : x < h.n := h1; simp at h2 ⊢; omega
                    · simp -dsimp only [go_sem]
                · simp -dsimp only [go_sem, hjc, hb, k1]
                  refine round_to ⟨k + 1, hkl⟩ (by show M.length - (k + 1) < M.length - k; omega) ?_
                  refine weak_objs [] (by simp -dsimp only [go_sem]) (by simp -dsimp only [go_sem]) (by simp -dsimp only [go_sem, hb, List.length_map]) ?_ ?_ ?_
                  · intro t h1 h2
                    have a0 : ¬ t = h.n := by omega
                    have a1 : ¬ t = h.n + 1 := by omega
                    have a2 : ¬ t = h.n + 2 := by omega
                    have a3 : ¬ t = h.n + 3 := by omega
                    simp -dsimp only [go_sem, a0, a1, a2, a3]
                  · intro x h1 h2; have h1 : x < h.n := h1; simp at h2 ⊢; omega
                  · simp -dsimp only [go_sem]
          · have hkc : (((k : Nat) : Int) < ((M.length : Nat) : Int)) = False := eq_false (by omega)
            rcases Bool.eq_false_or_eq_true B with hb | hb
            · have hti := hTI hb
              by_cases hT2 : T = [111, 107]
              · have hT3 : (T = [111, 107]) = True := eq_true hT2
                have hfe : fd L.length = true := by rw [fde]; exact decide_eq_true (hti.2 hT2)
                simp -dsimp only [go_sem, hkc, hb, hT3, hfe]
                exact fin_pure (by simp -dsimp only [go_sem]) (by simp -dsimp only [go_sem])
              · have hT3 : (T = [111, 107]) = False := eq_false hT2
                have hfe : fd L.length = false := by rw [fde]; exact decide_eq_false fun q => hT2 (hti.1 q)
                simp -dsimp only [go_sem, hkc, hb, hT3, hfe]
                exact fin_pure (by simp -dsimp only [go_sem]) (by simp -dsimp only [go_sem])
            · simp -dsimp only [go_sem, hkc, hb]
              exact fin_pure (by simp -dsimp only [go_sem]) (by simp -dsimp only [go_sem])
end Go.Proofs.YtiphcdmjlkngfaaGreatDoor

namespace Go.Proofs.YtiphcdmjlkngfaaGreatDoor.Deeper
open Go Go.Isea Go.ChangeShapes Go.WideShapes Go.ChangeAt Go.RowKit Go.Deep
set_option maxRecDepth 100000
set_option maxHeartbeats 4000000
theorem contract (W : World) (args : Array Value) (b0 : L8) (bl0 : b0.length ≤ 9223372036854775807)
    (hr : ∀ (K : KM) (o : Nat → AObj), RepL K ⟨0, o⟩ W [.sl (b0.map byR)] args) :
    Calls Tryz.prog 8 args W fun e W' => e = .returned (.bool true) ∧ W'.os = W.os ∧ W'.tape = W.tape ∧ W'.output = W.output ∧ W.heap.size ≤ W'.heap.size ∧ ∀ b, b < W.heap.size → W'.heap[b]? = W.heap[b]? := by
  have hg := law_Deeper b0 ⟨0, fun _ => default⟩ bl0
  refine (hg.2 (fun _ => undef) W args ⟨fun t b ht => absurd ht (Nat.not_lt_zero _), fun s t b hs => absurd hs (Nat.not_lt_zero _), fun t ht => absurd ht (Nat.not_lt_zero _)⟩ (hr _ _)).mono ?_
  rintro e W' ⟨K', v, rfl, _, hE, hv⟩
  have e1 : v = .bool true := raw_rep (x := .v (.bool true)) rfl hv
  subst e1
  exact ⟨rfl, hE.os, hE.tape, hE.output, hE.size, fun b hb => hE.same b hb fun t ht => by cases ht⟩
theorem laidOut : laidOutB Tryz.prog = true := by kernel_rfl
theorem body (H : Type) (enc : TypeId × Value → H) (W : World) (base : Nat) (args : Array Value) (ds gs : List (DataW H)) (before : List MemPlace)
    (hval : ∀ (j : Nat) t v, Tryz.f8.params[j]? = some t → args[j]? = some v → Value.okWide Tryz.prog W .any base t v)
    (hW : DataW.Whole enc Tryz.prog Tryz.f8.params.toList Rows.fnDeeperSpec.vars false W args.toList ds gs before) :
    Calls Tryz.prog 8 args W fun e W' => ∃ v, e = .returned v ∧ Rows.fnDeeperSpec.post enc Tryz.prog Tryz.f8 false true false false W args v W' := by
  have hW' := hW
  obtain ⟨p, q, hA0, hV, rfl, hfz, hnd⟩ := hW
  have hA : DataW.TrodAll enc Tryz.prog W 0 (fun _ => true) true Tryz.f8.params.toList args.toList ds p := hA0
  rw [Tryz.params8] at hA hval
  obtain ⟨v0, vs0, d0, ds0, p0, q0, hargs, rfl, rfl, h0, r0⟩ := trodAll_cons hA
  obtain ⟨rfl, rfl, rfl⟩ := trodAll_nil r0
  obtain rfl : args = #[v0] := by cases args; simp_all
  obtain ⟨rfl, rfl⟩ := trodVars_none hV
  have o0 := hval 0 22 v0 rfl rfl
  unfold Value.okWide at o0
  rw [Tryz.underlying22] at o0
  have h0k := h0
  obtain ⟨f0, t0⟩ := h0
  have e0 : v0.cells.toList = [v0] := by
    cases v0 <;> first | rfl | (exfalso; simp [Cell.okWide, Cell.ok, Tryz.underlying22] at o0)
  rw [e0] at t0
  obtain ⟨b0, hb0, bl0⟩ := read_bytes t0
  have aggR : ∀ (K : KM) (o : Nat → AObj) (r : List AV) (c : Array Value), RowR W r c.toList → Rep K ⟨0, o⟩ W (.agg r) (.agg c) := fun K o r c h => .agg (by simpa using h.1) fun i x y a b => h.2 K o i x y a (by simpa using b)
  refine (contract W _ b0 bl0 fun K o => ⟨rfl, fun i x y a b => ?_⟩).mono ?_
  · rcases i with _ | i
    · simp at a b; subst a; subst b; exact hb0 K o
    · simp at a
  · rintro e W' ⟨rfl, h3, h3', h4, h5, h6⟩
    have hb : Below W.heap.size W W' := ⟨h3, h3', h4, h5, h6⟩
    have hlt := hW'.lt
    refine ⟨_, rfl, _, _, _, [], p0 ++ ([]), [], hW', ?_, ?_, ?_, ?_, fun h => by cases h⟩
    · exact trodAll_mk1 (shut_bool Tryz.underlying4 true)
    · exact trodAll_cons_mk (Below.trod laidOut (by kernel_rfl) (of_decide_eq_true (by kernel_rfl)) h0k hb (fun x hx => hlt x (by simp [hx]))) (trodAll_mk0)
    · rfl
    · refine ⟨h3, h4, fun i hi => ?_⟩
      rw [h6 i hi]
      cases W.heap[i]? with
      | none => rfl
      | some o => cases o <;> first | exact ⟨rfl, rfl, rfl, fun _ _ => rfl⟩ | exact .inr ⟨rfl, rfl⟩ | rfl
end Go.Proofs.YtiphcdmjlkngfaaGreatDoor.Deeper

namespace Go.Proofs.YtiphcdmjlkngfaaGreatDoor.Deeper
open Go Go.Isea Go.ChangeShapes Go.WideShapes Go.ChangeAt Go.RowKit Go.Deep
set_option maxRecDepth 100000
set_option maxHeartbeats 4000000
theorem own : ownKnob Tryz.prog.godebug = none := by kernel_rfl
noncomputable abbrev wit (os : Os) : World := World.laidAll Tryz.prog os Rows.fnDeeperRow.laid
def witArgs : Array Value := #[.slice none 0 0]
theorem wit_met (os : Os) : laidMetH Tryz.prog Rows.fnDeeperRow.laid ((wit os).forCall (fun _ _ => 0) ⟨#[], witArgs, []⟩).memory :=
  laidMetH_of_parts (laidMet_laidAll (os := os) witArgs (by kernel_rfl) (by kernel_rfl)) (by kernel_rfl)
theorem lifted (os : Os) (started : os.Started) (H : Type) (enc : TypeId × Value → H) :
    ReturnsInHanded {} Tryz.checked os 8 .any (fun w args => (Rows.fnDeeperSpec.pre enc Tryz.prog Tryz.f8 [] false w args ∧ laidMetH Tryz.prog Rows.fnDeeperRow.laid w) ∧ sizedMet enc Tryz.prog Tryz.f8 (OpenSpec.ofChange Rows.fnDeeperSpec) false w args)
      (Rows.fnDeeperSpec.post enc Tryz.prog Tryz.f8 false true false false) := by
  refine returnsInHanded_of_change_and (C := Tryz.checked) (X := fun w _ => laidMetH Tryz.prog Rows.fnDeeperRow.laid w) (fun _ _ _ hh h => h.of_heap hh) own started (by kernel_rfl) Tryz.func8
    (ChangeSpec.witness_at (enc := enc) (C := Tryz.checked) (os := os) (X := fun w _ => laidMetH Tryz.prog Rows.fnDeeperRow.laid w) false (wit os) witArgs 8 (World.laidAll_os _ _ _) (by kernel_rfl) (by kernel_rfl) (by kernel_rfl) (by kernel_rfl) (by kernel_rfl) (wit_met os)) ?_
  intro W base args ds gs before hval0 hW _ _ _ _
  exact body H enc W base args ds gs before hval0 hW
end Go.Proofs.YtiphcdmjlkngfaaGreatDoor.Deeper
