/- The law Lg0: its code returns true; its row and its card, which this claim proves. No condition is added. -/
import Derived.Test.YtiphcdmjlkngfaaGreatDoorMX
import Derived.Test.YtiphcdmjlkngfaaGreatDoorMW
import Derived.Test.YtiphcdmjlkngfaaGreatDoorMw
import Derived.Test.YtiphcdmjlkngfaaGreatDoorMJ
import Derived.Test.YtiphcdmjlkngfaaGreatDoorRows
import Derived.OpenShut
import Derived.Stop.Joined
import Derived.Lay
import Derived.LaidHandle
set_option linter.all false
namespace Go.Isea
open Go
theorem leastG_sub {w : Wld} : ∀ (k : Nat) (l : List Need), (leastG w k l).Sublist l
  | 0, l => List.Sublist.refl _
  | k + 1, l => by
    rw [leastG]
    cases h : l[k]? with
    | none => exact leastG_sub k l
    | some g =>
      simp only
      split
      · exact (leastG_sub k _).trans (List.eraseIdx_sublist l k)
      · exact leastG_sub k l
theorem leastGivens_sub (w : Wld) (gs : List Need) : ((leastGivens w gs).getD []).Sublist gs := by
  unfold leastGivens
  split
  · exact leastG_sub _ _
  · exact List.nil_sublist _
theorem sub_hit {a : Need} {l m : List Need} (h : (a :: l).Sublist (a :: m)) : l.Sublist m := by
  cases h with
  | cons _ h => exact (List.sublist_cons_self a l).trans h
  | cons_cons _ h => exact h
theorem sub_miss {a g : Need} {l m : List Need} (h : (a :: l).Sublist (g :: m)) (hne : ¬ a = g) : (a :: l).Sublist m := by
  cases h with
  | cons _ h => exact h
  | cons_cons _ h => exact absurd rfl hne
end Go.Isea
namespace Go.Proofs.YtiphcdmjlkngfaaGreatDoor
open Go Go.Isea
theorem parseNds_mem : ∀ {l : List L8} {r : List Need}, parseNds l = some r → ∀ n ∈ r, ∃ x ∈ l, n.c.length ≤ x.length ∧ n.t.length ≤ x.length
  | [], r, h, n, hn => by injection h with h; rw [← h] at hn; cases hn
  | x :: l, r, h, n, hn => by
    unfold parseNds at h
    split at h
    · rename_i m q h1 h2
      injection h with h
      rw [← h] at hn
      rcases List.mem_cons.1 hn with rfl | hn
      · exact ⟨x, List.mem_cons_self .., parseNd_len h1⟩
      · obtain ⟨y, hy, hz⟩ := parseNds_mem h2 n hn
        exact ⟨y, List.mem_cons_of_mem _ hy, hz⟩
    · cases h
theorem parseNs_sm' {s : L8} {r : List Need} (hs : s.length ≤ 700) (h : parseNs s = some r) : NsSm r := by
  unfold parseNs at h
  split at h
  · injection h with h; rw [← h]; exact ⟨by simp, fun n hn => by cases hn⟩
  · have h1 := parseNds_fmt h
    have h2 : r.length = (cutL s 38).length := by rw [← h1, List.length_map]
    have h3 := cutG_len 38 s []
    have e : cutL s 38 = cutG 38 [] s := rfl
    rw [e] at h2
    refine ⟨by omega, fun n hn => ?_⟩
    obtain ⟨x, hx, h4, h5⟩ := parseNds_mem h n hn
    have h6 := cutG_mem 38 s [] x hx
    simp only [List.length_nil] at h6
    omega
set_option maxRecDepth 100000
set_option maxHeartbeats 16000000
theorem law_LeastGivens (b0 : L8) (b1 : L8) (h : AH) (_hb0 : b0.length ≤ 9223372036854775807) (_hb1 : b1.length ≤ 9223372036854775807) : Isea.Good Tryz.prog 5 [.sl (b0.map byR), .sl (b1.map byR)] h [] (.v (.bool true)) h := by
  by_cases hl : 1048576 < b0.length
  · have hl' : ((1048576 : Int) < ((b0.length : Nat) : Int)) = True := eq_true (by omega)
    refine good [] [] Tryz.func5 rfl rfl Tryz.ntmps5 (by kernel_rfl) mixed (by kernel_rfl) ?_
    simp -dsimp only [go_sem, hl', List.length_map]
    exact fin_pure (by simp -dsimp only [go_sem]) (by simp -dsimp only [go_sem])
  by_cases hm : 1048576 < b1.length
  · have hl' : ((1048576 : Int) < ((b0.length : Nat) : Int)) = False := eq_false (by omega)
    have hm' : ((1048576 : Int) < ((b1.length : Nat) : Int)) = True := eq_true (by omega)
    refine good [] [] Tryz.func5 rfl rfl Tryz.ntmps5 (by kernel_rfl) mixed (by kernel_rfl) ?_
    simp -dsimp only [go_sem, hl', hm', List.length_map]
    exact fin_pure (by simp -dsimp only [go_sem]) (by simp -dsimp only [go_sem])
  have hl' : ((1048576 : Int) < ((b0.length : Nat) : Int)) = False := eq_false (by omega)
  have hm' : ((1048576 : Int) < ((b1.length : Nat) : Int)) = False := eq_false (by omega)
  obtain ⟨w, gs, w1, w2, w3, l1, l2, hD⟩ := s_DrawLeastGivens b0
  obtain ⟨X, hX, hDP⟩ := s_DrawParseNeeds b1
  obtain ⟨O, o1, o2, hDF⟩ := s_DrawFormatNeeds b1
  have hw := smW_Sm w1
  have hgs : ∀ g ∈ gs, g.Sm := fun g hg => ⟨by have := (l2 g hg).1; omega, by have := (l2 g hg).2; omega⟩
  have hI : ∀ H, Isea.Good Tryz.prog 29 [.agg w.row, .sl (gs.map Need.row)] H [] (.tup [.sl (((leastGivens w gs).getD []).map Need.row), .v (.bool (leastGivens w gs).isSome)]) H := fun H => (i_LeastGivens w gs H hw (by omega) hgs).fin (fin_pure (by simp -dsimp only [go_sem]) (by simp -dsimp only [go_sem, List.length_map]))
  have hS := fun H => s_LeastGivens w gs H hw (by omega) hgs
  have hsub := leastGivens_sub w gs
  have hPi := fun H => i_ParseNeeds X H (by omega)
  have hPs := fun H => s_ParseNeeds X H (by omega)
  have hFi := fun H => i_FormatNeeds O H ⟨by omega, fun n hn => by have := o2 n hn; omega⟩
  have hFs := fun H => s_FormatNeeds O H ⟨by omega, fun n hn => by have := o2 n hn; omega⟩
  have hN : (parseNs X).isSome = true → ∀ H, Isea.Good Tryz.prog 36 [.sl (((parseNs X).getD []).map Need.row)] H [] (str X) H := fun hs H => by
    obtain ⟨r, hr⟩ := Option.isSome_iff_exists.1 hs
    have hsm := parseNs_sm' hX hr
    have := i_FormatNeeds r H hsm
    rw [fmtNs_parse hr] at this
    rw [hr]
    exact this
  have hNl : ((parseNs X).getD []).length ≤ 1000000 := by
    rcases opt_cases (parseNs X) with e | ⟨r, e⟩
    · rw [e]; exact Nat.zero_le _
    · rw [e]
      have := (parseNs_sm' hX e).1
      show r.length ≤ _
      omega
  obtain ⟨L, hL⟩ : ∃ L, (leastGivens w gs).getD [] = L := ⟨_, rfl⟩
  obtain ⟨B, hB⟩ : ∃ B, (leastGivens w gs).isSome = B := ⟨_, rfl⟩
  obtain ⟨N, hNe⟩ : ∃ N, (parseNs X).getD [] = N := ⟨_, rfl⟩
  obtain ⟨F, hFe⟩ : ∃ F, (parseNs X).isSome = F := ⟨_, rfl⟩
  obtain ⟨Z, hZ⟩ : ∃ Z, fmtNs O = Z := ⟨_, rfl⟩
  rw [hL, hB] at hI hS
  rw [hL] at hsub
  rw [hNe, hFe] at hPi hPs hN
  rw [hNe] at hNl
  rw [hZ] at hFi hFs
  have hLl : L.length ≤ gs.length := hsub.length_le
  have hE1 := fun H => l_inNeeds L H (by omega)
  have hE2 := fun H => l_inNeeds N H hNl
  have hLle : (((L.length : Nat) : Int) ≤ ((gs.length : Nat) : Int)) = True := eq_true (by omega)
  clear hL hB hNe hFe hZ hgs o2 l2
  have main : ∀ (H0 : AH), True := fun _ => trivial
  rcases Bool.eq_false_or_eq_true F with hf | hf
  all_goals rcases Bool.eq_false_or_eq_true B with hb | hb
  all_goals
    refine good [] [] Tryz.func5 rfl rfl Tryz.ntmps5 (by kernel_rfl) mixed (by kernel_rfl) ?_
    simp -dsimp only [go_sem, hl', hm', hb, hf, Wld.row, List.length_map] at hD hI hS hPi hPs ⊢
    refine call_pure (hD _) ?_
    simp -dsimp only [go_sem]
    refine call_pure (hI _) ?_
    simp -dsimp only [go_sem]
    refine call_pure (hS _) ?_
    simp -dsimp only [go_sem]
    refine call_pure (hDP _) ?_
    simp -dsimp only [go_sem]
    refine call_pure (hPi _) ?_
    simp -dsimp only [go_sem]
    refine call_pure (hPs _) ?_
    simp -dsimp only [go_sem]
    refine call_pure (hDF _) ?_
    simp -dsimp only [go_sem]
    refine call_pure (hE1 _) ?_
    simp -dsimp only [go_sem]
    refine call_pure (hE2 _) ?_
    simp -dsimp only [go_sem]
  · refine call_pure (hN hf _) ?_
    simp -dsimp only [go_sem]
    refine call_pure (hFi _) ?_
    simp -dsimp only [go_sem]
    refine call_pure (hFs _) ?_
    simp -dsimp only [go_sem, List.length_map]
    refine loop_ruleH [] (fun (y : {y : Nat × Nat // y.1 ≤ gs.length ∧ y.2 ≤ L.length ∧ (L.drop y.2).Sublist (gs.drop y.1)}) H => ([(6, .sl (gs.map Need.row)), (7, .sl (L.map Need.row)), (17, .v (.int .i64 (y.1.2 : Nat))), (134, .sl (gs.map Need.row)), (135, .v (.int .i64 (gs.length : Nat))), (136, .v (.int .i64 (y.1.1 : Nat)))], ⟨h.n, H.o⟩)) (fun y => gs.length - y.1.1) ⟨(0, 0), Nat.zero_le _, Nat.zero_le _, hsub⟩ ?_ ?_
    · refine weak_objs [] (by simp -dsimp only [go_sem]) (by simp -dsimp only [go_sem]) (by simp -dsimp only [go_sem, List.length_map]) ?_ ?_ ?_
      · intro t h1 h2
        have a0 : ¬ t = h.n := by omega
        have a1 : ¬ t = h.n + 1 := by omega
        have a2 : ¬ t = h.n + 2 := by omega
        have a3 : ¬ t = h.n + 3 := by omega
        simp -dsimp only [go_sem, a0, a1, a2, a3]
      · intro x h1 h2; have h1 : x < h.n := h1; simp at h2 ⊢; omega
      · simp -dsimp only [go_sem]
    · rintro ⟨⟨j, k⟩, hj, hk, hsb⟩
      have hj : j ≤ gs.length := hj
      have hk : k ≤ L.length := hk
      have hsb : (L.drop k).Sublist (gs.drop j) := hsb
      have j1 : j + 1 ≤ 9223372036854775807 := by omega
      have k1 : k + 1 ≤ 9223372036854775807 := by omega
      by_cases hjl : j < gs.length
      · obtain ⟨g, hg⟩ := get_some hjl
        have hjc : (((j : Nat) : Int) < ((gs.length : Nat) : Int)) = True := eq_true (by omega)
        rw [drop_get hg] at hsb
        by_cases hkl : k < L.length
        · obtain ⟨a, ha⟩ := get_some hkl
          have hkc : (((k : Nat) : Int) < ((L.length : Nat) : Int)) = True := eq_true (by omega)
          rw [drop_get ha] at hsb
          by_cases hc : a.c = g.c
          · have hc1 : (a.c = g.c) = True := eq_true hc
            by_cases ht : a.t = g.t
            · have ht1 : (a.t = g.t) = True := eq_true ht
              have hag : a = g := by cases a; cases g; simp at hc ht; rw [hc, ht]
              subst hag
              simp -dsimp only [go_sem, hjc, hjl, hg, hkc, hkl, ha, Need.row, j1, k1, List.length_map]
              refine round_to ⟨(j + 1, k + 1), hjl, hkl, sub_hit hsb⟩ (by show gs.length - (j + 1) < gs.length - j; omega) ?_
              refine weak_objs [] (by simp -dsimp only [go_sem]) (by simp -dsimp only [go_sem]) (by simp -dsimp only [go_sem, List.length_map]) ?_ ?_ ?_
              · intro t h1 h2
                have a0 : ¬ t = h.n := by omega
                have a1 : ¬ t = h.n + 1 := by omega
                have a2 : ¬ t = h.n + 2 := by omega
                have a3 : ¬ t = h.n + 3 := by omega
                simp -dsimp only [go_sem, a0, a1, a2, a3]
              · intro x h1 h2; have h1 : x < h.n := h1; simp at h2 ⊢; omega
              · simp -dsimp only [go_sem]
            · have ht1 : (a.t = g.t) = False := eq_false ht
              simp -dsimp only [go_sem, hjc, hjl, hg, hkc, hkl, ha, hc1, ht1, Need.row, j1, List.length_map]
              refine round_to ⟨(j + 1, k), hjl, hk, by show (L.drop k).Sublist _; rw [drop_get ha]; exact sub_miss hsb fun e => ht (by rw [e])⟩ (by show gs.length - (j + 1) < gs.length - j; omega) ?_
              refine weak_objs [] (by simp -dsimp only [go_sem]) (by simp -dsimp only [go_sem]) (by simp -dsimp only [go_sem, List.length_map]) ?_ ?_ ?_
              · intro t h1 h2
                have a0 : ¬ t = h.n := by omega
                have a1 : ¬ t = h.n + 1 := by omega
                have a2 : ¬ t = h.n + 2 := by omega
                have a3 : ¬ t = h.n + 3 := by omega
                simp -dsimp only [go_sem, a0, a1, a2, a3]
              · intro x h1 h2; have h1 : x < h.n := h1; simp at h2 ⊢; omega
              · simp -dsimp only [go_sem]
          · have hct : (a.c = g.c ∧ a.t = g.t) = False := eq_false fun q => hc q.1
            simp -dsimp only [go_sem, hjc, hjl, hg, hkc, hkl, ha, hct, Need.row, j1, List.length_map]
            refine round_to ⟨(j + 1, k), hjl, hk, by show (L.drop k).Sublist _; rw [drop_get ha]; exact sub_miss hsb fun e => hc (by rw [e])⟩ (by show gs.length - (j + 1) < gs.length - j; omega) ?_
            refine weak_objs [] (by simp -dsimp only [go_sem]) (by simp -dsimp only [go_sem]) (by simp -dsimp only [go_sem, List.length_map]) ?_ ?_ ?_
            · intro t h1 h2
              have a0 : ¬ t = h.n := by omega
              have a1 : ¬ t = h.n + 1 := by omega
              have a2 : ¬ t = h.n + 2 := by omega
              have a3 : ¬ t = h.n + 3 := by omega
              simp -dsimp only [go_sem, a0, a1, a2, a3]
            · intro x h1 h2; have h1 : x < h.n := h1; simp at h2 ⊢; omega
            · simp -dsimp only [go_sem]
        · have hkc : (((k : Nat) : Int) < ((L.length : Nat) : Int)) = False := eq_false (by omega)
          simp -dsimp only [go_sem, hjc, hjl, hg, hkc, Need.row, j1, List.length_map]
          refine round_to ⟨(j + 1, k), hjl, hk, by show (L.drop k).Sublist _; rw [List.drop_of_length_le (by omega)]; exact List.nil_sublist _⟩ (by show gs.length - (j + 1) < gs.length - j; omega) ?_
          refine weak_objs [] (by simp -dsimp only [go_sem]) (by simp -dsimp only [go_sem]) (by simp -dsimp only [go_sem, List.length_map]) ?_ ?_ ?_
          · intro t h1 h2
            have a0 : ¬ t = h.n := by omega
            have a1 : ¬ t = h.n + 1 := by omega
            have a2 : ¬ t = h.n + 2 := by omega
            have a3 : ¬ t = h.n + 3 := by omega
            simp -dsimp only [go_sem, a0, a1, a2, a3]
          · intro x h1 h2; have h1 : x < h.n := h1; simp at h2 ⊢; omega
          · simp -dsimp only [go_sem]
      · have hjc : (((j : Nat) : Int) < ((gs.length : Nat) : Int)) = False := eq_false (by omega)
        rw [List.drop_of_length_le (l := gs) (by omega)] at hsb
        have hdl := hsb.length_le
        rw [List.length_drop, List.length_nil] at hdl
        have hke : (((k : Nat) : Int) = ((L.length : Nat) : Int)) = True := eq_true (by omega)
        simp -dsimp only [go_sem, hjc, hke, hLle, List.length_map]
        exact fin_pure (by simp -dsimp only [go_sem]) (by simp -dsimp only [go_sem])
  · refine call_pure (hN hf _) ?_
    simp -dsimp only [go_sem]
    refine call_pure (hFi _) ?_
    simp -dsimp only [go_sem]
    refine call_pure (hFs _) ?_
    simp -dsimp only [go_sem]
    refine call_pure (hE1 _) ?_
    simp -dsimp only [go_sem]
    refine call_pure (hE2 _) ?_
    simp -dsimp only [go_sem]
    refine call_pure (hN hf _) ?_
    simp -dsimp only [go_sem]
    refine call_pure (hFi _) ?_
    simp -dsimp only [go_sem]
    refine call_pure (hFs _) ?_
    simp -dsimp only [go_sem]
    exact fin_pure (by simp -dsimp only [go_sem]) (by simp -dsimp only [go_sem])
  · refine call_pure (hFi _) ?_
    simp -dsimp only [go_sem]
    refine call_pure (hFs _) ?_
    simp -dsimp only [go_sem, List.length_map]
    refine loop_ruleH [] (fun (y : {y : Nat × Nat // y.1 ≤ gs.length ∧ y.2 ≤ L.length ∧ (L.drop y.2).Sublist (gs.drop y.1)}) H => ([(6, .sl (gs.map Need.row)), (7, .sl (L.map Need.row)), (17, .v (.int .i64 (y.1.2 : Nat))), (134, .sl (gs.map Need.row)), (135, .v (.int .i64 (gs.length : Nat))), (136, .v (.int .i64 (y.1.1 : Nat)))], ⟨h.n, H.o⟩)) (fun y => gs.length - y.1.1) ⟨(0, 0), Nat.zero_le _, Nat.zero_le _, hsub⟩ ?_ ?_
    · refine weak_objs [] (by simp -dsimp only [go_sem]) (by simp -dsimp only [go_sem]) (by simp -dsimp only [go_sem, List.length_map]) ?_ ?_ ?_
      · intro t h1 h2
        have a0 : ¬ t = h.n := by omega
        have a1 : ¬ t = h.n + 1 := by omega
        have a2 : ¬ t = h.n + 2 := by omega
        have a3 : ¬ t = h.n + 3 := by omega
        simp -dsimp only [go_sem, a0, a1, a2, a3]
      · intro x h1 h2; have h1 : x < h.n := h1; simp at h2 ⊢; omega
      · simp -dsimp only [go_sem]
    · rintro ⟨⟨j, k⟩, hj, hk, hsb⟩
      have hj : j ≤ gs.length := hj
      have hk : k ≤ L.length := hk
      have hsb : (L.drop k).Sublist (gs.drop j) := hsb
      have j1 : j + 1 ≤ 9223372036854775807 := by omega
      have k1 : k + 1 ≤ 9223372036854775807 := by omega
      by_cases hjl : j < gs.length
      · obtain ⟨g, hg⟩ := get_some hjl
        have hjc : (((j : Nat) : Int) < ((gs.length : Nat) : Int)) = True := eq_true (by omega)
        rw [drop_get hg] at hsb
        by_cases hkl : k < L.length
        · obtain ⟨a, ha⟩ := get_some hkl
          have hkc : (((k : Nat) : Int) < ((L.length : Nat) : Int)) = True := eq_true (by omega)
          rw [drop_get ha] at hsb
          by_cases hc : a.c = g.c
          · have hc1 : (a.c = g.c) = True := eq_true hc
            by_cases ht : a.t = g.t
            · have ht1 : (a.t = g.t) = True := eq_true ht
              have hag : a = g := by cases a; cases g; simp at hc ht; rw [hc, ht]
              subst hag
              simp -dsimp only [go_sem, hjc, hjl, hg, hkc, hkl, ha, Need.row, j1, k1, List.length_map]
              refine round_to ⟨(j + 1, k + 1), hjl, hkl, sub_hit hsb⟩ (by show gs.length - (j + 1) < gs.length - j; omega) ?_
              refine weak_objs [] (by simp -dsimp only [go_sem]) (by simp -dsimp only [go_sem]) (by simp -dsimp only [go_sem, List.length_map]) ?_ ?_ ?_
              · intro t h1 h2
                have a0 : ¬ t = h.n := by omega
                have a1 : ¬ t = h.n + 1 := by omega
                have a2 : ¬ t = h.n + 2 := by omega
                have a3 : ¬ t = h.n + 3 := by omega
                simp -dsimp only [go_sem, a0, a1, a2, a3]
              · intro x h1 h2; have h1 : x < h.n := h1; simp at h2 ⊢; omega
              · simp -dsimp only [go_sem]
            · have ht1 : (a.t = g.t) = False := eq_false ht
              simp -dsimp only [go_sem, hjc, hjl, hg, hkc, hkl, ha, hc1, ht1, Need.row, j1, List.length_map]
              refine round_to ⟨(j + 1, k), hjl, hk, by show (L.drop k).Sublist _; rw [drop_get ha]; exact sub_miss hsb fun e => ht (by rw [e])⟩ (by show gs.length - (j + 1) < gs.length - j; omega) ?_
              refine weak_objs [] (by simp -dsimp only [go_sem]) (by simp -dsimp only [go_sem]) (by simp -dsimp only [go_sem, List.length_map]) ?_ ?_ ?_
              · intro t h1 h2
                have a0 : ¬ t = h.n := by omega
                have a1 : ¬ t = h.n + 1 := by omega
                have a2 : ¬ t = h.n + 2 := by omega
                have a3 : ¬ t = h.n + 3 := by omega
                simp -dsimp only [go_sem, a0, a1, a2, a3]
              · intro x h1 h2; have h1 : x < h.n := h1; simp at h2 ⊢; omega
              · simp -dsimp only [go_sem]
          · have hct : (a.c = g.c ∧ a.t = g.t) = False := eq_false fun q => hc q.1
            simp -dsimp only [go_sem, hjc, hjl, hg, hkc, hkl, ha, hct, Need.row, j1, List.length_map]
            refine round_to ⟨(j + 1, k), hjl, hk, by show (L.drop k).Sublist _; rw [drop_get ha]; exact sub_miss hsb fun e => hc (by rw [e])⟩ (by show gs.length - (j + 1) < gs.length - j; omega) ?_
            refine weak_objs [] (by simp -dsimp only [go_sem]) (by simp -dsimp only [go_sem]) (by simp -dsimp only [go_sem, List.length_map]) ?_ ?_ ?_
            · intro t h1 h2
              have a0 : ¬ t = h.n := by omega
              have a1 : ¬ t = h.n + 1 := by omega
              have a2 : ¬ t = h.n + 2 := by omega
              have a3 : ¬ t = h.n + 3 := by omega
              simp -dsimp only [go_sem, a0, a1, a2, a3]
            · intro x h1 h2; have h1 : x < h.n := h1; simp at h2 ⊢; omega
            · simp -dsimp only [go_sem]
        · have hkc : (((k : Nat) : Int) < ((L.length : Nat) : Int)) = False := eq_false (by omega)
          simp -dsimp only [go_sem, hjc, hjl, hg, hkc, Need.row, j1, List.length_map]
          refine round_to ⟨(j + 1, k), hjl, hk, by show (L.drop k).Sublist _; rw [List.drop_of_length_le (by omega)]; exact List.nil_sublist _⟩ (by show gs.length - (j + 1) < gs.length - j; omega) ?_
          refine weak_objs [] (by simp -dsimp only [go_sem]) (by simp -dsimp only [go_sem]) (by simp -dsimp only [go_sem, List.length_map]) ?_ ?_ ?_
          · intro t h1 h2
            have a0 : ¬ t = h.n := by omega
            have a1 : ¬ t = h.n + 1 := by omega
            have a2 : ¬ t = h.n + 2 := by omega
            have a3 : ¬ t = h.n + 3 := by omega
            simp -dsimp only [go_sem, a0, a1, a2, a3]
          · intro x h1 h2; have h1 : x < h.n := h1; simp at h2 ⊢; omega
          · simp -dsimp only [go_sem]
      · have hjc : (((j : Nat) : Int) < ((gs.length : Nat) : Int)) = False := eq_false (by omega)
        rw [List.drop_of_length_le (l := gs) (by omega)] at hsb
        have hdl := hsb.length_le
        rw [List.length_drop, List.length_nil] at hdl
        have hke : (((k : Nat) : Int) = ((L.length : Nat) : Int)) = True := eq_true (by omega)
        simp -dsimp only [go_sem, hjc, hke, hLle, List.length_map]
        exact fin_pure (by simp -dsimp only [go_sem]) (by simp -dsimp only [go_sem])
  · refine call_pure (hFi _) ?_
    simp -dsimp only [go_sem]
    refine call_pure (hFs _) ?_
    simp -dsimp only [go_sem]
    refine call_pure (hE1 _) ?_
    simp -dsimp only [go_sem]
    refine call_pure (hE2 _) ?_
    simp -dsimp only [go_sem]
    refine call_pure (hFi _) ?_
    simp -dsimp only [go_sem]
    refine call_pure (hFs _) ?_
    simp -dsimp only [go_sem]
    exact fin_pure (by simp -dsimp only [go_sem]) (by simp -dsimp only [go_sem])
end Go.Proofs.YtiphcdmjlkngfaaGreatDoor

namespace Go.Proofs.YtiphcdmjlkngfaaGreatDoor.LeastGivens
open Go Go.Isea Go.ChangeShapes Go.WideShapes Go.ChangeAt Go.RowKit Go.Deep
set_option maxRecDepth 100000
set_option maxHeartbeats 4000000
theorem contract (W : World) (args : Array Value) (b0 : L8) (b1 : L8) (bl0 : b0.length ≤ 9223372036854775807) (bl1 : b1.length ≤ 9223372036854775807)
    (hr : ∀ (K : KM) (o : Nat → AObj), RepL K ⟨0, o⟩ W [.sl (b0.map byR), .sl (b1.map byR)] args) :
    Calls Tryz.prog 5 args W fun e W' => e = .returned (.bool true) ∧ W'.os = W.os ∧ W'.tape = W.tape ∧ W'.output = W.output ∧ W.heap.size ≤ W'.heap.size ∧ ∀ b, b < W.heap.size → W'.heap[b]? = W.heap[b]? := by
  have hg := law_LeastGivens b0 b1 ⟨0, fun _ => default⟩ bl0 bl1
  refine (hg.2 (fun _ => undef) W args ⟨fun t b ht => absurd ht (Nat.not_lt_zero _), fun s t b hs => absurd hs (Nat.not_lt_zero _), fun t ht => absurd ht (Nat.not_lt_zero _)⟩ (hr _ _)).mono ?_
  rintro e W' ⟨K', v, rfl, _, hE, hv⟩
  have e1 : v = .bool true := raw_rep (x := .v (.bool true)) rfl hv
  subst e1
  exact ⟨rfl, hE.os, hE.tape, hE.output, hE.size, fun b hb => hE.same b hb fun t ht => by cases ht⟩
theorem laidOut : laidOutB Tryz.prog = true := by kernel_rfl
theorem body (H : Type) (enc : TypeId × Value → H) (W : World) (base : Nat) (args : Array Value) (ds gs : List (DataW H)) (before : List MemPlace)
    (hval : ∀ (j : Nat) t v, Tryz.f5.params[j]? = some t → args[j]? = some v → Value.okWide Tryz.prog W .any base t v)
    (hW : DataW.Whole enc Tryz.prog Tryz.f5.params.toList Rows.fnLeastGivensSpec.vars false W args.toList ds gs before) :
    Calls Tryz.prog 5 args W fun e W' => ∃ v, e = .returned v ∧ Rows.fnLeastGivensSpec.post enc Tryz.prog Tryz.f5 false true false false W args v W' := by
  have hW' := hW
  obtain ⟨p, q, hA0, hV, rfl, hfz, hnd⟩ := hW
  have hA : DataW.TrodAll enc Tryz.prog W 0 (fun _ => true) true Tryz.f5.params.toList args.toList ds p := hA0
  rw [Tryz.params5] at hA hval
  obtain ⟨v0, vs0, d0, ds0, p0, q0, hargs, rfl, rfl, h0, r0⟩ := trodAll_cons hA
  obtain ⟨v1, vs1, d1, ds1, p1, q1, rfl, rfl, rfl, h1, r1⟩ := trodAll_cons r0
  obtain ⟨rfl, rfl, rfl⟩ := trodAll_nil r1
  obtain rfl : args = #[v0, v1] := by cases args; simp_all
  obtain ⟨rfl, rfl⟩ := trodVars_none hV
  have o0 := hval 0 22 v0 rfl rfl
  unfold Value.okWide at o0
  rw [Tryz.underlying22] at o0
  have h0k := h0
  obtain ⟨f0, t0⟩ := h0
  have e0 : v0.cells.toList = [v0] := by
    cases v0 <;> first | rfl | (exfalso; simp [Cell.okWide, Cell.ok, Tryz.underlying22] at o0)
  rw [e0] at t0
  obtain ⟨b0, hb0, bl0⟩ := read_bytes t0
  have o1 := hval 1 22 v1 rfl rfl
  unfold Value.okWide at o1
  rw [Tryz.underlying22] at o1
  have h1k := h1
  obtain ⟨f1, t1⟩ := h1
  have e1 : v1.cells.toList = [v1] := by
    cases v1 <;> first | rfl | (exfalso; simp [Cell.okWide, Cell.ok, Tryz.underlying22] at o1)
  rw [e1] at t1
  obtain ⟨b1, hb1, bl1⟩ := read_bytes t1
  have aggR : ∀ (K : KM) (o : Nat → AObj) (r : List AV) (c : Array Value), RowR W r c.toList → Rep K ⟨0, o⟩ W (.agg r) (.agg c) := fun K o r c h => .agg (by simpa using h.1) fun i x y a b => h.2 K o i x y a (by simpa using b)
  refine (contract W _ b0 b1 bl0 bl1 fun K o => ⟨rfl, fun i x y a b => ?_⟩).mono ?_
  · rcases i with _ | _ | i
    · simp at a b; subst a; subst b; exact hb0 K o
    · simp at a b; subst a; subst b; exact hb1 K o
    · simp at a
  · rintro e W' ⟨rfl, h3, h3', h4, h5, h6⟩
    have hb : Below W.heap.size W W' := ⟨h3, h3', h4, h5, h6⟩
    have hlt := hW'.lt
    refine ⟨_, rfl, _, _, _, [], p0 ++ (p1 ++ ([])), [], hW', ?_, ?_, ?_, ?_, fun h => by cases h⟩
    · exact trodAll_mk1 (shut_bool Tryz.underlying4 true)
    · exact trodAll_cons_mk (Below.trod laidOut (by kernel_rfl) (of_decide_eq_true (by kernel_rfl)) h0k hb (fun x hx => hlt x (by simp [hx]))) (trodAll_cons_mk (Below.trod laidOut (by kernel_rfl) (of_decide_eq_true (by kernel_rfl)) h1k hb (fun x hx => hlt x (by simp [hx]))) (trodAll_mk0))
    · rfl
    · refine ⟨h3, h4, fun i hi => ?_⟩
      rw [h6 i hi]
      cases W.heap[i]? with
      | none => rfl
      | some o => cases o <;> first | exact ⟨rfl, rfl, rfl, fun _ _ => rfl⟩ | exact .inr ⟨rfl, rfl⟩ | rfl
end Go.Proofs.YtiphcdmjlkngfaaGreatDoor.LeastGivens

namespace Go.Proofs.YtiphcdmjlkngfaaGreatDoor.LeastGivens
open Go Go.Isea Go.ChangeShapes Go.WideShapes Go.ChangeAt Go.RowKit Go.Deep
set_option maxRecDepth 100000
set_option maxHeartbeats 4000000
theorem own : ownKnob Tryz.prog.godebug = none := by kernel_rfl
noncomputable abbrev wit (os : Os) : World := World.laidAll Tryz.prog os Rows.fnLeastGivensRow.laid
def witArgs : Array Value := #[.slice none 0 0, .slice none 0 0]
theorem wit_met (os : Os) : laidMetH Tryz.prog Rows.fnLeastGivensRow.laid ((wit os).forCall (fun _ _ => 0) ⟨#[], witArgs, []⟩).memory :=
  laidMetH_of_parts (laidMet_laidAll (os := os) witArgs (by kernel_rfl) (by kernel_rfl)) (by kernel_rfl)
theorem lifted (os : Os) (started : os.Started) (H : Type) (enc : TypeId × Value → H) :
    ReturnsInHanded {} Tryz.checked os 5 .any (fun w args => (Rows.fnLeastGivensSpec.pre enc Tryz.prog Tryz.f5 [] false w args ∧ laidMetH Tryz.prog Rows.fnLeastGivensRow.laid w) ∧ sizedMet enc Tryz.prog Tryz.f5 (OpenSpec.ofChange Rows.fnLeastGivensSpec) false w args)
      (Rows.fnLeastGivensSpec.post enc Tryz.prog Tryz.f5 false true false false) := by
  refine returnsInHanded_of_change_and (C := Tryz.checked) (X := fun w _ => laidMetH Tryz.prog Rows.fnLeastGivensRow.laid w) (fun _ _ _ hh h => h.of_heap hh) own started (by kernel_rfl) Tryz.func5
    (ChangeSpec.witness_at (enc := enc) (C := Tryz.checked) (os := os) (X := fun w _ => laidMetH Tryz.prog Rows.fnLeastGivensRow.laid w) false (wit os) witArgs 8 (World.laidAll_os _ _ _) (by kernel_rfl) (by kernel_rfl) (by kernel_rfl) (by kernel_rfl) (by kernel_rfl) (wit_met os)) ?_
  intro W base args ds gs before hval0 hW _ _ _ _
  exact body H enc W base args ds gs before hval0 hW
end Go.Proofs.YtiphcdmjlkngfaaGreatDoor.LeastGivens
