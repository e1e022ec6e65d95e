/- The law End: its code returns true; its row and its card, which this claim proves. No condition is added. -/
import Derived.Test.YtnocdggngfiebaaGreatDoorXa
import Derived.Test.YtnocdggngfiebaaGreatDoorXd
import Derived.Test.YtnocdggngfiebaaGreatDoorMK
import Derived.Test.YtnocdggngfiebaaGreatDoorMj
import Derived.Test.YtnocdggngfiebaaGreatDoorMB
import Derived.Test.YtnocdggngfiebaaGreatDoorMZ
import Derived.Test.YtnocdggngfiebaaGreatDoorMJ
import Derived.Test.YtnocdggngfiebaaGreatDoorRows
import Derived.OpenShut
import Derived.Stop.Joined
import Derived.Lay
import Derived.LaidHandle
set_option linter.all false
namespace Go.Isea
open Go
theorem end_facts {w : Wld} {n : Need} (hw : w.Sm) (hy : (findD w false n).2 = []) : (findD w false n).1.length ≤ 1000000 ∧ tv n.t = true ∧ (endB w = true → depthD (findD w false n).1 < sizeT n.t) := by
  obtain ⟨D, h1, _, _, h4, _, _, h7⟩ := found0 (sp := false) (n := n) hw hy
  have e : (findD w false n).1 = D.text := h1
  rw [e]
  have hl := (dictOf_some h7).2.2
  unfold checkDict at h4
  rw [h7] at h4
  simp only at h4
  split at h4
  · rename_i hb
    rw [Bool.and_eq_true] at hb
    have hn := hb.2
    simp only [needOk, Bool.and_eq_true, decide_eq_true_eq] at hn
    obtain ⟨g1, g2⟩ := sizeT_pos hn.2
    refine ⟨by omega, hn.2, fun he => ?_⟩
    unfold depthD
    rw [h7]
    exact end_depth he (sizeT n.t).toNat D n (by omega) g1 h4
  · exact absurd h4 (by decide)
theorem grow_has {w : Wld} : ∀ (j k : Nat), (growingOf w)[j]? = some k → ∃ x, w.is[k]? = some x ∧ x.ns.length ≠ 0 := by
  intro j k h
  unfold growingOf at h
  split at h
  · have hm := List.mem_of_getElem? h
    unfold growL growTake at hm
    have hg := (List.mem_filter.1 hm).2
    unfold growAt at hg
    split at hg
    · rename_i x hx
      refine ⟨x, hx, fun e => ?_⟩
      rw [List.length_eq_zero_iff.1 e] at hg
      cases hg
    · cases hg
  · simp at h
theorem growingOf_len (w : Wld) : (growingOf w).length ≤ w.is.length := by
  unfold growingOf
  split
  · exact growTake_len w _
  · simp
theorem endB_eq (w : Wld) : endB w = (worldOk w && decide ((growingOf w).length = 0)) := by
  unfold endB growingOf
  cases worldOk w with
  | false => rfl
  | true => simp only [if_true, Bool.true_and]; cases growL w <;> simp
theorem grow_bad {w : Wld} (h : worldOk w = false) : growingOf w = [] := by unfold growingOf; rw [if_neg (by rw [h]; simp)]

end Go.Isea
namespace Go.Proofs.YtnocdggngfiebaaGreatDoor
open Go Go.Isea
set_option maxRecDepth 100000
set_option maxHeartbeats 16000000

theorem law_Ending (b m : L8) (h : AH) (_hb : b.length ≤ 9223372036854775807) (_hm : m.length ≤ 9223372036854775807) : Isea.Good Tryz.prog 7 [.sl (b.map byR), .sl (m.map byR)] h [] (.v (.bool true)) h := by
  by_cases hl : 1048576 < b.length
  · have hl' : ((1048576 : Int) < ((b.length : Nat) : Int)) = True := eq_true (by omega)
    refine good [] [(9, OT.o 0 (OT.o 1 (OT.o 2 (OT.o 3 (OT.o 4 (OT.o 5 (OT.o 6 (OT.o 8 (OT.o 9 (OT.o 7 (OT.o 10 (OT.o 11 (OT.o 12 OT.e)))))))))))))] Tryz.func7 rfl rfl Tryz.ntmps7 (by kernel_rfl) mixed (by kernel_rfl) ?_
    simp -dsimp only [go_sem, hl', List.length_map]
    exact fin_pure (by simp -dsimp only [go_sem]) (by simp -dsimp only [go_sem])
  · have hl' : ((1048576 : Int) < ((b.length : Nat) : Int)) = False := eq_false (by omega)
    by_cases hm : 1048576 < m.length
    · have hm' : ((1048576 : Int) < ((m.length : Nat) : Int)) = True := eq_true (by omega)
      refine good [] [(9, OT.o 0 (OT.o 1 (OT.o 2 (OT.o 3 (OT.o 4 (OT.o 5 (OT.o 6 (OT.o 8 (OT.o 9 (OT.o 7 (OT.o 10 (OT.o 11 (OT.o 12 OT.e)))))))))))))] Tryz.func7 rfl rfl Tryz.ntmps7 (by kernel_rfl) mixed (by kernel_rfl) ?_
      simp -dsimp only [go_sem, hl', hm', List.length_map]
      exact fin_pure (by simp -dsimp only [go_sem]) (by simp -dsimp only [go_sem])
    have hm' : ((1048576 : Int) < ((m.length : Nat) : Int)) = False := eq_false (by omega)
    obtain ⟨w, n, w1, w2, w3, w4, hD⟩ := s_DrawFindDict' b
    obtain ⟨w', u1, u2, u3, hE⟩ := s_DrawGrowingOf m
    have hw := smW_Sm w1
    have hw' := smW_Sm u1
    have hnn := smNd_iff.1 w4
    have hn : n.Sm := ⟨by omega, by omega⟩
    have hF := fun H => i_FindDict w n H hw hn
    have hS := fun H => s_FindDict w n H hw hn
    have hI := fun H => i_IsEnding w H hw
    have hJ := fun H => s_IsEnding w H hw
    have hG := fun H => i_GrowingOf w' H hw'
    have hK := fun H => s_GrowingOf w' H hw'
    have hI' := fun H => i_IsEnding w' H hw'
    have hgl := growingOf_len w'
    have hM := fun H => l_inSame' (growingOf w') H (by omega)
    have hgr := grow_has (w := w')
    have hZ := fun H => i_SizeOf n.t H hn.2
    have hfx := end_facts (w := w) (n := n) hw
    have hT := fun (H : AH) (h : (findD w false n).1.length ≤ 1000000) => i_DepthOfDict (findD w false n).1 H h
    have hnb := fun h : endB w = true => end_find h (sp := false) (n := n)
    have heq := endB_eq w'
    have hgb := grow_bad (w := w')
    generalize findD w false n = F at *
    obtain ⟨X, Y⟩ := F
    simp only at hF hS hfx hT hnb
    generalize endB w' = E' at *
    generalize growingOf w' = L at *
    generalize worldOk w' = v at *
    generalize endB w = E at *
    cases E with
    | false =>
      have hT := True.intro
      cases v with
      | false =>
        have hL := hgb rfl
        have hE1 : E' = false := by rw [heq]; rfl
        subst hE1
        refine good [] [(9, OT.o 0 (OT.o 1 (OT.o 2 (OT.o 3 (OT.o 4 (OT.o 5 (OT.o 6 (OT.o 8 (OT.o 9 (OT.o 7 (OT.o 10 (OT.o 11 (OT.o 12 OT.e)))))))))))))] Tryz.func7 rfl rfl Tryz.ntmps7 (by kernel_rfl) mixed (by kernel_rfl) ?_
        simp -dsimp only [go_sem, hl', hm', Wld.row, Need.row, List.length_map] at hD hE hF hS hI hJ hG hK hM hI' hZ hT ⊢
        refine call_pure (hD _) ?_
        simp -dsimp only [go_sem]
        refine call_pure (hF _) ?_
        simp -dsimp only [go_sem]
        refine call_pure (hS _) ?_
        simp -dsimp only [go_sem]
        refine call_pure (hI _) ?_
        simp -dsimp only [go_sem]
        refine call_pure (hJ _) ?_
        simp -dsimp only [go_sem]
        refine call_pure (hE _) ?_
        simp -dsimp only [go_sem]
        refine call_pure (hG _) ?_
        simp -dsimp only [go_sem]
        refine call_pure (hK _) ?_
        simp -dsimp only [go_sem]
        refine call_pure (hM _) ?_
        simp -dsimp only [go_sem]
        refine call_pure (hI' _) ?_
        simp -dsimp only [go_sem, List.length_map]
        refine loop_ruleH [] (fun (j : {j : Nat // j ≤ L.length}) H => ([(12, .ref [.sl (w'.cs.map Cls.row), .sl (w'.is.map Inst.row)] 0), (116, .sl (L.map iRow)), (117, .v (.int .i64 (L.length : Nat))), (118, .v (.int .i64 (j.1 : Nat)))], ⟨h.n, H.o⟩)) (fun j => L.length - j.1) ⟨0, Nat.zero_le _⟩ ?_ ?_
        · refine weak_objs [] (by simp -dsimp only [go_sem]) (by simp -dsimp only [go_sem]) (by simp -dsimp only [go_sem, List.length_map]) ?_ ?_ ?_
          · intro t h1 h2
            have a0 : ¬ t = h.n := by omega
            have a1 : ¬ t = h.n + 1 := by omega
            have a2 : ¬ t = h.n + 2 := by omega
            have a3 : ¬ t = h.n + 3 := by omega
            simp -dsimp only [go_sem, a0, a1, a2, a3]
          · intro x h1 h2; have h1 : x < h.n := h1; simp at h2 ⊢; omega
          · simp -dsimp only [go_sem]
        · rintro ⟨j, hj⟩
          have hj : j ≤ L.length := hj
          have j1 : j + 1 ≤ 9223372036854775807 := by omega
          by_cases hjl : j < L.length
          · obtain ⟨k, hk⟩ := get_some hjl
            have hjc : (((j : Nat) : Int) < ((L.length : Nat) : Int)) = True := eq_true (by omega)
            obtain ⟨x, hx, hx0⟩ := hgr j k hk
            have hkl : k < w'.is.length := (List.getElem?_eq_some_iff.1 hx).1
            have hx0' : (((x.ns.length : Nat) : Int) = 0) = False := eq_false (by omega)
            simp -dsimp only [go_sem, hjc, hjl, hk, iRow, hx, hkl, Inst.row, hx0', j1, List.length_map]
            refine round_to ⟨j + 1, hjl⟩ (by show L.length - (j + 1) < L.length - j; omega) ?_
            refine weak_objs [] (by simp -dsimp only [go_sem]) (by simp -dsimp only [go_sem]) (by simp -dsimp only [go_sem, List.length_map]) ?_ ?_ ?_
            · intro t h1 h2
              have a0 : ¬ t = h.n := by omega
              have a1 : ¬ t = h.n + 1 := by omega
              have a2 : ¬ t = h.n + 2 := by omega
              have a3 : ¬ t = h.n + 3 := by omega
              simp -dsimp only [go_sem, a0, a1, a2, a3]
            · intro x h1 h2; have h1 : x < h.n := h1; simp at h2 ⊢; omega
            · simp -dsimp only [go_sem]
          · have hjc : (((j : Nat) : Int) < ((L.length : Nat) : Int)) = False := eq_false (by omega)
            simp -dsimp only [go_sem, hjc]
            exact fin_pure (by simp -dsimp only [go_sem]) (by simp -dsimp only [go_sem])
      | true =>
        by_cases hl0 : L.length = 0
        · have hlz : (((L.length : Nat) : Int) = 0) = True := eq_true (by omega)
          have hE1 : E' = true := by rw [heq, hl0]; rfl
          subst hE1
          refine good [] [(9, OT.o 0 (OT.o 1 (OT.o 2 (OT.o 3 (OT.o 4 (OT.o 5 (OT.o 6 (OT.o 8 (OT.o 9 (OT.o 7 (OT.o 10 (OT.o 11 (OT.o 12 OT.e)))))))))))))] Tryz.func7 rfl rfl Tryz.ntmps7 (by kernel_rfl) mixed (by kernel_rfl) ?_
          simp -dsimp only [go_sem, hl', hm', Wld.row, Need.row, List.length_map] at hD hE hF hS hI hJ hG hK hM hI' hZ hT ⊢
          refine call_pure (hD _) ?_
          simp -dsimp only [go_sem]
          refine call_pure (hF _) ?_
          simp -dsimp only [go_sem]
          refine call_pure (hS _) ?_
          simp -dsimp only [go_sem]
          refine call_pure (hI _) ?_
          simp -dsimp only [go_sem]
          refine call_pure (hJ _) ?_
          simp -dsimp only [go_sem]
          refine call_pure (hE _) ?_
          simp -dsimp only [go_sem]
          refine call_pure (hG _) ?_
          simp -dsimp only [go_sem]
          refine call_pure (hK _) ?_
          simp -dsimp only [go_sem]
          refine call_pure (hM _) ?_
          simp -dsimp only [go_sem]
          refine call_pure (hI' _) ?_
          simp -dsimp only [go_sem, hlz, List.length_map]
          refine loop_ruleH [] (fun (j : {j : Nat // j ≤ L.length}) H => ([(12, .ref [.sl (w'.cs.map Cls.row), .sl (w'.is.map Inst.row)] 0), (116, .sl (L.map iRow)), (117, .v (.int .i64 (L.length : Nat))), (118, .v (.int .i64 (j.1 : Nat)))], ⟨h.n, H.o⟩)) (fun j => L.length - j.1) ⟨0, Nat.zero_le _⟩ ?_ ?_
          · refine weak_objs [] (by simp -dsimp only [go_sem]) (by simp -dsimp only [go_sem]) (by simp -dsimp only [go_sem, List.length_map]) ?_ ?_ ?_
            · intro t h1 h2
              have a0 : ¬ t = h.n := by omega
              have a1 : ¬ t = h.n + 1 := by omega
              have a2 : ¬ t = h.n + 2 := by omega
              have a3 : ¬ t = h.n + 3 := by omega
              simp -dsimp only [go_sem, a0, a1, a2, a3]
            · intro x h1 h2; have h1 : x < h.n := h1; simp at h2 ⊢; omega
            · simp -dsimp only [go_sem]
          · rintro ⟨j, hj⟩
            have hj : j ≤ L.length := hj
            have j1 : j + 1 ≤ 9223372036854775807 := by omega
            by_cases hjl : j < L.length
            · obtain ⟨k, hk⟩ := get_some hjl
              have hjc : (((j : Nat) : Int) < ((L.length : Nat) : Int)) = True := eq_true (by omega)
              obtain ⟨x, hx, hx0⟩ := hgr j k hk
              have hkl : k < w'.is.length := (List.getElem?_eq_some_iff.1 hx).1
              have hx0' : (((x.ns.length : Nat) : Int) = 0) = False := eq_false (by omega)
              simp -dsimp only [go_sem, hjc, hjl, hk, iRow, hx, hkl, Inst.row, hx0', j1, List.length_map]
              refine round_to ⟨j + 1, hjl⟩ (by show L.length - (j + 1) < L.length - j; omega) ?_
              refine weak_objs [] (by simp -dsimp only [go_sem]) (by simp -dsimp only [go_sem]) (by simp -dsimp only [go_sem, List.length_map]) ?_ ?_ ?_
              · intro t h1 h2
                have a0 : ¬ t = h.n := by omega
                have a1 : ¬ t = h.n + 1 := by omega
                have a2 : ¬ t = h.n + 2 := by omega
                have a3 : ¬ t = h.n + 3 := by omega
                simp -dsimp only [go_sem, a0, a1, a2, a3]
              · intro x h1 h2; have h1 : x < h.n := h1; simp at h2 ⊢; omega
              · simp -dsimp only [go_sem]
            · have hjc : (((j : Nat) : Int) < ((L.length : Nat) : Int)) = False := eq_false (by omega)
              simp -dsimp only [go_sem, hjc]
              exact fin_pure (by simp -dsimp only [go_sem]) (by simp -dsimp only [go_sem])
        · have hlz : (((L.length : Nat) : Int) = 0) = False := eq_false (by omega)
          have hE1 : E' = false := by rw [heq, decide_eq_false hl0]; rfl
          subst hE1
          refine good [] [(9, OT.o 0 (OT.o 1 (OT.o 2 (OT.o 3 (OT.o 4 (OT.o 5 (OT.o 6 (OT.o 8 (OT.o 9 (OT.o 7 (OT.o 10 (OT.o 11 (OT.o 12 OT.e)))))))))))))] Tryz.func7 rfl rfl Tryz.ntmps7 (by kernel_rfl) mixed (by kernel_rfl) ?_
          simp -dsimp only [go_sem, hl', hm', Wld.row, Need.row, List.length_map] at hD hE hF hS hI hJ hG hK hM hI' hZ hT ⊢
          refine call_pure (hD _) ?_
          simp -dsimp only [go_sem]
          refine call_pure (hF _) ?_
          simp -dsimp only [go_sem]
          refine call_pure (hS _) ?_
          simp -dsimp only [go_sem]
          refine call_pure (hI _) ?_
          simp -dsimp only [go_sem]
          refine call_pure (hJ _) ?_
          simp -dsimp only [go_sem]
          refine call_pure (hE _) ?_
          simp -dsimp only [go_sem]
          refine call_pure (hG _) ?_
          simp -dsimp only [go_sem]
          refine call_pure (hK _) ?_
          simp -dsimp only [go_sem]
          refine call_pure (hM _) ?_
          simp -dsimp only [go_sem]
          refine call_pure (hI' _) ?_
          simp -dsimp only [go_sem, hlz, List.length_map]
          refine loop_ruleH [] (fun (j : {j : Nat // j ≤ L.length}) H => ([(12, .ref [.sl (w'.cs.map Cls.row), .sl (w'.is.map Inst.row)] 0), (116, .sl (L.map iRow)), (117, .v (.int .i64 (L.length : Nat))), (118, .v (.int .i64 (j.1 : Nat)))], ⟨h.n, H.o⟩)) (fun j => L.length - j.1) ⟨0, Nat.zero_le _⟩ ?_ ?_
          · refine weak_objs [] (by simp -dsimp only [go_sem]) (by simp -dsimp only [go_sem]) (by simp -dsimp only [go_sem, List.length_map]) ?_ ?_ ?_
            · intro t h1 h2
              have a0 : ¬ t = h.n := by omega
              have a1 : ¬ t = h.n + 1 := by omega
              have a2 : ¬ t = h.n + 2 := by omega
              have a3 : ¬ t = h.n + 3 := by omega
              simp -dsimp only [go_sem, a0, a1, a2, a3]
            · intro x h1 h2; have h1 : x < h.n := h1; simp at h2 ⊢; omega
            · simp -dsimp only [go_sem]
          · rintro ⟨j, hj⟩
            have hj : j ≤ L.length := hj
            have j1 : j + 1 ≤ 9223372036854775807 := by omega
            by_cases hjl : j < L.length
            · obtain ⟨k, hk⟩ := get_some hjl
              have hjc : (((j : Nat) : Int) < ((L.length : Nat) : Int)) = True := eq_true (by omega)
              obtain ⟨x, hx, hx0⟩ := hgr j k hk
              have hkl : k < w'.is.length := (List.getElem?_eq_some_iff.1 hx).1
              have hx0' : (((x.ns.length : Nat) : Int) = 0) = False := eq_false (by omega)
              simp -dsimp only [go_sem, hjc, hjl, hk, iRow, hx, hkl, Inst.row, hx0', j1, List.length_map]
              refine round_to ⟨j + 1, hjl⟩ (by show L.length - (j + 1) < L.length - j; omega) ?_
              refine weak_objs [] (by simp -dsimp only [go_sem]) (by simp -dsimp only [go_sem]) (by simp -dsimp only [go_sem, List.length_map]) ?_ ?_ ?_
              · intro t h1 h2
                have a0 : ¬ t = h.n := by omega
                have a1 : ¬ t = h.n + 1 := by omega
                have a2 : ¬ t = h.n + 2 := by omega
                have a3 : ¬ t = h.n + 3 := by omega
                simp -dsimp only [go_sem, a0, a1, a2, a3]
              · intro x h1 h2; have h1 : x < h.n := h1; simp at h2 ⊢; omega
              · simp -dsimp only [go_sem]
            · have hjc : (((j : Nat) : Int) < ((L.length : Nat) : Int)) = False := eq_false (by omega)
              simp -dsimp only [go_sem, hjc]
              exact fin_pure (by simp -dsimp only [go_sem]) (by simp -dsimp only [go_sem])
    | true =>
      obtain ⟨hb1, hb2⟩ := hnb rfl
      by_cases hy : Y = []
      · obtain ⟨f1, f2, f3⟩ := hfx hy
        have hdp : (sizeT n.t ≤ depthD X) = False := eq_false (by have := f3 rfl; omega)
        have hT := fun H => hT H f1
        subst hy
        cases v with
        | false =>
          have hL := hgb rfl
          have hE1 : E' = false := by rw [heq]; rfl
          subst hE1
          refine good [] [(9, OT.o 0 (OT.o 1 (OT.o 2 (OT.o 3 (OT.o 4 (OT.o 5 (OT.o 6 (OT.o 8 (OT.o 9 (OT.o 7 (OT.o 10 (OT.o 11 (OT.o 12 OT.e)))))))))))))] Tryz.func7 rfl rfl Tryz.ntmps7 (by kernel_rfl) mixed (by kernel_rfl) ?_
          simp -dsimp only [go_sem, hl', hm', Wld.row, Need.row, List.length_map] at hD hE hF hS hI hJ hG hK hM hI' hZ hT ⊢
          refine call_pure (hD _) ?_
          simp -dsimp only [go_sem]
          refine call_pure (hF _) ?_
          simp -dsimp only [go_sem]
          refine call_pure (hS _) ?_
          simp -dsimp only [go_sem]
          refine call_pure (hI _) ?_
          simp -dsimp only [go_sem]
          refine call_pure (hJ _) ?_
          simp -dsimp only [go_sem]
          refine call_pure (hT _) ?_
          simp -dsimp only [go_sem]
          refine call_pure (hZ _) ?_
          simp -dsimp only [go_sem, hdp]
          refine call_pure (hE _) ?_
          simp -dsimp only [go_sem]
          refine call_pure (hG _) ?_
          simp -dsimp only [go_sem]
          refine call_pure (hK _) ?_
          simp -dsimp only [go_sem]
          refine call_pure (hM _) ?_
          simp -dsimp only [go_sem]
          refine call_pure (hI' _) ?_
          simp -dsimp only [go_sem, List.length_map]
          refine loop_ruleH [] (fun (j : {j : Nat // j ≤ L.length}) H => ([(12, .ref [.sl (w'.cs.map Cls.row), .sl (w'.is.map Inst.row)] 0), (116, .sl (L.map iRow)), (117, .v (.int .i64 (L.length : Nat))), (118, .v (.int .i64 (j.1 : Nat)))], ⟨h.n, H.o⟩)) (fun j => L.length - j.1) ⟨0, Nat.zero_le _⟩ ?_ ?_
          · refine weak_objs [] (by simp -dsimp only [go_sem]) (by simp -dsimp only [go_sem]) (by simp -dsimp only [go_sem, List.length_map]) ?_ ?_ ?_
            · intro t h1 h2
              have a0 : ¬ t = h.n := by omega
              have a1 : ¬ t = h.n + 1 := by omega
              have a2 : ¬ t = h.n + 2 := by omega
              have a3 : ¬ t = h.n + 3 := by omega
              simp -dsimp only [go_sem, a0, a1, a2, a3]
            · intro x h1 h2; have h1 : x < h.n := h1; simp at h2 ⊢; omega
            · simp -dsimp only [go_sem]
          · rintro ⟨j, hj⟩
            have hj : j ≤ L.length := hj
            have j1 : j + 1 ≤ 9223372036854775807 := by omega
            by_cases hjl : j < L.length
            · obtain ⟨k, hk⟩ := get_some hjl
              have hjc : (((j : Nat) : Int) < ((L.length : Nat) : Int)) = True := eq_true (by omega)
              obtain ⟨x, hx, hx0⟩ := hgr j k hk
              have hkl : k < w'.is.length := (List.getElem?_eq_some_iff.1 hx).1
              have hx0' : (((x.ns.length : Nat) : Int) = 0) = False := eq_false (by omega)
              simp -dsimp only [go_sem, hjc, hjl, hk, iRow, hx, hkl, Inst.row, hx0', j1, List.length_map]
              refine round_to ⟨j + 1, hjl⟩ (by show L.length - (j + 1) < L.length - j; omega) ?_
              refine weak_objs [] (by simp -dsimp only [go_sem]) (by simp -dsimp only [go_sem]) (by simp -dsimp only [go_sem, List.length_map]) ?_ ?_ ?_
              · intro t h1 h2
                have a0 : ¬ t = h.n := by omega
                have a1 : ¬ t = h.n + 1 := by omega
                have a2 : ¬ t = h.n + 2 := by omega
                have a3 : ¬ t = h.n + 3 := by omega
                simp -dsimp only [go_sem, a0, a1, a2, a3]
              · intro x h1 h2; have h1 : x < h.n := h1; simp at h2 ⊢; omega
              · simp -dsimp only [go_sem]
            · have hjc : (((j : Nat) : Int) < ((L.length : Nat) : Int)) = False := eq_false (by omega)
              simp -dsimp only [go_sem, hjc]
              exact fin_pure (by simp -dsimp only [go_sem]) (by simp -dsimp only [go_sem])
        | true =>
          by_cases hl0 : L.length = 0
          · have hlz : (((L.length : Nat) : Int) = 0) = True := eq_true (by omega)
            have hE1 : E' = true := by rw [heq, hl0]; rfl
            subst hE1
            refine good [] [(9, OT.o 0 (OT.o 1 (OT.o 2 (OT.o 3 (OT.o 4 (OT.o 5 (OT.o 6 (OT.o 8 (OT.o 9 (OT.o 7 (OT.o 10 (OT.o 11 (OT.o 12 OT.e)))))))))))))] Tryz.func7 rfl rfl Tryz.ntmps7 (by kernel_rfl) mixed (by kernel_rfl) ?_
            simp -dsimp only [go_sem, hl', hm', Wld.row, Need.row, List.length_map] at hD hE hF hS hI hJ hG hK hM hI' hZ hT ⊢
            refine call_pure (hD _) ?_
            simp -dsimp only [go_sem]
            refine call_pure (hF _) ?_
            simp -dsimp only [go_sem]
            refine call_pure (hS _) ?_
            simp -dsimp only [go_sem]
            refine call_pure (hI _) ?_
            simp -dsimp only [go_sem]
            refine call_pure (hJ _) ?_
            simp -dsimp only [go_sem]
            refine call_pure (hT _) ?_
            simp -dsimp only [go_sem]
            refine call_pure (hZ _) ?_
            simp -dsimp only [go_sem, hdp]
            refine call_pure (hE _) ?_
            simp -dsimp only [go_sem]
            refine call_pure (hG _) ?_
            simp -dsimp only [go_sem]
            refine call_pure (hK _) ?_
            simp -dsimp only [go_sem]
            refine call_pure (hM _) ?_
            simp -dsimp only [go_sem]
            refine call_pure (hI' _) ?_
            simp -dsimp only [go_sem, hlz, List.length_map]
            refine loop_ruleH [] (fun (j : {j : Nat // j ≤ L.length}) H => ([(12, .ref [.sl (w'.cs.map Cls.row), .sl (w'.is.map Inst.row)] 0), (116, .sl (L.map iRow)), (117, .v (.int .i64 (L.length : Nat))), (118, .v (.int .i64 (j.1 : Nat)))], ⟨h.n, H.o⟩)) (fun j => L.length - j.1) ⟨0, Nat.zero_le _⟩ ?_ ?_
            · refine weak_objs [] (by simp -dsimp only [go_sem]) (by simp -dsimp only [go_sem]) (by simp -dsimp only [go_sem, List.length_map]) ?_ ?_ ?_
              · intro t h1 h2
                have a0 : ¬ t = h.n := by omega
                have a1 : ¬ t = h.n + 1 := by omega
                have a2 : ¬ t = h.n + 2 := by omega
                have a3 : ¬ t = h.n + 3 := by omega
                simp -dsimp only [go_sem, a0, a1, a2, a3]
              · intro x h1 h2; have h1 : x < h.n := h1; simp at h2 ⊢; omega
              · simp -dsimp only [go_sem]
            · rintro ⟨j, hj⟩
              have hj : j ≤ L.length := hj
              have j1 : j + 1 ≤ 9223372036854775807 := by omega
              by_cases hjl : j < L.length
              · obtain ⟨k, hk⟩ := get_some hjl
                have hjc : (((j : Nat) : Int) < ((L.length : Nat) : Int)) = True := eq_true (by omega)
                obtain ⟨x, hx, hx0⟩ := hgr j k hk
                have hkl : k < w'.is.length := (List.getElem?_eq_some_iff.1 hx).1
                have hx0' : (((x.ns.length : Nat) : Int) = 0) = False := eq_false (by omega)
                simp -dsimp only [go_sem, hjc, hjl, hk, iRow, hx, hkl, Inst.row, hx0', j1, List.length_map]
                refine round_to ⟨j + 1, hjl⟩ (by show L.length - (j + 1) < L.length - j; omega) ?_
                refine weak_objs [] (by simp -dsimp only [go_sem]) (by simp -dsimp only [go_sem]) (by simp -dsimp only [go_sem, List.length_map]) ?_ ?_ ?_
                · intro t h1 h2
                  have a0 : ¬ t = h.n := by omega
                  have a1 : ¬ t = h.n + 1 := by omega
                  have a2 : ¬ t = h.n + 2 := by omega
                  have a3 : ¬ t = h.n + 3 := by omega
                  simp -dsimp only [go_sem, a0, a1, a2, a3]
                · intro x h1 h2; have h1 : x < h.n := h1; simp at h2 ⊢; omega
                · simp -dsimp only [go_sem]
              · have hjc : (((j : Nat) : Int) < ((L.length : Nat) : Int)) = False := eq_false (by omega)
                simp -dsimp only [go_sem, hjc]
                exact fin_pure (by simp -dsimp only [go_sem]) (by simp -dsimp only [go_sem])
          · have hlz : (((L.length : Nat) : Int) = 0) = False := eq_false (by omega)
            have hE1 : E' = false := by rw [heq, decide_eq_false hl0]; rfl
            subst hE1
            refine good [] [(9, OT.o 0 (OT.o 1 (OT.o 2 (OT.o 3 (OT.o 4 (OT.o 5 (OT.o 6 (OT.o 8 (OT.o 9 (OT.o 7 (OT.o 10 (OT.o 11 (OT.o 12 OT.e)))))))))))))] Tryz.func7 rfl rfl Tryz.ntmps7 (by kernel_rfl) mixed (by kernel_rfl) ?_
            simp -dsimp only [go_sem, hl', hm', Wld.row, Need.row, List.length_map] at hD hE hF hS hI hJ hG hK hM hI' hZ hT ⊢
            refine call_pure (hD _) ?_
            simp -dsimp only [go_sem]
            refine call_pure (hF _) ?_
            simp -dsimp only [go_sem]
            refine call_pure (hS _) ?_
            simp -dsimp only [go_sem]
            refine call_pure (hI _) ?_
            simp -dsimp only [go_sem]
            refine call_pure (hJ _) ?_
            simp -dsimp only [go_sem]
            refine call_pure (hT _) ?_
            simp -dsimp only [go_sem]
            refine call_pure (hZ _) ?_
            simp -dsimp only [go_sem, hdp]
            refine call_pure (hE _) ?_
            simp -dsimp only [go_sem]
            refine call_pure (hG _) ?_
            simp -dsimp only [go_sem]
            refine call_pure (hK _) ?_
            simp -dsimp only [go_sem]
            refine call_pure (hM _) ?_
            simp -dsimp only [go_sem]
            refine call_pure (hI' _) ?_
            simp -dsimp only [go_sem, hlz, List.length_map]
            refine loop_ruleH [] (fun (j : {j : Nat // j ≤ L.length}) H => ([(12, .ref [.sl (w'.cs.map Cls.row), .sl (w'.is.map Inst.row)] 0), (116, .sl (L.map iRow)), (117, .v (.int .i64 (L.length : Nat))), (118, .v (.int .i64 (j.1 : Nat)))], ⟨h.n, H.o⟩)) (fun j => L.length - j.1) ⟨0, Nat.zero_le _⟩ ?_ ?_
            · refine weak_objs [] (by simp -dsimp only [go_sem]) (by simp -dsimp only [go_sem]) (by simp -dsimp only [go_sem, List.length_map]) ?_ ?_ ?_
              · intro t h1 h2
                have a0 : ¬ t = h.n := by omega
                have a1 : ¬ t = h.n + 1 := by omega
                have a2 : ¬ t = h.n + 2 := by omega
                have a3 : ¬ t = h.n + 3 := by omega
                simp -dsimp only [go_sem, a0, a1, a2, a3]
              · intro x h1 h2; have h1 : x < h.n := h1; simp at h2 ⊢; omega
              · simp -dsimp only [go_sem]
            · rintro ⟨j, hj⟩
              have hj : j ≤ L.length := hj
              have j1 : j + 1 ≤ 9223372036854775807 := by omega
              by_cases hjl : j < L.length
              · obtain ⟨k, hk⟩ := get_some hjl
                have hjc : (((j : Nat) : Int) < ((L.length : Nat) : Int)) = True := eq_true (by omega)
                obtain ⟨x, hx, hx0⟩ := hgr j k hk
                have hkl : k < w'.is.length := (List.getElem?_eq_some_iff.1 hx).1
                have hx0' : (((x.ns.length : Nat) : Int) = 0) = False := eq_false (by omega)
                simp -dsimp only [go_sem, hjc, hjl, hk, iRow, hx, hkl, Inst.row, hx0', j1, List.length_map]
                refine round_to ⟨j + 1, hjl⟩ (by show L.length - (j + 1) < L.length - j; omega) ?_
                refine weak_objs [] (by simp -dsimp only [go_sem]) (by simp -dsimp only [go_sem]) (by simp -dsimp only [go_sem, List.length_map]) ?_ ?_ ?_
                · intro t h1 h2
                  have a0 : ¬ t = h.n := by omega
                  have a1 : ¬ t = h.n + 1 := by omega
                  have a2 : ¬ t = h.n + 2 := by omega
                  have a3 : ¬ t = h.n + 3 := by omega
                  simp -dsimp only [go_sem, a0, a1, a2, a3]
                · intro x h1 h2; have h1 : x < h.n := h1; simp at h2 ⊢; omega
                · simp -dsimp only [go_sem]
              · have hjc : (((j : Nat) : Int) < ((L.length : Nat) : Int)) = False := eq_false (by omega)
                simp -dsimp only [go_sem, hjc]
                exact fin_pure (by simp -dsimp only [go_sem]) (by simp -dsimp only [go_sem])
      · have hy' := eq_false hy
        have hb1' : (Y = [100, 101, 101, 112]) = False := eq_false hb1
        have hb2' : (Y = [98, 105, 103]) = False := eq_false hb2
        have hT := True.intro
        cases v with
        | false =>
          have hL := hgb rfl
          have hE1 : E' = false := by rw [heq]; rfl
          subst hE1
          refine good [] [(9, OT.o 0 (OT.o 1 (OT.o 2 (OT.o 3 (OT.o 4 (OT.o 5 (OT.o 6 (OT.o 8 (OT.o 9 (OT.o 7 (OT.o 10 (OT.o 11 (OT.o 12 OT.e)))))))))))))] Tryz.func7 rfl rfl Tryz.ntmps7 (by kernel_rfl) mixed (by kernel_rfl) ?_
          simp -dsimp only [go_sem, hl', hm', Wld.row, Need.row, List.length_map] at hD hE hF hS hI hJ hG hK hM hI' hZ hT ⊢
          refine call_pure (hD _) ?_
          simp -dsimp only [go_sem]
          refine call_pure (hF _) ?_
          simp -dsimp only [go_sem]
          refine call_pure (hS _) ?_
          simp -dsimp only [go_sem]
          refine call_pure (hI _) ?_
          simp -dsimp only [go_sem]
          refine call_pure (hJ _) ?_
          simp -dsimp only [go_sem, hy', hb1', hb2']
          refine call_pure (hE _) ?_
          simp -dsimp only [go_sem]
          refine call_pure (hG _) ?_
          simp -dsimp only [go_sem]
          refine call_pure (hK _) ?_
          simp -dsimp only [go_sem]
          refine call_pure (hM _) ?_
          simp -dsimp only [go_sem]
          refine call_pure (hI' _) ?_
          simp -dsimp only [go_sem, List.length_map]
          refine loop_ruleH [] (fun (j : {j : Nat // j ≤ L.length}) H => ([(12, .ref [.sl (w'.cs.map Cls.row), .sl (w'.is.map Inst.row)] 0), (116, .sl (L.map iRow)), (117, .v (.int .i64 (L.length : Nat))), (118, .v (.int .i64 (j.1 : Nat)))], ⟨h.n, H.o⟩)) (fun j => L.length - j.1) ⟨0, Nat.zero_le _⟩ ?_ ?_
          · refine weak_objs [] (by simp -dsimp only [go_sem]) (by simp -dsimp only [go_sem]) (by simp -dsimp only [go_sem, List.length_map]) ?_ ?_ ?_
            · intro t h1 h2
              have a0 : ¬ t = h.n := by omega
              have a1 : ¬ t = h.n + 1 := by omega
              have a2 : ¬ t = h.n + 2 := by omega
              have a3 : ¬ t = h.n + 3 := by omega
              simp -dsimp only [go_sem, a0, a1, a2, a3]
            · intro x h1 h2; have h1 : x < h.n := h1; simp at h2 ⊢; omega
            · simp -dsimp only [go_sem]
          · rintro ⟨j, hj⟩
            have hj : j ≤ L.length := hj
            have j1 : j + 1 ≤ 9223372036854775807 := by omega
            by_cases hjl : j < L.length
            · obtain ⟨k, hk⟩ := get_some hjl
              have hjc : (((j : Nat) : Int) < ((L.length : Nat) : Int)) = True := eq_true (by omega)
              obtain ⟨x, hx, hx0⟩ := hgr j k hk
              have hkl : k < w'.is.length := (List.getElem?_eq_some_iff.1 hx).1
              have hx0' : (((x.ns.length : Nat) : Int) = 0) = False := eq_false (by omega)
              simp -dsimp only [go_sem, hjc, hjl, hk, iRow, hx, hkl, Inst.row, hx0', j1, List.length_map]
              refine round_to ⟨j + 1, hjl⟩ (by show L.length - (j + 1) < L.length - j; omega) ?_
              refine weak_objs [] (by simp -dsimp only [go_sem]) (by simp -dsimp only [go_sem]) (by simp -dsimp only [go_sem, List.length_map]) ?_ ?_ ?_
              · intro t h1 h2
                have a0 : ¬ t = h.n := by omega
                have a1 : ¬ t = h.n + 1 := by omega
                have a2 : ¬ t = h.n + 2 := by omega
                have a3 : ¬ t = h.n + 3 := by omega
                simp -dsimp only [go_sem, a0, a1, a2, a3]
              · intro x h1 h2; have h1 : x < h.n := h1; simp at h2 ⊢; omega
              · simp -dsimp only [go_sem]
            · have hjc : (((j : Nat) : Int) < ((L.length : Nat) : Int)) = False := eq_false (by omega)
              simp -dsimp only [go_sem, hjc]
              exact fin_pure (by simp -dsimp only [go_sem]) (by simp -dsimp only [go_sem])
        | true =>
          by_cases hl0 : L.length = 0
          · have hlz : (((L.length : Nat) : Int) = 0) = True := eq_true (by omega)
            have hE1 : E' = true := by rw [heq, hl0]; rfl
            subst hE1
            refine good [] [(9, OT.o 0 (OT.o 1 (OT.o 2 (OT.o 3 (OT.o 4 (OT.o 5 (OT.o 6 (OT.o 8 (OT.o 9 (OT.o 7 (OT.o 10 (OT.o 11 (OT.o 12 OT.e)))))))))))))] Tryz.func7 rfl rfl Tryz.ntmps7 (by kernel_rfl) mixed (by kernel_rfl) ?_
            simp -dsimp only [go_sem, hl', hm', Wld.row, Need.row, List.length_map] at hD hE hF hS hI hJ hG hK hM hI' hZ hT ⊢
            refine call_pure (hD _) ?_
            simp -dsimp only [go_sem]
            refine call_pure (hF _) ?_
            simp -dsimp only [go_sem]
            refine call_pure (hS _) ?_
            simp -dsimp only [go_sem]
            refine call_pure (hI _) ?_
            simp -dsimp only [go_sem]
            refine call_pure (hJ _) ?_
            simp -dsimp only [go_sem, hy', hb1', hb2']
            refine call_pure (hE _) ?_
            simp -dsimp only [go_sem]
            refine call_pure (hG _) ?_
            simp -dsimp only [go_sem]
            refine call_pure (hK _) ?_
            simp -dsimp only [go_sem]
            refine call_pure (hM _) ?_
            simp -dsimp only [go_sem]
            refine call_pure (hI' _) ?_
            simp -dsimp only [go_sem, hlz, List.length_map]
            refine loop_ruleH [] (fun (j : {j : Nat // j ≤ L.length}) H => ([(12, .ref [.sl (w'.cs.map Cls.row), .sl (w'.is.map Inst.row)] 0), (116, .sl (L.map iRow)), (117, .v (.int .i64 (L.length : Nat))), (118, .v (.int .i64 (j.1 : Nat)))], ⟨h.n, H.o⟩)) (fun j => L.length - j.1) ⟨0, Nat.zero_le _⟩ ?_ ?_
            · refine weak_objs [] (by simp -dsimp only [go_sem]) (by simp -dsimp only [go_sem]) (by simp -dsimp only [go_sem, List.length_map]) ?_ ?_ ?_
              · intro t h1 h2
                have a0 : ¬ t = h.n := by omega
                have a1 : ¬ t = h.n + 1 := by omega
                have a2 : ¬ t = h.n + 2 := by omega
                have a3 : ¬ t = h.n + 3 := by omega
                simp -dsimp only [go_sem, a0, a1, a2, a3]
              · intro x h1 h2; have h1 : x < h.n := h1; simp at h2 ⊢; omega
              · simp -dsimp only [go_sem]
            · rintro ⟨j, hj⟩
              have hj : j ≤ L.length := hj
              have j1 : j + 1 ≤ 9223372036854775807 := by omega
              by_cases hjl : j < L.length
              · obtain ⟨k, hk⟩ := get_some hjl
                have hjc : (((j : Nat) : Int) < ((L.length : Nat) : Int)) = True := eq_true (by omega)
                obtain ⟨x, hx, hx0⟩ := hgr j k hk
                have hkl : k < w'.is.length := (List.getElem?_eq_some_iff.1 hx).1
                have hx0' : (((x.ns.length : Nat) : Int) = 0) = False := eq_false (by omega)
                simp -dsimp only [go_sem, hjc, hjl, hk, iRow, hx, hkl, Inst.row, hx0', j1, List.length_map]
                refine round_to ⟨j + 1, hjl⟩ (by show L.length - (j + 1) < L.length - j; omega) ?_
                refine weak_objs [] (by simp -dsimp only [go_sem]) (by simp -dsimp only [go_sem]) (by simp -dsimp only [go_sem, List.length_map]) ?_ ?_ ?_
                · intro t h1 h2
                  have a0 : ¬ t = h.n := by omega
                  have a1 : ¬ t = h.n + 1 := by omega
                  have a2 : ¬ t = h.n + 2 := by omega
                  have a3 : ¬ t = h.n + 3 := by omega
                  simp -dsimp only [go_sem, a0, a1, a2, a3]
                · intro x h1 h2; have h1 : x < h.n := h1; simp at h2 ⊢; omega
                · simp -dsimp only [go_sem]
              · have hjc : (((j : Nat) : Int) < ((L.length : Nat) : Int)) = False := eq_false (by omega)
                simp -dsimp only [go_sem, hjc]
                exact fin_pure (by simp -dsimp only [go_sem]) (by simp -dsimp only [go_sem])
          · have hlz : (((L.length : Nat) : Int) = 0) = False := eq_false (by omega)
            have hE1 : E' = false := by rw [heq, decide_eq_false hl0]; rfl
            subst hE1
            refine good [] [(9, OT.o 0 (OT.o 1 (OT.o 2 (OT.o 3 (OT.o 4 (OT.o 5 (OT.o 6 (OT.o 8 (OT.o 9 (OT.o 7 (OT.o 10 (OT.o 11 (OT.o 12 OT.e)))))))))))))] Tryz.func7 rfl rfl Tryz.ntmps7 (by kernel_rfl) mixed (by kernel_rfl) ?_
            simp -dsimp only [go_sem, hl', hm', Wld.row, Need.row, List.length_map] at hD hE hF hS hI hJ hG hK hM hI' hZ hT ⊢
            refine call_pure (hD _) ?_
            simp -dsimp only [go_sem]
            refine call_pure (hF _) ?_
            simp -dsimp only [go_sem]
            refine call_pure (hS _) ?_
            simp -dsimp only [go_sem]
            refine call_pure (hI _) ?_
            simp -dsimp only [go_sem]
            refine call_pure (hJ _) ?_
            simp -dsimp only [go_sem, hy', hb1', hb2']
            refine call_pure (hE _) ?_
            simp -dsimp only [go_sem]
            refine call_pure (hG _) ?_
            simp -dsimp only [go_sem]
            refine call_pure (hK _) ?_
            simp -dsimp only [go_sem]
            refine call_pure (hM _) ?_
            simp -dsimp only [go_sem]
            refine call_pure (hI' _) ?_
            simp -dsimp only [go_sem, hlz, List.length_map]
            refine loop_ruleH [] (fun (j : {j : Nat // j ≤ L.length}) H => ([(12, .ref [.sl (w'.cs.map Cls.row), .sl (w'.is.map Inst.row)] 0), (116, .sl (L.map iRow)), (117, .v (.int .i64 (L.length : Nat))), (118, .v (.int .i64 (j.1 : Nat)))], ⟨h.n, H.o⟩)) (fun j => L.length - j.1) ⟨0, Nat.zero_le _⟩ ?_ ?_
            · refine weak_objs [] (by simp -dsimp only [go_sem]) (by simp -dsimp only [go_sem]) (by simp -dsimp only [go_sem, List.length_map]) ?_ ?_ ?_
              · intro t h1 h2
                have a0 : ¬ t = h.n := by omega
                have a1 : ¬ t = h.n + 1 := by omega
                have a2 : ¬ t = h.n + 2 := by omega
                have a3 : ¬ t = h.n + 3 := by omega
                simp -dsimp only [go_sem, a0, a1, a2, a3]
              · intro x h1 h2; have h1 : x < h.n := h1; simp at h2 ⊢; omega
              · simp -dsimp only [go_sem]
            · rintro ⟨j, hj⟩
              have hj : j ≤ L.length := hj
              have j1 : j + 1 ≤ 9223372036854775807 := by omega
              by_cases hjl : j < L.length
              · obtain ⟨k, hk⟩ := get_some hjl
                have hjc : (((j : Nat) : Int) < ((L.length : Nat) : Int)) = True := eq_true (by omega)
                obtain ⟨x, hx, hx0⟩ := hgr j k hk
                have hkl : k < w'.is.length := (List.getElem?_eq_some_iff.1 hx).1
                have hx0' : (((x.ns.length : Nat) : Int) = 0) = False := eq_false (by omega)
                simp -dsimp only [go_sem, hjc, hjl, hk, iRow, hx, hkl, Inst.row, hx0', j1, List.length_map]
                refine round_to ⟨j + 1, hjl⟩ (by show L.length - (j + 1) < L.length - j; omega) ?_
                refine weak_objs [] (by simp -dsimp only [go_sem]) (by simp -dsimp only [go_sem]) (by simp -dsimp only [go_sem, List.length_map]) ?_ ?_ ?_
                · intro t h1 h2
                  have a0 : ¬ t = h.n := by omega
                  have a1 : ¬ t = h.n + 1 := by omega
                  have a2 : ¬ t = h.n + 2 := by omega
                  have a3 : ¬ t = h.n + 3 := by omega
                  simp -dsimp only [go_sem, a0, a1, a2, a3]
                · intro x h1 h2; have h1 : x < h.n := h1; simp at h2 ⊢; omega
                · simp -dsimp only [go_sem]
              · have hjc : (((j : Nat) : Int) < ((L.length : Nat) : Int)) = False := eq_false (by omega)
                simp -dsimp only [go_sem, hjc]
                exact fin_pure (by simp -dsimp only [go_sem]) (by simp -dsimp only [go_sem])
end Go.Proofs.YtnocdggngfiebaaGreatDoor

namespace Go.Proofs.YtnocdggngfiebaaGreatDoor.Ending
open Go Go.Isea Go.ChangeShapes Go.WideShapes Go.ChangeAt Go.RowKit Go.Deep
set_option maxRecDepth 100000
set_option maxHeartbeats 4000000
theorem contract (W : World) (args : Array Value) (b0 : L8) (b1 : L8) (bl0 : b0.length ≤ 9223372036854775807) (bl1 : b1.length ≤ 9223372036854775807)
    (hpin : ∀ (K : KM) (o : Nat → AObj), Pin K ⟨0, o⟩ W) (hr : ∀ (K : KM) (o : Nat → AObj), RepL K ⟨0, o⟩ W [.sl (b0.map byR), .sl (b1.map byR)] args) :
    Calls Tryz.prog 7 args W fun e W' => e = .returned (.bool true) ∧ W'.os = W.os ∧ W'.tape = W.tape ∧ W'.output = W.output ∧ W.heap.size ≤ W'.heap.size ∧ ∀ b, b < W.heap.size → W'.heap[b]? = W.heap[b]? := by
  have hg := law_Ending b0 b1 ⟨0, fun _ => default⟩ bl0 bl1
  refine (hg.2 (fun _ => undef) W args ⟨fun t b ht => absurd ht (Nat.not_lt_zero _), fun s t b hs => absurd hs (Nat.not_lt_zero _), fun t ht => absurd ht (Nat.not_lt_zero _), hpin _ _⟩ (hr _ _)).mono ?_
  rintro e W' ⟨K', v, rfl, _, hE, hv⟩
  have e1 : v = .bool true := raw_rep (x := .v (.bool true)) rfl hv
  subst e1
  exact ⟨rfl, hE.os, hE.tape, hE.output, hE.size, fun b hb => hE.same b hb fun t ht => by cases ht⟩
theorem laidOut : laidOutB Tryz.prog = true := by kernel_rfl
theorem body (H : Type) (enc : TypeId × Value → H) (W : World) (base : Nat) (args : Array Value) (ds gs : List (DataW H)) (before : List MemPlace)
    (hval : ∀ (j : Nat) t v, Tryz.f7.params[j]? = some t → args[j]? = some v → Value.okWide Tryz.prog W .any base t v)
    (hW : DataW.Whole enc Tryz.prog Tryz.f7.params.toList Rows.fnEndingSpec.vars false W args.toList ds gs before) (hlaid : laidMetH Tryz.prog Rows.fnEndingRow.laid W) :
    Calls Tryz.prog 7 args W fun e W' => ∃ v, e = .returned v ∧ Rows.fnEndingSpec.post enc Tryz.prog Tryz.f7 false true false false W args v W' := by
  have hW' := hW
  obtain ⟨p, q, hA0, hV, rfl, hfz, hnd⟩ := hW
  have hA : DataW.TrodAll enc Tryz.prog W 0 (fun _ => true) true Tryz.f7.params.toList args.toList ds p := hA0
  rw [Tryz.params7] at hA hval
  obtain ⟨v0, vs0, d0, ds0, p0, q0, hargs, rfl, rfl, h0, r0⟩ := trodAll_cons hA
  obtain ⟨v1, vs1, d1, ds1, p1, q1, rfl, rfl, rfl, h1, r1⟩ := trodAll_cons r0
  obtain ⟨rfl, rfl, rfl⟩ := trodAll_nil r1
  obtain rfl : args = #[v0, v1] := by cases args; simp_all
  obtain ⟨rfl, rfl⟩ := trodVars_none hV
  have o0 := hval 0 22 v0 rfl rfl
  unfold Value.okWide at o0
  rw [Tryz.underlying22] at o0
  have h0k := h0
  obtain ⟨f0, t0⟩ := h0
  have e0 : v0.cells.toList = [v0] := by
    cases v0 <;> first | rfl | (exfalso; simp [Cell.okWide, Cell.ok, Tryz.underlying22] at o0)
  rw [e0] at t0
  obtain ⟨b0, hb0, bl0⟩ := read_bytes t0
  have o1 := hval 1 22 v1 rfl rfl
  unfold Value.okWide at o1
  rw [Tryz.underlying22] at o1
  have h1k := h1
  obtain ⟨f1, t1⟩ := h1
  have e1 : v1.cells.toList = [v1] := by
    cases v1 <;> first | rfl | (exfalso; simp [Cell.okWide, Cell.ok, Tryz.underlying22] at o1)
  rw [e1] at t1
  obtain ⟨b1, hb1, bl1⟩ := read_bytes t1
  have aggR : ∀ (K : KM) (o : Nat → AObj) (r : List AV) (c : Array Value), RowR W r c.toList → Rep K ⟨0, o⟩ W (.agg r) (.agg c) := fun K o r c h => .agg (by simpa using h.1) fun i x y a b => h.2 K o i x y a (by simpa using b)
  refine (contract W _ b0 b1 bl0 bl1 (pin_laid (by kernel_rfl) (pin_in (by kernel_rfl)) hlaid) fun K o => ⟨rfl, fun i x y a b => ?_⟩).mono ?_
  · rcases i with _ | _ | i
    · simp at a b; subst a; subst b; exact hb0 K o
    · simp at a b; subst a; subst b; exact hb1 K o
    · simp at a
  · rintro e W' ⟨rfl, h3, h3', h4, h5, h6⟩
    have hb : Below W.heap.size W W' := ⟨h3, h3', h4, h5, h6⟩
    have hlt := hW'.lt
    refine ⟨_, rfl, _, _, _, [], p0 ++ (p1 ++ ([])), [], hW', ?_, ?_, ?_, ?_, fun h => by cases h⟩
    · exact trodAll_mk1 (shut_bool Tryz.underlying4 true)
    · exact trodAll_cons_mk (Below.trod laidOut (by kernel_rfl) (of_decide_eq_true (by kernel_rfl)) h0k hb (fun x hx => hlt x (by simp [hx]))) (trodAll_cons_mk (Below.trod laidOut (by kernel_rfl) (of_decide_eq_true (by kernel_rfl)) h1k hb (fun x hx => hlt x (by simp [hx]))) (trodAll_mk0))
    · rfl
    · refine ⟨h3, h4, fun i hi => ?_⟩
      rw [h6 i hi]
      cases W.heap[i]? with
      | none => rfl
      | some o => cases o <;> first | exact ⟨rfl, rfl, rfl, fun _ _ => rfl⟩ | exact .inr ⟨rfl, rfl⟩ | rfl
end Go.Proofs.YtnocdggngfiebaaGreatDoor.Ending

namespace Go.Proofs.YtnocdggngfiebaaGreatDoor.Ending
open Go Go.Isea Go.ChangeShapes Go.WideShapes Go.ChangeAt Go.RowKit Go.Deep
set_option maxRecDepth 100000
set_option maxHeartbeats 4000000
theorem own : ownKnob Tryz.prog.godebug = none := by kernel_rfl
noncomputable abbrev wit (os : Os) : World := World.laidAll Tryz.prog os Rows.fnEndingRow.laid
def witArgs : Array Value := #[.slice none 0 0, .slice none 0 0]
theorem wit_met (os : Os) : laidMetH Tryz.prog Rows.fnEndingRow.laid ((wit os).forCall (fun _ _ => 0) ⟨#[], witArgs, []⟩).memory :=
  laidMetH_of_parts (laidMet_laidAll (os := os) witArgs (by kernel_rfl) (by kernel_rfl)) (by kernel_rfl)
theorem lifted (os : Os) (started : os.Started) (H : Type) (enc : TypeId × Value → H) :
    ReturnsInHanded {} Tryz.checked os 7 .any (fun w args => (Rows.fnEndingSpec.pre enc Tryz.prog Tryz.f7 [] false w args ∧ laidMetH Tryz.prog Rows.fnEndingRow.laid w) ∧ sizedMet enc Tryz.prog Tryz.f7 (OpenSpec.ofChange Rows.fnEndingSpec) false w args)
      (Rows.fnEndingSpec.post enc Tryz.prog Tryz.f7 false true false false) := by
  refine returnsInHanded_of_change_and (C := Tryz.checked) (X := fun w _ => laidMetH Tryz.prog Rows.fnEndingRow.laid w) (fun _ _ _ hh h => h.of_heap hh) own started (by kernel_rfl) Tryz.func7
    (ChangeSpec.witness_at (enc := enc) (C := Tryz.checked) (os := os) (X := fun w _ => laidMetH Tryz.prog Rows.fnEndingRow.laid w) false (wit os) witArgs 8 (World.laidAll_os _ _ _) (by kernel_rfl) (by kernel_rfl) (by kernel_rfl) (by kernel_rfl) (by kernel_rfl) (wit_met os)) ?_
  intro W base args ds gs before hval0 hW _ _ hX _
  exact body H enc W base args ds gs before hval0 hW hX
end Go.Proofs.YtnocdggngfiebaaGreatDoor.Ending
