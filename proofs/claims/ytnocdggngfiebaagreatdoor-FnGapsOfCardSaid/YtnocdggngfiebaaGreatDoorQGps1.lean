/- The law Gps: its code returns true; its row and its card, which this claim proves. No condition is added. -/
import Derived.Test.YtnocdggngfiebaaGreatDoorXa
import Derived.Test.YtnocdggngfiebaaGreatDoorXe
import Derived.Test.YtnocdggngfiebaaGreatDoorMv
import Derived.Test.YtnocdggngfiebaaGreatDoorXc
import Derived.Test.YtnocdggngfiebaaGreatDoorMj
import Derived.Test.YtnocdggngfiebaaGreatDoorMJ
import Derived.Test.YtnocdggngfiebaaGreatDoorRows
import Derived.OpenShut
import Derived.Stop.Joined
import Derived.Lay
import Derived.LaidHandle
set_option linter.all false
namespace Go.Isea
open Go
theorem gaps_end {w : Wld} (h : worldOk w = true) : gapsOf w = gapsTo w w.is.length := by unfold gapsOf; rw [if_pos h]
theorem gaps_bad {w : Wld} (h : worldOk w = false) : gapsOf w = [] := by unfold gapsOf; rw [if_neg (by rw [h]; simp)]
theorem gapsIn_end {w : Wld} {k : Nat} {x : Inst} (hx : w.is[k]? = some x) {j : Nat} (hj : (supersOf w x.c).length ≤ j) : gapsIn w k (((supersOf w x.c).take j).filter (gapP w x)) = gapsTo w (k + 1) := by
  rw [List.take_of_length_le hj, ← gapL_eq]
  exact (gapsTo_succ hx).symm
theorem gapsIn_next {w : Wld} {k : Nat} {x : Inst} {j : Nat} {d : UInt8} (hd : (supersOf w x.c)[j]? = some d) : (gapsIn w k (((supersOf w x.c).take (j + 1)).filter (gapP w x))).length = (gapsIn w k (((supersOf w x.c).take j).filter (gapP w x))).length + (if gapP w x d = true then 1 else 0) := by
  rw [filter_next hd]
  split <;> simp [gapsIn] <;> omega
theorem gapsIn_0 (w : Wld) (k : Nat) (x : Inst) : gapsIn w k (((supersOf w x.c).take 0).filter (gapP w x)) = gapsTo w k := by simp [gapsIn]

end Go.Isea
namespace Go.Proofs.YtnocdggngfiebaaGreatDoor
open Go Go.Isea
set_option maxRecDepth 100000
set_option maxHeartbeats 16000000

theorem law_GapsOf (b m : L8) (h : AH) (_hb : b.length ≤ 9223372036854775807) (_hm : m.length ≤ 9223372036854775807) : Isea.Good Tryz.prog 5 [.sl (b.map byR), .sl (m.map byR)] h [] (.v (.bool true)) h := by
  by_cases hl : 1048576 < b.length
  · have hl' : ((1048576 : Int) < ((b.length : Nat) : Int)) = True := eq_true (by omega)
    refine good [] [(6, OT.o 0 (OT.o 1 (OT.o 2 (OT.o 3 (OT.o 4 (OT.o 5 (OT.o 6 (OT.o 7 (OT.o 8 (OT.o 9 (OT.o 10 (OT.o 12 (OT.o 11 (OT.o 13 (OT.o 14 (OT.o 15 (OT.o 16 (OT.o 17 (OT.o 18 (OT.o 19 (OT.o 20 (OT.o 21 (OT.o 23 (OT.o 22 (OT.o 24 (OT.o 25 (OT.o 26 (OT.o 27 (OT.o 28 (OT.o 29 (OT.o 30 OT.e))))))))))))))))))))))))))))))), (7, OT.o 0 (OT.o 1 (OT.o 2 (OT.o 3 (OT.o 4 (OT.o 5 (OT.o 6 (OT.o 7 (OT.o 8 (OT.o 9 (OT.o 11 (OT.o 10 (OT.o 12 (OT.o 13 (OT.o 14 (OT.o 15 (OT.o 16 (OT.o 17 (OT.o 18 (OT.o 19 (OT.o 20 (OT.o 22 (OT.o 21 (OT.o 23 (OT.o 24 (OT.o 25 (OT.o 26 OT.e)))))))))))))))))))))))))))] Tryz.func5 rfl rfl Tryz.ntmps5 (by kernel_rfl) mixed (by kernel_rfl) ?_
    simp -dsimp only [go_sem, hl', List.length_map]
    exact fin_pure (by simp -dsimp only [go_sem]) (by simp -dsimp only [go_sem])
  · have hl' : ((1048576 : Int) < ((b.length : Nat) : Int)) = False := eq_false (by omega)
    by_cases hm : 1048576 < m.length
    · have hm' : ((1048576 : Int) < ((m.length : Nat) : Int)) = True := eq_true (by omega)
      refine good [] [(6, OT.o 0 (OT.o 1 (OT.o 2 (OT.o 3 (OT.o 4 (OT.o 5 (OT.o 6 (OT.o 7 (OT.o 8 (OT.o 9 (OT.o 10 (OT.o 12 (OT.o 11 (OT.o 13 (OT.o 14 (OT.o 15 (OT.o 16 (OT.o 17 (OT.o 18 (OT.o 19 (OT.o 20 (OT.o 21 (OT.o 23 (OT.o 22 (OT.o 24 (OT.o 25 (OT.o 26 (OT.o 27 (OT.o 28 (OT.o 29 (OT.o 30 OT.e))))))))))))))))))))))))))))))), (7, OT.o 0 (OT.o 1 (OT.o 2 (OT.o 3 (OT.o 4 (OT.o 5 (OT.o 6 (OT.o 7 (OT.o 8 (OT.o 9 (OT.o 11 (OT.o 10 (OT.o 12 (OT.o 13 (OT.o 14 (OT.o 15 (OT.o 16 (OT.o 17 (OT.o 18 (OT.o 19 (OT.o 20 (OT.o 22 (OT.o 21 (OT.o 23 (OT.o 24 (OT.o 25 (OT.o 26 OT.e)))))))))))))))))))))))))))] Tryz.func5 rfl rfl Tryz.ntmps5 (by kernel_rfl) mixed (by kernel_rfl) ?_
      simp -dsimp only [go_sem, hl', hm', List.length_map]
      exact fin_pure (by simp -dsimp only [go_sem]) (by simp -dsimp only [go_sem])
    have hm' : ((1048576 : Int) < ((m.length : Nat) : Int)) = False := eq_false (by omega)
    obtain ⟨w, w1, w2, w3, hD⟩ := s_DrawGapsOf b
    obtain ⟨Z, z1, z2, hE⟩ := s_DrawFormatGaps m
    have hw := smW_Sm w1
    have hG := fun H => i_GapsOfF w H hw
    have hK := fun H => s_GapsOf w H hw
    have hI := fun H => i_IsClosedAbove w H hw
    have hJ := fun H => s_IsClosedAbove w H hw
    have hZ1 := fun H => i_FormatGaps Z H z2 (by omega)
    have hZ2 := fun H => s_FormatGaps Z H z2 (by omega)
    cases hok : worldOk w with
    | false =>
      have hL := gaps_bad hok
      have hM := fun H => l_inGaps (gapsOf w) H (by rw [hL]; simp)
      rw [hok] at hG hK hI hJ
      rw [hL] at hG hK hI hJ hM
      refine good [] [(6, OT.o 0 (OT.o 1 (OT.o 2 (OT.o 3 (OT.o 4 (OT.o 5 (OT.o 6 (OT.o 7 (OT.o 8 (OT.o 9 (OT.o 10 (OT.o 12 (OT.o 11 (OT.o 13 (OT.o 14 (OT.o 15 (OT.o 16 (OT.o 17 (OT.o 18 (OT.o 19 (OT.o 20 (OT.o 21 (OT.o 23 (OT.o 22 (OT.o 24 (OT.o 25 (OT.o 26 (OT.o 27 (OT.o 28 (OT.o 29 (OT.o 30 OT.e))))))))))))))))))))))))))))))), (7, OT.o 0 (OT.o 1 (OT.o 2 (OT.o 3 (OT.o 4 (OT.o 5 (OT.o 6 (OT.o 7 (OT.o 8 (OT.o 9 (OT.o 11 (OT.o 10 (OT.o 12 (OT.o 13 (OT.o 14 (OT.o 15 (OT.o 16 (OT.o 17 (OT.o 18 (OT.o 19 (OT.o 20 (OT.o 22 (OT.o 21 (OT.o 23 (OT.o 24 (OT.o 25 (OT.o 26 OT.e)))))))))))))))))))))))))))] Tryz.func5 rfl rfl Tryz.ntmps5 (by kernel_rfl) mixed (by kernel_rfl) ?_
      simp -dsimp only [go_sem, hl', hm', Wld.row, List.length_nil, List.map_nil] at hD hE hG hK hI hJ hM ⊢
      refine call_pure (hD _) ?_
      simp -dsimp only [go_sem]
      refine call_pure (hG _) ?_
      simp -dsimp only [go_sem]
      refine call_pure (hK _) ?_
      simp -dsimp only [go_sem]
      refine call_pure (hM _) ?_
      simp -dsimp only [go_sem]
      refine call_pure (hI _) ?_
      simp -dsimp only [go_sem, List.length_nil]
      refine call_pure (hI _) ?_
      simp -dsimp only [go_sem]
      refine call_pure (hJ _) ?_
      simp -dsimp only [go_sem]
      refine call_pure (hM _) ?_
      simp -dsimp only [go_sem]
      refine call_pure (hI _) ?_
      simp -dsimp only [go_sem, List.length_nil]
      refine call_pure (hI _) ?_
      simp -dsimp only [go_sem]
      refine call_pure (hJ _) ?_
      simp -dsimp only [go_sem]
      exact fin_pure (by simp -dsimp only [go_sem]) (by simp -dsimp only [go_sem])
    | true =>
      have hL := gaps_end hok
      have hLl : (gapsOf w).length ≤ 100000 := by
        rw [hL]
        have := gapsTo_len w w.is.length
        omega
      have hM := fun H => l_inGaps (gapsOf w) H (by omega)
      have hpre := fun (k : Nat) (x : Inst) (hx : w.is[k]? = some x) (j : Nat) (d : UInt8) (hd : (supersOf w x.c)[j]? = some d) (hp : gapP w x d = true) => gapsIn_pre hok hx hd hp
      have hend : (gapsTo w w.is.length).length = (gapsOf w).length := by rw [hL]
      have htl := fun k => gapsTo_len w k
      have g0 : gapsTo w 0 = [] := rfl
      have hC := fun (k : Nat) (x : Inst) (hx : w.is[k]? = some x) H => i_SupersOf w x.c H hw
      rw [hok, Bool.true_and] at hI hJ
      rw [hok] at hG hK
      clear hL
      generalize gapsOf w = L at *
      by_cases hz : L.length = 0
      · have hz' : (((L.length : Nat) : Int) = 0) = True := eq_true (by omega)
        have hzd : decide (L.length = 0) = true := decide_eq_true hz
        rw [hzd] at hI hJ
        refine good [] [(6, OT.o 0 (OT.o 1 (OT.o 2 (OT.o 3 (OT.o 4 (OT.o 5 (OT.o 6 (OT.o 7 (OT.o 8 (OT.o 9 (OT.o 10 (OT.o 12 (OT.o 11 (OT.o 13 (OT.o 14 (OT.o 15 (OT.o 16 (OT.o 17 (OT.o 18 (OT.o 19 (OT.o 20 (OT.o 21 (OT.o 23 (OT.o 22 (OT.o 24 (OT.o 25 (OT.o 26 (OT.o 27 (OT.o 28 (OT.o 29 (OT.o 30 OT.e))))))))))))))))))))))))))))))), (7, OT.o 0 (OT.o 1 (OT.o 2 (OT.o 3 (OT.o 4 (OT.o 5 (OT.o 6 (OT.o 7 (OT.o 8 (OT.o 9 (OT.o 11 (OT.o 10 (OT.o 12 (OT.o 13 (OT.o 14 (OT.o 15 (OT.o 16 (OT.o 17 (OT.o 18 (OT.o 19 (OT.o 20 (OT.o 22 (OT.o 21 (OT.o 23 (OT.o 24 (OT.o 25 (OT.o 26 OT.e)))))))))))))))))))))))))))] Tryz.func5 rfl rfl Tryz.ntmps5 (by kernel_rfl) mixed (by kernel_rfl) ?_
        simp -dsimp only [go_sem, hl', hm', Wld.row, List.length_map] at hD hE hG hK hI hJ hM ⊢
        refine call_pure (hD _) ?_
        simp -dsimp only [go_sem]
        refine call_pure (hG _) ?_
        simp -dsimp only [go_sem]
        refine call_pure (hK _) ?_
        simp -dsimp only [go_sem]
        refine call_pure (hM _) ?_
        simp -dsimp only [go_sem]
        refine call_pure (hI _) ?_
        simp -dsimp only [go_sem, hz', List.length_map]
        refine call_pure (hI _) ?_
        simp -dsimp only [go_sem]
        refine call_pure (hJ _) ?_
        simp -dsimp only [go_sem, List.length_map]
        refine loop_ruleH [] (fun (k : {k : Nat // k ≤ w.is.length}) H => ([(1, .sl (m.map byR)), (5, .ref [.sl (w.cs.map Cls.row), .sl (w.is.map Inst.row)] 0), (6, .sl (L.map gapRow)), (10, .v (.int .i64 (((gapsTo w k.1).length : Nat) : Int))), (96, .sl (w.is.map Inst.row)), (97, .v (.int .i64 (w.is.length : Nat))), (98, .v (.int .i64 (k.1 : Nat)))], ⟨h.n, H.o⟩)) (fun k => w.is.length - k.1) ⟨0, Nat.zero_le _⟩ ?_ ?_
        · refine weak_objs [] (by simp -dsimp only [go_sem]) (by simp -dsimp only [go_sem]) (by simp -dsimp only [go_sem, g0, List.length_nil, List.length_map]) ?_ ?_ ?_
          · intro t h1 h2
            have a0 : ¬ t = h.n := by omega
            have a1 : ¬ t = h.n + 1 := by omega
            have a2 : ¬ t = h.n + 2 := by omega
            have a3 : ¬ t = h.n + 3 := by omega
            simp -dsimp only [go_sem, a0, a1, a2, a3]
          · intro x h1 h2; have h1 : x < h.n := h1; simp at h2 ⊢; omega
          · simp -dsimp only [go_sem]
        · rintro ⟨k, hk⟩
          have hk : k ≤ w.is.length := hk
          have k1 : k + 1 ≤ 9223372036854775807 := by omega
          by_cases hlt : k < w.is.length
          · obtain ⟨x, hx⟩ := get_some hlt
            have hkc : (((k : Nat) : Int) < ((w.is.length : Nat) : Int)) = True := eq_true (by omega)
            have hxs := hw.i x (List.mem_of_getElem? hx)
            have hSx := hC k x hx
            have hEv := fun d H => i_EvidenceAbove w (k : Int) [d] H hw (by omega) (by simp)
            have hea := fun d => evAbove_at hok hx [d]
            simp only [hea] at hEv
            have hCk := fun (d : UInt8) H (e : (evIn w x [d]).2 = []) => i_CheckGiven w x.ns ⟨[d], x.t⟩ (evIn w x [d]).1 H hw (by have := (world_inst hok hx).2.2.2.2.2.1; omega) hxs.2.2.2 ⟨by simp, hxs.2.1⟩ (by have := (evIn_check hw hx e).2; omega)
            have hco := fun (d : UInt8) (e : (evIn w x [d]).2 = []) => (evIn_check hw hx e).1
            have hpx := hpre k x hx
            have hAl := (supersOf_known w x.c).1
            have hgd := fun (d : UInt8) => show gapP w x d = decide ((evIn w x [d]).2 ≠ []) from rfl
            have hg1 := fun j (hj : (supersOf w x.c).length ≤ j) => gapsIn_end hx hj
            have hg2 := fun (j : Nat) (d : UInt8) (hd : (supersOf w x.c)[j]? = some d) => gapsIn_next (k := k) hd
            have hg0 := gapsIn_0 w k x
            obtain ⟨gi, hgi⟩ : ∃ gi : Nat → Nat, gi = fun j => (gapsIn w k (((supersOf w x.c).take j).filter (gapP w x))).length := ⟨_, rfl⟩
            have i0 : gi 0 = (gapsTo w k).length := by rw [hgi]; show (gapsIn w k (((supersOf w x.c).take 0).filter (gapP w x))).length = _; rw [hg0]
            have iE : gi (supersOf w x.c).length = (gapsTo w (k + 1)).length := by rw [hgi]; show (gapsIn w k (((supersOf w x.c).take (supersOf w x.c).length).filter (gapP w x))).length = _; rw [hg1 _ (Nat.le_refl _)]
            have iN : ∀ j d, (supersOf w x.c)[j]? = some d → gi (j + 1) = gi j + (if gapP w x d = true then 1 else 0) := fun j d hd => by rw [hgi]; exact hg2 j d hd
            have iP : ∀ j d, (supersOf w x.c)[j]? = some d → gapP w x d = true → L[gi j]? = some (k, d) := fun j d hd hp => by rw [hgi]; exact hpx j d hd hp
            clear hgi hg0 hg1 hg2 hpx hea
            generalize supersOf w x.c = A at *
            simp -dsimp only [go_sem, Wld.row, Need.row] at hSx hEv hCk
            simp -dsimp only [go_sem, hkc, hlt, hx, Inst.row, List.length_map]
            refine call_pure (hSx _) ?_
            simp -dsimp only [go_sem]
            refine loop_ruleH [] (fun (j : {j : Nat // j ≤ A.length}) H => ([(1, .sl (m.map byR)), (5, .ref [.sl (w.cs.map Cls.row), .sl (w.is.map Inst.row)] 0), (6, .sl (L.map gapRow)), (10, .v (.int .i64 ((gi j.1 : Nat) : Int))), (96, .sl (w.is.map Inst.row)), (97, .v (.int .i64 (w.is.length : Nat))), (98, .v (.int .i64 (k : Nat))), (11, .v (.int .i64 (k : Nat))), (12, .ref [str x.c, str x.t, .sl (x.ns.map Need.row)] 0), (13, str A), (109, .v (.int .i64 (A.length : Nat))), (110, .v (.int .i64 (j.1 : Nat)))], ⟨h.n, H.o⟩)) (fun j => A.length - j.1) ⟨0, Nat.zero_le _⟩ ?_ ?_
            · refine weak_objs [] (by simp -dsimp only [go_sem]) (by simp -dsimp only [go_sem]) (by simp -dsimp only [go_sem, i0, List.length_map]) ?_ ?_ ?_
              · intro t h1 h2
                have a0 : ¬ t = h.n := by omega
                have a1 : ¬ t = h.n + 1 := by omega
                have a2 : ¬ t = h.n + 2 := by omega
                have a3 : ¬ t = h.n + 3 := by omega
                simp -dsimp only [go_sem, a0, a1, a2, a3]
              · intro x h1 h2; have h1 : x < h.n := h1; simp at h2 ⊢; omega
              · simp -dsimp only [go_sem]
            · rintro ⟨j, hj⟩
              have hj : j ≤ A.length := hj
              have j1 : j + 1 ≤ 9223372036854775807 := by omega
              by_cases hjl : j < A.length
              · obtain ⟨d, hd⟩ := get_some hjl
                have hjc : (((j : Nat) : Int) < ((A.length : Nat) : Int)) = True := eq_true (by omega)
                have e5 : (A.drop j).take (j + 1 - j) = [d] := by rw [drop_get hd, Nat.add_sub_cancel_left]; rfl
                have hl1 : j + 1 ≤ A.length := hjl
                have hjj : j ≤ j + 1 := by omega
                have hEd := hEv d
                have hCd := hCk d
                have hcd := hco d
                have hgp := hgd d
                have hn := iN j d hd
                have hPp := iP j d hd
                rw [hgp] at hn hPp
                clear hgp
                generalize (evIn w x [d]).1 = X at *
                generalize (evIn w x [d]).2 = Y at *
                by_cases hy : Y = []
                · have hgf : decide (Y ≠ []) = false := by rw [hy]; rfl
                  rw [hgf, if_neg (by simp)] at hn
                  have hok2 := hcd hy
                  have hC2 := fun H => hCd H hy
                  rw [hok2] at hC2
                  subst hy
                  unfold okW at hC2
                  simp -dsimp only [go_sem, hjc, j1, e5, hl1, hjj]
                  refine call_pure (hEd _) ?_
                  simp -dsimp only [go_sem, j1, e5, hl1, hjj]
                  refine call_pure (hC2 _) ?_
                  simp -dsimp only [go_sem, j1]
                  refine round_to ⟨j + 1, hjl⟩ (by show A.length - (j + 1) < A.length - j; omega) ?_
                  refine weak_objs [] (by simp -dsimp only [go_sem]) (by simp -dsimp only [go_sem]) (by simp -dsimp only [go_sem, hn, Nat.add_zero, List.length_map]) ?_ ?_ ?_
                  · intro t h1 h2
                    have a0 : ¬ t = h.n := by omega
                    have a1 : ¬ t = h.n + 1 := by omega
                    have a2 : ¬ t = h.n + 2 := by omega
                    have a3 : ¬ t = h.n + 3 := by omega
                    simp -dsimp only [go_sem, a0, a1, a2, a3]
                  · intro x h1 h2; have h1 : x < h.n := h1; simp at h2 ⊢; omega
                  · simp -dsimp only [go_sem]
                · have hy' := eq_false hy
                  have hgf : decide (Y ≠ []) = true := decide_eq_true hy
                  rw [hgf, if_pos rfl] at hn
                  have hP := hPp hgf
                  have hgl := (List.getElem?_eq_some_iff.1 hP).1
                  have hgc : (((L.length : Nat) : Int) ≤ ((gi j : Nat) : Int)) = False := eq_false (by omega)
                  have g1 : gi j + 1 ≤ 9223372036854775807 := by omega
                  simp -dsimp only [go_sem, hjc, j1, e5, hl1, hjj]
                  refine call_pure (hEd _) ?_
                  simp -dsimp only [go_sem, hy', hgc, hP, hgl, gapRow, j1, g1, e5, hl1, hjj, List.length_map]
                  refine round_to ⟨j + 1, hjl⟩ (by show A.length - (j + 1) < A.length - j; omega) ?_
                  refine weak_objs [] (by simp -dsimp only [go_sem]) (by simp -dsimp only [go_sem]) (by simp -dsimp only [go_sem, hn, List.length_map]) ?_ ?_ ?_
                  · intro t h1 h2
                    have a0 : ¬ t = h.n := by omega
                    have a1 : ¬ t = h.n + 1 := by omega
                    have a2 : ¬ t = h.n + 2 := by omega
                    have a3 : ¬ t = h.n + 3 := by omega
                    simp -dsimp only [go_sem, a0, a1, a2, a3]
                  · intro x h1 h2; have h1 : x < h.n := h1; simp at h2 ⊢; omega
                  · simp -dsimp only [go_sem]
              · have hjc : (((j : Nat) : Int) < ((A.length : Nat) : Int)) = False := eq_false (by omega)
                have hje : j = A.length := by omega
                subst hje
                simp -dsimp only [go_sem, hjc, k1]
                refine round_to ⟨k + 1, hlt⟩ (by show w.is.length - (k + 1) < w.is.length - k; omega) ?_
                refine weak_objs [] (by simp -dsimp only [go_sem]) (by simp -dsimp only [go_sem]) (by simp -dsimp only [go_sem, iE, List.length_map]) ?_ ?_ ?_
                · intro t h1 h2
                  have a0 : ¬ t = h.n := by omega
                  have a1 : ¬ t = h.n + 1 := by omega
                  have a2 : ¬ t = h.n + 2 := by omega
                  have a3 : ¬ t = h.n + 3 := by omega
                  simp -dsimp only [go_sem, a0, a1, a2, a3]
                · intro x h1 h2; have h1 : x < h.n := h1; simp at h2 ⊢; omega
                · simp -dsimp only [go_sem]
          · have hkc : (((k : Nat) : Int) < ((w.is.length : Nat) : Int)) = False := eq_false (by omega)
            have hke : k = w.is.length := by omega
            subst hke
            simp -dsimp only [go_sem, hkc]
            refine call_pure (hE _) ?_
            simp -dsimp only [go_sem, hend, List.length_map]
            refine call_pure (hZ1 _) ?_
            simp -dsimp only [go_sem]
            refine call_pure (hZ2 _) ?_
            simp -dsimp only [go_sem]
            exact fin_pure (by simp -dsimp only [go_sem]) (by simp -dsimp only [go_sem])
      · have hz' : (((L.length : Nat) : Int) = 0) = False := eq_false (by omega)
        have hzd : decide (L.length = 0) = false := decide_eq_false hz
        rw [hzd] at hI hJ
        refine good [] [(6, OT.o 0 (OT.o 1 (OT.o 2 (OT.o 3 (OT.o 4 (OT.o 5 (OT.o 6 (OT.o 7 (OT.o 8 (OT.o 9 (OT.o 10 (OT.o 12 (OT.o 11 (OT.o 13 (OT.o 14 (OT.o 15 (OT.o 16 (OT.o 17 (OT.o 18 (OT.o 19 (OT.o 20 (OT.o 21 (OT.o 23 (OT.o 22 (OT.o 24 (OT.o 25 (OT.o 26 (OT.o 27 (OT.o 28 (OT.o 29 (OT.o 30 OT.e))))))))))))))))))))))))))))))), (7, OT.o 0 (OT.o 1 (OT.o 2 (OT.o 3 (OT.o 4 (OT.o 5 (OT.o 6 (OT.o 7 (OT.o 8 (OT.o 9 (OT.o 11 (OT.o 10 (OT.o 12 (OT.o 13 (OT.o 14 (OT.o 15 (OT.o 16 (OT.o 17 (OT.o 18 (OT.o 19 (OT.o 20 (OT.o 22 (OT.o 21 (OT.o 23 (OT.o 24 (OT.o 25 (OT.o 26 OT.e)))))))))))))))))))))))))))] Tryz.func5 rfl rfl Tryz.ntmps5 (by kernel_rfl) mixed (by kernel_rfl) ?_
        simp -dsimp only [go_sem, hl', hm', Wld.row, List.length_map] at hD hE hG hK hI hJ hM ⊢
        refine call_pure (hD _) ?_
        simp -dsimp only [go_sem]
        refine call_pure (hG _) ?_
        simp -dsimp only [go_sem]
        refine call_pure (hK _) ?_
        simp -dsimp only [go_sem]
        refine call_pure (hM _) ?_
        simp -dsimp only [go_sem]
        refine call_pure (hI _) ?_
        simp -dsimp only [go_sem, hz', List.length_map]
        refine call_pure (hI _) ?_
        simp -dsimp only [go_sem]
        refine call_pure (hJ _) ?_
        simp -dsimp only [go_sem, List.length_map]
        refine loop_ruleH [] (fun (k : {k : Nat // k ≤ w.is.length}) H => ([(1, .sl (m.map byR)), (5, .ref [.sl (w.cs.map Cls.row), .sl (w.is.map Inst.row)] 0), (6, .sl (L.map gapRow)), (10, .v (.int .i64 (((gapsTo w k.1).length : Nat) : Int))), (96, .sl (w.is.map Inst.row)), (97, .v (.int .i64 (w.is.length : Nat))), (98, .v (.int .i64 (k.1 : Nat)))], ⟨h.n, H.o⟩)) (fun k => w.is.length - k.1) ⟨0, Nat.zero_le _⟩ ?_ ?_
        · refine weak_objs [] (by simp -dsimp only [go_sem]) (by simp -dsimp only [go_sem]) (by simp -dsimp only [go_sem, g0, List.length_nil, List.length_map]) ?_ ?_ ?_
          · intro t h1 h2
            have a0 : ¬ t = h.n := by omega
            have a1 : ¬ t = h.n + 1 := by omega
            have a2 : ¬ t = h.n + 2 := by omega
            have a3 : ¬ t = h.n + 3 := by omega
            simp -dsimp only [go_sem, a0, a1, a2, a3]
          · intro x h1 h2; have h1 : x < h.n := h1; simp at h2 ⊢; omega
          · simp -dsimp only [go_sem]
        · rintro ⟨k, hk⟩
          have hk : k ≤ w.is.length := hk
          have k1 : k + 1 ≤ 9223372036854775807 := by omega
          by_cases hlt : k < w.is.length
          · obtain ⟨x, hx⟩ := get_some hlt
            have hkc : (((k : Nat) : Int) < ((w.is.length : Nat) : Int)) = True := eq_true (by omega)
            have hxs := hw.i x (List.mem_of_getElem? hx)
            have hSx := hC k x hx
            have hEv := fun d H => i_EvidenceAbove w (k : Int) [d] H hw (by omega) (by simp)
            have hea := fun d => evAbove_at hok hx [d]
            simp only [hea] at hEv
            have hCk := fun (d : UInt8) H (e : (evIn w x [d]).2 = []) => i_CheckGiven w x.ns ⟨[d], x.t⟩ (evIn w x [d]).1 H hw (by have := (world_inst hok hx).2.2.2.2.2.1; omega) hxs.2.2.2 ⟨by simp, hxs.2.1⟩ (by have := (evIn_check hw hx e).2; omega)
            have hco := fun (d : UInt8) (e : (evIn w x [d]).2 = []) => (evIn_check hw hx e).1
            have hpx := hpre k x hx
            have hAl := (supersOf_known w x.c).1
            have hgd := fun (d : UInt8) => show gapP w x d = decide ((evIn w x [d]).2 ≠ []) from rfl
            have hg1 := fun j (hj : (supersOf w x.c).length ≤ j) => gapsIn_end hx hj
            have hg2 := fun (j : Nat) (d : UInt8) (hd : (supersOf w x.c)[j]? = some d) => gapsIn_next (k := k) hd
            have hg0 := gapsIn_0 w k x
            obtain ⟨gi, hgi⟩ : ∃ gi : Nat → Nat, gi = fun j => (gapsIn w k (((supersOf w x.c).take j).filter (gapP w x))).length := ⟨_, rfl⟩
            have i0 : gi 0 = (gapsTo w k).length := by rw [hgi]; show (gapsIn w k (((supersOf w x.c).take 0).filter (gapP w x))).length = _; rw [hg0]
            have iE : gi (supersOf w x.c).length = (gapsTo w (k + 1)).length := by rw [hgi]; show (gapsIn w k (((supersOf w x.c).take (supersOf w x.c).length).filter (gapP w x))).length = _; rw [hg1 _ (Nat.le_refl _)]
            have iN : ∀ j d, (supersOf w x.c)[j]? = some d → gi (j + 1) = gi j + (if gapP w x d = true then 1 else 0) := fun j d hd => by rw [hgi]; exact hg2 j d hd
            have iP : ∀ j d, (supersOf w x.c)[j]? = some d → gapP w x d = true → L[gi j]? = some (k, d) := fun j d hd hp => by rw [hgi]; exact hpx j d hd hp
            clear hgi hg0 hg1 hg2 hpx hea
            generalize supersOf w x.c = A at *
            simp -dsimp only [go_sem, Wld.row, Need.row] at hSx hEv hCk
            simp -dsimp only [go_sem, hkc, hlt, hx, Inst.row, List.length_map]
            refine call_pure (hSx _) ?_
            simp -dsimp only [go_sem]
            refine loop_ruleH [] (fun (j : {j : Nat // j ≤ A.length}) H => ([(1, .sl (m.map byR)), (5, .ref [.sl (w.cs.map Cls.row), .sl (w.is.map Inst.row)] 0), (6, .sl (L.map gapRow)), (10, .v (.int .i64 ((gi j.1 : Nat) : Int))), (96, .sl (w.is.map Inst.row)), (97, .v (.int .i64 (w.is.length : Nat))), (98, .v (.int .i64 (k : Nat))), (11, .v (.int .i64 (k : Nat))), (12, .ref [str x.c, str x.t, .sl (x.ns.map Need.row)] 0), (13, str A), (109, .v (.int .i64 (A.length : Nat))), (110, .v (.int .i64 (j.1 : Nat)))], ⟨h.n, H.o⟩)) (fun j => A.length - j.1) ⟨0, Nat.zero_le _⟩ ?_ ?_
            · refine weak_objs [] (by simp -dsimp only [go_sem]) (by simp -dsimp only [go_sem]) (by simp -dsimp only [go_sem, i0, List.length_map]) ?_ ?_ ?_
              · intro t h1 h2
                have a0 : ¬ t = h.n := by omega
                have a1 : ¬ t = h.n + 1 := by omega
                have a2 : ¬ t = h.n + 2 := by omega
                have a3 : ¬ t = h.n + 3 := by omega
                simp -dsimp only [go_sem, a0, a1, a2, a3]
              · intro x h1 h2; have h1 : x < h.n := h1; simp at h2 ⊢; omega
              · simp -dsimp only [go_sem]
            · rintro ⟨j, hj⟩
              have hj : j ≤ A.length := hj
              have j1 : j + 1 ≤ 9223372036854775807 := by omega
              by_cases hjl : j < A.length
              · obtain ⟨d, hd⟩ := get_some hjl
                have hjc : (((j : Nat) : Int) < ((A.length : Nat) : Int)) = True := eq_true (by omega)
                have e5 : (A.drop j).take (j + 1 - j) = [d] := by rw [drop_get hd, Nat.add_sub_cancel_left]; rfl
                have hl1 : j + 1 ≤ A.length := hjl
                have hjj : j ≤ j + 1 := by omega
                have hEd := hEv d
                have hCd := hCk d
                have hcd := hco d
                have hgp := hgd d
                have hn := iN j d hd
                have hPp := iP j d hd
                rw [hgp] at hn hPp
                clear hgp
                generalize (evIn w x [d]).1 = X at *
                generalize (evIn w x [d]).2 = Y at *
                by_cases hy : Y = []
                · have hgf : decide (Y ≠ []) = false := by rw [hy]; rfl
                  rw [hgf, if_neg (by simp)] at hn
                  have hok2 := hcd hy
                  have hC2 := fun H => hCd H hy
                  rw [hok2] at hC2
                  subst hy
                  unfold okW at hC2
                  simp -dsimp only [go_sem, hjc, j1, e5, hl1, hjj]
                  refine call_pure (hEd _) ?_
                  simp -dsimp only [go_sem, j1, e5, hl1, hjj]
                  refine call_pure (hC2 _) ?_
                  simp -dsimp only [go_sem, j1]
                  refine round_to ⟨j + 1, hjl⟩ (by show A.length - (j + 1) < A.length - j; omega) ?_
                  refine weak_objs [] (by simp -dsimp only [go_sem]) (by simp -dsimp only [go_sem]) (by simp -dsimp only [go_sem, hn, Nat.add_zero, List.length_map]) ?_ ?_ ?_
                  · intro t h1 h2
                    have a0 : ¬ t = h.n := by omega
                    have a1 : ¬ t = h.n + 1 := by omega
                    have a2 : ¬ t = h.n + 2 := by omega
                    have a3 : ¬ t = h.n + 3 := by omega
                    simp -dsimp only [go_sem, a0, a1, a2, a3]
                  · intro x h1 h2; have h1 : x < h.n := h1; simp at h2 ⊢; omega
                  · simp -dsimp only [go_sem]
                · have hy' := eq_false hy
                  have hgf : decide (Y ≠ []) = true := decide_eq_true hy
                  rw [hgf, if_pos rfl] at hn
                  have hP := hPp hgf
                  have hgl := (List.getElem?_eq_some_iff.1 hP).1
                  have hgc : (((L.length : Nat) : Int) ≤ ((gi j : Nat) : Int)) = False := eq_false (by omega)
                  have g1 : gi j + 1 ≤ 9223372036854775807 := by omega
                  simp -dsimp only [go_sem, hjc, j1, e5, hl1, hjj]
                  refine call_pure (hEd _) ?_
                  simp -dsimp only [go_sem, hy', hgc, hP, hgl, gapRow, j1, g1, e5, hl1, hjj, List.length_map]
                  refine round_to ⟨j + 1, hjl⟩ (by show A.length - (j + 1) < A.length - j; omega) ?_
                  refine weak_objs [] (by simp -dsimp only [go_sem]) (by simp -dsimp only [go_sem]) (by simp -dsimp only [go_sem, hn, List.length_map]) ?_ ?_ ?_
                  · intro t h1 h2
                    have a0 : ¬ t = h.n := by omega
                    have a1 : ¬ t = h.n + 1 := by omega
                    have a2 : ¬ t = h.n + 2 := by omega
                    have a3 : ¬ t = h.n + 3 := by omega
                    simp -dsimp only [go_sem, a0, a1, a2, a3]
                  · intro x h1 h2; have h1 : x < h.n := h1; simp at h2 ⊢; omega
                  · simp -dsimp only [go_sem]
              · have hjc : (((j : Nat) : Int) < ((A.length : Nat) : Int)) = False := eq_false (by omega)
                have hje : j = A.length := by omega
                subst hje
                simp -dsimp only [go_sem, hjc, k1]
                refine round_to ⟨k + 1, hlt⟩ (by show w.is.length - (k + 1) < w.is.length - k; omega) ?_
                refine weak_objs [] (by simp -dsimp only [go_sem]) (by simp -dsimp only [go_sem]) (by simp -dsimp only [go_sem, iE, List.length_map]) ?_ ?_ ?_
                · intro t h1 h2
                  have a0 : ¬ t = h.n := by omega
                  have a1 : ¬ t = h.n + 1 := by omega
                  have a2 : ¬ t = h.n + 2 := by omega
                  have a3 : ¬ t = h.n + 3 := by omega
                  simp -dsimp only [go_sem, a0, a1, a2, a3]
                · intro x h1 h2; have h1 : x < h.n := h1; simp at h2 ⊢; omega
                · simp -dsimp only [go_sem]
          · have hkc : (((k : Nat) : Int) < ((w.is.length : Nat) : Int)) = False := eq_false (by omega)
            have hke : k = w.is.length := by omega
            subst hke
            simp -dsimp only [go_sem, hkc]
            refine call_pure (hE _) ?_
            simp -dsimp only [go_sem, hend, List.length_map]
            refine call_pure (hZ1 _) ?_
            simp -dsimp only [go_sem]
            refine call_pure (hZ2 _) ?_
            simp -dsimp only [go_sem]
            exact fin_pure (by simp -dsimp only [go_sem]) (by simp -dsimp only [go_sem])
end Go.Proofs.YtnocdggngfiebaaGreatDoor

namespace Go.Proofs.YtnocdggngfiebaaGreatDoor.GapsOf
open Go Go.Isea Go.ChangeShapes Go.WideShapes Go.ChangeAt Go.RowKit Go.Deep
set_option maxRecDepth 100000
set_option maxHeartbeats 4000000
theorem contract (W : World) (args : Array Value) (b0 : L8) (b1 : L8) (bl0 : b0.length ≤ 9223372036854775807) (bl1 : b1.length ≤ 9223372036854775807)
    (hpin : ∀ (K : KM) (o : Nat → AObj), Pin K ⟨0, o⟩ W) (hr : ∀ (K : KM) (o : Nat → AObj), RepL K ⟨0, o⟩ W [.sl (b0.map byR), .sl (b1.map byR)] args) :
    Calls Tryz.prog 5 args W fun e W' => e = .returned (.bool true) ∧ W'.os = W.os ∧ W'.tape = W.tape ∧ W'.output = W.output ∧ W.heap.size ≤ W'.heap.size ∧ ∀ b, b < W.heap.size → W'.heap[b]? = W.heap[b]? := by
  have hg := law_GapsOf b0 b1 ⟨0, fun _ => default⟩ bl0 bl1
  refine (hg.2 (fun _ => undef) W args ⟨fun t b ht => absurd ht (Nat.not_lt_zero _), fun s t b hs => absurd hs (Nat.not_lt_zero _), fun t ht => absurd ht (Nat.not_lt_zero _), hpin _ _⟩ (hr _ _)).mono ?_
  rintro e W' ⟨K', v, rfl, _, hE, hv⟩
  have e1 : v = .bool true := raw_rep (x := .v (.bool true)) rfl hv
  subst e1
  exact ⟨rfl, hE.os, hE.tape, hE.output, hE.size, fun b hb => hE.same b hb fun t ht => by cases ht⟩
theorem laidOut : laidOutB Tryz.prog = true := by kernel_rfl
theorem body (H : Type) (enc : TypeId × Value → H) (W : World) (base : Nat) (args : Array Value) (ds gs : List (DataW H)) (before : List MemPlace)
    (hval : ∀ (j : Nat) t v, Tryz.f5.params[j]? = some t → args[j]? = some v → Value.okWide Tryz.prog W .any base t v)
    (hW : DataW.Whole enc Tryz.prog Tryz.f5.params.toList Rows.fnGapsOfSpec.vars false W args.toList ds gs before) (hlaid : laidMetH Tryz.prog Rows.fnGapsOfRow.laid W) :
    Calls Tryz.prog 5 args W fun e W' => ∃ v, e = .returned v ∧ Rows.fnGapsOfSpec.post enc Tryz.prog Tryz.f5 false true false false W args v W' := by
  have hW' := hW
  obtain ⟨p, q, hA0, hV, rfl, hfz, hnd⟩ := hW
  have hA : DataW.TrodAll enc Tryz.prog W 0 (fun _ => true) true Tryz.f5.params.toList args.toList ds p := hA0
  rw [Tryz.params5] at hA hval
  obtain ⟨v0, vs0, d0, ds0, p0, q0, hargs, rfl, rfl, h0, r0⟩ := trodAll_cons hA
  obtain ⟨v1, vs1, d1, ds1, p1, q1, rfl, rfl, rfl, h1, r1⟩ := trodAll_cons r0
  obtain ⟨rfl, rfl, rfl⟩ := trodAll_nil r1
  obtain rfl : args = #[v0, v1] := by cases args; simp_all
  obtain ⟨rfl, rfl⟩ := trodVars_none hV
  have o0 := hval 0 22 v0 rfl rfl
  unfold Value.okWide at o0
  rw [Tryz.underlying22] at o0
  have h0k := h0
  obtain ⟨f0, t0⟩ := h0
  have e0 : v0.cells.toList = [v0] := by
    cases v0 <;> first | rfl | (exfalso; simp [Cell.okWide, Cell.ok, Tryz.underlying22] at o0)
  rw [e0] at t0
  obtain ⟨b0, hb0, bl0⟩ := read_bytes t0
  have o1 := hval 1 22 v1 rfl rfl
  unfold Value.okWide at o1
  rw [Tryz.underlying22] at o1
  have h1k := h1
  obtain ⟨f1, t1⟩ := h1
  have e1 : v1.cells.toList = [v1] := by
    cases v1 <;> first | rfl | (exfalso; simp [Cell.okWide, Cell.ok, Tryz.underlying22] at o1)
  rw [e1] at t1
  obtain ⟨b1, hb1, bl1⟩ := read_bytes t1
  have aggR : ∀ (K : KM) (o : Nat → AObj) (r : List AV) (c : Array Value), RowR W r c.toList → Rep K ⟨0, o⟩ W (.agg r) (.agg c) := fun K o r c h => .agg (by simpa using h.1) fun i x y a b => h.2 K o i x y a (by simpa using b)
  refine (contract W _ b0 b1 bl0 bl1 (pin_laid (by kernel_rfl) (pin_in (by kernel_rfl)) hlaid) fun K o => ⟨rfl, fun i x y a b => ?_⟩).mono ?_
  · rcases i with _ | _ | i
    · simp at a b; subst a; subst b; exact hb0 K o
    · simp at a b; subst a; subst b; exact hb1 K o
    · simp at a
  · rintro e W' ⟨rfl, h3, h3', h4, h5, h6⟩
    have hb : Below W.heap.size W W' := ⟨h3, h3', h4, h5, h6⟩
    have hlt := hW'.lt
    refine ⟨_, rfl, _, _, _, [], p0 ++ (p1 ++ ([])), [], hW', ?_, ?_, ?_, ?_, fun h => by cases h⟩
    · exact trodAll_mk1 (shut_bool Tryz.underlying4 true)
    · exact trodAll_cons_mk (Below.trod laidOut (by kernel_rfl) (of_decide_eq_true (by kernel_rfl)) h0k hb (fun x hx => hlt x (by simp [hx]))) (trodAll_cons_mk (Below.trod laidOut (by kernel_rfl) (of_decide_eq_true (by kernel_rfl)) h1k hb (fun x hx => hlt x (by simp [hx]))) (trodAll_mk0))
    · rfl
    · refine ⟨h3, h4, fun i hi => ?_⟩
      rw [h6 i hi]
      cases W.heap[i]? with
      | none => rfl
      | some o => cases o <;> first | exact ⟨rfl, rfl, rfl, fun _ _ => rfl⟩ | exact .inr ⟨rfl, rfl⟩ | rfl
end Go.Proofs.YtnocdggngfiebaaGreatDoor.GapsOf

namespace Go.Proofs.YtnocdggngfiebaaGreatDoor.GapsOf
open Go Go.Isea Go.ChangeShapes Go.WideShapes Go.ChangeAt Go.RowKit Go.Deep
set_option maxRecDepth 100000
set_option maxHeartbeats 4000000
theorem own : ownKnob Tryz.prog.godebug = none := by kernel_rfl
noncomputable abbrev wit (os : Os) : World := World.laidAll Tryz.prog os Rows.fnGapsOfRow.laid
def witArgs : Array Value := #[.slice none 0 0, .slice none 0 0]
theorem wit_met (os : Os) : laidMetH Tryz.prog Rows.fnGapsOfRow.laid ((wit os).forCall (fun _ _ => 0) ⟨#[], witArgs, []⟩).memory :=
  laidMetH_of_parts (laidMet_laidAll (os := os) witArgs (by kernel_rfl) (by kernel_rfl)) (by kernel_rfl)
theorem lifted (os : Os) (started : os.Started) (H : Type) (enc : TypeId × Value → H) :
    ReturnsInHanded {} Tryz.checked os 5 .any (fun w args => (Rows.fnGapsOfSpec.pre enc Tryz.prog Tryz.f5 [] false w args ∧ laidMetH Tryz.prog Rows.fnGapsOfRow.laid w) ∧ sizedMet enc Tryz.prog Tryz.f5 (OpenSpec.ofChange Rows.fnGapsOfSpec) false w args)
      (Rows.fnGapsOfSpec.post enc Tryz.prog Tryz.f5 false true false false) := by
  refine returnsInHanded_of_change_and (C := Tryz.checked) (X := fun w _ => laidMetH Tryz.prog Rows.fnGapsOfRow.laid w) (fun _ _ _ hh h => h.of_heap hh) own started (by kernel_rfl) Tryz.func5
    (ChangeSpec.witness_at (enc := enc) (C := Tryz.checked) (os := os) (X := fun w _ => laidMetH Tryz.prog Rows.fnGapsOfRow.laid w) false (wit os) witArgs 8 (World.laidAll_os _ _ _) (by kernel_rfl) (by kernel_rfl) (by kernel_rfl) (by kernel_rfl) (by kernel_rfl) (wit_met os)) ?_
  intro W base args ds gs before hval0 hW _ _ hX _
  exact body H enc W base args ds gs before hval0 hW hX
end Go.Proofs.YtnocdggngfiebaaGreatDoor.GapsOf
