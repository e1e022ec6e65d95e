/- The law AD0: its code returns true; its row and its card, which this claim proves. No condition is added. -/
import Derived.Test.YtiphcdmjlkngfaaGreatDoorML
import Derived.Test.YtiphcdmjlkngfaaGreatDoorMK
import Derived.Test.YtiphcdmjlkngfaaGreatDoorMN
import Derived.Test.YtiphcdmjlkngfaaGreatDoorMJ
import Derived.Test.YtiphcdmjlkngfaaGreatDoorRows
import Derived.OpenShut
import Derived.Stop.Joined
import Derived.Lay
import Derived.LaidHandle
set_option linter.all false
namespace Go.Proofs.YtiphcdmjlkngfaaGreatDoor
open Go Go.Isea
set_option maxRecDepth 100000
set_option maxHeartbeats 16000000
theorem law_AllDicts (b : L8) (h : AH) (_hb : b.length ≤ 9223372036854775807) : Isea.Good Tryz.prog 4 [.sl (b.map byR)] h [] (.v (.bool true)) h := by
  by_cases hl : 1048576 < b.length
  · have hl' : ((1048576 : Int) < ((b.length : Nat) : Int)) = True := eq_true (by omega)
    refine good [] [(21, OT.o 0 (OT.o 1 (OT.o 2 (OT.o 3 (OT.o 4 (OT.o 5 (OT.o 6 (OT.o 7 (OT.o 9 (OT.o 10 (OT.o 8 (OT.o 11 (OT.o 12 (OT.o 13 (OT.o 14 (OT.o 15 (OT.o 16 (OT.o 18 (OT.o 19 (OT.o 20 (OT.o 17 (OT.o 21 (OT.o 22 (OT.o 23 (OT.o 24 OT.e)))))))))))))))))))))))))] Tryz.func4 rfl rfl Tryz.ntmps4 (by kernel_rfl) mixed (by kernel_rfl) ?_
    simp -dsimp only [go_sem, hl', List.length_map]
    exact fin_pure (by simp -dsimp only [go_sem]) (by simp -dsimp only [go_sem])
  · have hl' : ((1048576 : Int) < ((b.length : Nat) : Int)) = False := eq_false (by omega)
    obtain ⟨w, n, d, w1, w2, w3, w4, d1, d7, hD⟩ := s_DrawAllDicts b
    have hw := smW_Sm w1
    have hnn := smNd_iff.1 w4
    have hn : n.Sm := ⟨by omega, by omega⟩
    have hdr : -9223372036854775808 ≤ d ∧ d ≤ 9223372036854775807 := by omega
    have hio : ∀ i ∈ w.is, i.Ok := fun i hi => by have := (smIn_iff.1 ((smW_iff.1 w1).2.2.2 i hi)).2.2.1; show i.ns.length ≤ _; omega
    have hI := fun H => i_AllDictsF w n d H hw hn hdr
    have hS := fun H => s_AllDicts w n d H hw hn hdr (by omega) (by omega) hio
    have hCi := fun H => i_CountDicts w n d H hw hn hdr
    have hCs := fun H => s_CountDicts w n d H hw hn hdr (by omega) (by omega) hio
    have hUi := fun H => i_IsUnique w n d H hw hn hdr
    have hUs := fun H => s_IsUnique w n d H hw hn hdr (by omega) (by omega) hio
    rcases opt_cases (allDicts w n d) with e | ⟨L, e⟩
    · rw [e] at hI hS
      rw [countD_none e] at hCi hCs
      have hEq := fun H => l_inTexts [] H (by simp)
      refine good [] [(21, OT.o 0 (OT.o 1 (OT.o 2 (OT.o 3 (OT.o 4 (OT.o 5 (OT.o 6 (OT.o 7 (OT.o 9 (OT.o 10 (OT.o 8 (OT.o 11 (OT.o 12 (OT.o 13 (OT.o 14 (OT.o 15 (OT.o 16 (OT.o 18 (OT.o 19 (OT.o 20 (OT.o 17 (OT.o 21 (OT.o 22 (OT.o 23 (OT.o 24 OT.e)))))))))))))))))))))))))] Tryz.func4 rfl rfl Tryz.ntmps4 (by kernel_rfl) mixed (by kernel_rfl) ?_
      simp -dsimp only [go_sem, hl', Wld.row, Need.row, List.length_map, Option.getD_none, Option.isSome_none, List.map_nil] at hD hI hS hCi hCs hEq ⊢
      refine call_pure (hD _) ?_
      simp -dsimp only [go_sem]
      refine call_pure (hI _) ?_
      simp -dsimp only [go_sem]
      refine call_pure (hS _) ?_
      simp -dsimp only [go_sem]
      refine call_pure (hCi _) ?_
      simp -dsimp only [go_sem]
      refine call_pure (hEq _) ?_
      simp -dsimp only [go_sem]
      refine call_pure (hCs _) ?_
      simp -dsimp only [go_sem]
      refine call_pure (hEq _) ?_
      simp -dsimp only [go_sem]
      refine call_pure (hCs _) ?_
      simp -dsimp only [go_sem]
      exact fin_pure (by simp -dsimp only [go_sem]) (by simp -dsimp only [go_sem])
    · have F := adF hw e
      rw [e] at hI hS
      rw [countD_some e] at hCi hCs hUi hUs
      clear e
      have hEq := fun H => l_inTexts L H (by have := F.ln; omega)
      have hln := F.ln
      have hC : ∀ x ∈ L, ∀ H, Isea.Good Tryz.prog 16 [.agg w.row, .agg n.row, str x] H [] (str [111, 107]) H := fun x hx H => by
        obtain ⟨D, _, _, h3, h4, _⟩ := F.ok x hx
        have := i_CheckDict w n x H hw hn (by omega)
        rw [h4] at this
        exact this
      have hT : ∀ x ∈ L, ∀ H, Isea.Good Tryz.prog 18 [str x] H [] (.v (.int .i64 (depthD x))) H := fun x hx H => by
        obtain ⟨D, _, _, h3, _⟩ := F.ok x hx
        exact i_DepthOfDict x H (by omega)
      have hO : ∀ x ∈ L, ∀ H, Isea.Good Tryz.prog 25 [str x] H [] (.v (.int .i64 (instD x))) H := fun x hx H => by
        obtain ⟨D, _, _, h3, _⟩ := F.ok x hx
        exact i_InstanceOf x H (by omega)
      have hdp : ∀ x ∈ L, (d < depthD x) = False := fun x hx => by
        obtain ⟨D, _, _, _, _, _, h6, h7, _⟩ := F.ok x hx
        exact eq_false (by omega)
      have hone : ∃ B : Bool, (((L.length : Nat) : Int) = 1) = (B = true) ∧ decide (((L.length : Nat) : Int) = 1) = B := ⟨decide (((L.length : Nat) : Int) = 1), by simp, rfl⟩
      have hod := F.od
      have hne := F.ne
      clear F
      refine good [] [(21, OT.o 0 (OT.o 1 (OT.o 2 (OT.o 3 (OT.o 4 (OT.o 5 (OT.o 6 (OT.o 7 (OT.o 9 (OT.o 10 (OT.o 8 (OT.o 11 (OT.o 12 (OT.o 13 (OT.o 14 (OT.o 15 (OT.o 16 (OT.o 18 (OT.o 19 (OT.o 20 (OT.o 17 (OT.o 21 (OT.o 22 (OT.o 23 (OT.o 24 OT.e)))))))))))))))))))))))))] Tryz.func4 rfl rfl Tryz.ntmps4 (by kernel_rfl) mixed (by kernel_rfl) ?_
      simp -dsimp only [go_sem, hl', Wld.row, Need.row, List.length_map, Option.getD_some, Option.isSome_some] at hD hI hS hCi hCs hC hUi hUs ⊢
      refine call_pure (hD _) ?_
      simp -dsimp only [go_sem]
      refine call_pure (hI _) ?_
      simp -dsimp only [go_sem]
      refine call_pure (hS _) ?_
      simp -dsimp only [go_sem]
      refine call_pure (hCi _) ?_
      simp -dsimp only [go_sem]
      refine call_pure (hEq _) ?_
      simp -dsimp only [go_sem]
      refine call_pure (hCs _) ?_
      simp -dsimp only [go_sem, List.length_map]
      refine loop_ruleH [] (fun (k : {k : Nat // k ≤ L.length}) H => ([(3, .ref [.sl (w.cs.map Cls.row), .sl (w.is.map Inst.row)] 0), (4, .ref [str n.c, str n.t] 0), (5, .v (.int .i64 d)), (6, .sl (L.map sRow)), (10, .v (.int .i64 (L.length : Nat))), (83, .sl (L.map sRow)), (84, .v (.int .i64 (L.length : Nat))), (85, .v (.int .i64 (k.1 : Nat)))], ⟨h.n, H.o⟩)) (fun k => L.length - k.1) ⟨0, Nat.zero_le _⟩ ?_ ?_
      · refine weak_objs [] (by simp -dsimp only [go_sem]) (by simp -dsimp only [go_sem]) (by simp -dsimp only [go_sem, List.length_map]) ?_ ?_ ?_
        · intro t h1 h2
          have a0 : ¬ t = h.n := by omega
          have a1 : ¬ t = h.n + 1 := by omega
          have a2 : ¬ t = h.n + 2 := by omega
          have a3 : ¬ t = h.n + 3 := by omega
          simp -dsimp only [go_sem, a0, a1, a2, a3]
        · intro x h1 h2; have h1 : x < h.n := h1; simp at h2 ⊢; omega
        · simp -dsimp only [go_sem]
      · rintro ⟨k, hk⟩
        have k1 : k + 1 ≤ 9223372036854775807 := by omega
        by_cases hkl : k < L.length
        · obtain ⟨x, hx⟩ := get_some hkl
          have hxm := List.mem_of_getElem? hx
          have hkc : (((k : Nat) : Int) < ((L.length : Nat) : Int)) = True := eq_true (by omega)
          have hCx := hC x hxm
          have hTx := hT x hxm
          have hOx := hO x hxm
          have hdx := hdp x hxm
          have htk : (L.take k).length = k := by rw [List.length_take]; omega
          have hgt : ∀ j, j < k → ∃ y, L[j]? = some y ∧ (L.take k)[j]? = some y ∧ (x = y) = False := fun j hj => by
            obtain ⟨y, hy⟩ := get_some (l := L) (k := j) (by omega)
            exact ⟨y, hy, by rw [List.getElem?_take, if_pos hj]; exact hy, eq_false (hne k j x y hj hx hy)⟩
          have hmt : (L.map sRow).take k = (L.take k).map sRow := by rw [List.map_take]
          obtain ⟨T, hTe⟩ : ∃ T, L.take k = T := ⟨_, rfl⟩
          rw [hTe] at htk hgt hmt
          have hbd : bound L.length (some (.v (.int .i64 ((k : Nat) : Int)))) = some k := bound_k (k := k)
          have inner : ∀ (σ : Prop), σ → σ := fun _ h => h
          by_cases h0 : 0 < k
          · have h0' : ((0 : Int) < ((k : Nat) : Int)) = True := eq_true (by omega)
            obtain ⟨y, hy⟩ := get_some (l := L) (k := k - 1) (by omega)
            have hkw : IntKind.i64.wrap (((k : Nat) : Int) - 1) = ((k - 1 : Nat) : Int) := by rw [wrap_i64] <;> omega
            have hlt1 : k - 1 < L.length := by omega
            have hOy := hO y (List.mem_of_getElem? hy)
            have hoy := hod (k - 1) y x hy (by rw [show k - 1 + 1 = k by omega]; exact hx)
            have hoc : (instD x < instD y) = False := eq_false (by omega)
            simp -dsimp only [go_sem, hkc, hkl, hx, sRow, List.length_map]
            refine call_pure (hCx _) ?_
            simp -dsimp only [go_sem]
            refine call_pure (hTx _) ?_
            simp -dsimp only [go_sem, hdx, h0', hkw, hlt1, hy, sRow, List.length_map]
            refine call_pure (hOy _) ?_
            simp -dsimp only [go_sem]
            refine call_pure (hOx _) ?_
            simp -dsimp only [go_sem, hoc, hbd, hmt, htk, Nat.le_of_lt hkl, List.length_map]
            refine loop_ruleH [] (fun (j : {j : Nat // j ≤ k}) H => ([(3, .ref [.sl (w.cs.map Cls.row), .sl (w.is.map Inst.row)] 0), (4, .ref [str n.c, str n.t] 0), (5, .v (.int .i64 d)), (6, .sl (L.map sRow)), (10, .v (.int .i64 (L.length : Nat))), (12, str x), (83, .sl (L.map sRow)), (84, .v (.int .i64 (L.length : Nat))), (85, .v (.int .i64 (k : Nat))), (118, .sl (T.map sRow)), (119, .v (.int .i64 (k : Nat))), (120, .v (.int .i64 (j.1 : Nat)))], ⟨h.n, H.o⟩)) (fun j => k - j.1) ⟨0, Nat.zero_le _⟩ ?_ ?_
            · refine weak_objs [] (by simp -dsimp only [go_sem]) (by simp -dsimp only [go_sem]) (by simp -dsimp only [go_sem, htk, List.length_map]) ?_ ?_ ?_
              · intro t h1 h2
                have a0 : ¬ t = h.n := by omega
                have a1 : ¬ t = h.n + 1 := by omega
                have a2 : ¬ t = h.n + 2 := by omega
                have a3 : ¬ t = h.n + 3 := by omega
                simp -dsimp only [go_sem, a0, a1, a2, a3]
              · intro x h1 h2; have h1 : x < h.n := h1; simp at h2 ⊢; omega
              · simp -dsimp only [go_sem]
            · rintro ⟨j, hj⟩
              have k2 : j + 1 ≤ 9223372036854775807 := by omega
              by_cases hjl : j < k
              · obtain ⟨y, hy, hyt, hxy⟩ := hgt j hjl
                have hjc : (((j : Nat) : Int) < ((k : Nat) : Int)) = True := eq_true (by omega)
                have hjt : j < T.length := by omega
                simp -dsimp only [go_sem, hjc, hjt, hyt, hxy, k2, sRow, List.length_map]
                refine round_to ⟨j + 1, hjl⟩ (by show k - (j + 1) < k - j; omega) ?_
                refine weak_objs [] (by simp -dsimp only [go_sem]) (by simp -dsimp only [go_sem]) (by simp -dsimp only [go_sem, List.length_map]) ?_ ?_ ?_
                · intro t h1 h2
                  have a0 : ¬ t = h.n := by omega
                  have a1 : ¬ t = h.n + 1 := by omega
                  have a2 : ¬ t = h.n + 2 := by omega
                  have a3 : ¬ t = h.n + 3 := by omega
                  simp -dsimp only [go_sem, a0, a1, a2, a3]
                · intro x h1 h2; have h1 : x < h.n := h1; simp at h2 ⊢; omega
                · simp -dsimp only [go_sem]
              · have hjc : (((j : Nat) : Int) < ((k : Nat) : Int)) = False := eq_false (by omega)
                simp -dsimp only [go_sem, hjc, k1]
                refine round_to ⟨k + 1, hkl⟩ (by show L.length - (k + 1) < L.length - k; omega) ?_
                refine weak_objs [] (by simp -dsimp only [go_sem]) (by simp -dsimp only [go_sem]) (by simp -dsimp only [go_sem, List.length_map]) ?_ ?_ ?_
                · intro t h1 h2
                  have a0 : ¬ t = h.n := by omega
                  have a1 : ¬ t = h.n + 1 := by omega
                  have a2 : ¬ t = h.n + 2 := by omega
                  have a3 : ¬ t = h.n + 3 := by omega
                  simp -dsimp only [go_sem, a0, a1, a2, a3]
                · intro x h1 h2; have h1 : x < h.n := h1; simp at h2 ⊢; omega
                · simp -dsimp only [go_sem]
          · have h0' : ((0 : Int) < ((k : Nat) : Int)) = False := eq_false (by omega)
            simp -dsimp only [go_sem, hkc, hkl, hx, sRow, List.length_map]
            refine call_pure (hCx _) ?_
            simp -dsimp only [go_sem]
            refine call_pure (hTx _) ?_
            simp -dsimp only [go_sem, hdx, h0', hbd, hmt, htk, Nat.le_of_lt hkl, List.length_map]
            refine loop_ruleH [] (fun (j : {j : Nat // j ≤ k}) H => ([(3, .ref [.sl (w.cs.map Cls.row), .sl (w.is.map Inst.row)] 0), (4, .ref [str n.c, str n.t] 0), (5, .v (.int .i64 d)), (6, .sl (L.map sRow)), (10, .v (.int .i64 (L.length : Nat))), (12, str x), (83, .sl (L.map sRow)), (84, .v (.int .i64 (L.length : Nat))), (85, .v (.int .i64 (k : Nat))), (118, .sl (T.map sRow)), (119, .v (.int .i64 (k : Nat))), (120, .v (.int .i64 (j.1 : Nat)))], ⟨h.n, H.o⟩)) (fun j => k - j.1) ⟨0, Nat.zero_le _⟩ ?_ ?_
            · refine weak_objs [] (by simp -dsimp only [go_sem]) (by simp -dsimp only [go_sem]) (by simp -dsimp only [go_sem, htk, List.length_map]) ?_ ?_ ?_
              · intro t h1 h2
                have a0 : ¬ t = h.n := by omega
                have a1 : ¬ t = h.n + 1 := by omega
                have a2 : ¬ t = h.n + 2 := by omega
                have a3 : ¬ t = h.n + 3 := by omega
                simp -dsimp only [go_sem, a0, a1, a2, a3]
              · intro x h1 h2; have h1 : x < h.n := h1; simp at h2 ⊢; omega
              · simp -dsimp only [go_sem]
            · rintro ⟨j, hj⟩
              have k2 : j + 1 ≤ 9223372036854775807 := by omega
              by_cases hjl : j < k
              · obtain ⟨y, hy, hyt, hxy⟩ := hgt j hjl
                have hjc : (((j : Nat) : Int) < ((k : Nat) : Int)) = True := eq_true (by omega)
                have hjt : j < T.length := by omega
                simp -dsimp only [go_sem, hjc, hjt, hyt, hxy, k2, sRow, List.length_map]
                refine round_to ⟨j + 1, hjl⟩ (by show k - (j + 1) < k - j; omega) ?_
                refine weak_objs [] (by simp -dsimp only [go_sem]) (by simp -dsimp only [go_sem]) (by simp -dsimp only [go_sem, List.length_map]) ?_ ?_ ?_
                · intro t h1 h2
                  have a0 : ¬ t = h.n := by omega
                  have a1 : ¬ t = h.n + 1 := by omega
                  have a2 : ¬ t = h.n + 2 := by omega
                  have a3 : ¬ t = h.n + 3 := by omega
                  simp -dsimp only [go_sem, a0, a1, a2, a3]
                · intro x h1 h2; have h1 : x < h.n := h1; simp at h2 ⊢; omega
                · simp -dsimp only [go_sem]
              · have hjc : (((j : Nat) : Int) < ((k : Nat) : Int)) = False := eq_false (by omega)
                simp -dsimp only [go_sem, hjc, k1]
                refine round_to ⟨k + 1, hkl⟩ (by show L.length - (k + 1) < L.length - k; omega) ?_
                refine weak_objs [] (by simp -dsimp only [go_sem]) (by simp -dsimp only [go_sem]) (by simp -dsimp only [go_sem, List.length_map]) ?_ ?_ ?_
                · intro t h1 h2
                  have a0 : ¬ t = h.n := by omega
                  have a1 : ¬ t = h.n + 1 := by omega
                  have a2 : ¬ t = h.n + 2 := by omega
                  have a3 : ¬ t = h.n + 3 := by omega
                  simp -dsimp only [go_sem, a0, a1, a2, a3]
                · intro x h1 h2; have h1 : x < h.n := h1; simp at h2 ⊢; omega
                · simp -dsimp only [go_sem]
        · have hkc : (((k : Nat) : Int) < ((L.length : Nat) : Int)) = False := eq_false (by omega)
          obtain ⟨B, hB1, hB2⟩ := hone
          rw [hB2] at hUi hUs
          simp -dsimp only [go_sem, hkc, List.length_map]
          cases B with
          | true =>
            have hB3 : (((L.length : Nat) : Int) = 1) = True := by rw [hB1]; simp
            refine call_pure (hUi _) ?_
            simp -dsimp only [go_sem, hB3]
            refine call_pure (hUi _) ?_
            simp -dsimp only [go_sem]
            refine call_pure (hUs _) ?_
            simp -dsimp only [go_sem]
            exact fin_pure (by simp -dsimp only [go_sem]) (by simp -dsimp only [go_sem])
          | false =>
            have hB3 : (((L.length : Nat) : Int) = 1) = False := by rw [hB1]; simp
            refine call_pure (hUi _) ?_
            simp -dsimp only [go_sem, hB3]
            refine call_pure (hUi _) ?_
            simp -dsimp only [go_sem]
            refine call_pure (hUs _) ?_
            simp -dsimp only [go_sem]
            exact fin_pure (by simp -dsimp only [go_sem]) (by simp -dsimp only [go_sem])
end Go.Proofs.YtiphcdmjlkngfaaGreatDoor

namespace Go.Proofs.YtiphcdmjlkngfaaGreatDoor.AllDicts
open Go Go.Isea Go.ChangeShapes Go.WideShapes Go.ChangeAt Go.RowKit Go.Deep
set_option maxRecDepth 100000
set_option maxHeartbeats 4000000
theorem contract (W : World) (args : Array Value) (b0 : L8) (bl0 : b0.length ≤ 9223372036854775807)
    (hr : ∀ (K : KM) (o : Nat → AObj), RepL K ⟨0, o⟩ W [.sl (b0.map byR)] args) :
    Calls Tryz.prog 4 args W fun e W' => e = .returned (.bool true) ∧ W'.os = W.os ∧ W'.tape = W.tape ∧ W'.output = W.output ∧ W.heap.size ≤ W'.heap.size ∧ ∀ b, b < W.heap.size → W'.heap[b]? = W.heap[b]? := by
  have hg := law_AllDicts b0 ⟨0, fun _ => default⟩ bl0
  refine (hg.2 (fun _ => undef) W args ⟨fun t b ht => absurd ht (Nat.not_lt_zero _), fun s t b hs => absurd hs (Nat.not_lt_zero _), fun t ht => absurd ht (Nat.not_lt_zero _)⟩ (hr _ _)).mono ?_
  rintro e W' ⟨K', v, rfl, _, hE, hv⟩
  have e1 : v = .bool true := raw_rep (x := .v (.bool true)) rfl hv
  subst e1
  exact ⟨rfl, hE.os, hE.tape, hE.output, hE.size, fun b hb => hE.same b hb fun t ht => by cases ht⟩
theorem laidOut : laidOutB Tryz.prog = true := by kernel_rfl
theorem body (H : Type) (enc : TypeId × Value → H) (W : World) (base : Nat) (args : Array Value) (ds gs : List (DataW H)) (before : List MemPlace)
    (hval : ∀ (j : Nat) t v, Tryz.f4.params[j]? = some t → args[j]? = some v → Value.okWide Tryz.prog W .any base t v)
    (hW : DataW.Whole enc Tryz.prog Tryz.f4.params.toList Rows.fnAllDictsSpec.vars false W args.toList ds gs before) :
    Calls Tryz.prog 4 args W fun e W' => ∃ v, e = .returned v ∧ Rows.fnAllDictsSpec.post enc Tryz.prog Tryz.f4 false true false false W args v W' := by
  have hW' := hW
  obtain ⟨p, q, hA0, hV, rfl, hfz, hnd⟩ := hW
  have hA : DataW.TrodAll enc Tryz.prog W 0 (fun _ => true) true Tryz.f4.params.toList args.toList ds p := hA0
  rw [Tryz.params4] at hA hval
  obtain ⟨v0, vs0, d0, ds0, p0, q0, hargs, rfl, rfl, h0, r0⟩ := trodAll_cons hA
  obtain ⟨rfl, rfl, rfl⟩ := trodAll_nil r0
  obtain rfl : args = #[v0] := by cases args; simp_all
  obtain ⟨rfl, rfl⟩ := trodVars_none hV
  have o0 := hval 0 22 v0 rfl rfl
  unfold Value.okWide at o0
  rw [Tryz.underlying22] at o0
  have h0k := h0
  obtain ⟨f0, t0⟩ := h0
  have e0 : v0.cells.toList = [v0] := by
    cases v0 <;> first | rfl | (exfalso; simp [Cell.okWide, Cell.ok, Tryz.underlying22] at o0)
  rw [e0] at t0
  obtain ⟨b0, hb0, bl0⟩ := read_bytes t0
  have aggR : ∀ (K : KM) (o : Nat → AObj) (r : List AV) (c : Array Value), RowR W r c.toList → Rep K ⟨0, o⟩ W (.agg r) (.agg c) := fun K o r c h => .agg (by simpa using h.1) fun i x y a b => h.2 K o i x y a (by simpa using b)
  refine (contract W _ b0 bl0 fun K o => ⟨rfl, fun i x y a b => ?_⟩).mono ?_
  · rcases i with _ | i
    · simp at a b; subst a; subst b; exact hb0 K o
    · simp at a
  · rintro e W' ⟨rfl, h3, h3', h4, h5, h6⟩
    have hb : Below W.heap.size W W' := ⟨h3, h3', h4, h5, h6⟩
    have hlt := hW'.lt
    refine ⟨_, rfl, _, _, _, [], p0 ++ ([]), [], hW', ?_, ?_, ?_, ?_, fun h => by cases h⟩
    · exact trodAll_mk1 (shut_bool Tryz.underlying4 true)
    · exact trodAll_cons_mk (Below.trod laidOut (by kernel_rfl) (of_decide_eq_true (by kernel_rfl)) h0k hb (fun x hx => hlt x (by simp [hx]))) (trodAll_mk0)
    · rfl
    · refine ⟨h3, h4, fun i hi => ?_⟩
      rw [h6 i hi]
      cases W.heap[i]? with
      | none => rfl
      | some o => cases o <;> first | exact ⟨rfl, rfl, rfl, fun _ _ => rfl⟩ | exact .inr ⟨rfl, rfl⟩ | rfl
end Go.Proofs.YtiphcdmjlkngfaaGreatDoor.AllDicts

namespace Go.Proofs.YtiphcdmjlkngfaaGreatDoor.AllDicts
open Go Go.Isea Go.ChangeShapes Go.WideShapes Go.ChangeAt Go.RowKit Go.Deep
set_option maxRecDepth 100000
set_option maxHeartbeats 4000000
theorem own : ownKnob Tryz.prog.godebug = none := by kernel_rfl
noncomputable abbrev wit (os : Os) : World := World.laidAll Tryz.prog os Rows.fnAllDictsRow.laid
def witArgs : Array Value := #[.slice none 0 0]
theorem wit_met (os : Os) : laidMetH Tryz.prog Rows.fnAllDictsRow.laid ((wit os).forCall (fun _ _ => 0) ⟨#[], witArgs, []⟩).memory :=
  laidMetH_of_parts (laidMet_laidAll (os := os) witArgs (by kernel_rfl) (by kernel_rfl)) (by kernel_rfl)
theorem lifted (os : Os) (started : os.Started) (H : Type) (enc : TypeId × Value → H) :
    ReturnsInHanded {} Tryz.checked os 4 .any (fun w args => (Rows.fnAllDictsSpec.pre enc Tryz.prog Tryz.f4 [] false w args ∧ laidMetH Tryz.prog Rows.fnAllDictsRow.laid w) ∧ sizedMet enc Tryz.prog Tryz.f4 (OpenSpec.ofChange Rows.fnAllDictsSpec) false w args)
      (Rows.fnAllDictsSpec.post enc Tryz.prog Tryz.f4 false true false false) := by
  refine returnsInHanded_of_change_and (C := Tryz.checked) (X := fun w _ => laidMetH Tryz.prog Rows.fnAllDictsRow.laid w) (fun _ _ _ hh h => h.of_heap hh) own started (by kernel_rfl) Tryz.func4
    (ChangeSpec.witness_at (enc := enc) (C := Tryz.checked) (os := os) (X := fun w _ => laidMetH Tryz.prog Rows.fnAllDictsRow.laid w) false (wit os) witArgs 8 (World.laidAll_os _ _ _) (by kernel_rfl) (by kernel_rfl) (by kernel_rfl) (by kernel_rfl) (by kernel_rfl) (wit_met os)) ?_
  intro W base args ds gs before hval0 hW _ _ _ _
  exact body H enc W base args ds gs before hval0 hW
end Go.Proofs.YtiphcdmjlkngfaaGreatDoor.AllDicts
