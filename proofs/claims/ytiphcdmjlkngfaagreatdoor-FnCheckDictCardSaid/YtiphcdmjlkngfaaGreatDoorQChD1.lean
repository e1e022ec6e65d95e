/- The law ChD: its code returns true; its row and its card, which this claim proves. No condition is added. -/
import Derived.Test.YtiphcdmjlkngfaaGreatDoorMP
import Derived.Test.YtiphcdmjlkngfaaGreatDoorMO
import Derived.Test.YtiphcdmjlkngfaaGreatDoorMJ
import Derived.Test.YtiphcdmjlkngfaaGreatDoorMD
import Derived.Test.YtiphcdmjlkngfaaGreatDoorMK
import Derived.Test.YtiphcdmjlkngfaaGreatDoorRows
import Derived.OpenShut
import Derived.Stop.Joined
import Derived.Lay
import Derived.LaidHandle
set_option linter.all false
namespace Go.Isea
open Go
theorem chk_parts {w : Wld} {n : Need} {s : L8} (hw : w.Sm) (h : checkDict w n s = okW) : ∃ (i : Nat) (ps : List Dct) (x : Inst) (ms : List Need), dictOf s = some (.mk i ps) ∧ worldOk w = true ∧ needOk w n = true ∧ w.is[i]? = some x ∧ needsOf x n.t = some ms ∧ i ∈ candIx w n ∧ ms.length = ps.length ∧ ms.length ≤ 3 ∧ ∀ (k : Nat) p m, ps[k]? = some p → ms[k]? = some m → checkDict w m p.text = okW ∧ p.text.length ≤ 1200 ∧ m.Sm := by
  unfold checkDict at h
  cases hd : dictOf s with
  | none => rw [hd] at h; exact absurd h wrongL_ne
  | some d =>
    rw [hd] at h
    simp only at h
    split at h
    · rename_i hv
      rw [Bool.and_eq_true] at hv
      obtain ⟨i, ps⟩ := d
      obtain ⟨x, ms, hx, hc, hin, hm, hlen, hk⟩ := chkD_ok.1 h
      obtain ⟨g1, g2, g3⟩ := dictOf_some hd
      obtain ⟨_, _, hpw⟩ := dpart_wf g2
      obtain ⟨h3, hnk⟩ := needs_ok hv.1 hw hx hm
      refine ⟨i, ps, x, ms, rfl, hv.1, hv.2, hx, hm, cand_of hx hc hin, hlen, h3, fun k p m h1 h2 => ?_⟩
      have hp := List.mem_of_getElem? h1
      have hpl : p.text.length ≤ 1200 := by have := part_text (i := i) hp; rw [g1] at this; omega
      obtain ⟨q1, q2, _⟩ := hnk m (List.mem_of_getElem? h2)
      have hmo : needOk w m = true := by
        simp only [needOk, Bool.and_eq_true, decide_eq_true_eq]
        exact ⟨q1.1, q2⟩
      refine ⟨?_, hpl, q1.2⟩
      rw [checkDict, dictOf_text (hpw p hp) hpl]
      simp only
      rw [if_pos (by rw [hv.1, hmo]; rfl)]
      exact hk k p m h1 h2
    · exact absurd h wrongL_ne
end Go.Isea
namespace Go.Proofs.YtiphcdmjlkngfaaGreatDoor
open Go Go.Isea
set_option maxRecDepth 100000
set_option maxHeartbeats 16000000

theorem law_CheckDict (b : L8) (h : AH) (_hb : b.length ≤ 9223372036854775807) : Isea.Good Tryz.prog 6 [.sl (b.map byR)] h [] (.v (.bool true)) h := by
  by_cases hl : 1048576 < b.length
  · have hl' : ((1048576 : Int) < ((b.length : Nat) : Int)) = True := eq_true (by omega)
    refine good [] [] Tryz.func6 rfl rfl Tryz.ntmps6 (by kernel_rfl) mixed (by kernel_rfl) ?_
    simp -dsimp only [go_sem, hl', List.length_map]
    exact fin_pure (by simp -dsimp only [go_sem]) (by simp -dsimp only [go_sem])
  · have hl' : ((1048576 : Int) < ((b.length : Nat) : Int)) = False := eq_false (by omega)
    obtain ⟨w, n, s, w1, w2, w3, w4, hsl, hD⟩ := s_DrawCheckDict b
    have hw := smW_Sm w1
    have hnn := smNd_iff.1 w4
    have hn : n.Sm := ⟨by omega, by omega⟩
    have hC := fun H => i_CheckDict w n s H hw hn (by omega)
    have hS := fun H => s_CheckDict w n s H hw hn (by omega)
    by_cases hok : checkDict w n s = okW
    · obtain ⟨i, ps, x, ms, hd, wk, nk, hx, hms, hic, hlen, hm3, hpt⟩ := chk_parts hw hok
      rw [hok] at hC hS
      unfold okW at hC hS
      have hI : ∀ H, Isea.Good Tryz.prog 25 [str s] H [] (.v (.int .i64 (i : Nat))) H := fun H => by
        have := i_InstanceOf s H (by omega)
        unfold instD at this
        rw [hd] at this
        exact this
      have hns := (smIn_iff.1 ((smW_iff.1 w1).2.2.2 x (List.mem_of_getElem? hx))).2.2.1
      have hN := fun H => i_NeedsOf w i x n.t H hw (by omega) wk hx hn.2 (by omega)
      rw [hms] at hN
      unfold needsV at hN
      obtain ⟨X, hX⟩ : ∃ X, ps.map Dct.text = X := ⟨_, rfl⟩
      have hXl : X.length = ms.length := by rw [← hX, List.length_map]; exact hlen.symm
      have hXk : ∀ (k : Nat) m, ms[k]? = some m → ∃ p, X[k]? = some p ∧ checkDict w m p = okW ∧ p.length ≤ 1200 ∧ m.Sm := fun k m hm => by
        have hk := (List.getElem?_eq_some_iff.1 hm).1
        obtain ⟨p, hp⟩ := get_some (l := ps) (k := k) (by omega)
        obtain ⟨g1, g2, g3⟩ := hpt k p m hp hm
        exact ⟨p.text, by rw [← hX, List.getElem?_map, hp]; rfl, g1, g2, g3⟩
      have hPa := fun H => i_PartsOfDictF s H (by omega)
      have eP : prtD s = X := by unfold prtD; rw [hd, ← hX]; rfl
      rw [eP] at hPa
      have hCa := fun H => i_CandidatesOf w n H hw hn (by omega) (by rw [wk, nk]; rfl)
      obtain ⟨C, hCe⟩ : ∃ C, candIx w n = C := ⟨_, rfl⟩
      rw [hCe] at hCa hic
      have hCl : C.length ≤ 10 := by rw [← hCe]; exact cand_len10 wk n
      obtain ⟨fd, hfd⟩ : ∃ fd : Nat → Bool, fd = fun j => decide (i ∈ C.take j) := ⟨_, rfl⟩
      have fd0 : fd 0 = false := by rw [hfd]; simp
      have fde : fd C.length = true := by rw [hfd]; simpa using hic
      have fds : ∀ j y, C[j]? = some y → fd (j + 1) = (fd j || decide (((y : Nat) : Int) = ((i : Nat) : Int))) := fun j y hy => by
        rw [hfd]
        simp only [take_next hy, List.mem_append, List.mem_singleton]
        have : (i = y) ↔ (((y : Nat) : Int) = ((i : Nat) : Int)) := by omega
        simp only [this, Bool.decide_or]
      clear hfd hic hX hCe hok hd hpt
      refine good [] [] Tryz.func6 rfl rfl Tryz.ntmps6 (by kernel_rfl) mixed (by kernel_rfl) ?_
      simp -dsimp only [go_sem, hl', Wld.row, Need.row, List.length_map] at hD hC hS hN hCa ⊢
      refine call_pure (hD _) ?_
      simp -dsimp only [go_sem]
      refine call_pure (hC _) ?_
      simp -dsimp only [go_sem]
      refine call_pure (hS _) ?_
      simp -dsimp only [go_sem]
      refine call_pure (hI _) ?_
      simp -dsimp only [go_sem]
      refine call_pure (hN _) ?_
      simp -dsimp only [go_sem]
      refine call_pure (hPa _) ?_
      simp -dsimp only [go_sem, List.length_map]
      refine loop_ruleH [] (fun (k : {k : Nat // k ≤ ms.length}) H => ([(3, .ref [.sl (w.cs.map Cls.row), .sl (w.is.map Inst.row)] 0), (4, .ref [str n.c, str n.t] 0), (5, str s), (7, .v (.int .i64 (i : Nat))), (8, .sl (ms.map Need.row)), (9, .v (.bool true)), (10, .sl (X.map sRow)), (59, .sl (ms.map Need.row)), (60, .v (.int .i64 (ms.length : Nat))), (61, .v (.int .i64 (k.1 : Nat)))], ⟨h.n, H.o⟩)) (fun k => ms.length - k.1) ⟨0, Nat.zero_le _⟩ ?_ ?_
      · refine weak_objs [] (by simp -dsimp only [go_sem]) (by simp -dsimp only [go_sem]) (by simp -dsimp only [go_sem, List.length_map]) ?_ ?_ ?_
        · intro t h1 h2
          have a0 : ¬ t = h.n := by omega
          have a1 : ¬ t = h.n + 1 := by omega
          have a2 : ¬ t = h.n + 2 := by omega
          have a3 : ¬ t = h.n + 3 := by omega
          simp -dsimp only [go_sem, a0, a1, a2, a3]
        · intro x h1 h2; have h1 : x < h.n := h1; simp at h2 ⊢; omega
        · simp -dsimp only [go_sem]
      · rintro ⟨k, hk⟩
        have k1 : k + 1 ≤ 9223372036854775807 := by omega
        by_cases hkl : k < ms.length
        · obtain ⟨m, hm⟩ := get_some hkl
          obtain ⟨p, hp, hpc, hpl, hmS⟩ := hXk k m hm
          have hkc : (((k : Nat) : Int) < ((ms.length : Nat) : Int)) = True := eq_true (by omega)
          have hkX : k < X.length := by omega
          have hCm := fun H => i_CheckDict w m p H hw hmS (by omega)
          rw [hpc] at hCm
          unfold okW at hCm
          simp -dsimp only [go_sem, hkc, hkl, hkX, hm, hp, Need.row, Wld.row, sRow, List.length_map] at hCm ⊢
          refine call_pure (hCm _) ?_
          simp -dsimp only [go_sem, k1]
          refine round_to ⟨k + 1, hkl⟩ (by show ms.length - (k + 1) < ms.length - k; omega) ?_
          refine weak_objs [] (by simp -dsimp only [go_sem]) (by simp -dsimp only [go_sem]) (by simp -dsimp only [go_sem, List.length_map]) ?_ ?_ ?_
          · intro t h1 h2
            have a0 : ¬ t = h.n := by omega
            have a1 : ¬ t = h.n + 1 := by omega
            have a2 : ¬ t = h.n + 2 := by omega
            have a3 : ¬ t = h.n + 3 := by omega
            simp -dsimp only [go_sem, a0, a1, a2, a3]
          · intro x h1 h2; have h1 : x < h.n := h1; simp at h2 ⊢; omega
          · simp -dsimp only [go_sem]
        · have hkc : (((k : Nat) : Int) < ((ms.length : Nat) : Int)) = False := eq_false (by omega)
          simp -dsimp only [go_sem, hkc, Wld.row, List.length_map]
          refine call_pure (hCa _) ?_
          simp -dsimp only [go_sem, List.length_map]
          refine loop_ruleH [] (fun (j : {j : Nat // j ≤ C.length}) H => ([(7, .v (.int .i64 (i : Nat))), (8, .sl (ms.map Need.row)), (9, .v (.bool true)), (10, .sl (X.map sRow)), (15, .v (.bool (fd j.1))), (81, .sl (C.map iRow)), (82, .v (.int .i64 (C.length : Nat))), (83, .v (.int .i64 (j.1 : Nat)))], ⟨h.n, H.o⟩)) (fun j => C.length - j.1) ⟨0, Nat.zero_le _⟩ ?_ ?_
          · refine weak_objs [] (by simp -dsimp only [go_sem]) (by simp -dsimp only [go_sem]) (by simp -dsimp only [go_sem, fd0, List.length_map]) ?_ ?_ ?_
            · intro t h1 h2
              have a0 : ¬ t = h.n := by omega
              have a1 : ¬ t = h.n + 1 := by omega
              have a2 : ¬ t = h.n + 2 := by omega
              have a3 : ¬ t = h.n + 3 := by omega
              simp -dsimp only [go_sem, a0, a1, a2, a3]
            · intro x h1 h2; have h1 : x < h.n := h1; simp at h2 ⊢; omega
            · simp -dsimp only [go_sem]
          · rintro ⟨j, hj⟩
            have k2 : j + 1 ≤ 9223372036854775807 := by omega
            by_cases hjl : j < C.length
            · obtain ⟨y, hy⟩ := get_some hjl
              have hjc : (((j : Nat) : Int) < ((C.length : Nat) : Int)) = True := eq_true (by omega)
              have hnx := fds j y hy
              cases hfj : fd j with
              | true =>
                rw [hfj, Bool.true_or] at hnx
                simp -dsimp only [go_sem, hjc, hy, hjl, k2, iRow, List.length_map]
                refine round_to ⟨j + 1, hjl⟩ (by show C.length - (j + 1) < C.length - j; omega) ?_
                refine weak_objs [] (by simp -dsimp only [go_sem]) (by simp -dsimp only [go_sem]) (by simp -dsimp only [go_sem, hnx, List.length_map]) ?_ ?_ ?_
                · intro t h1 h2
                  have a0 : ¬ t = h.n := by omega
                  have a1 : ¬ t = h.n + 1 := by omega
                  have a2 : ¬ t = h.n + 2 := by omega
                  have a3 : ¬ t = h.n + 3 := by omega
                  simp -dsimp only [go_sem, a0, a1, a2, a3]
                · intro x h1 h2; have h1 : x < h.n := h1; simp at h2 ⊢; omega
                · simp -dsimp only [go_sem]
              | false =>
                rw [hfj, Bool.false_or] at hnx
                by_cases hyx : ((y : Nat) : Int) = ((i : Nat) : Int)
                · have hyx1 : (((y : Nat) : Int) = ((i : Nat) : Int)) = True := eq_true hyx
                  rw [decide_eq_true hyx] at hnx
                  simp -dsimp only [go_sem, hjc, hy, hjl, k2, hyx1, iRow, List.length_map]
                  refine round_to ⟨j + 1, hjl⟩ (by show C.length - (j + 1) < C.length - j; omega) ?_
                  refine weak_objs [] (by simp -dsimp only [go_sem]) (by simp -dsimp only [go_sem]) (by simp -dsimp only [go_sem, hnx, List.length_map]) ?_ ?_ ?_
                  · intro t h1 h2
                    have a0 : ¬ t = h.n := by omega
                    have a1 : ¬ t = h.n + 1 := by omega
                    have a2 : ¬ t = h.n + 2 := by omega
                    have a3 : ¬ t = h.n + 3 := by omega
                    simp -dsimp only [go_sem, a0, a1, a2, a3]
                  · intro x h1 h2; have h1 : x < h.n := h1; simp at h2 ⊢; omega
                  · simp -dsimp only [go_sem]
                · have hyx1 : (((y : Nat) : Int) = ((i : Nat) : Int)) = False := eq_false hyx
                  rw [decide_eq_false hyx] at hnx
                  simp -dsimp only [go_sem, hjc, hy, hjl, k2, hyx1, iRow, List.length_map]
                  refine round_to ⟨j + 1, hjl⟩ (by show C.length - (j + 1) < C.length - j; omega) ?_
                  refine weak_objs [] (by simp -dsimp only [go_sem]) (by simp -dsimp only [go_sem]) (by simp -dsimp only [go_sem, hnx, List.length_map]) ?_ ?_ ?_
                  · intro t h1 h2
                    have a0 : ¬ t = h.n := by omega
                    have a1 : ¬ t = h.n + 1 := by omega
                    have a2 : ¬ t = h.n + 2 := by omega
                    have a3 : ¬ t = h.n + 3 := by omega
                    simp -dsimp only [go_sem, a0, a1, a2, a3]
                  · intro x h1 h2; have h1 : x < h.n := h1; simp at h2 ⊢; omega
                  · simp -dsimp only [go_sem]
            · have hjc : (((j : Nat) : Int) < ((C.length : Nat) : Int)) = False := eq_false (by omega)
              have hje : j = C.length := by omega
              subst hje
              simp -dsimp only [go_sem, hjc, fde, hXl, List.length_map]
              exact fin_pure (by simp -dsimp only [go_sem]) (by simp -dsimp only [go_sem])
    · have hnk : (checkDict w n s = [111, 107]) = False := eq_false hok
      generalize checkDict w n s = T at hC hS hnk
      refine good [] [] Tryz.func6 rfl rfl Tryz.ntmps6 (by kernel_rfl) mixed (by kernel_rfl) ?_
      simp -dsimp only [go_sem, hl', Wld.row, Need.row, List.length_map] at hD hC hS ⊢
      refine call_pure (hD _) ?_
      simp -dsimp only [go_sem]
      refine call_pure (hC _) ?_
      simp -dsimp only [go_sem]
      refine call_pure (hS _) ?_
      simp -dsimp only [go_sem, hnk]
      refine call_pure (hS _) ?_
      simp -dsimp only [go_sem]
      exact fin_pure (by simp -dsimp only [go_sem]) (by simp -dsimp only [go_sem])
end Go.Proofs.YtiphcdmjlkngfaaGreatDoor

namespace Go.Proofs.YtiphcdmjlkngfaaGreatDoor.CheckDict
open Go Go.Isea Go.ChangeShapes Go.WideShapes Go.ChangeAt Go.RowKit Go.Deep
set_option maxRecDepth 100000
set_option maxHeartbeats 4000000
theorem contract (W : World) (args : Array Value) (b0 : L8) (bl0 : b0.length ≤ 9223372036854775807)
    (hr : ∀ (K : KM) (o : Nat → AObj), RepL K ⟨0, o⟩ W [.sl (b0.map byR)] args) :
    Calls Tryz.prog 6 args W fun e W' => e = .returned (.bool true) ∧ W'.os = W.os ∧ W'.tape = W.tape ∧ W'.output = W.output ∧ W.heap.size ≤ W'.heap.size ∧ ∀ b, b < W.heap.size → W'.heap[b]? = W.heap[b]? := by
  have hg := law_CheckDict b0 ⟨0, fun _ => default⟩ bl0
  refine (hg.2 (fun _ => undef) W args ⟨fun t b ht => absurd ht (Nat.not_lt_zero _), fun s t b hs => absurd hs (Nat.not_lt_zero _), fun t ht => absurd ht (Nat.not_lt_zero _)⟩ (hr _ _)).mono ?_
  rintro e W' ⟨K', v, rfl, _, hE, hv⟩
  have e1 : v = .bool true := raw_rep (x := .v (.bool true)) rfl hv
  subst e1
  exact ⟨rfl, hE.os, hE.tape, hE.output, hE.size, fun b hb => hE.same b hb fun t ht => by cases ht⟩
theorem laidOut : laidOutB Tryz.prog = true := by kernel_rfl
theorem body (H : Type) (enc : TypeId × Value → H) (W : World) (base : Nat) (args : Array Value) (ds gs : List (DataW H)) (before : List MemPlace)
    (hval : ∀ (j : Nat) t v, Tryz.f6.params[j]? = some t → args[j]? = some v → Value.okWide Tryz.prog W .any base t v)
    (hW : DataW.Whole enc Tryz.prog Tryz.f6.params.toList Rows.fnCheckDictSpec.vars false W args.toList ds gs before) :
    Calls Tryz.prog 6 args W fun e W' => ∃ v, e = .returned v ∧ Rows.fnCheckDictSpec.post enc Tryz.prog Tryz.f6 false true false false W args v W' := by
  have hW' := hW
  obtain ⟨p, q, hA0, hV, rfl, hfz, hnd⟩ := hW
  have hA : DataW.TrodAll enc Tryz.prog W 0 (fun _ => true) true Tryz.f6.params.toList args.toList ds p := hA0
  rw [Tryz.params6] at hA hval
  obtain ⟨v0, vs0, d0, ds0, p0, q0, hargs, rfl, rfl, h0, r0⟩ := trodAll_cons hA
  obtain ⟨rfl, rfl, rfl⟩ := trodAll_nil r0
  obtain rfl : args = #[v0] := by cases args; simp_all
  obtain ⟨rfl, rfl⟩ := trodVars_none hV
  have o0 := hval 0 22 v0 rfl rfl
  unfold Value.okWide at o0
  rw [Tryz.underlying22] at o0
  have h0k := h0
  obtain ⟨f0, t0⟩ := h0
  have e0 : v0.cells.toList = [v0] := by
    cases v0 <;> first | rfl | (exfalso; simp [Cell.okWide, Cell.ok, Tryz.underlying22] at o0)
  rw [e0] at t0
  obtain ⟨b0, hb0, bl0⟩ := read_bytes t0
  have aggR : ∀ (K : KM) (o : Nat → AObj) (r : List AV) (c : Array Value), RowR W r c.toList → Rep K ⟨0, o⟩ W (.agg r) (.agg c) := fun K o r c h => .agg (by simpa using h.1) fun i x y a b => h.2 K o i x y a (by simpa using b)
  refine (contract W _ b0 bl0 fun K o => ⟨rfl, fun i x y a b => ?_⟩).mono ?_
  · rcases i with _ | i
    · simp at a b; subst a; subst b; exact hb0 K o
    · simp at a
  · rintro e W' ⟨rfl, h3, h3', h4, h5, h6⟩
    have hb : Below W.heap.size W W' := ⟨h3, h3', h4, h5, h6⟩
    have hlt := hW'.lt
    refine ⟨_, rfl, _, _, _, [], p0 ++ ([]), [], hW', ?_, ?_, ?_, ?_, fun h => by cases h⟩
    · exact trodAll_mk1 (shut_bool Tryz.underlying4 true)
    · exact trodAll_cons_mk (Below.trod laidOut (by kernel_rfl) (of_decide_eq_true (by kernel_rfl)) h0k hb (fun x hx => hlt x (by simp [hx]))) (trodAll_mk0)
    · rfl
    · refine ⟨h3, h4, fun i hi => ?_⟩
      rw [h6 i hi]
      cases W.heap[i]? with
      | none => rfl
      | some o => cases o <;> first | exact ⟨rfl, rfl, rfl, fun _ _ => rfl⟩ | exact .inr ⟨rfl, rfl⟩ | rfl
end Go.Proofs.YtiphcdmjlkngfaaGreatDoor.CheckDict

namespace Go.Proofs.YtiphcdmjlkngfaaGreatDoor.CheckDict
open Go Go.Isea Go.ChangeShapes Go.WideShapes Go.ChangeAt Go.RowKit Go.Deep
set_option maxRecDepth 100000
set_option maxHeartbeats 4000000
theorem own : ownKnob Tryz.prog.godebug = none := by kernel_rfl
noncomputable abbrev wit (os : Os) : World := World.laidAll Tryz.prog os Rows.fnCheckDictRow.laid
def witArgs : Array Value := #[.slice none 0 0]
theorem wit_met (os : Os) : laidMetH Tryz.prog Rows.fnCheckDictRow.laid ((wit os).forCall (fun _ _ => 0) ⟨#[], witArgs, []⟩).memory :=
  laidMetH_of_parts (laidMet_laidAll (os := os) witArgs (by kernel_rfl) (by kernel_rfl)) (by kernel_rfl)
theorem lifted (os : Os) (started : os.Started) (H : Type) (enc : TypeId × Value → H) :
    ReturnsInHanded {} Tryz.checked os 6 .any (fun w args => (Rows.fnCheckDictSpec.pre enc Tryz.prog Tryz.f6 [] false w args ∧ laidMetH Tryz.prog Rows.fnCheckDictRow.laid w) ∧ sizedMet enc Tryz.prog Tryz.f6 (OpenSpec.ofChange Rows.fnCheckDictSpec) false w args)
      (Rows.fnCheckDictSpec.post enc Tryz.prog Tryz.f6 false true false false) := by
  refine returnsInHanded_of_change_and (C := Tryz.checked) (X := fun w _ => laidMetH Tryz.prog Rows.fnCheckDictRow.laid w) (fun _ _ _ hh h => h.of_heap hh) own started (by kernel_rfl) Tryz.func6
    (ChangeSpec.witness_at (enc := enc) (C := Tryz.checked) (os := os) (X := fun w _ => laidMetH Tryz.prog Rows.fnCheckDictRow.laid w) false (wit os) witArgs 8 (World.laidAll_os _ _ _) (by kernel_rfl) (by kernel_rfl) (by kernel_rfl) (by kernel_rfl) (by kernel_rfl) (wit_met os)) ?_
  intro W base args ds gs before hval0 hW _ _ _ _
  exact body H enc W base args ds gs before hval0 hW
end Go.Proofs.YtiphcdmjlkngfaaGreatDoor.CheckDict
