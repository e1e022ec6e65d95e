/- The law Fu0: its code returns true; its row and its card, which this claim proves. No condition is added. -/
import Derived.Test.YtnocdggngfiebaaGreatDoorXa
import Derived.Test.YtnocdggngfiebaaGreatDoorMv
import Derived.Test.YtnocdggngfiebaaGreatDoorMZ
import Derived.Test.YtnocdggngfiebaaGreatDoorMJ
import Derived.Test.YtnocdggngfiebaaGreatDoorRows
import Derived.OpenShut
import Derived.Stop.Joined
import Derived.Lay
import Derived.LaidHandle
set_option linter.all false
namespace Go.Isea
open Go
theorem full_facts {w : Wld} {i : Int} {L : List Need} (hw : w.Sm) (h : fullN w i = some L) : ∃ (k : Nat) (x : Inst) (E : List Need), i = (k : Nat) ∧ worldOk w = true ∧ w.is[k]? = some x ∧ L = x.ns ++ E ∧ tv x.t = true ∧ (∀ m ∈ E, sizeT m.t = 1 ∧ m.t.length ≤ 1 ∧ ∀ c ∈ m.t, c ∈ varsIn x.t) ∧ (E ≠ [] → ((gapsOf w).any fun g => decide (((g.1 : Nat) : Int) = (k : Nat))) = true) := by
  obtain ⟨x, h1, h2, h3, E, h4, h5, h6⟩ := fullN_ok hw h
  obtain ⟨_, _, htv, _⟩ := world_inst h1 h3
  refine ⟨i.toNat, x, E, by omega, h1, h3, h4, htv, fun m hm => ?_, fun he => ?_⟩
  · obtain ⟨c, hc, hv, hcn, _⟩ := h5 m hm
    refine ⟨?_, by rw [hc]; simp, fun y hy => ?_⟩
    · have : typeOf m.t = some (.leaf c) := by
        rw [hc]
        exact typeOf_text (t := .leaf c) (isV_ar hv) (by simp [Ty.text])
      unfold sizeT
      rw [this]; rfl
    · rw [hc] at hy
      have : y = c := by simpa using hy
      rw [this]
      unfold varsIn
      rw [List.mem_filter]
      exact ⟨forall_u8 (p := fun c => isV c = true → c ∈ vars6) (by decide +kernel) c hv, by simpa using hcn⟩
  · rw [gaps_any h1 h3]
    exact decide_eq_true fun e => he (h6 e)
end Go.Isea
namespace Go.Proofs.YtnocdggngfiebaaGreatDoor
open Go Go.Isea
set_option maxRecDepth 100000
set_option maxHeartbeats 16000000

theorem law_FullNeeds (b : L8) (h : AH) (_hb : b.length ≤ 9223372036854775807) : Isea.Good Tryz.prog 4 [.sl (b.map byR)] h [] (.v (.bool true)) h := by
  by_cases hl : 1048576 < b.length
  · have hl' : ((1048576 : Int) < ((b.length : Nat) : Int)) = True := eq_true (by omega)
    refine good [] [] Tryz.func4 rfl rfl Tryz.ntmps4 (by kernel_rfl) mixed (by kernel_rfl) ?_
    simp -dsimp only [go_sem, hl', List.length_map]
    exact fin_pure (by simp -dsimp only [go_sem]) (by simp -dsimp only [go_sem])
  · have hl' : ((1048576 : Int) < ((b.length : Nat) : Int)) = False := eq_false (by omega)
    obtain ⟨w, i, w1, w2, w3, i1, i2, hD⟩ := s_DrawFullNeeds b
    have hw := smW_Sm w1
    have hI : ∀ H, Isea.Good Tryz.prog 23 [.agg w.row, .v (.int .i64 i)] H [] (.tup [.sl (((fullN w i).getD []).map Need.row), .v (.bool (fullN w i).isSome)]) H := fun H => (i_FullNeeds w i H hw ⟨i1, i2⟩).fin (fin_pure (by simp -dsimp only [go_sem]) (by simp -dsimp only [go_sem, List.length_map]))
    have hS := fun H => s_FullNeeds w i H hw ⟨i1, i2⟩
    rcases opt_cases (fullN w i) with e | ⟨L, e⟩
    · rw [e] at hI hS
      have hEq := fun H => l_inNeeds [] H (by simp)
      refine good [] [] Tryz.func4 rfl rfl Tryz.ntmps4 (by kernel_rfl) mixed (by kernel_rfl) ?_
      simp -dsimp only [go_sem, hl', Wld.row, Need.row, List.length_map, Option.getD_none, Option.isSome_none, List.map_nil] at hD hI hS hEq ⊢
      refine call_pure (hD _) ?_
      simp -dsimp only [go_sem]
      refine call_pure (hI _) ?_
      simp -dsimp only [go_sem]
      refine call_pure (hS _) ?_
      simp -dsimp only [go_sem]
      refine call_pure (hEq _) ?_
      simp -dsimp only [go_sem]
      refine call_pure (hEq _) ?_
      simp -dsimp only [go_sem]
      exact fin_pure (by simp -dsimp only [go_sem]) (by simp -dsimp only [go_sem])
    · obtain ⟨k, x, E, rfl, hok, hx, hLe, htv, hm, hg⟩ := full_facts hw e
      have hln := fullN_len hw e
      rw [e] at hI hS
      clear e
      have hkl : k < w.is.length := (List.getElem?_eq_some_iff.1 hx).1
      have hxs := (smIn_iff.1 ((smW_iff.1 w1).2.2.2 x (List.mem_of_getElem? hx)))
      have hxt : x.t.length ≤ 4611686018427387904 := (hw.i x (List.mem_of_getElem? hx)).2.1
      have hEq := fun H => l_inNeeds L H (by omega)
      have hEl : L.length = x.ns.length + E.length := by rw [hLe, List.length_append]
      have hEo := fun H => l_inNeeds x.ns H (by omega)
      have hV := fun H => i_VarsOf x.t H hxt
      rw [htv, if_pos rfl] at hV
      have hvl : (varsIn x.t).length ≤ 6 := by rw [← varsK_all x.t (Nat.le_refl 6)]; exact varsK_len x.t 6
      have hZ : ∀ m ∈ E, ∀ H, Isea.Good Tryz.prog 17 [str m.t] H [] (.v (.int .i64 1)) H := fun m h H => by
        obtain ⟨g1, g2, _⟩ := hm m h
        have := i_SizeOf m.t H (by omega)
        rw [g1] at this
        exact this
      have hIn : ∀ m ∈ E, ∀ H, Isea.Good Tryz.prog 18 [str m.t, str (varsIn x.t)] H [] (.v (.bool true)) H := fun m h H => by
        obtain ⟨_, g2, g4⟩ := hm m h
        exact l_inLetters m.t (varsIn x.t) H (by omega) (by omega) g4
      have hG := fun H => i_GapsOfF w H hw
      have hGl : (gapsOf w).length ≤ 100000 := by
        unfold gapsOf
        rw [if_pos hok]
        have := gapsTo_len w w.is.length
        omega
      obtain ⟨fd, hfd⟩ : ∃ fd : Nat → Bool, fd = fun j => ((gapsOf w).take j).any fun g => decide (((g.1 : Nat) : Int) = (k : Nat)) := ⟨_, rfl⟩
      have fd0 : fd 0 = false := by rw [hfd]; rfl
      have fde : E ≠ [] → fd (gapsOf w).length = true := fun he => by rw [hfd]; simp only [List.take_length]; exact hg he
      have fds : ∀ (j : Nat) (y : Nat × UInt8), (gapsOf w)[j]? = some y → fd (j + 1) = (fd j || decide (((y.1 : Nat) : Int) = ((k : Nat) : Int))) := fun j y hy => by
        rw [hfd]
        simp only [take_next hy, List.any_append, List.any_cons, List.any_nil, Bool.or_false]
      clear hfd hg hm
      generalize gapsOf w = GS at hG hGl fde fds
      generalize varsIn x.t = V at hV hIn
      have hdr : ((L.map Need.row).drop x.ns.length).take (L.length - x.ns.length) = E.map Need.row := by
        rw [hLe, List.map_append, List.drop_left' (by simp), List.take_of_length_le (by simp)]
      have htk : (L.map Need.row).take x.ns.length = x.ns.map Need.row := by
        rw [hLe, List.map_append, List.take_left' (by simp)]
      have hdr2 : (L.drop x.ns.length).take (L.length - x.ns.length) = E := by
        rw [hLe, List.drop_left' rfl, List.take_of_length_le (by simp)]
      have htk2 : L.take x.ns.length = x.ns := by rw [hLe, List.take_left' rfl]
      have hle : x.ns.length ≤ L.length := by omega
      have hbd0 : bound 0 (some (.v (.int .i64 ((x.ns.length : Nat) : Int)))) = some x.ns.length := bound_k (k := x.ns.length)
      have hbd : bound L.length (some (.v (.int .i64 ((x.ns.length : Nat) : Int)))) = some x.ns.length := bound_k (k := x.ns.length)
      have hEz : E = [] → (((L.length : Nat) : Int) = ((x.ns.length : Nat) : Int)) = True := fun he => eq_true (by rw [hEl, he]; simp)
      clear hLe hvl hxs hxt
      have hkc0 : ((0 : Int) ≤ ((k : Nat) : Int)) = True := eq_true (by omega)
      refine good [] [] Tryz.func4 rfl rfl Tryz.ntmps4 (by kernel_rfl) mixed (by kernel_rfl) ?_
      simp -dsimp only [go_sem, hl', Wld.row, Need.row, List.length_map, Option.getD_some, Option.isSome_some] at hD hI hS hG ⊢
      refine call_pure (hD _) ?_
      simp -dsimp only [go_sem]
      refine call_pure (hI _) ?_
      simp -dsimp only [go_sem]
      refine call_pure (hS _) ?_
      simp -dsimp only [go_sem]
      refine call_pure (hEq _) ?_
      simp -dsimp only [go_sem, hx, hkl, hok, Inst.row, List.length_map]
      refine call_pure (hG _) ?_
      simp -dsimp only [go_sem, hok, List.length_map]
      refine loop_ruleH [] (fun (j : {j : Nat // j ≤ GS.length}) H => ([(3, .ref [.sl (w.cs.map Cls.row), .sl (w.is.map Inst.row)] 0), (4, .v (.int .i64 (k : Nat))), (5, .sl (L.map Need.row)), (9, .sl (x.ns.map Need.row)), (12, .v (.bool (fd j.1))), (69, .sl (GS.map gapRow)), (70, .v (.int .i64 (GS.length : Nat))), (71, .v (.int .i64 (j.1 : Nat)))], ⟨h.n, H.o⟩)) (fun j => GS.length - j.1) ⟨0, Nat.zero_le _⟩ ?_ ?_
      · refine weak_objs [] (by simp -dsimp only [go_sem]) (by simp -dsimp only [go_sem]) (by simp -dsimp only [go_sem, fd0, List.length_map]) ?_ ?_ ?_
        · intro t h1 h2
          have a0 : ¬ t = h.n := by omega
          have a1 : ¬ t = h.n + 1 := by omega
          have a2 : ¬ t = h.n + 2 := by omega
          have a3 : ¬ t = h.n + 3 := by omega
          simp -dsimp only [go_sem, a0, a1, a2, a3]
        · intro x h1 h2; have h1 : x < h.n := h1; simp at h2 ⊢; omega
        · simp -dsimp only [go_sem]
      · rintro ⟨j, hj⟩
        have k2 : j + 1 ≤ 9223372036854775807 := by omega
        by_cases hjl : j < GS.length
        · obtain ⟨y, hy⟩ := get_some hjl
          have hjc : (((j : Nat) : Int) < ((GS.length : Nat) : Int)) = True := eq_true (by omega)
          have hnx := fds j y hy
          cases hfj : fd j with
          | true =>
            rw [hfj, Bool.true_or] at hnx
            simp -dsimp only [go_sem, hjc, hy, hjl, k2, gapRow, List.length_map]
            refine round_to ⟨j + 1, hjl⟩ (by show GS.length - (j + 1) < GS.length - j; omega) ?_
            refine weak_objs [] (by simp -dsimp only [go_sem]) (by simp -dsimp only [go_sem]) (by simp -dsimp only [go_sem, hnx, List.length_map]) ?_ ?_ ?_
            · intro t h1 h2
              have a0 : ¬ t = h.n := by omega
              have a1 : ¬ t = h.n + 1 := by omega
              have a2 : ¬ t = h.n + 2 := by omega
              have a3 : ¬ t = h.n + 3 := by omega
              simp -dsimp only [go_sem, a0, a1, a2, a3]
            · intro x h1 h2; have h1 : x < h.n := h1; simp at h2 ⊢; omega
            · simp -dsimp only [go_sem]
          | false =>
            rw [hfj, Bool.false_or] at hnx
            by_cases hyx : ((y.1 : Nat) : Int) = ((k : Nat) : Int)
            · have hyx1 : (((y.1 : Nat) : Int) = ((k : Nat) : Int)) = True := eq_true hyx
              rw [decide_eq_true hyx] at hnx
              simp -dsimp only [go_sem, hjc, hy, hjl, k2, hyx1, gapRow, List.length_map]
              refine round_to ⟨j + 1, hjl⟩ (by show GS.length - (j + 1) < GS.length - j; omega) ?_
              refine weak_objs [] (by simp -dsimp only [go_sem]) (by simp -dsimp only [go_sem]) (by simp -dsimp only [go_sem, hnx, List.length_map]) ?_ ?_ ?_
              · intro t h1 h2
                have a0 : ¬ t = h.n := by omega
                have a1 : ¬ t = h.n + 1 := by omega
                have a2 : ¬ t = h.n + 2 := by omega
                have a3 : ¬ t = h.n + 3 := by omega
                simp -dsimp only [go_sem, a0, a1, a2, a3]
              · intro x h1 h2; have h1 : x < h.n := h1; simp at h2 ⊢; omega
              · simp -dsimp only [go_sem]
            · have hyx1 : (((y.1 : Nat) : Int) = ((k : Nat) : Int)) = False := eq_false hyx
              rw [decide_eq_false hyx] at hnx
              simp -dsimp only [go_sem, hjc, hy, hjl, k2, hyx1, gapRow, List.length_map]
              refine round_to ⟨j + 1, hjl⟩ (by show GS.length - (j + 1) < GS.length - j; omega) ?_
              refine weak_objs [] (by simp -dsimp only [go_sem]) (by simp -dsimp only [go_sem]) (by simp -dsimp only [go_sem, hnx, List.length_map]) ?_ ?_ ?_
              · intro t h1 h2
                have a0 : ¬ t = h.n := by omega
                have a1 : ¬ t = h.n + 1 := by omega
                have a2 : ¬ t = h.n + 2 := by omega
                have a3 : ¬ t = h.n + 3 := by omega
                simp -dsimp only [go_sem, a0, a1, a2, a3]
              · intro x h1 h2; have h1 : x < h.n := h1; simp at h2 ⊢; omega
              · simp -dsimp only [go_sem]
        · have hjc : (((j : Nat) : Int) < ((GS.length : Nat) : Int)) = False := eq_false (by omega)
          have hje : j = GS.length := by omega
          subst hje
          simp -dsimp only [go_sem, hjc, hbd0, hle, hdr, hdr2, List.length_map]
          refine loop_ruleH [] (fun (q : {q : Nat // q ≤ E.length}) H => ([(3, .ref [.sl (w.cs.map Cls.row), .sl (w.is.map Inst.row)] 0), (4, .v (.int .i64 (k : Nat))), (5, .sl (L.map Need.row)), (9, .sl (x.ns.map Need.row)), (12, .v (.bool (fd GS.length))), (86, .sl (E.map Need.row)), (87, .v (.int .i64 (E.length : Nat))), (88, .v (.int .i64 (q.1 : Nat)))], ⟨h.n, H.o⟩)) (fun q => E.length - q.1) ⟨0, Nat.zero_le _⟩ ?_ ?_
          · refine weak_objs [] (by simp -dsimp only [go_sem]) (by simp -dsimp only [go_sem]) (by simp -dsimp only [go_sem, hdr2, List.length_map]) ?_ ?_ ?_
            · intro t h1 h2
              have a0 : ¬ t = h.n := by omega
              have a1 : ¬ t = h.n + 1 := by omega
              have a2 : ¬ t = h.n + 2 := by omega
              have a3 : ¬ t = h.n + 3 := by omega
              simp -dsimp only [go_sem, a0, a1, a2, a3]
            · intro x h1 h2; have h1 : x < h.n := h1; simp at h2 ⊢; omega
            · simp -dsimp only [go_sem]
          · rintro ⟨q, hq⟩
            have q1 : q + 1 ≤ 9223372036854775807 := by omega
            by_cases hql : q < E.length
            · obtain ⟨m, hmx⟩ := get_some hql
              have hqc : (((q : Nat) : Int) < ((E.length : Nat) : Int)) = True := eq_true (by omega)
              have hZx := hZ m (List.mem_of_getElem? hmx)
              have hIx := hIn m (List.mem_of_getElem? hmx)
              simp -dsimp only [go_sem, hqc, hql, hmx, Need.row, List.length_map]
              refine call_pure (hZx _) ?_
              simp -dsimp only [go_sem, hx, hkl, Inst.row, Need.row, List.length_map]
              refine call_pure (hV _) ?_
              simp -dsimp only [go_sem]
              refine call_pure (hIx _) ?_
              simp -dsimp only [go_sem, q1]
              refine round_to ⟨q + 1, hql⟩ (by show E.length - (q + 1) < E.length - q; omega) ?_
              refine weak_objs [] (by simp -dsimp only [go_sem]) (by simp -dsimp only [go_sem]) (by simp -dsimp only [go_sem, List.length_map]) ?_ ?_ ?_
              · intro t h1 h2
                have a0 : ¬ t = h.n := by omega
                have a1 : ¬ t = h.n + 1 := by omega
                have a2 : ¬ t = h.n + 2 := by omega
                have a3 : ¬ t = h.n + 3 := by omega
                simp -dsimp only [go_sem, a0, a1, a2, a3]
              · intro x h1 h2; have h1 : x < h.n := h1; simp at h2 ⊢; omega
              · simp -dsimp only [go_sem]
            · have hqc : (((q : Nat) : Int) < ((E.length : Nat) : Int)) = False := eq_false (by omega)
              by_cases he : E = []
              · have hz := hEz he
                cases hf : fd GS.length with
                | true =>
                  simp -dsimp only [go_sem, hqc, hbd, hle, htk, htk2, List.length_map]
                  refine call_pure (hEo _) ?_
                  simp -dsimp only [go_sem, hf]
                  exact fin_pure (by simp -dsimp only [go_sem]) (by simp -dsimp only [go_sem])
                | false =>
                  simp -dsimp only [go_sem, hqc, hbd, hle, htk, htk2, List.length_map]
                  refine call_pure (hEo _) ?_
                  simp -dsimp only [go_sem, hf, hz, List.length_map]
                  exact fin_pure (by simp -dsimp only [go_sem]) (by simp -dsimp only [go_sem])
              · have hf := fde he
                simp -dsimp only [go_sem, hqc, hbd, hle, htk, htk2, List.length_map]
                refine call_pure (hEo _) ?_
                simp -dsimp only [go_sem, hf]
                exact fin_pure (by simp -dsimp only [go_sem]) (by simp -dsimp only [go_sem])
end Go.Proofs.YtnocdggngfiebaaGreatDoor

namespace Go.Proofs.YtnocdggngfiebaaGreatDoor.FullNeeds
open Go Go.Isea Go.ChangeShapes Go.WideShapes Go.ChangeAt Go.RowKit Go.Deep
set_option maxRecDepth 100000
set_option maxHeartbeats 4000000
theorem contract (W : World) (args : Array Value) (b0 : L8) (bl0 : b0.length ≤ 9223372036854775807)
    (hpin : ∀ (K : KM) (o : Nat → AObj), Pin K ⟨0, o⟩ W) (hr : ∀ (K : KM) (o : Nat → AObj), RepL K ⟨0, o⟩ W [.sl (b0.map byR)] args) :
    Calls Tryz.prog 4 args W fun e W' => e = .returned (.bool true) ∧ W'.os = W.os ∧ W'.tape = W.tape ∧ W'.output = W.output ∧ W.heap.size ≤ W'.heap.size ∧ ∀ b, b < W.heap.size → W'.heap[b]? = W.heap[b]? := by
  have hg := law_FullNeeds b0 ⟨0, fun _ => default⟩ bl0
  refine (hg.2 (fun _ => undef) W args ⟨fun t b ht => absurd ht (Nat.not_lt_zero _), fun s t b hs => absurd hs (Nat.not_lt_zero _), fun t ht => absurd ht (Nat.not_lt_zero _), hpin _ _⟩ (hr _ _)).mono ?_
  rintro e W' ⟨K', v, rfl, _, hE, hv⟩
  have e1 : v = .bool true := raw_rep (x := .v (.bool true)) rfl hv
  subst e1
  exact ⟨rfl, hE.os, hE.tape, hE.output, hE.size, fun b hb => hE.same b hb fun t ht => by cases ht⟩
theorem laidOut : laidOutB Tryz.prog = true := by kernel_rfl
theorem body (H : Type) (enc : TypeId × Value → H) (W : World) (base : Nat) (args : Array Value) (ds gs : List (DataW H)) (before : List MemPlace)
    (hval : ∀ (j : Nat) t v, Tryz.f4.params[j]? = some t → args[j]? = some v → Value.okWide Tryz.prog W .any base t v)
    (hW : DataW.Whole enc Tryz.prog Tryz.f4.params.toList Rows.fnFullNeedsSpec.vars false W args.toList ds gs before) (hlaid : laidMetH Tryz.prog Rows.fnFullNeedsRow.laid W) :
    Calls Tryz.prog 4 args W fun e W' => ∃ v, e = .returned v ∧ Rows.fnFullNeedsSpec.post enc Tryz.prog Tryz.f4 false true false false W args v W' := by
  have hW' := hW
  obtain ⟨p, q, hA0, hV, rfl, hfz, hnd⟩ := hW
  have hA : DataW.TrodAll enc Tryz.prog W 0 (fun _ => true) true Tryz.f4.params.toList args.toList ds p := hA0
  rw [Tryz.params4] at hA hval
  obtain ⟨v0, vs0, d0, ds0, p0, q0, hargs, rfl, rfl, h0, r0⟩ := trodAll_cons hA
  obtain ⟨rfl, rfl, rfl⟩ := trodAll_nil r0
  obtain rfl : args = #[v0] := by cases args; simp_all
  obtain ⟨rfl, rfl⟩ := trodVars_none hV
  have o0 := hval 0 22 v0 rfl rfl
  unfold Value.okWide at o0
  rw [Tryz.underlying22] at o0
  have h0k := h0
  obtain ⟨f0, t0⟩ := h0
  have e0 : v0.cells.toList = [v0] := by
    cases v0 <;> first | rfl | (exfalso; simp [Cell.okWide, Cell.ok, Tryz.underlying22] at o0)
  rw [e0] at t0
  obtain ⟨b0, hb0, bl0⟩ := read_bytes t0
  have aggR : ∀ (K : KM) (o : Nat → AObj) (r : List AV) (c : Array Value), RowR W r c.toList → Rep K ⟨0, o⟩ W (.agg r) (.agg c) := fun K o r c h => .agg (by simpa using h.1) fun i x y a b => h.2 K o i x y a (by simpa using b)
  refine (contract W _ b0 bl0 (pin_laid (by kernel_rfl) (pin_in (by kernel_rfl)) hlaid) fun K o => ⟨rfl, fun i x y a b => ?_⟩).mono ?_
  · rcases i with _ | i
    · simp at a b; subst a; subst b; exact hb0 K o
    · simp at a
  · rintro e W' ⟨rfl, h3, h3', h4, h5, h6⟩
    have hb : Below W.heap.size W W' := ⟨h3, h3', h4, h5, h6⟩
    have hlt := hW'.lt
    refine ⟨_, rfl, _, _, _, [], p0 ++ ([]), [], hW', ?_, ?_, ?_, ?_, fun h => by cases h⟩
    · exact trodAll_mk1 (shut_bool Tryz.underlying4 true)
    · exact trodAll_cons_mk (Below.trod laidOut (by kernel_rfl) (of_decide_eq_true (by kernel_rfl)) h0k hb (fun x hx => hlt x (by simp [hx]))) (trodAll_mk0)
    · rfl
    · refine ⟨h3, h4, fun i hi => ?_⟩
      rw [h6 i hi]
      cases W.heap[i]? with
      | none => rfl
      | some o => cases o <;> first | exact ⟨rfl, rfl, rfl, fun _ _ => rfl⟩ | exact .inr ⟨rfl, rfl⟩ | rfl
end Go.Proofs.YtnocdggngfiebaaGreatDoor.FullNeeds

namespace Go.Proofs.YtnocdggngfiebaaGreatDoor.FullNeeds
open Go Go.Isea Go.ChangeShapes Go.WideShapes Go.ChangeAt Go.RowKit Go.Deep
set_option maxRecDepth 100000
set_option maxHeartbeats 4000000
theorem own : ownKnob Tryz.prog.godebug = none := by kernel_rfl
noncomputable abbrev wit (os : Os) : World := World.laidAll Tryz.prog os Rows.fnFullNeedsRow.laid
def witArgs : Array Value := #[.slice none 0 0]
theorem wit_met (os : Os) : laidMetH Tryz.prog Rows.fnFullNeedsRow.laid ((wit os).forCall (fun _ _ => 0) ⟨#[], witArgs, []⟩).memory :=
  laidMetH_of_parts (laidMet_laidAll (os := os) witArgs (by kernel_rfl) (by kernel_rfl)) (by kernel_rfl)
theorem lifted (os : Os) (started : os.Started) (H : Type) (enc : TypeId × Value → H) :
    ReturnsInHanded {} Tryz.checked os 4 .any (fun w args => (Rows.fnFullNeedsSpec.pre enc Tryz.prog Tryz.f4 [] false w args ∧ laidMetH Tryz.prog Rows.fnFullNeedsRow.laid w) ∧ sizedMet enc Tryz.prog Tryz.f4 (OpenSpec.ofChange Rows.fnFullNeedsSpec) false w args)
      (Rows.fnFullNeedsSpec.post enc Tryz.prog Tryz.f4 false true false false) := by
  refine returnsInHanded_of_change_and (C := Tryz.checked) (X := fun w _ => laidMetH Tryz.prog Rows.fnFullNeedsRow.laid w) (fun _ _ _ hh h => h.of_heap hh) own started (by kernel_rfl) Tryz.func4
    (ChangeSpec.witness_at (enc := enc) (C := Tryz.checked) (os := os) (X := fun w _ => laidMetH Tryz.prog Rows.fnFullNeedsRow.laid w) false (wit os) witArgs 8 (World.laidAll_os _ _ _) (by kernel_rfl) (by kernel_rfl) (by kernel_rfl) (by kernel_rfl) (by kernel_rfl) (wit_met os)) ?_
  intro W base args ds gs before hval0 hW _ _ hX _
  exact body H enc W base args ds gs before hval0 hW hX
end Go.Proofs.YtnocdggngfiebaaGreatDoor.FullNeeds
