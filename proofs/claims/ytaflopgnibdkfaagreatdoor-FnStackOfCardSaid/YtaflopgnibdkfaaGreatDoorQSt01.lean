/- The law St0: its code returns true; its row and its card, which this claim proves. No condition is added. -/
import Derived.Test.YtaflopgnibdkfaaGreatDoorMI
import Derived.Test.YtaflopgnibdkfaaGreatDoorMJ
import Derived.Test.YtaflopgnibdkfaaGreatDoorMB
import Derived.Test.YtaflopgnibdkfaaGreatDoorMr
import Derived.Test.YtaflopgnibdkfaaGreatDoorRows
import Derived.OpenShut
import Derived.Stop.Joined
import Derived.Lay
import Derived.LaidHandle
set_option linter.all false
namespace Go.Isea
open Go
theorem chain_ok {w : Wld} (h : worldOk w = true) (hw : w.Sm) {l : List Need} (hc : Chain w l) {n : Need} (h0 : l[0]? = some n) (hn : needOk w n = true) (hs : n.Sm) : ∀ (i : Nat) (a : Need), l[i]? = some a → needOk w a = true ∧ a.Sm
  | 0, a, e => by
    rw [h0] at e
    injection e with e
    subst e; exact ⟨hn, hs⟩
  | i + 1, a, e => by
    have hlt := (List.getElem?_eq_some_iff.1 e).1
    obtain ⟨p, hp⟩ := get_some (l := l) (k := i) (by omega)
    obtain ⟨k, x, ms, _, hx, hm, hin⟩ := hc i p a hp e
    obtain ⟨_, g⟩ := needs_ok h hw hx hm
    obtain ⟨g1, g2, _⟩ := g a hin
    refine ⟨?_, g1.2⟩
    simp only [needOk, Bool.and_eq_true, decide_eq_true_eq]
    exact ⟨g1.1, g2⟩
end Go.Isea
namespace Go.Proofs.YtaflopgnibdkfaaGreatDoor
open Go Go.Isea
set_option maxRecDepth 100000
set_option maxHeartbeats 16000000
theorem law_StackOf (b : L8) (h : AH) (_hb : b.length ≤ 9223372036854775807) : Isea.Good Tryz.prog 7 [.sl (b.map byR)] h [] (.v (.bool true)) h := by
  by_cases hl : 1048576 < b.length
  · have hl' : ((1048576 : Int) < ((b.length : Nat) : Int)) = True := eq_true (by omega)
    refine good [] [(10, OT.o 1 (OT.o 3 ((OT.o 0 ((OT.o 2 (OT.o 4 (OT.o 5 (OT.o 6 OT.e)))).f (OT.o 4 (OT.o 2 (OT.o 5 (OT.o 6 OT.e)))))).f (OT.o 4 (OT.o 0 (OT.o 2 (OT.o 5 (OT.o 6 OT.e))))))))] Tryz.func7 rfl rfl Tryz.ntmps7 (by kernel_rfl) mixed (by kernel_rfl) ?_
    simp -dsimp only [go_sem, hl', List.length_map]
    exact fin_pure (by simp -dsimp only [go_sem]) (by simp -dsimp only [go_sem])
  · have hl' : ((1048576 : Int) < ((b.length : Nat) : Int)) = False := eq_false (by omega)
    obtain ⟨w, n, w1, w2, w3, w4, hD⟩ := s_DrawStackOf b
    have hw := smW_Sm w1
    have hnn := smNd_iff.1 w4
    have hn : n.Sm := ⟨by omega, by omega⟩
    have hIS : ∀ H, Isea.Good Tryz.prog 33 [.agg w.row, .agg n.row] H [] (.tup [.sl ((stL w n).map Need.row), .v (.bool (stB w n))]) H := fun H => (i_StackOf w n H hw hn).fin (fin_pure (by simp -dsimp only [go_sem]) (by simp -dsimp only [go_sem, List.length_map]))
    have hSS := fun H => s_StackOf w n H hw hn (by omega) (by omega) (fun i hi => by have := (smIn_iff.1 ((smW_iff.1 w1).2.2.2 i hi)).2.2.1; show i.ns.length ≤ _; omega)
    have hIF := fun H => i_FailingNeed w n H hw hn
    have hSF := fun H => s_FailingNeed w n H hw hn
    have hll := len_st w n
    have hEq := fun H => l_inNeeds (stL w n) H (by have := ask0_st (w := w) (n := n); unfold stL; split <;> simp; omega)
    cases hok : stB w n with
    | false =>
      rw [hok] at hIS hSS hIF hSF
      generalize stL w n = L at hIS hSS hEq hll
      generalize failN w n = F at hIF hSF
      refine good [] [(10, OT.o 1 (OT.o 3 ((OT.o 0 ((OT.o 2 (OT.o 4 (OT.o 5 (OT.o 6 OT.e)))).f (OT.o 4 (OT.o 2 (OT.o 5 (OT.o 6 OT.e)))))).f (OT.o 4 (OT.o 0 (OT.o 2 (OT.o 5 (OT.o 6 OT.e))))))))] Tryz.func7 rfl rfl Tryz.ntmps7 (by kernel_rfl) mixed (by kernel_rfl) ?_
      simp -dsimp only [go_sem, hl', Wld.row, Need.row, List.length_map] at hD hIS hSS hIF hSF ⊢
      refine call_pure (hD _) ?_
      simp -dsimp only [go_sem]
      refine call_pure (hIS _) ?_
      simp -dsimp only [go_sem]
      refine call_pure (hSS _) ?_
      simp -dsimp only [go_sem]
      refine call_pure (hIF _) ?_
      simp -dsimp only [go_sem]
      refine call_pure (hSF _) ?_
      simp -dsimp only [go_sem]
      refine call_pure (hEq _) ?_
      simp -dsimp only [go_sem, List.length_map]
      refine call_pure (hEq _) ?_
      simp -dsimp only [go_sem, List.length_map]
      exact fin_pure (by simp -dsimp only [go_sem]) (by simp -dsimp only [go_sem])
    | true =>
      have hv : (worldOk w && needOk w n) = true := by unfold stB at hok; rw [Bool.and_eq_true] at hok; exact hok.1
      have hz : (ask0 w false n).2.2 ≠ [] := by unfold stB at hok; rw [Bool.and_eq_true, decide_eq_true_eq] at hok; exact hok.2
      obtain ⟨hCh, hS0, hSl⟩ := stack0 hv hz
      have hv2 : worldOk w = true ∧ needOk w n = true := by simpa using hv
      have hVal := chain_ok hv2.1 hw hCh hS0 hv2.2 hn
      have eL : stL w n = (ask0 w false n).2.1.st := by unfold stL; rw [if_pos hok]
      have eF : failN w n = (ask0 w false n).2.1.f := by unfold failN; rw [if_pos hok]
      rw [← eL, ← eF] at hCh hS0 hVal
      rw [← eL] at hSl
      rw [hok] at hIS hSS hIF hSF
      generalize stL w n = L at hIS hSS hEq hll hCh hS0 hVal hSl
      generalize failN w n = F at hIF hSF hCh hS0 hVal
      clear eL eF hok hz
      have hgl : ∀ H : AH, goodRows H 2 (L.map Need.row) = True := fun H => good_map fun c => by simp -dsimp only [Need.row, go_sem, List.length_cons, List.length_nil, List.all_cons, List.all_nil, Bool.and_self]
      have e6 : L.length * 32 ≤ 140737488355328 := by omega
      have e7 : (L.length + 1) * 32 ≤ 140737488355328 := by omega
      have hSm : (L ++ [F]).map Need.row = L.map Need.row ++ [[str F.c, str F.t]] := by rw [List.map_append]; rfl
      have hpu : PuR ((L ++ [F]).map Need.row) = True := by generalize L ++ [F] = Z; simp -dsimp only [go_sem]
      rw [hSm] at hpu
      refine good [] [(10, OT.o 1 (OT.o 3 ((OT.o 0 ((OT.o 2 (OT.o 4 (OT.o 5 (OT.o 6 OT.e)))).f (OT.o 4 (OT.o 2 (OT.o 5 (OT.o 6 OT.e)))))).f (OT.o 4 (OT.o 0 (OT.o 2 (OT.o 5 (OT.o 6 OT.e))))))))] Tryz.func7 rfl rfl Tryz.ntmps7 (by kernel_rfl) mixed (by kernel_rfl) ?_
      simp -dsimp only [go_sem, hl', Wld.row, Need.row, List.length_map] at hD hIS hSS hIF hSF ⊢
      refine call_pure (hD _) ?_
      simp -dsimp only [go_sem]
      refine call_pure (hIS _) ?_
      simp -dsimp only [go_sem]
      refine call_pure (hSS _) ?_
      simp -dsimp only [go_sem]
      refine call_pure (hIF _) ?_
      simp -dsimp only [go_sem]
      refine call_pure (hSF _) ?_
      simp -dsimp only [go_sem]
      refine call_pure (hEq _) ?_
      simp -dsimp only [go_sem, hgl, e6, e7, Nat.zero_add, List.nil_append, List.length_map]
      obtain ⟨S, hS⟩ : ∃ S, L ++ [F] = S := ⟨_, rfl⟩
      have hSl2 : S.length = L.length + 1 := by rw [← hS]; simp
      have hSr : S.map Need.row = L.map Need.row ++ [[str F.c, str F.t]] := by rw [← hS]; exact hSm
      rw [hS] at hCh hS0 hVal
      rw [← hSr] at hpu
      rw [← hSr]
      clear hSm hS
      refine loop_ruleH [] (fun (i : {i : Nat // 1 ≤ i ∧ i ≤ S.length}) H => ([(3, .ref [.sl (w.cs.map Cls.row), .sl (w.is.map Inst.row)] 0), (4, .ref [str n.c, str n.t] 0), (5, .sl (L.map Need.row)), (13, .sl (S.map Need.row)), (14, .v (.int .i64 (i.1 : Nat)))], ⟨h.n, H.o⟩)) (fun i => S.length - i.1) ⟨1, Nat.le_refl _, by omega⟩ ?_ ?_
      · refine weak_objs [] (by simp -dsimp only [go_sem]) (by simp -dsimp only [go_sem]) (by simp -dsimp only [go_sem, hpu, hSl2, List.length_map]) ?_ ?_ ?_
        · intro t h1 h2
          have a0 : ¬ t = h.n := by omega
          have a1 : ¬ t = h.n + 1 := by omega
          have a2 : ¬ t = h.n + 2 := by omega
          have a3 : ¬ t = h.n + 3 := by omega
          have a4 : ¬ t = h.n + 4 := by omega
          have a5 : ¬ t = h.n + 5 := by omega
          simp -dsimp only [go_sem, a0, a1, a2, a3, a4, a5]
        · intro x h1 h2; have h1 : x < h.n := h1; simp at h2 ⊢; omega
        · simp -dsimp only [go_sem]
      · rintro ⟨i, hi1, hi2⟩
        have k1 : i + 1 ≤ 9223372036854775807 := by omega
        by_cases hil : i < S.length
        · obtain ⟨a, ha⟩ := get_some (l := S) (k := i - 1) (by omega)
          obtain ⟨c, hc⟩ := get_some hil
          have hi1' : i - 1 + 1 = i := by omega
          obtain ⟨k, x, ms, hcand, hx, hms, hin⟩ := hCh (i - 1) a c ha (by rw [hi1']; exact hc)
          obtain ⟨hna, hsa⟩ := hVal (i - 1) a ha
          have hic : (((i : Nat) : Int) < ((S.length : Nat) : Int)) = True := eq_true (by omega)
          have hw1 : IntKind.i64.wrap (((i : Nat) : Int) - 1) = ((i - 1 : Nat) : Int) := by rw [wrap_i64] <;> omega
          have hlt1 : i - 1 < S.length := by omega
          have hC := fun H => i_CandidatesOf w a H hw hsa (by omega) (by rw [hv2.1, hna]; rfl)
          rw [hcand] at hC
          have hns := (smIn_iff.1 ((smW_iff.1 w1).2.2.2 x (List.mem_of_getElem? hx))).2.2.1
          have hN := fun H => i_NeedsOf w k x a.t H hw (by omega) hv2.1 hx hsa.2 (by omega)
          rw [hms] at hN
          unfold needsV at hN
          have hml : ms.length ≤ 3 := (needs_ok hv2.1 hw hx hms).1
          obtain ⟨fd, hfd⟩ : ∃ fd : Nat → Bool, fd = fun j => decide (c ∈ ms.take j) := ⟨_, rfl⟩
          have hf0 : fd 0 = false := by rw [hfd]; simp
          have hfe : fd ms.length = true := by rw [hfd]; simpa using hin
          have hf1 : ∀ j m, ms[j]? = some m → fd (j + 1) = (fd j || decide (m.c = c.c ∧ m.t = c.t)) := fun j m hm => by
            rw [hfd]
            simp only [take_next hm, List.mem_append, List.mem_singleton]
            have : (c = m) ↔ (m.c = c.c ∧ m.t = c.t) := ⟨fun e => by rw [e]; exact ⟨rfl, rfl⟩, fun e => by cases c; cases m; simp at e ⊢; exact ⟨e.1.symm, e.2.symm⟩⟩
            simp only [this, Bool.decide_or]
          clear hfd hin
          simp -dsimp only [go_sem, hic, hw1, hlt1, ha, Need.row, Wld.row, List.length_map] at hC hN ⊢
          refine call_pure (hC _) ?_
          simp -dsimp only [go_sem, hic, hw1, hlt1, ha, iRow, Need.row, List.map_cons, List.map_nil, List.length_cons, List.length_nil, List.length_map]
          refine call_pure (hN _) ?_
          simp -dsimp only [go_sem, List.length_map]
          refine loop_ruleH [] (fun (j : {j : Nat // j ≤ ms.length}) H => ([(3, .ref [.sl (w.cs.map Cls.row), .sl (w.is.map Inst.row)] 0), (4, .ref [str n.c, str n.t] 0), (5, .sl (L.map Need.row)), (13, .sl (S.map Need.row)), (14, .v (.int .i64 (i : Nat))), (19, .v (.bool (fd j.1))), (134, .sl (ms.map Need.row)), (135, .v (.int .i64 (ms.length : Nat))), (136, .v (.int .i64 (j.1 : Nat)))], ⟨h.n, H.o⟩)) (fun j => ms.length - j.1) ⟨0, Nat.zero_le _⟩ ?_ ?_
          · refine weak_objs [] (by simp -dsimp only [go_sem]) (by simp -dsimp only [go_sem]) (by simp -dsimp only [go_sem, hf0, List.length_map]) ?_ ?_ ?_
            · intro t h1 h2
              simp -dsimp only [go_sem]
            · intro x h1 h2; have h1 : x < h.n := h1; simp at h2 ⊢; omega
            · simp -dsimp only [go_sem]
          · rintro ⟨j, hj⟩
            have k2 : j + 1 ≤ 9223372036854775807 := by omega
            by_cases hjl : j < ms.length
            · obtain ⟨m, hm⟩ := get_some hjl
              have hjc : (((j : Nat) : Int) < ((ms.length : Nat) : Int)) = True := eq_true (by omega)
              have hnx := hf1 j m hm
              cases hfj : fd j with
              | true =>
                rw [hfj, Bool.true_or] at hnx
                simp -dsimp only [go_sem, hjc, hm, hjl, k2, Need.row, List.length_map]
                refine round_to ⟨j + 1, hjl⟩ (by show ms.length - (j + 1) < ms.length - j; omega) ?_
                refine weak_objs [] (by simp -dsimp only [go_sem]) (by simp -dsimp only [go_sem]) (by simp -dsimp only [go_sem, hnx, List.length_map]) ?_ ?_ ?_
                · intro t h1 h2
                  have a0 : ¬ t = h.n := by omega
                  simp -dsimp only [go_sem, a0]
                · intro x h1 h2; have h1 : x < h.n := h1; simp at h2 ⊢; omega
                · simp -dsimp only [go_sem]
              | false =>
                rw [hfj, Bool.false_or] at hnx
                simp -dsimp only [go_sem, hjc, hm, hjl, k2, hil, hc, Need.row, List.length_map]
                refine round_to ⟨j + 1, hjl⟩ (by show ms.length - (j + 1) < ms.length - j; omega) ?_
                refine weak_objs [] (by simp -dsimp only [go_sem]) (by simp -dsimp only [go_sem]) (by simp -dsimp only [go_sem, hnx, List.length_map]) ?_ ?_ ?_
                · intro t h1 h2
                  have a0 : ¬ t = h.n := by omega
                  simp -dsimp only [go_sem, a0]
                · intro x h1 h2; have h1 : x < h.n := h1; simp at h2 ⊢; omega
                · simp -dsimp only [go_sem]
            · have hjc : (((j : Nat) : Int) < ((ms.length : Nat) : Int)) = False := eq_false (by omega)
              have hje : j = ms.length := by omega
              have hfe2 : fd j = true := by rw [hje]; exact hfe
              simp -dsimp only [go_sem, hjc, hfe2, k1]
              refine round_to ⟨i + 1, by omega, hil⟩ (by show S.length - (i + 1) < S.length - i; omega) ?_
              refine weak_objs [] (by simp -dsimp only [go_sem]) (by simp -dsimp only [go_sem]) (by simp -dsimp only [go_sem]) ?_ ?_ ?_
              · intro t h1 h2
                simp -dsimp only [go_sem]
              · intro x h1 h2; have h1 : x < h.n := h1; simp at h2 ⊢; omega
              · simp -dsimp only [go_sem]
        · have hic : (((i : Nat) : Int) < ((S.length : Nat) : Int)) = False := eq_false (by omega)
          have hle : (((L.length : Nat) : Int) ≤ 31) = True := eq_true (by omega)
          have hp0 : 0 < S.length := by omega
          simp -dsimp only [go_sem, hic, hle, hp0, hS0, Need.row, List.length_map]
          exact fin_pure (by simp -dsimp only [go_sem]) (by simp -dsimp only [go_sem])
end Go.Proofs.YtaflopgnibdkfaaGreatDoor

namespace Go.Proofs.YtaflopgnibdkfaaGreatDoor.StackOf
open Go Go.Isea Go.ChangeShapes Go.WideShapes Go.ChangeAt Go.RowKit Go.Deep
set_option maxRecDepth 100000
set_option maxHeartbeats 4000000
theorem contract (W : World) (args : Array Value) (b0 : L8) (bl0 : b0.length ≤ 9223372036854775807)
    (hr : ∀ (K : KM) (o : Nat → AObj), RepL K ⟨0, o⟩ W [.sl (b0.map byR)] args) :
    Calls Tryz.prog 7 args W fun e W' => e = .returned (.bool true) ∧ W'.os = W.os ∧ W'.tape = W.tape ∧ W'.output = W.output ∧ W.heap.size ≤ W'.heap.size ∧ ∀ b, b < W.heap.size → W'.heap[b]? = W.heap[b]? := by
  have hg := law_StackOf b0 ⟨0, fun _ => default⟩ bl0
  refine (hg.2 (fun _ => undef) W args ⟨fun t b ht => absurd ht (Nat.not_lt_zero _), fun s t b hs => absurd hs (Nat.not_lt_zero _), fun t ht => absurd ht (Nat.not_lt_zero _)⟩ (hr _ _)).mono ?_
  rintro e W' ⟨K', v, rfl, _, hE, hv⟩
  have e1 : v = .bool true := raw_rep (x := .v (.bool true)) rfl hv
  subst e1
  exact ⟨rfl, hE.os, hE.tape, hE.output, hE.size, fun b hb => hE.same b hb fun t ht => by cases ht⟩
theorem laidOut : laidOutB Tryz.prog = true := by kernel_rfl
theorem body (H : Type) (enc : TypeId × Value → H) (W : World) (base : Nat) (args : Array Value) (ds gs : List (DataW H)) (before : List MemPlace)
    (hval : ∀ (j : Nat) t v, Tryz.f7.params[j]? = some t → args[j]? = some v → Value.okWide Tryz.prog W .any base t v)
    (hW : DataW.Whole enc Tryz.prog Tryz.f7.params.toList Rows.fnStackOfSpec.vars false W args.toList ds gs before) :
    Calls Tryz.prog 7 args W fun e W' => ∃ v, e = .returned v ∧ Rows.fnStackOfSpec.post enc Tryz.prog Tryz.f7 false true false false W args v W' := by
  have hW' := hW
  obtain ⟨p, q, hA0, hV, rfl, hfz, hnd⟩ := hW
  have hA : DataW.TrodAll enc Tryz.prog W 0 (fun _ => true) true Tryz.f7.params.toList args.toList ds p := hA0
  rw [Tryz.params7] at hA hval
  obtain ⟨v0, vs0, d0, ds0, p0, q0, hargs, rfl, rfl, h0, r0⟩ := trodAll_cons hA
  obtain ⟨rfl, rfl, rfl⟩ := trodAll_nil r0
  obtain rfl : args = #[v0] := by cases args; simp_all
  obtain ⟨rfl, rfl⟩ := trodVars_none hV
  have o0 := hval 0 55 v0 rfl rfl
  unfold Value.okWide at o0
  rw [Tryz.underlying55] at o0
  have h0k := h0
  obtain ⟨f0, t0⟩ := h0
  have e0 : v0.cells.toList = [v0] := by
    cases v0 <;> first | rfl | (exfalso; simp [Cell.okWide, Cell.ok, Tryz.underlying55] at o0)
  rw [e0] at t0
  obtain ⟨b0, hb0, bl0⟩ := read_bytes t0
  have aggR : ∀ (K : KM) (o : Nat → AObj) (r : List AV) (c : Array Value), RowR W r c.toList → Rep K ⟨0, o⟩ W (.agg r) (.agg c) := fun K o r c h => .agg (by simpa using h.1) fun i x y a b => h.2 K o i x y a (by simpa using b)
  refine (contract W _ b0 bl0 fun K o => ⟨rfl, fun i x y a b => ?_⟩).mono ?_
  · rcases i with _ | i
    · simp at a b; subst a; subst b; exact hb0 K o
    · simp at a
  · rintro e W' ⟨rfl, h3, h3', h4, h5, h6⟩
    have hb : Below W.heap.size W W' := ⟨h3, h3', h4, h5, h6⟩
    have hlt := hW'.lt
    refine ⟨_, rfl, _, _, _, [], p0 ++ ([]), [], hW', ?_, ?_, ?_, ?_, fun h => by cases h⟩
    · exact trodAll_mk1 (shut_bool Tryz.underlying4 true)
    · exact trodAll_cons_mk (Below.trod laidOut (by kernel_rfl) (of_decide_eq_true (by kernel_rfl)) h0k hb (fun x hx => hlt x (by simp [hx]))) (trodAll_mk0)
    · rfl
    · refine ⟨h3, h4, fun i hi => ?_⟩
      rw [h6 i hi]
      cases W.heap[i]? with
      | none => rfl
      | some o => cases o <;> first | exact ⟨rfl, rfl, rfl, fun _ _ => rfl⟩ | exact .inr ⟨rfl, rfl⟩ | rfl
end Go.Proofs.YtaflopgnibdkfaaGreatDoor.StackOf

namespace Go.Proofs.YtaflopgnibdkfaaGreatDoor.StackOf
open Go Go.Isea Go.ChangeShapes Go.WideShapes Go.ChangeAt Go.RowKit Go.Deep
set_option maxRecDepth 100000
set_option maxHeartbeats 4000000
theorem own : ownKnob Tryz.prog.godebug = none := by kernel_rfl
noncomputable abbrev wit (os : Os) : World := World.laidAll Tryz.prog os Rows.fnStackOfRow.laid
def witArgs : Array Value := #[.slice none 0 0]
theorem wit_met (os : Os) : laidMetH Tryz.prog Rows.fnStackOfRow.laid ((wit os).forCall (fun _ _ => 0) ⟨#[], witArgs, []⟩).memory :=
  laidMetH_of_parts (laidMet_laidAll (os := os) witArgs (by kernel_rfl) (by kernel_rfl)) (by kernel_rfl)
theorem lifted (os : Os) (started : os.Started) (H : Type) (enc : TypeId × Value → H) :
    ReturnsInHanded {} Tryz.checked os 7 .any (fun w args => (Rows.fnStackOfSpec.pre enc Tryz.prog Tryz.f7 [] false w args ∧ laidMetH Tryz.prog Rows.fnStackOfRow.laid w) ∧ sizedMet enc Tryz.prog Tryz.f7 (OpenSpec.ofChange Rows.fnStackOfSpec) false w args)
      (Rows.fnStackOfSpec.post enc Tryz.prog Tryz.f7 false true false false) := by
  refine returnsInHanded_of_change_and (C := Tryz.checked) (X := fun w _ => laidMetH Tryz.prog Rows.fnStackOfRow.laid w) (fun _ _ _ hh h => h.of_heap hh) own started (by kernel_rfl) Tryz.func7
    (ChangeSpec.witness_at (enc := enc) (C := Tryz.checked) (os := os) (X := fun w _ => laidMetH Tryz.prog Rows.fnStackOfRow.laid w) false (wit os) witArgs 8 (World.laidAll_os _ _ _) (by kernel_rfl) (by kernel_rfl) (by kernel_rfl) (by kernel_rfl) (by kernel_rfl) (wit_met os)) ?_
  intro W base args ds gs before hval0 hW _ _ _ _
  exact body H enc W base args ds gs before hval0 hW
end Go.Proofs.YtaflopgnibdkfaaGreatDoor.StackOf
