/- The law Red: its code returns true; its row and its card, which this claim proves. No condition is added. -/
import Derived.Test.YtnocdggngfiebaaGreatDoorXa
import Derived.Test.YtnocdggngfiebaaGreatDoorMv
import Derived.Test.YtnocdggngfiebaaGreatDoorMj
import Derived.Test.YtnocdggngfiebaaGreatDoorMJ
import Derived.Test.YtnocdggngfiebaaGreatDoorRows
import Derived.OpenShut
import Derived.Stop.Joined
import Derived.Lay
import Derived.LaidHandle
set_option linter.all false
namespace Go.Isea
open Go
theorem red_facts {w : Wld} {n : Need} {L : List Need} (hw : w.Sm) (h : reduceN w n = some L) : tv n.t = true ∧ (∀ m ∈ L, sizeT m.t = 1 ∧ m.t.length ≤ 1 ∧ m.Sm ∧ (∀ c ∈ m.t, c ∈ varsIn n.t) ∧ (worldOk w && needOk w m) = true) ∧ L.Nodup ∧ (L.length ≤ 6 → decide ((findGiven w L n).2 = []) = true) ∧ (L = [] → hasI w n = true) := by
  obtain ⟨h1, h2, h3, h4⟩ := reduceN_ok hw h
  have h1' := h1
  rw [Bool.and_eq_true] at h1'
  have hn := h1'.2
  simp only [needOk, Bool.and_eq_true, decide_eq_true_eq] at hn
  refine ⟨hn.2, fun m hm => ?_, h2, fun hl => decide_eq_true (h4 hl), fun e => reduceN_nil hw (by rw [h, e])⟩
  obtain ⟨c, hc, hv, hcn, hcl⟩ := h3 m hm
  have ht : tv m.t = true := by rw [hc]; exact tv_var hv
  obtain ⟨d, hd, _, _⟩ := known_letter (world_cls h1'.1) hcl
  refine ⟨?_, by rw [hc]; simp, ⟨by rw [hd]; simp, by rw [hc]; simp⟩, fun x hx => ?_, ?_⟩
  · have : typeOf m.t = some (.leaf c) := by
      rw [hc]
      exact typeOf_text (t := .leaf c) (isV_ar hv) (by simp [Ty.text])
    unfold sizeT
    rw [this]; rfl
  · rw [hc] at hx
    have : x = c := by simpa using hx
    rw [this]
    unfold varsIn
    rw [List.mem_filter]
    exact ⟨forall_u8 (p := fun c => isV c = true → c ∈ vars6) (by decide +kernel) c hv, by simpa using hcn⟩
  · rw [h1'.1, Bool.true_and]
    simp only [needOk, Bool.and_eq_true, decide_eq_true_eq]
    exact ⟨hcl, ht⟩
theorem nodup_lt {α : Type} {l : List α} (h : l.Nodup) {i j : Nat} {a b : α} (hij : j < i) (ha : l[i]? = some a) (hb : l[j]? = some b) : a ≠ b := by
  intro e
  subst e
  have := (List.getElem?_inj (List.getElem?_eq_some_iff.1 ha).1 h).1 (ha.trans hb.symm)
  omega
end Go.Isea
namespace Go.Proofs.YtnocdggngfiebaaGreatDoor
open Go Go.Isea
set_option maxRecDepth 100000
set_option maxHeartbeats 16000000

theorem law_ReduceNeed (b : L8) (h : AH) (_hb : b.length ≤ 9223372036854775807) : Isea.Good Tryz.prog 3 [.sl (b.map byR)] h [] (.v (.bool true)) h := by
  by_cases hl : 1048576 < b.length
  · have hl' : ((1048576 : Int) < ((b.length : Nat) : Int)) = True := eq_true (by omega)
    refine good [] [] Tryz.func3 rfl rfl Tryz.ntmps3 (by kernel_rfl) mixed (by kernel_rfl) ?_
    simp -dsimp only [go_sem, hl', List.length_map]
    exact fin_pure (by simp -dsimp only [go_sem]) (by simp -dsimp only [go_sem])
  · have hl' : ((1048576 : Int) < ((b.length : Nat) : Int)) = False := eq_false (by omega)
    obtain ⟨w, n, w1, w2, w3, w4, hD⟩ := s_DrawReduceNeed b
    have hw := smW_Sm w1
    have hnn := smNd_iff.1 w4
    have hn : n.Sm := ⟨by omega, by omega⟩
    have hI := fun H => i_ReduceNeed w n H hw hn
    have hS := fun H => s_ReduceNeed w n H hw hn
    rcases opt_cases (reduceN w n) with e | ⟨L, e⟩
    · rw [e] at hI hS
      have hEq := fun H => l_inNeeds [] H (by simp)
      refine good [] [] Tryz.func3 rfl rfl Tryz.ntmps3 (by kernel_rfl) mixed (by kernel_rfl) ?_
      simp -dsimp only [go_sem, hl', Wld.row, Need.row, List.length_map, Option.getD_none, Option.isSome_none, List.map_nil] at hD hI hS hEq ⊢
      refine call_pure (hD _) ?_
      simp -dsimp only [go_sem]
      refine call_pure (hI _) ?_
      simp -dsimp only [go_sem]
      refine call_pure (hS _) ?_
      simp -dsimp only [go_sem]
      refine call_pure (hEq _) ?_
      simp -dsimp only [go_sem]
      refine call_pure (hEq _) ?_
      simp -dsimp only [go_sem]
      exact fin_pure (by simp -dsimp only [go_sem]) (by simp -dsimp only [go_sem])
    · obtain ⟨htv, hm, hnd, hfo, hhi⟩ := red_facts hw e
      have hln := reduceN_len hw e
      rw [e] at hI hS
      clear e
      have hEq := fun H => l_inNeeds L H (by omega)
      have hV := fun H => i_VarsOf n.t H (by omega)
      rw [htv, if_pos rfl] at hV
      have hvl : (varsIn n.t).length ≤ 6 := by rw [← varsK_all n.t (Nat.le_refl 6)]; exact varsK_len n.t 6
      have hZ : ∀ m ∈ L, ∀ H, Isea.Good Tryz.prog 17 [str m.t] H [] (.v (.int .i64 1)) H := fun m h H => by
        obtain ⟨g1, g2, _⟩ := hm m h
        have := i_SizeOf m.t H (by omega)
        rw [g1] at this
        exact this
      have hIn : ∀ m ∈ L, ∀ H, Isea.Good Tryz.prog 18 [str m.t, str (varsIn n.t)] H [] (.v (.bool true)) H := fun m h H => by
        obtain ⟨_, g2, _, g4, _⟩ := hm m h
        exact l_inLetters m.t (varsIn n.t) H (by omega) (by omega) g4
      have hNv : ∀ m ∈ L, ∀ H, Isea.Good Tryz.prog 19 [.agg w.row, .agg m.row] H [] (.v (.bool true)) H := fun m h H => by
        obtain ⟨_, _, g3, _, g5⟩ := hm m h
        have := i_NeedValid w m H hw g3
        rw [g5] at this
        exact this
      have hne : ∀ (k j : Nat) (m y : Need), j < k → L[k]? = some m → L[j]? = some y → (y.c = m.c ∧ y.t = m.t) = False := fun k j m y hj h1 h2 => eq_false fun q => nodup_lt hnd hj h1 h2 (by cases m; cases y; simp at q; rw [q.1, q.2])
      have hFo := fun (hl : L.length ≤ 6) H => i_Follows w L n H hw (by omega) (fun m h => (hm m h).2.2.1) hn
      have hFo : L.length ≤ 6 → ∀ H, Isea.Good Tryz.prog 20 [.agg w.row, .sl (L.map Need.row), .agg n.row] H [] (.v (.bool true)) H := fun hl H => by
        have := hFo hl H
        rw [hfo hl] at this
        exact this
      have hHi : L = [] → ∀ H, Isea.Good Tryz.prog 21 [.agg w.row, .agg n.row] H [] (.v (.bool true)) H := fun hl H => by
        have := i_HasInstance w n H hw hn
        rw [hhi hl] at this
        exact this
      generalize varsIn n.t = V at hV hIn
      clear hm hnd hfo hhi htv hvl
      refine good [] [] Tryz.func3 rfl rfl Tryz.ntmps3 (by kernel_rfl) mixed (by kernel_rfl) ?_
      simp -dsimp only [go_sem, hl', Wld.row, Need.row, List.length_map, Option.getD_some, Option.isSome_some] at hD hI hS hNv hFo hHi ⊢
      refine call_pure (hD _) ?_
      simp -dsimp only [go_sem]
      refine call_pure (hI _) ?_
      simp -dsimp only [go_sem]
      refine call_pure (hS _) ?_
      simp -dsimp only [go_sem]
      refine call_pure (hEq _) ?_
      simp -dsimp only [go_sem]
      refine call_pure (hV _) ?_
      simp -dsimp only [go_sem, List.length_map]
      refine loop_ruleH [] (fun (k : {k : Nat // k ≤ L.length}) H => ([(3, .ref [.sl (w.cs.map Cls.row), .sl (w.is.map Inst.row)] 0), (4, .ref [str n.c, str n.t] 0), (5, .sl (L.map Need.row)), (9, str V), (58, .sl (L.map Need.row)), (59, .v (.int .i64 (L.length : Nat))), (60, .v (.int .i64 (k.1 : Nat)))], ⟨h.n, H.o⟩)) (fun k => L.length - k.1) ⟨0, Nat.zero_le _⟩ ?_ ?_
      · refine weak_objs [] (by simp -dsimp only [go_sem]) (by simp -dsimp only [go_sem]) (by simp -dsimp only [go_sem, List.length_map]) ?_ ?_ ?_
        · intro t h1 h2
          have a0 : ¬ t = h.n := by omega
          have a1 : ¬ t = h.n + 1 := by omega
          have a2 : ¬ t = h.n + 2 := by omega
          have a3 : ¬ t = h.n + 3 := by omega
          simp -dsimp only [go_sem, a0, a1, a2, a3]
        · intro x h1 h2; have h1 : x < h.n := h1; simp at h2 ⊢; omega
        · simp -dsimp only [go_sem]
      · rintro ⟨k, hk⟩
        have k1 : k + 1 ≤ 9223372036854775807 := by omega
        by_cases hkl : k < L.length
        · obtain ⟨m, hx⟩ := get_some hkl
          have hxm := List.mem_of_getElem? hx
          have hkc : (((k : Nat) : Int) < ((L.length : Nat) : Int)) = True := eq_true (by omega)
          have hZx := hZ m hxm
          have hIx := hIn m hxm
          have hNx := hNv m hxm
          have htk : (L.take k).length = k := by rw [List.length_take]; omega
          have hgt : ∀ j, j < k → ∃ y, (L.take k)[j]? = some y ∧ (y.c = m.c ∧ y.t = m.t) = False := fun j hj => by
            obtain ⟨y, hy⟩ := get_some (l := L) (k := j) (by omega)
            exact ⟨y, by rw [List.getElem?_take, if_pos hj]; exact hy, hne k j m y hj hx hy⟩
          have hmt : (L.map Need.row).take k = (L.take k).map Need.row := by rw [List.map_take]
          obtain ⟨T, hTe⟩ : ∃ T, L.take k = T := ⟨_, rfl⟩
          rw [hTe] at htk hgt hmt
          have hbd : bound L.length (some (.v (.int .i64 ((k : Nat) : Int)))) = some k := bound_k (k := k)
          simp -dsimp only [go_sem, hkc, hkl, hx, Need.row, List.length_map]
          refine call_pure (hZx _) ?_
          simp -dsimp only [go_sem]
          refine call_pure (hIx _) ?_
          simp -dsimp only [go_sem]
          refine call_pure (hNx _) ?_
          simp -dsimp only [go_sem, hbd, hmt, htk, Nat.le_of_lt hkl, List.length_map]
          refine loop_ruleH [] (fun (j : {j : Nat // j ≤ k}) H => ([(3, .ref [.sl (w.cs.map Cls.row), .sl (w.is.map Inst.row)] 0), (4, .ref [str n.c, str n.t] 0), (5, .sl (L.map Need.row)), (9, str V), (10, .v (.int .i64 (k : Nat))), (11, .ref [str m.c, str m.t] 0), (58, .sl (L.map Need.row)), (59, .v (.int .i64 (L.length : Nat))), (60, .v (.int .i64 (k : Nat))), (84, .sl (T.map Need.row)), (85, .v (.int .i64 (k : Nat))), (86, .v (.int .i64 (j.1 : Nat)))], ⟨h.n, H.o⟩)) (fun j => k - j.1) ⟨0, Nat.zero_le _⟩ ?_ ?_
          · refine weak_objs [] (by simp -dsimp only [go_sem]) (by simp -dsimp only [go_sem]) (by simp -dsimp only [go_sem, htk, List.length_map]) ?_ ?_ ?_
            · intro t h1 h2
              have a0 : ¬ t = h.n := by omega
              have a1 : ¬ t = h.n + 1 := by omega
              have a2 : ¬ t = h.n + 2 := by omega
              have a3 : ¬ t = h.n + 3 := by omega
              simp -dsimp only [go_sem, a0, a1, a2, a3]
            · intro x h1 h2; have h1 : x < h.n := h1; simp at h2 ⊢; omega
            · simp -dsimp only [go_sem]
          · rintro ⟨j, hj⟩
            have k2 : j + 1 ≤ 9223372036854775807 := by omega
            by_cases hjl : j < k
            · obtain ⟨y, hyt, hxy⟩ := hgt j hjl
              have hjc : (((j : Nat) : Int) < ((k : Nat) : Int)) = True := eq_true (by omega)
              have hjt : j < T.length := by omega
              simp -dsimp only [go_sem, hjc, hjt, hyt, hxy, k2, Need.row, List.length_map]
              refine round_to ⟨j + 1, hjl⟩ (by show k - (j + 1) < k - j; omega) ?_
              refine weak_objs [] (by simp -dsimp only [go_sem]) (by simp -dsimp only [go_sem]) (by simp -dsimp only [go_sem, List.length_map]) ?_ ?_ ?_
              · intro t h1 h2
                have a0 : ¬ t = h.n := by omega
                have a1 : ¬ t = h.n + 1 := by omega
                have a2 : ¬ t = h.n + 2 := by omega
                have a3 : ¬ t = h.n + 3 := by omega
                simp -dsimp only [go_sem, a0, a1, a2, a3]
              · intro x h1 h2; have h1 : x < h.n := h1; simp at h2 ⊢; omega
              · simp -dsimp only [go_sem]
            · have hjc : (((j : Nat) : Int) < ((k : Nat) : Int)) = False := eq_false (by omega)
              simp -dsimp only [go_sem, hjc, k1]
              refine round_to ⟨k + 1, hkl⟩ (by show L.length - (k + 1) < L.length - k; omega) ?_
              refine weak_objs [] (by simp -dsimp only [go_sem]) (by simp -dsimp only [go_sem]) (by simp -dsimp only [go_sem, List.length_map]) ?_ ?_ ?_
              · intro t h1 h2
                have a0 : ¬ t = h.n := by omega
                have a1 : ¬ t = h.n + 1 := by omega
                have a2 : ¬ t = h.n + 2 := by omega
                have a3 : ¬ t = h.n + 3 := by omega
                simp -dsimp only [go_sem, a0, a1, a2, a3]
              · intro x h1 h2; have h1 : x < h.n := h1; simp at h2 ⊢; omega
              · simp -dsimp only [go_sem]
        · have hkc : (((k : Nat) : Int) < ((L.length : Nat) : Int)) = False := eq_false (by omega)
          by_cases h6 : 6 < L.length
          · have h6' : ((6 : Int) < ((L.length : Nat) : Int)) = True := eq_true (by omega)
            simp -dsimp only [go_sem, hkc, h6', List.length_map]
            exact fin_pure (by simp -dsimp only [go_sem]) (by simp -dsimp only [go_sem])
          · have h6' : ((6 : Int) < ((L.length : Nat) : Int)) = False := eq_false (by omega)
            have hFx := hFo (by omega)
            simp -dsimp only [go_sem, hkc, h6', List.length_map]
            refine call_pure (hFx _) ?_
            by_cases h0 : 0 < L.length
            · have h0' : ((0 : Int) < ((L.length : Nat) : Int)) = True := eq_true (by omega)
              simp -dsimp only [go_sem, h0', List.length_map]
              exact fin_pure (by simp -dsimp only [go_sem]) (by simp -dsimp only [go_sem])
            · have h0' : ((0 : Int) < ((L.length : Nat) : Int)) = False := eq_false (by omega)
              have hHx := hHi (List.eq_nil_of_length_eq_zero (by omega))
              simp -dsimp only [go_sem, h0', List.length_map]
              refine call_pure (hHx _) ?_
              simp -dsimp only [go_sem]
              exact fin_pure (by simp -dsimp only [go_sem]) (by simp -dsimp only [go_sem])
end Go.Proofs.YtnocdggngfiebaaGreatDoor

namespace Go.Proofs.YtnocdggngfiebaaGreatDoor.ReduceNeed
open Go Go.Isea Go.ChangeShapes Go.WideShapes Go.ChangeAt Go.RowKit Go.Deep
set_option maxRecDepth 100000
set_option maxHeartbeats 4000000
theorem contract (W : World) (args : Array Value) (b0 : L8) (bl0 : b0.length ≤ 9223372036854775807)
    (hpin : ∀ (K : KM) (o : Nat → AObj), Pin K ⟨0, o⟩ W) (hr : ∀ (K : KM) (o : Nat → AObj), RepL K ⟨0, o⟩ W [.sl (b0.map byR)] args) :
    Calls Tryz.prog 3 args W fun e W' => e = .returned (.bool true) ∧ W'.os = W.os ∧ W'.tape = W.tape ∧ W'.output = W.output ∧ W.heap.size ≤ W'.heap.size ∧ ∀ b, b < W.heap.size → W'.heap[b]? = W.heap[b]? := by
  have hg := law_ReduceNeed b0 ⟨0, fun _ => default⟩ bl0
  refine (hg.2 (fun _ => undef) W args ⟨fun t b ht => absurd ht (Nat.not_lt_zero _), fun s t b hs => absurd hs (Nat.not_lt_zero _), fun t ht => absurd ht (Nat.not_lt_zero _), hpin _ _⟩ (hr _ _)).mono ?_
  rintro e W' ⟨K', v, rfl, _, hE, hv⟩
  have e1 : v = .bool true := raw_rep (x := .v (.bool true)) rfl hv
  subst e1
  exact ⟨rfl, hE.os, hE.tape, hE.output, hE.size, fun b hb => hE.same b hb fun t ht => by cases ht⟩
theorem laidOut : laidOutB Tryz.prog = true := by kernel_rfl
theorem body (H : Type) (enc : TypeId × Value → H) (W : World) (base : Nat) (args : Array Value) (ds gs : List (DataW H)) (before : List MemPlace)
    (hval : ∀ (j : Nat) t v, Tryz.f3.params[j]? = some t → args[j]? = some v → Value.okWide Tryz.prog W .any base t v)
    (hW : DataW.Whole enc Tryz.prog Tryz.f3.params.toList Rows.fnReduceNeedSpec.vars false W args.toList ds gs before) (hlaid : laidMetH Tryz.prog Rows.fnReduceNeedRow.laid W) :
    Calls Tryz.prog 3 args W fun e W' => ∃ v, e = .returned v ∧ Rows.fnReduceNeedSpec.post enc Tryz.prog Tryz.f3 false true false false W args v W' := by
  have hW' := hW
  obtain ⟨p, q, hA0, hV, rfl, hfz, hnd⟩ := hW
  have hA : DataW.TrodAll enc Tryz.prog W 0 (fun _ => true) true Tryz.f3.params.toList args.toList ds p := hA0
  rw [Tryz.params3] at hA hval
  obtain ⟨v0, vs0, d0, ds0, p0, q0, hargs, rfl, rfl, h0, r0⟩ := trodAll_cons hA
  obtain ⟨rfl, rfl, rfl⟩ := trodAll_nil r0
  obtain rfl : args = #[v0] := by cases args; simp_all
  obtain ⟨rfl, rfl⟩ := trodVars_none hV
  have o0 := hval 0 22 v0 rfl rfl
  unfold Value.okWide at o0
  rw [Tryz.underlying22] at o0
  have h0k := h0
  obtain ⟨f0, t0⟩ := h0
  have e0 : v0.cells.toList = [v0] := by
    cases v0 <;> first | rfl | (exfalso; simp [Cell.okWide, Cell.ok, Tryz.underlying22] at o0)
  rw [e0] at t0
  obtain ⟨b0, hb0, bl0⟩ := read_bytes t0
  have aggR : ∀ (K : KM) (o : Nat → AObj) (r : List AV) (c : Array Value), RowR W r c.toList → Rep K ⟨0, o⟩ W (.agg r) (.agg c) := fun K o r c h => .agg (by simpa using h.1) fun i x y a b => h.2 K o i x y a (by simpa using b)
  refine (contract W _ b0 bl0 (pin_laid (by kernel_rfl) (pin_in (by kernel_rfl)) hlaid) fun K o => ⟨rfl, fun i x y a b => ?_⟩).mono ?_
  · rcases i with _ | i
    · simp at a b; subst a; subst b; exact hb0 K o
    · simp at a
  · rintro e W' ⟨rfl, h3, h3', h4, h5, h6⟩
    have hb : Below W.heap.size W W' := ⟨h3, h3', h4, h5, h6⟩
    have hlt := hW'.lt
    refine ⟨_, rfl, _, _, _, [], p0 ++ ([]), [], hW', ?_, ?_, ?_, ?_, fun h => by cases h⟩
    · exact trodAll_mk1 (shut_bool Tryz.underlying4 true)
    · exact trodAll_cons_mk (Below.trod laidOut (by kernel_rfl) (of_decide_eq_true (by kernel_rfl)) h0k hb (fun x hx => hlt x (by simp [hx]))) (trodAll_mk0)
    · rfl
    · refine ⟨h3, h4, fun i hi => ?_⟩
      rw [h6 i hi]
      cases W.heap[i]? with
      | none => rfl
      | some o => cases o <;> first | exact ⟨rfl, rfl, rfl, fun _ _ => rfl⟩ | exact .inr ⟨rfl, rfl⟩ | rfl
end Go.Proofs.YtnocdggngfiebaaGreatDoor.ReduceNeed

namespace Go.Proofs.YtnocdggngfiebaaGreatDoor.ReduceNeed
open Go Go.Isea Go.ChangeShapes Go.WideShapes Go.ChangeAt Go.RowKit Go.Deep
set_option maxRecDepth 100000
set_option maxHeartbeats 4000000
theorem own : ownKnob Tryz.prog.godebug = none := by kernel_rfl
noncomputable abbrev wit (os : Os) : World := World.laidAll Tryz.prog os Rows.fnReduceNeedRow.laid
def witArgs : Array Value := #[.slice none 0 0]
theorem wit_met (os : Os) : laidMetH Tryz.prog Rows.fnReduceNeedRow.laid ((wit os).forCall (fun _ _ => 0) ⟨#[], witArgs, []⟩).memory :=
  laidMetH_of_parts (laidMet_laidAll (os := os) witArgs (by kernel_rfl) (by kernel_rfl)) (by kernel_rfl)
theorem lifted (os : Os) (started : os.Started) (H : Type) (enc : TypeId × Value → H) :
    ReturnsInHanded {} Tryz.checked os 3 .any (fun w args => (Rows.fnReduceNeedSpec.pre enc Tryz.prog Tryz.f3 [] false w args ∧ laidMetH Tryz.prog Rows.fnReduceNeedRow.laid w) ∧ sizedMet enc Tryz.prog Tryz.f3 (OpenSpec.ofChange Rows.fnReduceNeedSpec) false w args)
      (Rows.fnReduceNeedSpec.post enc Tryz.prog Tryz.f3 false true false false) := by
  refine returnsInHanded_of_change_and (C := Tryz.checked) (X := fun w _ => laidMetH Tryz.prog Rows.fnReduceNeedRow.laid w) (fun _ _ _ hh h => h.of_heap hh) own started (by kernel_rfl) Tryz.func3
    (ChangeSpec.witness_at (enc := enc) (C := Tryz.checked) (os := os) (X := fun w _ => laidMetH Tryz.prog Rows.fnReduceNeedRow.laid w) false (wit os) witArgs 8 (World.laidAll_os _ _ _) (by kernel_rfl) (by kernel_rfl) (by kernel_rfl) (by kernel_rfl) (by kernel_rfl) (wit_met os)) ?_
  intro W base args ds gs before hval0 hW _ _ hX _
  exact body H enc W base args ds gs before hval0 hW hX
end Go.Proofs.YtnocdggngfiebaaGreatDoor.ReduceNeed
