/- The law ChF: its code returns true; its row and its card, which this claim proves. No condition is added. -/
import Derived.Test.YtiphcdmjlkngfaaGreatDoorMI
import Derived.Test.YtiphcdmjlkngfaaGreatDoorMK
import Derived.Test.YtiphcdmjlkngfaaGreatDoorMC
import Derived.Test.YtiphcdmjlkngfaaGreatDoorMu
import Derived.Test.YtiphcdmjlkngfaaGreatDoorMj
import Derived.Test.YtiphcdmjlkngfaaGreatDoorMB
import Derived.Test.YtiphcdmjlkngfaaGreatDoorMr
import Derived.Test.YtiphcdmjlkngfaaGreatDoorMJ
import Derived.Test.YtiphcdmjlkngfaaGreatDoorRows
import Derived.OpenShut
import Derived.Stop.Joined
import Derived.Lay
import Derived.LaidHandle
set_option linter.all false
namespace Go.Proofs.YtiphcdmjlkngfaaGreatDoor
open Go Go.Isea
set_option maxRecDepth 100000
set_option maxHeartbeats 16000000
theorem s_DrawFindDict (b : L8) : ∃ (w : Wld) (n : Need), smW w = true ∧ w.cs.length ≤ 6 ∧ w.is.length ≤ 30 ∧ smNd n = true ∧ ∀ h : AH, Isea.Good Tryz.prog 11 [.sl (b.map byR)] h [] (.tup [.agg w.row, .agg n.row]) h := by
  obtain ⟨w, n, q, w1, w2, w3, w4, _, _, hS⟩ := s_l4Some (b.take 2000) 0 (by rw [List.length_take]; omega) (by decide)
  refine ⟨w, n, w1, w2, w3, w4, fun h => ?_⟩
  obtain ⟨cs, is⟩ := w
  have hW : (⟨cs, is⟩ : Wld).row = [.sl (cs.map Cls.row), .sl (is.map Inst.row)] := rfl
  rw [hW] at hS ⊢
  have hN : n.row = [str n.c, str n.t] := rfl
  rw [hN] at hS ⊢
  refine good [] [] Tryz.func11 rfl rfl Tryz.ntmps11 (by kernel_rfl) mixed (by kernel_rfl) ?_
  simp -dsimp only [go_sem]
  refine call_pure (s_l13Open b _) ?_
  simp -dsimp only [go_sem]
  refine call_one (hS _ _ (by simp -dsimp only [go_sem]) (by simp -dsimp only [go_sem])) (by simp -dsimp only [go_sem]) (by simp -dsimp only [go_sem, not_false_eq_true]) ?_
  simp -dsimp only [go_sem]
  exact fin_pure (by simp -dsimp only [go_sem]) (by simp -dsimp only [go_sem])
theorem law_CheckFound (b : L8) (h : AH) (_hb : b.length ≤ 9223372036854775807) : Isea.Good Tryz.prog 3 [.sl (b.map byR)] h [] (.v (.bool true)) h := by
  by_cases hl : 1048576 < b.length
  · have hl' : ((1048576 : Int) < ((b.length : Nat) : Int)) = True := eq_true (by omega)
    refine good [] [] Tryz.func3 rfl rfl Tryz.ntmps3 (by kernel_rfl) mixed (by kernel_rfl) ?_
    simp -dsimp only [go_sem, hl', List.length_map]
    exact fin_pure (by simp -dsimp only [go_sem]) (by simp -dsimp only [go_sem])
  · have hl' : ((1048576 : Int) < ((b.length : Nat) : Int)) = False := eq_false (by omega)
    obtain ⟨w, n, w1, w2, w3, w4, hD⟩ := s_DrawFindDict b
    have hw := smW_Sm w1
    have hnn := smNd_iff.1 w4
    have hn : n.Sm := ⟨by omega, by omega⟩
    have hF := fun H => i_FindDict w n H hw hn
    have hS := fun H => i_SpecialDict w n H hw hn
    have hP := fun H => s_FindDict w n H hw hn
    have hA : ∀ H, Isea.Good Tryz.prog 15 [.agg w.row, .agg n.row] H [] (.tup [.sl ((asL w n).map Need.row), .v (.bool (worldOk w && needOk w n))]) H := fun H => (i_AskedFor w n H hw hn).fin (fin_pure (by simp -dsimp only [go_sem]) (by simp -dsimp only [go_sem, List.length_map]))
    unfold findD at hF hS hP
    obtain ⟨X1, hX1⟩ : ∃ x, (ask0 w false n).1 = x := ⟨_, rfl⟩
    obtain ⟨Y1, hY1⟩ : ∃ x, (ask0 w false n).2.2 = x := ⟨_, rfl⟩
    obtain ⟨X2, hX2⟩ : ∃ x, (ask0 w true n).1 = x := ⟨_, rfl⟩
    obtain ⟨Y2, hY2⟩ : ∃ x, (ask0 w true n).2.2 = x := ⟨_, rfl⟩
    simp only [hX1, hY1, hX2, hY2] at hF hS hP
    by_cases y1 : Y1 = []
    · obtain ⟨D1, e1, e2, e3, e4, e5, e6, e7⟩ := found0 (sp := false) (n := n) hw (by rw [hY1]; exact y1)
      rw [hX1] at e1
      rw [← e1] at e4 e7
      rw [asL_eq] at e5
      obtain ⟨_, _, hlen⟩ := dictOf_some e7
      have hC := fun H => i_CheckDict w n X1 H hw hn (by omega)
      rw [e4] at hC
      unfold okW at hC
      have hZ := fun H => i_SizeOfDict X1 H (by omega)
      have hT := fun H => i_DepthOfDict X1 H (by omega)
      unfold sizeD at hZ
      unfold depthD at hT
      rw [e7] at hZ hT
      simp only at hZ hT
      generalize asL w n = AL at hA e5
      have hsz : ((D1.size : Nat) : Int) = ((AL.length : Nat) : Int) := by omega
      have hdp : ((30 : Int) < ((D1.depth : Nat) : Int)) = False := eq_false (by omega)
      have hy1 := y1
      by_cases y2 : Y2 = []
      · obtain ⟨D2, f1, f2, f3, f4, f5, f6, f7⟩ := found0 (sp := true) (n := n) hw (by rw [hY2]; exact y2)
        rw [hX2] at f1
        rw [← f1] at f4 f7
        have hC2 := fun H => i_CheckDict w n X2 H hw hn (by have := (dictOf_some f7).2.2; omega)
        rw [f4] at hC2
        unfold okW at hC2
        have hy2 := y2
        refine good [] [] Tryz.func3 rfl rfl Tryz.ntmps3 (by kernel_rfl) mixed (by kernel_rfl) ?_
        simp -dsimp only [go_sem, hl', Wld.row, Need.row, List.length_map] at hD hF hS hP hA hC hC2 ⊢
        refine call_pure (hD _) ?_
        simp -dsimp only [go_sem]
        refine call_pure (hF _) ?_
        simp -dsimp only [go_sem]
        refine call_pure (hS _) ?_
        simp -dsimp only [go_sem]
        refine call_pure (hP _) ?_
        simp -dsimp only [go_sem, hy1]
        refine call_pure (hA _) ?_
        simp -dsimp only [go_sem]
        refine call_pure (hC _) ?_
        simp -dsimp only [go_sem]
        refine call_pure (hZ _) ?_
        simp -dsimp only [go_sem, hsz, List.length_map]
        refine call_pure (hT _) ?_
        simp -dsimp only [go_sem, hdp, hy2]
        refine call_pure (hC2 _) ?_
        simp -dsimp only [go_sem]
        exact fin_pure (by simp -dsimp only [go_sem]) (by simp -dsimp only [go_sem])
      · have hy2 := y2
        have hC2 := True.intro
        refine good [] [] Tryz.func3 rfl rfl Tryz.ntmps3 (by kernel_rfl) mixed (by kernel_rfl) ?_
        simp -dsimp only [go_sem, hl', Wld.row, Need.row, List.length_map] at hD hF hS hP hA hC ⊢
        refine call_pure (hD _) ?_
        simp -dsimp only [go_sem]
        refine call_pure (hF _) ?_
        simp -dsimp only [go_sem]
        refine call_pure (hS _) ?_
        simp -dsimp only [go_sem]
        refine call_pure (hP _) ?_
        simp -dsimp only [go_sem, hy1]
        refine call_pure (hA _) ?_
        simp -dsimp only [go_sem]
        refine call_pure (hC _) ?_
        simp -dsimp only [go_sem]
        refine call_pure (hZ _) ?_
        simp -dsimp only [go_sem, hsz, List.length_map]
        refine call_pure (hT _) ?_
        simp -dsimp only [go_sem, hdp, hy2]
        exact fin_pure (by simp -dsimp only [go_sem]) (by simp -dsimp only [go_sem])
    · have hy1 := y1
      have hA := True.intro
      have hC := True.intro
      by_cases y2 : Y2 = []
      · obtain ⟨D2, f1, f2, f3, f4, f5, f6, f7⟩ := found0 (sp := true) (n := n) hw (by rw [hY2]; exact y2)
        rw [hX2] at f1
        rw [← f1] at f4 f7
        have hC2 := fun H => i_CheckDict w n X2 H hw hn (by have := (dictOf_some f7).2.2; omega)
        rw [f4] at hC2
        unfold okW at hC2
        have hy2 := y2
        refine good [] [] Tryz.func3 rfl rfl Tryz.ntmps3 (by kernel_rfl) mixed (by kernel_rfl) ?_
        simp -dsimp only [go_sem, hl', Wld.row, Need.row, List.length_map] at hD hF hS hP hC2 ⊢
        refine call_pure (hD _) ?_
        simp -dsimp only [go_sem]
        refine call_pure (hF _) ?_
        simp -dsimp only [go_sem]
        refine call_pure (hS _) ?_
        simp -dsimp only [go_sem]
        refine call_pure (hP _) ?_
        simp -dsimp only [go_sem, hy1, hy2]
        refine call_pure (hC2 _) ?_
        simp -dsimp only [go_sem]
        exact fin_pure (by simp -dsimp only [go_sem]) (by simp -dsimp only [go_sem])
      · have hy2 := y2
        have hC2 := True.intro
        refine good [] [] Tryz.func3 rfl rfl Tryz.ntmps3 (by kernel_rfl) mixed (by kernel_rfl) ?_
        simp -dsimp only [go_sem, hl', Wld.row, Need.row, List.length_map] at hD hF hS hP ⊢
        refine call_pure (hD _) ?_
        simp -dsimp only [go_sem]
        refine call_pure (hF _) ?_
        simp -dsimp only [go_sem]
        refine call_pure (hS _) ?_
        simp -dsimp only [go_sem]
        refine call_pure (hP _) ?_
        simp -dsimp only [go_sem, hy1, hy2]
        exact fin_pure (by simp -dsimp only [go_sem]) (by simp -dsimp only [go_sem])
end Go.Proofs.YtiphcdmjlkngfaaGreatDoor

namespace Go.Proofs.YtiphcdmjlkngfaaGreatDoor.CheckFound
open Go Go.Isea Go.ChangeShapes Go.WideShapes Go.ChangeAt Go.RowKit Go.Deep
set_option maxRecDepth 100000
set_option maxHeartbeats 4000000
theorem contract (W : World) (args : Array Value) (b0 : L8) (bl0 : b0.length ≤ 9223372036854775807)
    (hr : ∀ (K : KM) (o : Nat → AObj), RepL K ⟨0, o⟩ W [.sl (b0.map byR)] args) :
    Calls Tryz.prog 3 args W fun e W' => e = .returned (.bool true) ∧ W'.os = W.os ∧ W'.tape = W.tape ∧ W'.output = W.output ∧ W.heap.size ≤ W'.heap.size ∧ ∀ b, b < W.heap.size → W'.heap[b]? = W.heap[b]? := by
  have hg := law_CheckFound b0 ⟨0, fun _ => default⟩ bl0
  refine (hg.2 (fun _ => undef) W args ⟨fun t b ht => absurd ht (Nat.not_lt_zero _), fun s t b hs => absurd hs (Nat.not_lt_zero _), fun t ht => absurd ht (Nat.not_lt_zero _)⟩ (hr _ _)).mono ?_
  rintro e W' ⟨K', v, rfl, _, hE, hv⟩
  have e1 : v = .bool true := raw_rep (x := .v (.bool true)) rfl hv
  subst e1
  exact ⟨rfl, hE.os, hE.tape, hE.output, hE.size, fun b hb => hE.same b hb fun t ht => by cases ht⟩
theorem laidOut : laidOutB Tryz.prog = true := by kernel_rfl
theorem body (H : Type) (enc : TypeId × Value → H) (W : World) (base : Nat) (args : Array Value) (ds gs : List (DataW H)) (before : List MemPlace)
    (hval : ∀ (j : Nat) t v, Tryz.f3.params[j]? = some t → args[j]? = some v → Value.okWide Tryz.prog W .any base t v)
    (hW : DataW.Whole enc Tryz.prog Tryz.f3.params.toList Rows.fnCheckFoundSpec.vars false W args.toList ds gs before) :
    Calls Tryz.prog 3 args W fun e W' => ∃ v, e = .returned v ∧ Rows.fnCheckFoundSpec.post enc Tryz.prog Tryz.f3 false true false false W args v W' := by
  have hW' := hW
  obtain ⟨p, q, hA0, hV, rfl, hfz, hnd⟩ := hW
  have hA : DataW.TrodAll enc Tryz.prog W 0 (fun _ => true) true Tryz.f3.params.toList args.toList ds p := hA0
  rw [Tryz.params3] at hA hval
  obtain ⟨v0, vs0, d0, ds0, p0, q0, hargs, rfl, rfl, h0, r0⟩ := trodAll_cons hA
  obtain ⟨rfl, rfl, rfl⟩ := trodAll_nil r0
  obtain rfl : args = #[v0] := by cases args; simp_all
  obtain ⟨rfl, rfl⟩ := trodVars_none hV
  have o0 := hval 0 22 v0 rfl rfl
  unfold Value.okWide at o0
  rw [Tryz.underlying22] at o0
  have h0k := h0
  obtain ⟨f0, t0⟩ := h0
  have e0 : v0.cells.toList = [v0] := by
    cases v0 <;> first | rfl | (exfalso; simp [Cell.okWide, Cell.ok, Tryz.underlying22] at o0)
  rw [e0] at t0
  obtain ⟨b0, hb0, bl0⟩ := read_bytes t0
  have aggR : ∀ (K : KM) (o : Nat → AObj) (r : List AV) (c : Array Value), RowR W r c.toList → Rep K ⟨0, o⟩ W (.agg r) (.agg c) := fun K o r c h => .agg (by simpa using h.1) fun i x y a b => h.2 K o i x y a (by simpa using b)
  refine (contract W _ b0 bl0 fun K o => ⟨rfl, fun i x y a b => ?_⟩).mono ?_
  · rcases i with _ | i
    · simp at a b; subst a; subst b; exact hb0 K o
    · simp at a
  · rintro e W' ⟨rfl, h3, h3', h4, h5, h6⟩
    have hb : Below W.heap.size W W' := ⟨h3, h3', h4, h5, h6⟩
    have hlt := hW'.lt
    refine ⟨_, rfl, _, _, _, [], p0 ++ ([]), [], hW', ?_, ?_, ?_, ?_, fun h => by cases h⟩
    · exact trodAll_mk1 (shut_bool Tryz.underlying4 true)
    · exact trodAll_cons_mk (Below.trod laidOut (by kernel_rfl) (of_decide_eq_true (by kernel_rfl)) h0k hb (fun x hx => hlt x (by simp [hx]))) (trodAll_mk0)
    · rfl
    · refine ⟨h3, h4, fun i hi => ?_⟩
      rw [h6 i hi]
      cases W.heap[i]? with
      | none => rfl
      | some o => cases o <;> first | exact ⟨rfl, rfl, rfl, fun _ _ => rfl⟩ | exact .inr ⟨rfl, rfl⟩ | rfl
end Go.Proofs.YtiphcdmjlkngfaaGreatDoor.CheckFound

namespace Go.Proofs.YtiphcdmjlkngfaaGreatDoor.CheckFound
open Go Go.Isea Go.ChangeShapes Go.WideShapes Go.ChangeAt Go.RowKit Go.Deep
set_option maxRecDepth 100000
set_option maxHeartbeats 4000000
theorem own : ownKnob Tryz.prog.godebug = none := by kernel_rfl
noncomputable abbrev wit (os : Os) : World := World.laidAll Tryz.prog os Rows.fnCheckFoundRow.laid
def witArgs : Array Value := #[.slice none 0 0]
theorem wit_met (os : Os) : laidMetH Tryz.prog Rows.fnCheckFoundRow.laid ((wit os).forCall (fun _ _ => 0) ⟨#[], witArgs, []⟩).memory :=
  laidMetH_of_parts (laidMet_laidAll (os := os) witArgs (by kernel_rfl) (by kernel_rfl)) (by kernel_rfl)
theorem lifted (os : Os) (started : os.Started) (H : Type) (enc : TypeId × Value → H) :
    ReturnsInHanded {} Tryz.checked os 3 .any (fun w args => (Rows.fnCheckFoundSpec.pre enc Tryz.prog Tryz.f3 [] false w args ∧ laidMetH Tryz.prog Rows.fnCheckFoundRow.laid w) ∧ sizedMet enc Tryz.prog Tryz.f3 (OpenSpec.ofChange Rows.fnCheckFoundSpec) false w args)
      (Rows.fnCheckFoundSpec.post enc Tryz.prog Tryz.f3 false true false false) := by
  refine returnsInHanded_of_change_and (C := Tryz.checked) (X := fun w _ => laidMetH Tryz.prog Rows.fnCheckFoundRow.laid w) (fun _ _ _ hh h => h.of_heap hh) own started (by kernel_rfl) Tryz.func3
    (ChangeSpec.witness_at (enc := enc) (C := Tryz.checked) (os := os) (X := fun w _ => laidMetH Tryz.prog Rows.fnCheckFoundRow.laid w) false (wit os) witArgs 8 (World.laidAll_os _ _ _) (by kernel_rfl) (by kernel_rfl) (by kernel_rfl) (by kernel_rfl) (by kernel_rfl) (wit_met os)) ?_
  intro W base args ds gs before hval0 hW _ _ _ _
  exact body H enc W base args ds gs before hval0 hW
end Go.Proofs.YtiphcdmjlkngfaaGreatDoor.CheckFound
