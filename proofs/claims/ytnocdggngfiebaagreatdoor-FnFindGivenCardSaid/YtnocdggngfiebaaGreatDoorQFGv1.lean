/- The law FGv: its code returns true; its row and its card, which this claim proves. No condition is added. -/
import Derived.Test.YtnocdggngfiebaaGreatDoorXa
import Derived.Test.YtnocdggngfiebaaGreatDoorXc
import Derived.Test.YtnocdggngfiebaaGreatDoorMZ
import Derived.Test.YtnocdggngfiebaaGreatDoorMj
import Derived.Test.YtnocdggngfiebaaGreatDoorMJ
import Derived.Test.YtnocdggngfiebaaGreatDoorRows
import Derived.OpenShut
import Derived.Stop.Joined
import Derived.Lay
import Derived.LaidHandle
set_option linter.all false
namespace Go.Isea
open Go

end Go.Isea
namespace Go.Proofs.YtnocdggngfiebaaGreatDoor
open Go Go.Isea
set_option maxRecDepth 100000
set_option maxHeartbeats 16000000

theorem law_FindGiven (b m : L8) (h : AH) (_hb : b.length ≤ 9223372036854775807) (_hm : m.length ≤ 9223372036854775807) : Isea.Good Tryz.prog 6 [.sl (b.map byR), .sl (m.map byR)] h [] (.v (.bool true)) h := by
  by_cases hl : 1048576 < b.length
  · have hl' : ((1048576 : Int) < ((b.length : Nat) : Int)) = True := eq_true (by omega)
    refine good [] [(9, OT.o 0 (OT.o 1 (OT.o 2 (OT.o 3 (OT.o 5 (OT.o 6 (OT.o 7 (OT.o 8 (OT.o 4 (OT.o 9 (OT.o 10 OT.e)))))))))))] Tryz.func6 rfl rfl Tryz.ntmps6 (by kernel_rfl) mixed (by kernel_rfl) ?_
    simp -dsimp only [go_sem, hl', List.length_map]
    exact fin_pure (by simp -dsimp only [go_sem]) (by simp -dsimp only [go_sem])
  · have hl' : ((1048576 : Int) < ((b.length : Nat) : Int)) = False := eq_false (by omega)
    by_cases hm : 1048576 < m.length
    · have hm' : ((1048576 : Int) < ((m.length : Nat) : Int)) = True := eq_true (by omega)
      refine good [] [(9, OT.o 0 (OT.o 1 (OT.o 2 (OT.o 3 (OT.o 5 (OT.o 6 (OT.o 7 (OT.o 8 (OT.o 4 (OT.o 9 (OT.o 10 OT.e)))))))))))] Tryz.func6 rfl rfl Tryz.ntmps6 (by kernel_rfl) mixed (by kernel_rfl) ?_
      simp -dsimp only [go_sem, hl', hm', List.length_map]
      exact fin_pure (by simp -dsimp only [go_sem]) (by simp -dsimp only [go_sem])
    have hm' : ((1048576 : Int) < ((m.length : Nat) : Int)) = False := eq_false (by omega)
    obtain ⟨w, gs, n, w1, w2, w3, w4, w5, w6, hD⟩ := s_DrawFindGiven b
    obtain ⟨w', gs', n', s', u1, u2, u3, u4, u5, u6, u7, hE⟩ := s_DrawCheckGiven m
    have hw := smW_Sm w1
    have hw' := smW_Sm u1
    have hnn := smNd_iff.1 w6
    have hn : n.Sm := ⟨by omega, by omega⟩
    have hnn' := smNd_iff.1 u6
    have hn' : n'.Sm := ⟨by omega, by omega⟩
    have hgs : ∀ g ∈ gs, g.Sm := fun g hg => by have := w5 g hg; exact ⟨by omega, by omega⟩
    have hgs' : ∀ g ∈ gs', g.Sm := fun g hg => by have := u5 g hg; exact ⟨by omega, by omega⟩
    have hF := fun H => i_FindGiven w gs n H hw (by omega) hgs hn
    have hG := fun H => s_FindGiven w gs n H hw (by omega) hgs hn
    have hL := fun H => i_Follows w gs n H hw (by omega) hgs hn
    obtain ⟨x1, x2, x3⟩ := findGiven_sz (gs := gs) hw hn
    have hC := fun H => i_CheckGiven w' gs' n' s' H hw' (by omega) hgs' hn' (by omega)
    have hK := fun H => s_CheckGiven w' gs' n' s' H hw' (by omega) hgs' hn' (by omega)
    have hO := fun H => i_CheckGiven w gs n (findGiven w gs n).1 H hw (by omega) hgs hn (by omega)
    have hok := findGiven_ok (gs := gs) (n := n) hw
    have hA := fun H => i_FindDict w n H hw hn
    have hnil : gs = [] → findGiven w gs n = findD w false n := fun e => by rw [e]; exact findGiven_nil
    generalize checkGiven w' gs' n' s' = R at *
    generalize checkGiven w gs n (findGiven w gs n).1 = Q at *
    obtain ⟨A, hA1⟩ : ∃ A, findD w false n = A := ⟨_, rfl⟩
    rw [hA1] at hA hnil
    obtain ⟨F, hF1⟩ : ∃ F, findGiven w gs n = F := ⟨_, rfl⟩
    rw [hF1] at hF hG hL x1 x2 x3 hO hok hnil
    clear hF1 hA1
    obtain ⟨X, Y⟩ := F
    simp only at hF hG hL x1 x2 x3 hO hok
    by_cases hy : Y = []
    · have hQ := hok hy
      have hQ2 : Q = [111, 107] := hQ
      rw [hQ2] at hO
      subst hy
      have hd : (decide (([] : L8) = [])) = true := rfl
      rw [hd] at hL
      by_cases hg : gs = []
      · have hA2 := hnil hg
        subst hg
        rw [← hA2] at hA
        refine good [] [(9, OT.o 0 (OT.o 1 (OT.o 2 (OT.o 3 (OT.o 5 (OT.o 6 (OT.o 7 (OT.o 8 (OT.o 4 (OT.o 9 (OT.o 10 OT.e)))))))))))] Tryz.func6 rfl rfl Tryz.ntmps6 (by kernel_rfl) mixed (by kernel_rfl) ?_
        simp -dsimp only [go_sem, hl', hm', Wld.row, Need.row, List.length_map] at hD hE hF hG hL hC hK hO hA ⊢
        refine call_pure (hD _) ?_
        simp -dsimp only [go_sem]
        refine call_pure (hF _) ?_
        simp -dsimp only [go_sem]
        refine call_pure (hG _) ?_
        simp -dsimp only [go_sem]
        refine call_pure (hL _) ?_
        simp -dsimp only [go_sem]
        refine call_pure (hE _) ?_
        simp -dsimp only [go_sem]
        refine call_pure (hC _) ?_
        simp -dsimp only [go_sem]
        refine call_pure (hK _) ?_
        simp -dsimp only [go_sem]
        refine call_pure (hO _) ?_
        simp -dsimp only [go_sem]
        refine call_pure (hA _) ?_
        simp -dsimp only [go_sem, List.map_nil, List.length_nil]
        exact fin_pure (by simp -dsimp only [go_sem]) (by simp -dsimp only [go_sem])
      · have hgl : ((0 : Int) < ((gs.length : Nat) : Int)) = True := eq_true (by
          have := List.length_pos_iff.2 hg
          omega)
        refine good [] [(9, OT.o 0 (OT.o 1 (OT.o 2 (OT.o 3 (OT.o 5 (OT.o 6 (OT.o 7 (OT.o 8 (OT.o 4 (OT.o 9 (OT.o 10 OT.e)))))))))))] Tryz.func6 rfl rfl Tryz.ntmps6 (by kernel_rfl) mixed (by kernel_rfl) ?_
        simp -dsimp only [go_sem, hl', hm', Wld.row, Need.row, List.length_map] at hD hE hF hG hL hC hK hO hA ⊢
        refine call_pure (hD _) ?_
        simp -dsimp only [go_sem]
        refine call_pure (hF _) ?_
        simp -dsimp only [go_sem]
        refine call_pure (hG _) ?_
        simp -dsimp only [go_sem]
        refine call_pure (hL _) ?_
        simp -dsimp only [go_sem]
        refine call_pure (hE _) ?_
        simp -dsimp only [go_sem]
        refine call_pure (hC _) ?_
        simp -dsimp only [go_sem]
        refine call_pure (hK _) ?_
        simp -dsimp only [go_sem]
        refine call_pure (hO _) ?_
        simp -dsimp only [go_sem]
        refine call_pure (hA _) ?_
        simp -dsimp only [go_sem, hgl, List.length_map]
        exact fin_pure (by simp -dsimp only [go_sem]) (by simp -dsimp only [go_sem])
    · have hX := x3 hy
      subst hX
      have hy' := eq_false hy
      have hd : decide (Y = []) = false := decide_eq_false hy
      rw [hd] at hL
      refine good [] [(9, OT.o 0 (OT.o 1 (OT.o 2 (OT.o 3 (OT.o 5 (OT.o 6 (OT.o 7 (OT.o 8 (OT.o 4 (OT.o 9 (OT.o 10 OT.e)))))))))))] Tryz.func6 rfl rfl Tryz.ntmps6 (by kernel_rfl) mixed (by kernel_rfl) ?_
      simp -dsimp only [go_sem, hl', hm', Wld.row, Need.row, List.length_map] at hD hE hF hG hL hC hK hO hA ⊢
      refine call_pure (hD _) ?_
      simp -dsimp only [go_sem]
      refine call_pure (hF _) ?_
      simp -dsimp only [go_sem]
      refine call_pure (hG _) ?_
      simp -dsimp only [go_sem]
      refine call_pure (hL _) ?_
      simp -dsimp only [go_sem, hy']
      refine call_pure (hE _) ?_
      simp -dsimp only [go_sem]
      refine call_pure (hC _) ?_
      simp -dsimp only [go_sem]
      refine call_pure (hK _) ?_
      simp -dsimp only [go_sem, hy']
      exact fin_pure (by simp -dsimp only [go_sem]) (by simp -dsimp only [go_sem])
end Go.Proofs.YtnocdggngfiebaaGreatDoor

namespace Go.Proofs.YtnocdggngfiebaaGreatDoor.FindGiven
open Go Go.Isea Go.ChangeShapes Go.WideShapes Go.ChangeAt Go.RowKit Go.Deep
set_option maxRecDepth 100000
set_option maxHeartbeats 4000000
theorem contract (W : World) (args : Array Value) (b0 : L8) (b1 : L8) (bl0 : b0.length ≤ 9223372036854775807) (bl1 : b1.length ≤ 9223372036854775807)
    (hpin : ∀ (K : KM) (o : Nat → AObj), Pin K ⟨0, o⟩ W) (hr : ∀ (K : KM) (o : Nat → AObj), RepL K ⟨0, o⟩ W [.sl (b0.map byR), .sl (b1.map byR)] args) :
    Calls Tryz.prog 6 args W fun e W' => e = .returned (.bool true) ∧ W'.os = W.os ∧ W'.tape = W.tape ∧ W'.output = W.output ∧ W.heap.size ≤ W'.heap.size ∧ ∀ b, b < W.heap.size → W'.heap[b]? = W.heap[b]? := by
  have hg := law_FindGiven b0 b1 ⟨0, fun _ => default⟩ bl0 bl1
  refine (hg.2 (fun _ => undef) W args ⟨fun t b ht => absurd ht (Nat.not_lt_zero _), fun s t b hs => absurd hs (Nat.not_lt_zero _), fun t ht => absurd ht (Nat.not_lt_zero _), hpin _ _⟩ (hr _ _)).mono ?_
  rintro e W' ⟨K', v, rfl, _, hE, hv⟩
  have e1 : v = .bool true := raw_rep (x := .v (.bool true)) rfl hv
  subst e1
  exact ⟨rfl, hE.os, hE.tape, hE.output, hE.size, fun b hb => hE.same b hb fun t ht => by cases ht⟩
theorem laidOut : laidOutB Tryz.prog = true := by kernel_rfl
theorem body (H : Type) (enc : TypeId × Value → H) (W : World) (base : Nat) (args : Array Value) (ds gs : List (DataW H)) (before : List MemPlace)
    (hval : ∀ (j : Nat) t v, Tryz.f6.params[j]? = some t → args[j]? = some v → Value.okWide Tryz.prog W .any base t v)
    (hW : DataW.Whole enc Tryz.prog Tryz.f6.params.toList Rows.fnFindGivenSpec.vars false W args.toList ds gs before) (hlaid : laidMetH Tryz.prog Rows.fnFindGivenRow.laid W) :
    Calls Tryz.prog 6 args W fun e W' => ∃ v, e = .returned v ∧ Rows.fnFindGivenSpec.post enc Tryz.prog Tryz.f6 false true false false W args v W' := by
  have hW' := hW
  obtain ⟨p, q, hA0, hV, rfl, hfz, hnd⟩ := hW
  have hA : DataW.TrodAll enc Tryz.prog W 0 (fun _ => true) true Tryz.f6.params.toList args.toList ds p := hA0
  rw [Tryz.params6] at hA hval
  obtain ⟨v0, vs0, d0, ds0, p0, q0, hargs, rfl, rfl, h0, r0⟩ := trodAll_cons hA
  obtain ⟨v1, vs1, d1, ds1, p1, q1, rfl, rfl, rfl, h1, r1⟩ := trodAll_cons r0
  obtain ⟨rfl, rfl, rfl⟩ := trodAll_nil r1
  obtain rfl : args = #[v0, v1] := by cases args; simp_all
  obtain ⟨rfl, rfl⟩ := trodVars_none hV
  have o0 := hval 0 22 v0 rfl rfl
  unfold Value.okWide at o0
  rw [Tryz.underlying22] at o0
  have h0k := h0
  obtain ⟨f0, t0⟩ := h0
  have e0 : v0.cells.toList = [v0] := by
    cases v0 <;> first | rfl | (exfalso; simp [Cell.okWide, Cell.ok, Tryz.underlying22] at o0)
  rw [e0] at t0
  obtain ⟨b0, hb0, bl0⟩ := read_bytes t0
  have o1 := hval 1 22 v1 rfl rfl
  unfold Value.okWide at o1
  rw [Tryz.underlying22] at o1
  have h1k := h1
  obtain ⟨f1, t1⟩ := h1
  have e1 : v1.cells.toList = [v1] := by
    cases v1 <;> first | rfl | (exfalso; simp [Cell.okWide, Cell.ok, Tryz.underlying22] at o1)
  rw [e1] at t1
  obtain ⟨b1, hb1, bl1⟩ := read_bytes t1
  have aggR : ∀ (K : KM) (o : Nat → AObj) (r : List AV) (c : Array Value), RowR W r c.toList → Rep K ⟨0, o⟩ W (.agg r) (.agg c) := fun K o r c h => .agg (by simpa using h.1) fun i x y a b => h.2 K o i x y a (by simpa using b)
  refine (contract W _ b0 b1 bl0 bl1 (pin_laid (by kernel_rfl) (pin_in (by kernel_rfl)) hlaid) fun K o => ⟨rfl, fun i x y a b => ?_⟩).mono ?_
  · rcases i with _ | _ | i
    · simp at a b; subst a; subst b; exact hb0 K o
    · simp at a b; subst a; subst b; exact hb1 K o
    · simp at a
  · rintro e W' ⟨rfl, h3, h3', h4, h5, h6⟩
    have hb : Below W.heap.size W W' := ⟨h3, h3', h4, h5, h6⟩
    have hlt := hW'.lt
    refine ⟨_, rfl, _, _, _, [], p0 ++ (p1 ++ ([])), [], hW', ?_, ?_, ?_, ?_, fun h => by cases h⟩
    · exact trodAll_mk1 (shut_bool Tryz.underlying4 true)
    · exact trodAll_cons_mk (Below.trod laidOut (by kernel_rfl) (of_decide_eq_true (by kernel_rfl)) h0k hb (fun x hx => hlt x (by simp [hx]))) (trodAll_cons_mk (Below.trod laidOut (by kernel_rfl) (of_decide_eq_true (by kernel_rfl)) h1k hb (fun x hx => hlt x (by simp [hx]))) (trodAll_mk0))
    · rfl
    · refine ⟨h3, h4, fun i hi => ?_⟩
      rw [h6 i hi]
      cases W.heap[i]? with
      | none => rfl
      | some o => cases o <;> first | exact ⟨rfl, rfl, rfl, fun _ _ => rfl⟩ | exact .inr ⟨rfl, rfl⟩ | rfl
end Go.Proofs.YtnocdggngfiebaaGreatDoor.FindGiven

namespace Go.Proofs.YtnocdggngfiebaaGreatDoor.FindGiven
open Go Go.Isea Go.ChangeShapes Go.WideShapes Go.ChangeAt Go.RowKit Go.Deep
set_option maxRecDepth 100000
set_option maxHeartbeats 4000000
theorem own : ownKnob Tryz.prog.godebug = none := by kernel_rfl
noncomputable abbrev wit (os : Os) : World := World.laidAll Tryz.prog os Rows.fnFindGivenRow.laid
def witArgs : Array Value := #[.slice none 0 0, .slice none 0 0]
theorem wit_met (os : Os) : laidMetH Tryz.prog Rows.fnFindGivenRow.laid ((wit os).forCall (fun _ _ => 0) ⟨#[], witArgs, []⟩).memory :=
  laidMetH_of_parts (laidMet_laidAll (os := os) witArgs (by kernel_rfl) (by kernel_rfl)) (by kernel_rfl)
theorem lifted (os : Os) (started : os.Started) (H : Type) (enc : TypeId × Value → H) :
    ReturnsInHanded {} Tryz.checked os 6 .any (fun w args => (Rows.fnFindGivenSpec.pre enc Tryz.prog Tryz.f6 [] false w args ∧ laidMetH Tryz.prog Rows.fnFindGivenRow.laid w) ∧ sizedMet enc Tryz.prog Tryz.f6 (OpenSpec.ofChange Rows.fnFindGivenSpec) false w args)
      (Rows.fnFindGivenSpec.post enc Tryz.prog Tryz.f6 false true false false) := by
  refine returnsInHanded_of_change_and (C := Tryz.checked) (X := fun w _ => laidMetH Tryz.prog Rows.fnFindGivenRow.laid w) (fun _ _ _ hh h => h.of_heap hh) own started (by kernel_rfl) Tryz.func6
    (ChangeSpec.witness_at (enc := enc) (C := Tryz.checked) (os := os) (X := fun w _ => laidMetH Tryz.prog Rows.fnFindGivenRow.laid w) false (wit os) witArgs 8 (World.laidAll_os _ _ _) (by kernel_rfl) (by kernel_rfl) (by kernel_rfl) (by kernel_rfl) (by kernel_rfl) (wit_met os)) ?_
  intro W base args ds gs before hval0 hW _ _ hX _
  exact body H enc W base args ds gs before hval0 hW hX
end Go.Proofs.YtnocdggngfiebaaGreatDoor.FindGiven
