/- The law LstD: its code returns true; its row and its card, which this claim proves. No condition is added. -/
import Derived.Test.YtaflopgnibdkfaaGreatDoorMg
import Derived.Test.YtaflopgnibdkfaaGreatDoorME
import Derived.Test.YtaflopgnibdkfaaGreatDoorMl
import Derived.Test.YtaflopgnibdkfaaGreatDoorMi
import Derived.Test.YtaflopgnibdkfaaGreatDoorRows
import Derived.OpenShut
import Derived.Stop.Joined
import Derived.Lay
import Derived.LaidHandle
set_option linter.all false
namespace Go.Proofs.YtaflopgnibdkfaaGreatDoor
open Go Go.Isea
set_option maxRecDepth 100000
set_option maxHeartbeats 16000000
theorem law_LeastDict (w0 : Wld) (n1 : Need) (i2 : Int) (h : AH) (wm0 : w0.Mx) (nm1 : n1.Mx) (im2 : -9223372036854775808 ≤ i2 ∧ i2 ≤ 9223372036854775807) :
    Isea.Good Tryz.prog 4 [.agg w0.row, .agg n1.row, .v (.int .i64 i2)] h [] (.v (.bool true)) h := by
  have z0 := w_szWorld w0 1048576
  have z1 := fun L h hL => w_szNeed n1 L h hL nm1
  refine good [] [(8, [0, 2, 4, 1, 3, 5, 6, 7, 8, 9, 10]), (10, [0, 1, 3, 2, 4, 5, 6, 7, 8, 9])] Tryz.func4 rfl rfl Tryz.ntmps4 (by kernel_rfl) mixed (by kernel_rfl) ?_
  simp -dsimp only [go_sem, Wld.row, Need.row] at z0 z1 ⊢
  refine call_pure (z0 _ wm0) ?_
  by_cases h0 : w0.sz ≤ 1048576
  · rw [cutN_yes h0]
    have q0 : ¬ ((1048576 - w0.sz : Nat) : Int) < 0 := by omega
    obtain ⟨sw0, sc0, si0, sio0⟩ := Wld.sm (w := w0) (by omega)
    simp -dsimp only [go_sem, q0]
    refine call_pure (z1 (1048576 - w0.sz) _ (by omega)) ?_
    by_cases h1 : n1.sz ≤ 1048576 - w0.sz
    · rw [cutN_yes h1]
      have q1 : ¬ ((1048576 - w0.sz - n1.sz : Nat) : Int) < 0 := by omega
      have sn1 := Need.sm (n := n1) (by omega)
      simp -dsimp only [go_sem, q1]
      have tw0 := fun H => w_toWorld w0 H sc0 si0 sio0
      have ew0 := fun H => w_eqWorld w0 H sc0 si0 sio0
      have tn1 := fun H => w_toNeed n1 H trivial
      have sF := fun H => s_LeastDict w0 n1 i2 H sw0 sn1 im2 sc0 si0 sio0
      have iF := fun H => i_LeastDict w0 n1 i2 H sw0 sn1 im2
      simp -dsimp only [go_sem, Wld.row, Need.row] at tw0 ew0 tn1 sF iF ⊢
      refine call_pure (tw0 _) ?_
      simp -dsimp only [go_sem]
      refine call_pure (tn1 _) ?_
      simp -dsimp only [go_sem]
      refine call_pure (sF _) ?_
      simp -dsimp only [go_sem]
      refine call_pure (tw0 _) ?_
      simp -dsimp only [go_sem]
      refine call_pure (tn1 _) ?_
      simp -dsimp only [go_sem]
      refine call_pure (iF _) ?_
      simp -dsimp only [go_sem]
      refine call_pure (tw0 _) ?_
      simp -dsimp only [go_sem]
      refine call_pure (ew0 _) ?_
      simp -dsimp only [go_sem]
      exact fin_bool (by first | exact Nat.le_refl _ | simp -dsimp only [go_sem]) rfl
    · rw [cutN_no h1]
      simp -dsimp only [go_sem, Wld.row, Need.row]
      exact fin_bool (by first | exact Nat.le_refl _ | simp -dsimp only [go_sem]) rfl
  · rw [cutN_no h0]
    simp -dsimp only [go_sem, Wld.row, Need.row]
    exact fin_bool (by first | exact Nat.le_refl _ | simp -dsimp only [go_sem]) rfl
end Go.Proofs.YtaflopgnibdkfaaGreatDoor

namespace Go.Proofs.YtaflopgnibdkfaaGreatDoor.LeastDict
open Go Go.Isea Go.ChangeShapes Go.WideShapes Go.ChangeAt Go.RowKit Go.Deep
set_option maxRecDepth 100000
set_option maxHeartbeats 4000000
theorem contract (W : World) (args : Array Value) (w0 : Wld) (n1 : Need) (i2 : Int) (wm0 : w0.Mx) (nm1 : n1.Mx) (im2 : -9223372036854775808 ≤ i2 ∧ i2 ≤ 9223372036854775807)
    (hr : ∀ (K : KM) (o : Nat → AObj), RepL K ⟨0, o⟩ W [.agg w0.row, .agg n1.row, .v (.int .i64 i2)] args) :
    Calls Tryz.prog 4 args W fun e W' => e = .returned (.bool true) ∧ W'.os = W.os ∧ W'.tape = W.tape ∧ W'.output = W.output ∧ W.heap.size ≤ W'.heap.size ∧ ∀ b, b < W.heap.size → W'.heap[b]? = W.heap[b]? := by
  have hg := law_LeastDict w0 n1 i2 ⟨0, fun _ => default⟩ wm0 nm1 im2
  refine (hg.2 (fun _ => undef) W args ⟨fun t b ht => absurd ht (Nat.not_lt_zero _), fun s t b hs => absurd hs (Nat.not_lt_zero _), fun t ht => absurd ht (Nat.not_lt_zero _)⟩ (hr _ _)).mono ?_
  rintro e W' ⟨K', v, rfl, _, hE, hv⟩
  have e1 : v = .bool true := raw_rep (x := .v (.bool true)) rfl hv
  subst e1
  exact ⟨rfl, hE.os, hE.tape, hE.output, hE.size, fun b hb => hE.same b hb fun t ht => by cases ht⟩
theorem laidOut : laidOutB Tryz.prog = true := by kernel_rfl
theorem body (H : Type) (enc : TypeId × Value → H) (W : World) (base : Nat) (args : Array Value) (ds gs : List (DataW H)) (before : List MemPlace)
    (hval : ∀ (j : Nat) t v, Tryz.f4.params[j]? = some t → args[j]? = some v → Value.okWide Tryz.prog W .any base t v)
    (hW : DataW.Whole enc Tryz.prog Tryz.f4.params.toList Rows.fnExactLeastDictSpec.vars false W args.toList ds gs before) :
    Calls Tryz.prog 4 args W fun e W' => ∃ v, e = .returned v ∧ Rows.fnExactLeastDictSpec.post enc Tryz.prog Tryz.f4 false true false false W args v W' := by
  have hW' := hW
  obtain ⟨p, q, hA0, hV, rfl, hfz, hnd⟩ := hW
  have hA : DataW.TrodAll enc Tryz.prog W 0 (fun _ => true) true Tryz.f4.params.toList args.toList ds p := hA0
  rw [Tryz.params4] at hA hval
  obtain ⟨v0, vs0, d0, ds0, p0, q0, hargs, rfl, rfl, h0, r0⟩ := trodAll_cons hA
  obtain ⟨v1, vs1, d1, ds1, p1, q1, rfl, rfl, rfl, h1, r1⟩ := trodAll_cons r0
  obtain ⟨v2, vs2, d2, ds2, p2, q2, rfl, rfl, rfl, h2, r2⟩ := trodAll_cons r1
  obtain ⟨rfl, rfl, rfl⟩ := trodAll_nil r2
  obtain rfl : args = #[v0, v1, v2] := by cases args; simp_all
  obtain ⟨rfl, rfl⟩ := trodVars_none hV
  have o0 := hval 0 25 v0 rfl rfl
  unfold Value.okWide at o0
  rw [Tryz.underlying25] at o0
  obtain ⟨c0, rfl, _⟩ := o0
  have h0k := h0
  obtain ⟨f0, t0⟩ := h0
  obtain ⟨w0, hw0, wm0⟩ := read_world t0
  have o1 := hval 1 27 v1 rfl rfl
  unfold Value.okWide at o1
  rw [Tryz.underlying27] at o1
  obtain ⟨c1, rfl, _⟩ := o1
  have h1k := h1
  obtain ⟨f1, t1⟩ := h1
  obtain ⟨n1, hn1, nm1⟩ := read_need t1
  have o2 := hval 2 3 v2 rfl rfl
  unfold Value.okWide at o2
  rw [Tryz.underlying3] at o2
  have h2k := h2
  obtain ⟨f2, t2⟩ := h2
  have e2 : v2.cells.toList = [v2] := by
    cases v2 <;> first | rfl | (exfalso; simp [Cell.okWide, Cell.ok, Tryz.underlying3] at o2)
  rw [e2] at t2
  obtain ⟨i2, ei2, _, wf2⟩ := DataW.trod_int Tryz.underlying3 t2
  obtain rfl : v2 = .int .i64 i2 := by simpa using ei2
  have im2 := int_rng wf2
  have aggR : ∀ (K : KM) (o : Nat → AObj) (r : List AV) (c : Array Value), RowR W r c.toList → Rep K ⟨0, o⟩ W (.agg r) (.agg c) := fun K o r c h => .agg (by simpa using h.1) fun i x y a b => h.2 K o i x y a (by simpa using b)
  refine (contract W _ w0 n1 i2 wm0 nm1 im2 fun K o => ⟨rfl, fun i x y a b => ?_⟩).mono ?_
  · rcases i with _ | _ | _ | i
    · simp at a b; subst a; subst b; exact aggR K o _ _ hw0
    · simp at a b; subst a; subst b; exact aggR K o _ _ hn1
    · simp at a b; subst a; subst b; exact .v _
    · simp at a
  · rintro e W' ⟨rfl, h3, h3', h4, h5, h6⟩
    have hb : Below W.heap.size W W' := ⟨h3, h3', h4, h5, h6⟩
    have hlt := hW'.lt
    refine ⟨_, rfl, _, _, _, [], p0 ++ (p1 ++ (p2 ++ ([]))), [], hW', ?_, ?_, ?_, ?_, fun h => by cases h⟩
    · exact trodAll_mk1 (shut_bool Tryz.underlying4 true)
    · exact trodAll_cons_mk (Below.trod laidOut (by kernel_rfl) (of_decide_eq_true (by kernel_rfl)) h0k hb (fun x hx => hlt x (by simp [hx]))) (trodAll_cons_mk (Below.trod laidOut (by kernel_rfl) (of_decide_eq_true (by kernel_rfl)) h1k hb (fun x hx => hlt x (by simp [hx]))) (trodAll_cons_mk (Below.trod laidOut (by kernel_rfl) (of_decide_eq_true (by kernel_rfl)) h2k hb (fun x hx => hlt x (by simp [hx]))) (trodAll_mk0)))
    · rfl
    · refine ⟨h3, h4, fun i hi => ?_⟩
      rw [h6 i hi]
      cases W.heap[i]? with
      | none => rfl
      | some o => cases o <;> first | exact ⟨rfl, rfl, rfl, fun _ _ => rfl⟩ | exact .inr ⟨rfl, rfl⟩ | rfl
end Go.Proofs.YtaflopgnibdkfaaGreatDoor.LeastDict

namespace Go.Proofs.YtaflopgnibdkfaaGreatDoor.LeastDict
open Go Go.Isea Go.ChangeShapes Go.WideShapes Go.ChangeAt Go.RowKit Go.Deep
set_option maxRecDepth 100000
set_option maxHeartbeats 4000000
theorem own : ownKnob Tryz.prog.godebug = none := by kernel_rfl
noncomputable abbrev wit (os : Os) : World := World.laidAll Tryz.prog os Rows.fnExactLeastDictRow.laid
def witArgs : Array Value := #[.agg #[.slice none 0 0, .slice none 0 0], .agg #[.string ⟨#[]⟩, .string ⟨#[]⟩], .int .i64 0]
theorem wit_met (os : Os) : laidMetH Tryz.prog Rows.fnExactLeastDictRow.laid ((wit os).forCall (fun _ _ => 0) ⟨#[], witArgs, []⟩).memory :=
  laidMetH_of_parts (laidMet_laidAll (os := os) witArgs (by kernel_rfl) (by kernel_rfl)) (by kernel_rfl)
theorem lifted (os : Os) (started : os.Started) (H : Type) (enc : TypeId × Value → H) :
    ReturnsInHanded {} Tryz.checked os 4 .any (fun w args => (Rows.fnExactLeastDictSpec.pre enc Tryz.prog Tryz.f4 [] false w args ∧ laidMetH Tryz.prog Rows.fnExactLeastDictRow.laid w) ∧ sizedMet enc Tryz.prog Tryz.f4 (OpenSpec.ofChange Rows.fnExactLeastDictSpec) false w args)
      (Rows.fnExactLeastDictSpec.post enc Tryz.prog Tryz.f4 false true false false) := by
  refine returnsInHanded_of_change_and (C := Tryz.checked) (X := fun w _ => laidMetH Tryz.prog Rows.fnExactLeastDictRow.laid w) (fun _ _ _ hh h => h.of_heap hh) own started (by kernel_rfl) Tryz.func4
    (ChangeSpec.witness_at (enc := enc) (C := Tryz.checked) (os := os) (X := fun w _ => laidMetH Tryz.prog Rows.fnExactLeastDictRow.laid w) false (wit os) witArgs 8 (World.laidAll_os _ _ _) (by kernel_rfl) (by kernel_rfl) (by kernel_rfl) (by kernel_rfl) (by kernel_rfl) (wit_met os)) ?_
  intro W base args ds gs before hval0 hW _ _ _ _
  exact body H enc W base args ds gs before hval0 hW
end Go.Proofs.YtaflopgnibdkfaaGreatDoor.LeastDict
