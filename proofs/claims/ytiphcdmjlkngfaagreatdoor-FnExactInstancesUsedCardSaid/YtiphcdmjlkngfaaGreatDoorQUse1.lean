/- The law Use: its code returns true; its row and its card, which this claim proves. No condition is added. -/
import Derived.Test.YtiphcdmjlkngfaaGreatDoorMg
import Derived.Test.YtiphcdmjlkngfaaGreatDoorMR
import Derived.Test.YtiphcdmjlkngfaaGreatDoorMl
import Derived.Test.YtiphcdmjlkngfaaGreatDoorMi
import Derived.Test.YtiphcdmjlkngfaaGreatDoorRows
import Derived.OpenShut
import Derived.Stop.Joined
import Derived.Lay
import Derived.LaidHandle
set_option linter.all false
namespace Go.Proofs.YtiphcdmjlkngfaaGreatDoor
open Go Go.Isea
set_option maxRecDepth 100000
set_option maxHeartbeats 16000000
theorem law_InstancesUsed (w0 : Wld) (n1 : Need) (i2 : Int) (h : AH) (wm0 : w0.Mx) (nm1 : n1.Mx) (im2 : -9223372036854775808 ≤ i2 ∧ i2 ≤ 9223372036854775807) :
    Isea.Good Tryz.prog 10 [.agg w0.row, .agg n1.row, .v (.int .i64 i2)] h [] (.v (.bool true)) h := by
  have z0 := w_szWorld w0 1048576
  have z1 := fun L h hL => w_szNeed n1 L h hL nm1
  refine good [] [(8, OT.o 0 (OT.o 2 (OT.o 4 (OT.o 1 (OT.o 3 (OT.o 5 (OT.o 6 (OT.o 7 (OT.o 8 (OT.o 9 (OT.o 10 OT.e))))))))))), (10, OT.o 0 (OT.o 1 (OT.o 3 (OT.o 2 (OT.o 4 (OT.o 5 (OT.o 6 (OT.o 7 (OT.o 8 (OT.o 9 OT.e)))))))))), (27, OT.o 0 (OT.o 2 (OT.o 4 (OT.o 1 (OT.o 3 (OT.o 5 (OT.o 6 (OT.o 7 (OT.o 8 (OT.o 9 (OT.o 10 OT.e)))))))))))] Tryz.func10 rfl rfl Tryz.ntmps10 (by kernel_rfl) mixed (by kernel_rfl) ?_
  simp -dsimp only [go_sem, Wld.row, Need.row] at z0 z1 ⊢
  refine call_pure (z0 _ wm0) ?_
  by_cases h0 : w0.sz ≤ 1048576
  · rw [cutN_yes h0]
    have q0 : ¬ ((1048576 - w0.sz : Nat) : Int) < 0 := by omega
    obtain ⟨sw0, sc0, si0, sio0⟩ := Wld.sm (w := w0) (by omega)
    simp -dsimp only [go_sem, q0]
    refine call_pure (z1 (1048576 - w0.sz) _ (by omega)) ?_
    by_cases h1 : n1.sz ≤ 1048576 - w0.sz
    · rw [cutN_yes h1]
      have q1 : ¬ ((1048576 - w0.sz - n1.sz : Nat) : Int) < 0 := by omega
      have sn1 := Need.sm (n := n1) (by omega)
      simp -dsimp only [go_sem, q1]
      have tw0 := fun H => w_toWorld w0 H sc0 si0 sio0
      have ew0 := fun H => w_eqWorld w0 H sc0 si0 sio0
      have tn1 := fun H => w_toNeed n1 H trivial
      have sF := fun H => s_InstancesUsed w0 n1 i2 H sw0 sn1 im2 sc0 si0 sio0
      have iF := fun H => i_InstancesUsed w0 n1 i2 H sw0 sn1 im2
      have hLl : (usedN w0 n1 i2).length ≤ 1099511627776 := usedN_len' w0 n1 i2
      generalize hRL : usedN w0 n1 i2 = RL at sF iF hLl
      generalize hOK : ((allDicts w0 n1 i2).isSome) = ok at sF iF
      have hPu : PuR (RL.map iRow) := of_eq_true puR_ints
      have hVr : VR (RL.map iRow) := VR.map fun a x hx => by
        simp [iRow] at hx
        exact ⟨_, hx⟩
      have hRr : ∀ r ∈ RL.map iRow, r.length = 1 := fun r hr => by obtain ⟨j, _, rfl⟩ := List.mem_map.1 hr; rfl
      simp -dsimp only [go_sem, Wld.row, Need.row] at tw0 ew0 tn1 sF ⊢
      refine call_pure (tw0 _) ?_
      simp -dsimp only [go_sem]
      refine call_pure (tn1 _) ?_
      simp -dsimp only [go_sem]
      refine call_pure (sF _) ?_
      simp -dsimp only [go_sem]
      obtain ⟨H1, oG, oN, oLow, oW⟩ := o_toWorld w0 h sc0 si0 sio0
      have oB := oW.lt
      simp -dsimp only [go_sem, Wld.row, ownRow] at oG
      have hn1 : h.n ≤ H1.n := by omega
      have k1 : isCur w0.cs.length (H1.o h.n) = true := by rw [oW.c]; simp [isCur]
      have k2 : isCur w0.is.length (H1.o (h.n + 1)) = true := by rw [oW.i]; simp [isCur]
      have n1 : ¬ h.n = H1.n := by omega
      have n2 : ¬ h.n + 1 = H1.n := by omega
      refine call_pure oG ?_
      simp -dsimp only [go_sem, hn1, k1, k2, n1, n2, Bool.and_self]
      refine call_pure (tn1 _) ?_
      simp -dsimp only [go_sem]
      refine call_pure (Good.liftSo2 (fun o' => iF ⟨0, o'⟩) (FzL.cons (OwnW.fz (oW.keep ?_ ?_)) (FzL.cons (Fz.aggL (FzL.cons (.v _) (FzL.cons (.v _) FzL.nil))) (FzL.cons (.v _) FzL.nil))) hVr) ?_
      · exact Nat.le_succ _
      · intro t ht
        have a1 : ¬ t = H1.n := by omega
        simp -dsimp only [go_sem, a1]
      simp -dsimp only [go_sem]
      refine call_gen fun M2 hM2 => ?_
      have a1 : M2.n = H1.n + 1 + 1 := by rw [hM2]
      have a2 : M2.o (H1.n + 1) = .rows 3 1 (RL.map iRow) := by rw [hM2]; exact upd_same _ _ _
      have a3 : ∀ t, t < H1.n → M2.o t = H1.o t := fun t ht => by
        rw [hM2]
        show upd (upd (upd _ _ _) _ _) _ _ t = _
        rw [upd_ne _ _ (by omega), upd_ne _ _ (by omega), upd_ne _ _ (by omega)]
      have a4 : M2.o H1.n = .cells [.so h.n w0.cs.length w0.cs.length, .so (h.n + 1) w0.is.length w0.is.length] := by
        rw [hM2]
        show upd (upd (upd _ _ _) _ _) _ _ H1.n = _
        rw [upd_ne _ _ (by omega), upd_same]
      clear hM2
      refine call_pure (Good.frozen (w_eqIntS RL ⟨0, H1.o⟩ (by omega)) (.v _) (FzL.cons (fz_rowsL a2 hPu) (FzL.cons (of_eq_true (fz_sl hPu)) FzL.nil))) ?_
      have k1 : isCur w0.cs.length (M2.o h.n) = true := by rw [a3 _ (by omega), oW.c]; simp [isCur]
      have k2 : isCur w0.is.length (M2.o (h.n + 1)) = true := by rw [a3 _ (by omega), oW.i]; simp [isCur]
      simp -dsimp only [go_sem, a1, a2, a4, k1, k2, hn1, Bool.and_self, Bool.not_true, Bool.not_false, ne_eq, not_true_eq_false, decide_false]
      refine call_pure (tw0 _) ?_
      simp -dsimp only [go_sem, a1, a2, a4, k1, k2, hn1, Bool.and_self, Bool.not_true, Bool.not_false, ne_eq, not_true_eq_false, decide_false]
      have oW2 := oW.keep (h' := M2) (by omega) a3
      refine call_pure (Good.frozen (ew0 ⟨0, H1.o⟩) (.v _) (FzL.cons oW2.fz (FzL.cons (by simp -dsimp only [go_sem]) FzL.nil))) ?_
      simp -dsimp only [go_sem, a1, a2, a4, k1, k2, hn1, Bool.and_self, Bool.not_true, Bool.not_false, ne_eq, not_true_eq_false, decide_false]
      obtain ⟨T3, H3, mG, mN, mT, mHi⟩ := o_markWorld' w0 1 h.n M2 oW2 sc0 si0 sio0 (by decide)
      generalize 1 + 2 * w0.cs.length + imk w0.is = mm at mG
      rw [show ((1 : Nat) : Int) = 1 from rfl] at mG
      have m0 : ¬ ((mm : Nat) : Int) < 0 := by omega
      simp -dsimp only [ownRow] at mG
      refine call_turn mG (fun x hx _ => .inl (mT x hx)) (fun x hx => ?_) ?_
      · simp at hx
      have b1 : H3.n = H1.n + 1 + 1 := by omega
      have b2 : H3.o (H1.n + 1) = .rows 3 1 (RL.map iRow) := by rw [mHi _ (by omega)]; exact a2
      clear mHi mT mN mG
      simp -dsimp only [go_sem, b1, b2, m0, hn1]
      refine call_pure (Good.frozen (w_eqIntS RL ⟨0, H1.o⟩ (by omega)) (.v _) (FzL.cons (fz_rowsL b2 hPu) (FzL.cons (of_eq_true (fz_sl hPu)) FzL.nil))) ?_
      simp -dsimp only [go_sem, b1, b2, m0, hn1]
      have mS := o_markInt (RL.map iRow) 1 (H1.n + 1) H3 (by omega) b2 hRr hPu (by rw [List.length_map]; omega)
      rw [List.length_map, show ((1 : Nat) : Int) = 1 from rfl] at mS
      refine call_turn mS (fun x hx _ => ?_) (fun x hx => ?_) ?_
      · have e := List.mem_singleton.1 hx; exact .inl (by show h.n ≤ x; omega)
      · cases hx
      have u0 : ¬ ((1 + RL.length : Nat) : Int) < 0 := by omega
      have wH := w_heldInt RL.length 1 ⟨0, H1.o⟩ (by omega)
      rw [show ((1 : Nat) : Int) = 1 from rfl] at wH
      simp -dsimp only [go_sem, b1, b2, u0, hn1,  not_true_eq_false, decide_false]
      refine call_gen fun M4 hM4 => ?_
      have c1 : M4.n = H1.n + 1 + 1 := by rw [hM4] <;> first | exact b1 | rfl
      have c2 : M4.o (H1.n + 1) = .rows 3 1 ((List.range RL.length).map (mkI 1)) := by rw [hM4]; exact upd_same _ _ _
      clear hM4
      skip
      refine call_pure (Good.frozen wH (.v _) (FzL.cons (fz_rowsN c2 (mkI_pu 1)) (FzL.cons (.v _) FzL.nil))) ?_
      simp -dsimp only [go_sem, c1, u0, hn1,  not_true_eq_false, decide_false]
      refine call_pure (tw0 _) ?_
      simp -dsimp only [go_sem, c1, u0, hn1,  not_true_eq_false, decide_false]
      refine call_pure (tn1 _) ?_
      simp -dsimp only [go_sem, c1, u0, hn1,  not_true_eq_false, decide_false]
      refine call_pure (iF M4) ?_
      simp -dsimp only [go_sem, c1, u0, hn1,  not_true_eq_false, decide_false]
      refine call_gen fun M5 hM5 => ?_
      have d1 : M5.n = H1.n + 3 := by rw [hM5]
      have d2 : M5.o (H1.n + 2) = .rows 3 1 (RL.map iRow) := by rw [hM5]; exact upd_same _ _ _
      have d3 : M5.o (H1.n + 1) = .rows 3 1 ((List.range RL.length).map (mkI 1)) := by
        rw [hM5]
        show upd _ _ _ _ = _
        rw [upd_ne _ _ (by omega)]; exact c2
      clear hM5
      refine call_pure (Good.frozen (w_eqIntS RL ⟨0, H1.o⟩ (by omega)) (.v _) (FzL.cons (fz_rowsL d2 hPu) (FzL.cons (of_eq_true (fz_sl hPu)) FzL.nil))) ?_
      simp -dsimp only [go_sem, d1, u0, hn1,  not_true_eq_false, decide_false]
      refine call_pure (Good.frozen wH (.v _) (FzL.cons (fz_rowsN d3 (mkI_pu 1)) (FzL.cons (.v _) FzL.nil))) ?_
      simp -dsimp only [go_sem, d1, u0, hn1,  not_true_eq_false, decide_false]
      exact fin_bool (by first | exact Nat.le_refl _ | omega) rfl
    · rw [cutN_no h1]
      simp -dsimp only [go_sem, Wld.row, Need.row]
      exact fin_bool (by first | exact Nat.le_refl _ | simp -dsimp only [go_sem]) rfl
  · rw [cutN_no h0]
    simp -dsimp only [go_sem, Wld.row, Need.row]
    exact fin_bool (by first | exact Nat.le_refl _ | simp -dsimp only [go_sem]) rfl
end Go.Proofs.YtiphcdmjlkngfaaGreatDoor

namespace Go.Proofs.YtiphcdmjlkngfaaGreatDoor.InstancesUsed
open Go Go.Isea Go.ChangeShapes Go.WideShapes Go.ChangeAt Go.RowKit Go.Deep
set_option maxRecDepth 100000
set_option maxHeartbeats 4000000
theorem contract (W : World) (args : Array Value) (w0 : Wld) (n1 : Need) (i2 : Int) (wm0 : w0.Mx) (nm1 : n1.Mx) (im2 : -9223372036854775808 ≤ i2 ∧ i2 ≤ 9223372036854775807)
    (hr : ∀ (K : KM) (o : Nat → AObj), RepL K ⟨0, o⟩ W [.agg w0.row, .agg n1.row, .v (.int .i64 i2)] args) :
    Calls Tryz.prog 10 args W fun e W' => e = .returned (.bool true) ∧ W'.os = W.os ∧ W'.tape = W.tape ∧ W'.output = W.output ∧ W.heap.size ≤ W'.heap.size ∧ ∀ b, b < W.heap.size → W'.heap[b]? = W.heap[b]? := by
  have hg := law_InstancesUsed w0 n1 i2 ⟨0, fun _ => default⟩ wm0 nm1 im2
  refine (hg.2 (fun _ => undef) W args ⟨fun t b ht => absurd ht (Nat.not_lt_zero _), fun s t b hs => absurd hs (Nat.not_lt_zero _), fun t ht => absurd ht (Nat.not_lt_zero _)⟩ (hr _ _)).mono ?_
  rintro e W' ⟨K', v, rfl, _, hE, hv⟩
  have e1 : v = .bool true := raw_rep (x := .v (.bool true)) rfl hv
  subst e1
  exact ⟨rfl, hE.os, hE.tape, hE.output, hE.size, fun b hb => hE.same b hb fun t ht => by cases ht⟩
theorem laidOut : laidOutB Tryz.prog = true := by kernel_rfl
theorem body (H : Type) (enc : TypeId × Value → H) (W : World) (base : Nat) (args : Array Value) (ds gs : List (DataW H)) (before : List MemPlace)
    (hval : ∀ (j : Nat) t v, Tryz.f10.params[j]? = some t → args[j]? = some v → Value.okWide Tryz.prog W .any base t v)
    (hW : DataW.Whole enc Tryz.prog Tryz.f10.params.toList Rows.fnExactInstancesUsedSpec.vars false W args.toList ds gs before) :
    Calls Tryz.prog 10 args W fun e W' => ∃ v, e = .returned v ∧ Rows.fnExactInstancesUsedSpec.post enc Tryz.prog Tryz.f10 false true false false W args v W' := by
  have hW' := hW
  obtain ⟨p, q, hA0, hV, rfl, hfz, hnd⟩ := hW
  have hA : DataW.TrodAll enc Tryz.prog W 0 (fun _ => true) true Tryz.f10.params.toList args.toList ds p := hA0
  rw [Tryz.params10] at hA hval
  obtain ⟨v0, vs0, d0, ds0, p0, q0, hargs, rfl, rfl, h0, r0⟩ := trodAll_cons hA
  obtain ⟨v1, vs1, d1, ds1, p1, q1, rfl, rfl, rfl, h1, r1⟩ := trodAll_cons r0
  obtain ⟨v2, vs2, d2, ds2, p2, q2, rfl, rfl, rfl, h2, r2⟩ := trodAll_cons r1
  obtain ⟨rfl, rfl, rfl⟩ := trodAll_nil r2
  obtain rfl : args = #[v0, v1, v2] := by cases args; simp_all
  obtain ⟨rfl, rfl⟩ := trodVars_none hV
  have o0 := hval 0 72 v0 rfl rfl
  unfold Value.okWide at o0
  rw [Tryz.underlying72] at o0
  obtain ⟨c0, rfl, _⟩ := o0
  have h0k := h0
  obtain ⟨f0, t0⟩ := h0
  obtain ⟨w0, hw0, wm0⟩ := read_world t0
  have o1 := hval 1 73 v1 rfl rfl
  unfold Value.okWide at o1
  rw [Tryz.underlying73] at o1
  obtain ⟨c1, rfl, _⟩ := o1
  have h1k := h1
  obtain ⟨f1, t1⟩ := h1
  obtain ⟨n1, hn1, nm1⟩ := read_need t1
  have o2 := hval 2 3 v2 rfl rfl
  unfold Value.okWide at o2
  rw [Tryz.underlying3] at o2
  have h2k := h2
  obtain ⟨f2, t2⟩ := h2
  have e2 : v2.cells.toList = [v2] := by
    cases v2 <;> first | rfl | (exfalso; simp [Cell.okWide, Cell.ok, Tryz.underlying3] at o2)
  rw [e2] at t2
  obtain ⟨i2, ei2, _, wf2⟩ := DataW.trod_int Tryz.underlying3 t2
  obtain rfl : v2 = .int .i64 i2 := by simpa using ei2
  have im2 := int_rng wf2
  have aggR : ∀ (K : KM) (o : Nat → AObj) (r : List AV) (c : Array Value), RowR W r c.toList → Rep K ⟨0, o⟩ W (.agg r) (.agg c) := fun K o r c h => .agg (by simpa using h.1) fun i x y a b => h.2 K o i x y a (by simpa using b)
  refine (contract W _ w0 n1 i2 wm0 nm1 im2 fun K o => ⟨rfl, fun i x y a b => ?_⟩).mono ?_
  · rcases i with _ | _ | _ | i
    · simp at a b; subst a; subst b; exact aggR K o _ _ hw0
    · simp at a b; subst a; subst b; exact aggR K o _ _ hn1
    · simp at a b; subst a; subst b; exact .v _
    · simp at a
  · rintro e W' ⟨rfl, h3, h3', h4, h5, h6⟩
    have hb : Below W.heap.size W W' := ⟨h3, h3', h4, h5, h6⟩
    have hlt := hW'.lt
    refine ⟨_, rfl, _, _, _, [], p0 ++ (p1 ++ (p2 ++ ([]))), [], hW', ?_, ?_, ?_, ?_, fun h => by cases h⟩
    · exact trodAll_mk1 (shut_bool Tryz.underlying4 true)
    · exact trodAll_cons_mk (Below.trod laidOut (by kernel_rfl) (of_decide_eq_true (by kernel_rfl)) h0k hb (fun x hx => hlt x (by simp [hx]))) (trodAll_cons_mk (Below.trod laidOut (by kernel_rfl) (of_decide_eq_true (by kernel_rfl)) h1k hb (fun x hx => hlt x (by simp [hx]))) (trodAll_cons_mk (Below.trod laidOut (by kernel_rfl) (of_decide_eq_true (by kernel_rfl)) h2k hb (fun x hx => hlt x (by simp [hx]))) (trodAll_mk0)))
    · rfl
    · refine ⟨h3, h4, fun i hi => ?_⟩
      rw [h6 i hi]
      cases W.heap[i]? with
      | none => rfl
      | some o => cases o <;> first | exact ⟨rfl, rfl, rfl, fun _ _ => rfl⟩ | exact .inr ⟨rfl, rfl⟩ | rfl
end Go.Proofs.YtiphcdmjlkngfaaGreatDoor.InstancesUsed

namespace Go.Proofs.YtiphcdmjlkngfaaGreatDoor.InstancesUsed
open Go Go.Isea Go.ChangeShapes Go.WideShapes Go.ChangeAt Go.RowKit Go.Deep
set_option maxRecDepth 100000
set_option maxHeartbeats 4000000
theorem own : ownKnob Tryz.prog.godebug = none := by kernel_rfl
noncomputable abbrev wit (os : Os) : World := World.laidAll Tryz.prog os Rows.fnExactInstancesUsedRow.laid
def witArgs : Array Value := #[.agg #[.slice none 0 0, .slice none 0 0], .agg #[.string ⟨#[]⟩, .string ⟨#[]⟩], .int .i64 0]
theorem wit_met (os : Os) : laidMetH Tryz.prog Rows.fnExactInstancesUsedRow.laid ((wit os).forCall (fun _ _ => 0) ⟨#[], witArgs, []⟩).memory :=
  laidMetH_of_parts (laidMet_laidAll (os := os) witArgs (by kernel_rfl) (by kernel_rfl)) (by kernel_rfl)
theorem lifted (os : Os) (started : os.Started) (H : Type) (enc : TypeId × Value → H) :
    ReturnsInHanded {} Tryz.checked os 10 .any (fun w args => (Rows.fnExactInstancesUsedSpec.pre enc Tryz.prog Tryz.f10 [] false w args ∧ laidMetH Tryz.prog Rows.fnExactInstancesUsedRow.laid w) ∧ sizedMet enc Tryz.prog Tryz.f10 (OpenSpec.ofChange Rows.fnExactInstancesUsedSpec) false w args)
      (Rows.fnExactInstancesUsedSpec.post enc Tryz.prog Tryz.f10 false true false false) := by
  refine returnsInHanded_of_change_and (C := Tryz.checked) (X := fun w _ => laidMetH Tryz.prog Rows.fnExactInstancesUsedRow.laid w) (fun _ _ _ hh h => h.of_heap hh) own started (by kernel_rfl) Tryz.func10
    (ChangeSpec.witness_at (enc := enc) (C := Tryz.checked) (os := os) (X := fun w _ => laidMetH Tryz.prog Rows.fnExactInstancesUsedRow.laid w) false (wit os) witArgs 8 (World.laidAll_os _ _ _) (by kernel_rfl) (by kernel_rfl) (by kernel_rfl) (by kernel_rfl) (by kernel_rfl) (wit_met os)) ?_
  intro W base args ds gs before hval0 hW _ _ _ _
  exact body H enc W base args ds gs before hval0 hW
end Go.Proofs.YtiphcdmjlkngfaaGreatDoor.InstancesUsed
