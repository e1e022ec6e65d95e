/- Contracts of functions of this program, for all arguments that satisfy what each lemma asks for. -/
import Derived.Test.YtnocdggngfiebaaGreatDoorMc
set_option linter.all false
namespace Go.Proofs.YtnocdggngfiebaaGreatDoor
open Go Go.Isea
set_option maxRecDepth 100000
set_option maxHeartbeats 4000000
theorem s_InstanceValid (w : Wld) (i : Inst) (h : AH) (hw : w.Sm) (hi : i.Sm) : Good Tryz.prog 189 [.agg w.row, .agg i.row] h [] (.v (.bool (instOk w.cs i))) h := by
  obtain ⟨hic, hit, hin, hins⟩ := hi
  have hcl := hw.cl
  have bad : instOk w.cs i = false → ∀ H : AH, h.n ≤ H.n → FinS [] h H (.v (.bool false)) h (.v (.bool (instOk w.cs i))) := fun e H hH => fin_bool hH e.symm
  refine good [] [(6, OT.o 0 (OT.o 1 (OT.o 2 (OT.o 3 (OT.o 4 (OT.o 5 (OT.o 6 (OT.o 7 (OT.o 8 (OT.o 9 (OT.o 10 (OT.o 11 (OT.o 12 (OT.o 13 (OT.o 14 (OT.o 15 (OT.o 16 (OT.o 17 (OT.o 18 (OT.o 19 (OT.o 21 (OT.o 22 (OT.o 23 (OT.o 20 (OT.o 24 (OT.o 25 (OT.o 26 (OT.o 27 OT.e))))))))))))))))))))))))))))] Tryz.func189 rfl rfl Tryz.ntmps189 (by kernel_rfl) mixed (by kernel_rfl) ?_
  simp -dsimp only [go_sem, Wld.row, Inst.row]
  refine call_pure (s_l3Classes w.cs _ hw.cl hw.c) ?_
  cases h1 : classesOk w.cs with
  | false =>
    simp -dsimp only [go_sem]
    exact bad (by simp [instOk, h1]) _ (by simp -dsimp only [go_sem])
  | true =>
    simp -dsimp only [go_sem]
    refine call_pure (s_l3Class w i.c _ hw.cl) ?_
    by_cases h2 : clsIx w.cs i.c < 0
    · have h2' : ¬ 0 ≤ clsIx w.cs i.c := by omega
      simp -dsimp only [go_sem, h2]
      exact bad (by simp [instOk, h2']) _ (by simp -dsimp only [go_sem])
    · have h2' : 0 ≤ clsIx w.cs i.c := by omega
      simp -dsimp only [go_sem, h2]
      refine call_pure (s_TypeValid i.t hit _) ?_
      cases h3 : tv i.t with
      | false =>
        simp -dsimp only [go_sem]
        exact bad (by simp [instOk, h3]) _ (by simp -dsimp only [go_sem])
      | true =>
        have hcons := tv_cons h3
        rcases hcons with ⟨c, l, hcl', hg0, hhd⟩
        by_cases h4 : (20 : Int) < (i.t.length : Nat)
        · have h4' : ¬ i.t.length ≤ 20 := by omega
          simp -dsimp only [go_sem, h4]
          exact bad (by simp [instOk, h4']) _ (by simp -dsimp only [go_sem])
        · have h4' : i.t.length ≤ 20 := by omega
          simp -dsimp only [go_sem, h4, hg0]
          refine call_pure (s_l1Variable c _) ?_
          cases h5 : isV c with
          | true =>
            simp -dsimp only [go_sem]
            exact bad (by unfold instOk; rw [hhd, h5]; simp) _ (by simp -dsimp only [go_sem])
          | false =>
            by_cases h6 : (3 : Int) < (i.ns.length : Nat)
            · have h6' : ¬ i.ns.length ≤ 3 := by omega
              simp -dsimp only [go_sem, h6]
              exact bad (by simp [instOk, h6']) _ (by simp -dsimp only [go_sem])
            · have h6' : i.ns.length ≤ 3 := by omega
              have e : instOk w.cs i = i.ns.all (needIn w.cs i.t) := by
                simp only [instOk, h1, h2', h3, h4', h6', decide_true, Bool.true_and, Bool.and_true]
                rw [hhd, h5]; rfl
              simp -dsimp only [go_sem, h6]
              refine loop_ruleH [2, 0, 43, 0] (fun (k : {k : Nat // k ≤ i.ns.length ∧ i.ns.all (needIn w.cs i.t) = (i.ns.drop k).all (needIn w.cs i.t)}) H => ([(49, .v (.int .i64 (k.1 : Nat)))], H)) (fun k => i.ns.length - k.1) ⟨0, Nat.zero_le _, rfl⟩ ?_ ?_
              · exact weak_at rfl (by simp -dsimp only [go_sem]) (fun x hx => by simp -dsimp only [go_sem, hx]) (by simp -dsimp only [go_sem])
              · rintro ⟨k, hk, hall⟩
                have hk1 : k + 1 ≤ 9223372036854775807 := by omega
                by_cases hlt : k < i.ns.length
                · obtain ⟨n, hb⟩ := get_some hlt
                  have hns := hins n (List.mem_of_getElem? hb)
                  rw [drop_get hb, List.all_cons] at hall
                  have nbad : needIn w.cs i.t n = false → instOk w.cs i = false := fun en => by rw [e, hall, en]; rfl
                  simp -dsimp only [go_sem, hlt, hb, Need.row]
                  refine call_pure (s_l3Class w n.c _ hw.cl) ?_
                  by_cases g2 : clsIx w.cs n.c < 0
                  · have g2' : ¬ 0 ≤ clsIx w.cs n.c := by omega
                    simp -dsimp only [go_sem, g2]
                    exact bad (nbad (by simp [needIn, g2'])) _ (by simp -dsimp only [go_sem])
                  · have g2' : 0 ≤ clsIx w.cs n.c := by omega
                    simp -dsimp only [go_sem, g2]
                    refine call_pure (s_TypeValid n.t hns.2 _) ?_
                    cases g3 : tv n.t with
                    | false =>
                      simp -dsimp only [go_sem]
                      exact bad (nbad (by simp [needIn, g3])) _ (by simp -dsimp only [go_sem])
                    | true =>
                      by_cases g4 : (20 : Int) < (n.t.length : Nat)
                      · have g4' : ¬ n.t.length ≤ 20 := by omega
                        simp -dsimp only [go_sem, g4]
                        exact bad (nbad (by simp [needIn, g4'])) _ (by simp -dsimp only [go_sem])
                      · have g4' : n.t.length ≤ 20 := by omega
                        have hv1 := s_VarsOf n.t
                        have hv2 := s_VarsOf i.t
                        rw [g3, if_pos rfl] at hv1
                        rw [h3, if_pos rfl] at hv2
                        have l1 : (varsIn n.t).length ≤ 6 := List.length_filter_le _ vars6
                        have l2 : (varsIn i.t).length ≤ 6 := List.length_filter_le _ vars6
                        simp -dsimp only [go_sem, g4]
                        refine call_pure (hv1 _ hns.2) ?_
                        simp -dsimp only [go_sem]
                        refine call_pure (hv2 _ hit) ?_
                        simp -dsimp only [go_sem]
                        refine call_pure (s_l3Within (varsIn n.t) (varsIn i.t) _ (by omega) (by omega)) ?_
                        have en : needIn w.cs i.t n = within (varsIn n.t) (varsIn i.t) := by simp [needIn, g2', g3, g4']
                        cases g5 : within (varsIn n.t) (varsIn i.t) with
                        | false =>
                          simp -dsimp only [go_sem]
                          exact bad (nbad (en.trans g5)) _ (by simp -dsimp only [go_sem])
                        | true =>
                          simp -dsimp only [go_sem, hk1]
                          refine round_to ⟨k + 1, hlt, ?_⟩ (by simp; omega) (weak_at rfl (by simp -dsimp only [go_sem]) (fun x hx => by simp -dsimp only [go_sem, hx]) (by simp -dsimp only [go_sem]))
                          rw [hall, en, g5]; rfl
                · simp -dsimp only [go_sem, hlt]
                  refine fin_bool (by simp -dsimp only [go_sem]) ?_
                  rw [e, hall, List.drop_of_length_le (by omega)]; rfl
theorem s_WorldValid (w : Wld) (h : AH) (hw : w.Sm) : Good Tryz.prog 103 [.agg w.row] h [] (.v (.bool (worldOk w))) h := by
  have hil := hw.il
  refine good [] [] Tryz.func103 rfl rfl Tryz.ntmps103 (by kernel_rfl) mixed (by kernel_rfl) ?_
  simp -dsimp only [go_sem, Wld.row]
  refine loop_ruleH [1, 4, 0] (fun (k : {k : Nat // k ≤ w.is.length ∧ w.is.all (instOk w.cs) = (w.is.drop k).all (instOk w.cs)}) H => ([(8, .v (.int .i64 (k.1 : Nat)))], H)) (fun k => w.is.length - k.1) ⟨0, Nat.zero_le _, rfl⟩ ?_ ?_
  · exact weak_at rfl (by simp -dsimp only [go_sem]) (fun x hx => by simp -dsimp only [go_sem, hx]) (by simp -dsimp only [go_sem])
  · rintro ⟨k, hk, hall⟩
    have hk1 : k + 1 ≤ 9223372036854775807 := by omega
    by_cases hlt : k < w.is.length
    · obtain ⟨i, hb⟩ := get_some hlt
      have hi := hw.i i (List.mem_of_getElem? hb)
      rw [drop_get hb, List.all_cons] at hall
      simp -dsimp only [go_sem, hlt, hb, Inst.row]
      refine call_pure (s_InstanceValid w i _ hw hi) ?_
      cases g : instOk w.cs i with
      | false =>
        simp -dsimp only [go_sem]
        refine fin_bool (by simp -dsimp only [go_sem]) ?_
        rw [worldOk, hall, g]; rfl
      | true =>
        simp -dsimp only [go_sem, hk1]
        refine round_to ⟨k + 1, hlt, ?_⟩ (by simp; omega) (weak_at rfl (by simp -dsimp only [go_sem]) (fun x hx => by simp -dsimp only [go_sem, hx]) (by simp -dsimp only [go_sem]))
        rw [hall, g]; rfl
    · have e1 : w.is.all (instOk w.cs) = true := by rw [hall, List.drop_of_length_le (by omega)]; rfl
      simp -dsimp only [go_sem, hlt]
      refine call_pure (s_l3Classes w.cs _ hw.cl hw.c) ?_
      cases g : classesOk w.cs with
      | false =>
        simp -dsimp only [go_sem]
        refine fin_bool (by simp -dsimp only [go_sem]) ?_
        rw [worldOk, e1, g]; rfl
      | true =>
        simp -dsimp only [go_sem]
        refine fin_bool (by simp -dsimp only [go_sem]) ?_
        rw [worldOk, e1, g]
        simp only [Bool.true_and]
        apply decide_eq_decide.2; omega
theorem s_HasClass (w : Wld) (c : L8) (h : AH) (hw : w.Sm) : Good Tryz.prog 238 [.agg w.row, str c] h [] (.v (.bool (hasClass w c))) h := by
  refine good [] [] Tryz.func238 rfl rfl Tryz.ntmps238 (by kernel_rfl) mixed (by kernel_rfl) ?_
  simp -dsimp only [go_sem, Wld.row]
  refine call_pure (s_WorldValid w _ hw) ?_
  unfold hasClass
  cases worldOk w with
  | false =>
    simp -dsimp only [go_sem]
    exact fin_bool (by simp -dsimp only [go_sem]) rfl
  | true =>
    simp -dsimp only [go_sem]
    refine call_pure (s_l3Class w c _ hw.cl) ?_
    simp -dsimp only [go_sem]
    exact fin_bool (by simp -dsimp only [go_sem]) rfl
end Go.Proofs.YtnocdggngfiebaaGreatDoor

namespace Go.Proofs.YtnocdggngfiebaaGreatDoor
open Go Go.Isea
set_option maxRecDepth 100000
set_option maxHeartbeats 4000000
theorem s_l3Sorted (s : L8) (h : AH) (hs : s.length ≤ 4611686018427387904) : Good Tryz.prog 257 [str s] h [] (str (sorted s)) h := by
  refine good [] [] Tryz.func257 rfl rfl Tryz.ntmps257 (by kernel_rfl) mixed (by kernel_rfl) ?_
  simp -dsimp only [go_sem]
  refine loop_ruleH [0] (fun (k : {k : Nat // k ≤ 20}) H => ([(3, str (sortL s k.1)), (4, .v (.int .i32 ((65 + k.1 : Nat))))], H)) (fun k => 20 - k.1) ⟨0, Nat.zero_le _⟩ ?_ ?_
  · exact weak_at rfl (by simp -dsimp only [go_sem]) (fun x hx => by simp -dsimp only [go_sem, hx]) (by simp -dsimp only [go_sem]; exact ⟨rfl, rfl⟩)
  · rintro ⟨k, hk⟩
    by_cases hlt : k < 20
    · obtain ⟨c, hc, he⟩ := capsL_at hlt
      have hle : ((65 + k : Nat) : Int) ≤ 84 := by omega
      have e1 : IntKind.u8.wrap (((65 + k : Nat) : Nat) : Int) = ((c.toNat : Nat) : Int) := by rw [he, wrap_u8] <;> omega
      have e2 : IntKind.i32.wrap (((65 + k : Nat) : Int) + 1) = ((65 + (k + 1) : Nat) : Int) := by
        have : IntKind.i32.wrap (((65 + k : Nat) : Int) + 1) = (((65 + k : Nat) : Int) + 1 + 2147483648) % 4294967296 - 2147483648 := by simp [IntKind.wrap, IntKind.bits, IntKind.signed]; omega
        omega
      have h3 := sortL_succ s hc
      have hl : (sortL s k).length + 1 ≤ 9223372036854775807 := by have := sortL_len s k; omega
      simp -dsimp only [go_sem, hle, e1]
      refine call_pure (s_l13Find s c _ hs) ?_
      by_cases h0 : 0 ≤ ix s c
      · rw [if_pos h0] at h3
        simp -dsimp only [go_sem, h0, e1, e2, hl]
        exact round_to ⟨k + 1, hlt⟩ (by simp; omega) (weak_at rfl (by simp -dsimp only [go_sem]) (fun x hx => by simp -dsimp only [go_sem, hx]) (by simp -dsimp only [go_sem, h3]))
      · rw [if_neg h0] at h3
        simp -dsimp only [go_sem, h0, e1, e2]
        exact round_to ⟨k + 1, hlt⟩ (by simp; omega) (weak_at rfl (by simp -dsimp only [go_sem]) (fun x hx => by simp -dsimp only [go_sem, hx]) (by simp -dsimp only [go_sem, h3]))
    · have hle : ¬ ((65 + k : Nat) : Int) ≤ 84 := by omega
      simp -dsimp only [go_sem, hle]
      refine fin_str (by simp -dsimp only [go_sem]) ?_
      exact sortL_all s (by omega)
theorem s_SupersOf (w : Wld) (c : L8) (h : AH) (hw : w.Sm) : Good Tryz.prog 187 [.agg w.row, str c] h [] (str (supersOf w c)) h := by
  have hcl := hw.cl
  refine good [] [] Tryz.func187 rfl rfl Tryz.ntmps187 (by kernel_rfl) mixed (by kernel_rfl) ?_
  simp -dsimp only [go_sem, Wld.row]
  refine call_pure (s_HasClass w c _ hw) ?_
  cases hh : hasClass w c with
  | false =>
    simp -dsimp only [go_sem]
    refine fin_str (by simp -dsimp only [go_sem]) ?_
    unfold supersOf; rw [hh, if_neg (by simp)]
  | true =>
    have eS : supersOf w c = itS w.cs (supersAt w.cs c) w.cs.length := by unfold supersOf; rw [hh, if_pos rfl]
    simp only [hasClass, worldOk, Bool.and_eq_true, decide_eq_true_eq] at hh
    obtain ⟨⟨⟨_, hco⟩, _⟩, hix⟩ := hh
    obtain ⟨x, hx, hxn, hxl⟩ := clsIx_lt w.cs c hix
    have e0 : supersAt w.cs c = x.s := by unfold supersAt; rw [hx]
    have hk0 := supersAt_known hco c
    have hit := itS_ok hco hk0.1 hk0.2
    have ecx : clsIx w.cs c = ((clsIx w.cs c).toNat : Nat) := by omega
    have hc' := s_l3Class w c
    rw [ecx] at hc'
    generalize (clsIx w.cs c).toNat = j at hc' hx hxl
    simp -dsimp only [go_sem]
    refine call_pure (hc' _ hw.cl) ?_
    simp -dsimp only [go_sem, hx, Cls.row]
    rw [← e0]
    refine loop_ruleH [2, 2, 17] (fun (k : {k : Nat // k ≤ w.cs.length}) H => ([(6, str (itS w.cs (supersAt w.cs c) k.1)), (24, .v (.int .i64 (k.1 : Nat)))], H)) (fun k => w.cs.length - k.1) ⟨0, Nat.zero_le _⟩ ?_ ?_
    · exact weak_at rfl (by simp -dsimp only [go_sem]) (fun x hx => by simp -dsimp only [go_sem, hx]) (by simp -dsimp only [go_sem, itS])
    · rintro ⟨k, hk⟩
      have hk1 : k + 1 ≤ 9223372036854775807 := by omega
      obtain ⟨hkn, hal⟩ := hit k
      have es : stepS w.cs (itS w.cs (supersAt w.cs c) k) = itS w.cs (supersAt w.cs c) (k + 1) := rfl
      by_cases hlt : k < w.cs.length
      · generalize itS w.cs (supersAt w.cs c) k = a at hkn hal es
        simp -dsimp only [go_sem, hlt]
        refine loop_ruleH [2, 2, 17, 0, 2] (fun (m : {m : Nat // m ≤ a.length}) H => ([(6, str (expandL w.cs a m.1)), (28, .v (.int .i64 (m.1 : Nat)))], H)) (fun m => a.length - m.1) ⟨0, Nat.zero_le _⟩ ?_ ?_
        · exact weak_at rfl (by simp -dsimp only [go_sem]) (fun x hx => by simp -dsimp only [go_sem, hx]) (by simp -dsimp only [go_sem, expandL, List.take_zero, List.flatMap_nil, List.append_nil])
        · rintro ⟨m, hm⟩
          have hm1 : m + 1 ≤ 9223372036854775807 := by omega
          have hel := expandL_len hco hal m
          by_cases hmt : m < a.length
          · obtain ⟨d, hd⟩ := get_some hmt
            have hde : (expandL w.cs a m)[m]? = some d := by unfold expandL; rw [List.getElem?_append_left hmt]; exact hd
            have e5 : ((expandL w.cs a m).drop m).take (m + 1 - m) = [d] := by rw [drop_get hde, Nat.add_sub_cancel_left]; rfl
            have hel2 : m + 1 ≤ (expandL w.cs a m).length := (List.getElem?_eq_some_iff.1 hde).1
            have hdk := hkn d (List.mem_of_getElem? hd)
            obtain ⟨y, hy, _, hyl⟩ := clsIx_lt w.cs [d] hdk
            have ey : supersAt w.cs [d] = y.s := by unfold supersAt; rw [hy]
            have hyk := (supersAt_known hco [d]).2
            have hsc : (expandL w.cs a m).length + (supersAt w.cs [d]).length ≤ 9223372036854775807 := by omega
            rw [ey] at hsc
            have enx := expandL_succ (cs := w.cs) hd
            rw [ey] at enx
            have ecx : clsIx w.cs [d] = ((clsIx w.cs [d]).toNat : Nat) := by omega
            have hc' := s_l3Class w [d]
            rw [ecx] at hc'
            generalize (clsIx w.cs [d]).toNat = i at hc' hy hyl
            simp -dsimp only [go_sem, hmt, hm1, e5, hel2]
            refine call_pure (hc' _ hw.cl) ?_
            simp -dsimp only [go_sem, hy, Cls.row, hsc, hm1]
            exact round_to ⟨m + 1, hmt⟩ (by simp; omega) (weak_at rfl (by simp -dsimp only [go_sem]) (fun x hx => by simp -dsimp only [go_sem, hx]) (by simp -dsimp only [go_sem, enx]))
          · have eml : m = a.length := by omega
            simp -dsimp only [go_sem, hmt]
            refine call_pure (s_l3Sorted (expandL w.cs a m) _ (by omega)) ?_
            simp -dsimp only [go_sem, hk1]
            refine round_to ⟨k + 1, hlt⟩ (by simp; omega) (weak_at rfl (by simp -dsimp only [go_sem]) (fun x hx => by simp -dsimp only [go_sem, hx]) ?_)
            have : sorted (expandL w.cs a m) = itS w.cs (supersAt w.cs c) (k + 1) := by rw [eml]; exact es
            simp -dsimp only [go_sem, this]
      · have ek : k = w.cs.length := by omega
        rw [ek] at hal
        rw [← eS] at hal
        simp -dsimp only [go_sem, hlt]
        rw [ek, ← eS]
        generalize supersOf w c = a at hal
        refine loop_ruleH [6, 43] (fun (m : {m : Nat // m ≤ a.length}) H => ([(5, str (a.take m.1)), (51, .v (.int .i64 (m.1 : Nat)))], H)) (fun m => a.length - m.1) ⟨0, Nat.zero_le _⟩ ?_ ?_
        · exact weak_at rfl (by simp -dsimp only [go_sem]) (fun x hx => by simp -dsimp only [go_sem, hx]) (by simp -dsimp only [go_sem])
        · rintro ⟨m, hm⟩
          have hm1 : m + 1 ≤ 9223372036854775807 := by omega
          by_cases hmt : m < a.length
          · obtain ⟨d, hd⟩ := get_some hmt
            have e5 : (a.drop m).take (m + 1 - m) = [d] := by rw [drop_get hd, Nat.add_sub_cancel_left]; rfl
            have hel2 : m + 1 ≤ a.length := hmt
            have hsc : (a.take m).length + 1 ≤ 9223372036854775807 := by rw [List.length_take]; omega
            have enx : a.take (m + 1) = a.take m ++ [d] := by
              obtain ⟨hl, e⟩ := List.getElem?_eq_some_iff.1 hd
              rw [List.take_succ_eq_append_getElem hl, e]
            simp -dsimp only [go_sem, hmt, hm1, e5, hel2, hsc]
            exact round_to ⟨m + 1, hmt⟩ (by simp; omega) (weak_at rfl (by simp -dsimp only [go_sem]) (fun x hx => by simp -dsimp only [go_sem, hx]) (by simp -dsimp only [go_sem, enx]))
          · simp -dsimp only [go_sem, hmt]
            exact fin_str (by simp -dsimp only [go_sem]) (List.take_of_length_le (by omega))
end Go.Proofs.YtnocdggngfiebaaGreatDoor

namespace Go.Proofs.YtnocdggngfiebaaGreatDoor
open Go Go.Isea
set_option maxRecDepth 100000
set_option maxHeartbeats 4000000
@[go_sem] theorem tf_ss : isSS Tryz.prog 28 = true := by kernel_rfl
theorem s_l4Need (w : Wld) (n : Need) (h : AH) (hw : w.Sm) (hn : n.Sm) : Good Tryz.prog 167 [.agg w.row, .agg n.row] h [] (.v (.bool (needOk w n))) h := by
  refine good [] [] Tryz.func167 rfl rfl Tryz.ntmps167 (by kernel_rfl) mixed (by kernel_rfl) ?_
  simp -dsimp only [go_sem, Wld.row, Need.row]
  refine call_pure (s_l3Class w n.c _ hw.cl) ?_
  by_cases h1 : 0 ≤ clsIx w.cs n.c
  · simp -dsimp only [go_sem, h1]
    refine call_pure (s_TypeValid n.t hn.2 _) ?_
    simp -dsimp only [go_sem]
    exact fin_bool (by simp -dsimp only [go_sem]) (by simp [needOk, h1])
  · simp -dsimp only [go_sem, h1]
    exact fin_bool (by simp -dsimp only [go_sem]) (by simp [needOk, h1])
theorem s_NeedValid (w : Wld) (n : Need) (h : AH) (hw : w.Sm) (hn : n.Sm) : Good Tryz.prog 87 [.agg w.row, .agg n.row] h [] (.v (.bool (worldOk w && needOk w n))) h := by
  refine good [] [] Tryz.func87 rfl rfl Tryz.ntmps87 (by kernel_rfl) mixed (by kernel_rfl) ?_
  simp -dsimp only [go_sem, Wld.row, Need.row]
  refine call_pure (s_WorldValid w _ hw) ?_
  cases worldOk w with
  | false =>
    simp -dsimp only [go_sem]
    exact fin_bool (by simp -dsimp only [go_sem]) rfl
  | true =>
    simp -dsimp only [go_sem]
    refine call_pure (s_l4Need w n _ hw hn) ?_
    simp -dsimp only [go_sem]
    exact fin_bool (by simp -dsimp only [go_sem]) rfl
theorem s_l4Candidates (w : Wld) (n : Need) (h : AH) (hw : w.Sm) (hn : n.Sm) (hl : w.is.length ≤ 1000) : Good Tryz.prog 169 [.agg w.row, .agg n.row] h [] (.sl ((candIx w n).map iRow)) h := by
  refine good [] [] Tryz.func169 rfl rfl Tryz.ntmps169 (by kernel_rfl) mixed (by kernel_rfl) ?_
  simp -dsimp only [go_sem, Wld.row, Need.row]
  refine loop_ruleH [2, 0, 6, 0] (fun (k : {k : Nat // k ≤ w.is.length}) H => ([(5, .so h.n (candTake w n k.1).length (candTake w n k.1).length), (12, .v (.int .i64 (k.1 : Nat)))], ⟨H.n, upd H.o h.n (.rows 3 1 ((candTake w n k.1).map iRow))⟩)) (fun k => w.is.length - k.1) ⟨0, Nat.zero_le _⟩ ?_ ?_
  · have e0 : candTake w n 0 = [] := rfl
    refine weak_objs [h.n] (by simp -dsimp only [go_sem]) (by simp -dsimp only [go_sem]) (by simp -dsimp only [go_sem, e0]) ?_ ?_ ?_
    · intro x h1 h2; simp -dsimp only [go_sem, h1]
    · intro x h1 h2; have h1 : x < h.n + 1 := h1; simp at h2 ⊢; omega
    · simp -dsimp only [go_sem, e0]
  · rintro ⟨k, hk⟩
    have hk1 : k + 1 ≤ 9223372036854775807 := by omega
    have hcl := candTake_len w n k
    have e6 : ((candTake w n k).length + 1) * 8 ≤ 140737488355328 := by omega
    by_cases hlt : k < w.is.length
    · obtain ⟨i, hb⟩ := get_some hlt
      have hi := hw.i i (List.mem_of_getElem? hb)
      have h3 := candTake_succ w n k
      by_cases hc : i.c = n.c
      · simp -dsimp only [go_sem, hlt, hb, Inst.row, hc]
        refine call_pure (s_IsInstance i.t n.t _ hi.2.1 hn.2) ?_
        cases hm : isInst i.t n.t with
        | true =>
          have ec : candAt w n k = true := by simp [candAt, hb, hc, hm]
          rw [if_pos ec] at h3
          simp -dsimp only [go_sem, hk1, e6]
          refine round_to ⟨k + 1, hlt⟩ (by simp; omega) ?_
          refine weak_objs [h.n] (by simp -dsimp only [go_sem]) (by simp -dsimp only [go_sem]) (by simp -dsimp only [go_sem, h3]) ?_ ?_ ?_
          · intro x h1 h2; simp -dsimp only [go_sem, h1]
          · intro x h1 h2; have h1 : x < h.n + 1 := h1; simp at h2 ⊢; omega
          · simp -dsimp only [go_sem, h3, iRow]
        | false =>
          have ec : candAt w n k = false := by simp [candAt, hb, hm]
          rw [if_neg (by simp [ec])] at h3
          simp -dsimp only [go_sem, hk1]
          refine round_to ⟨k + 1, hlt⟩ (by simp; omega) ?_
          refine weak_objs [h.n] (by simp -dsimp only [go_sem]) (by simp -dsimp only [go_sem]) (by simp -dsimp only [go_sem, h3]) ?_ ?_ ?_
          · intro x h1 h2; simp -dsimp only [go_sem, h1]
          · intro x h1 h2; have h1 : x < h.n + 1 := h1; simp at h2 ⊢; omega
          · simp -dsimp only [go_sem, h3]
      · have ec : candAt w n k = false := by simp [candAt, hb, hc]
        rw [if_neg (by simp [ec])] at h3
        simp -dsimp only [go_sem, hlt, hb, Inst.row, hc, hk1]
        refine round_to ⟨k + 1, hlt⟩ (by simp; omega) ?_
        refine weak_objs [h.n] (by simp -dsimp only [go_sem]) (by simp -dsimp only [go_sem]) (by simp -dsimp only [go_sem, h3]) ?_ ?_ ?_
        · intro x h1 h2; simp -dsimp only [go_sem, h1]
        · intro x h1 h2; have h1 : x < h.n + 1 := h1; simp at h2 ⊢; omega
        · simp -dsimp only [go_sem, h3]
    · simp -dsimp only [go_sem, hlt]
      refine fin_pure (by simp -dsimp only [go_sem]) ?_
      have ek : k = w.is.length := by omega
      subst ek
      simp -dsimp only [go_sem, candIx, List.length_map]
theorem s_l4Needs (i : Inst) (t : L8) (h : AH) (hi : i.Sm) (ht : t.length ≤ 4611686018427387904) (hl : i.ns.length ≤ 1000) : Good Tryz.prog 170 [.agg i.row, str t] h [] (needsV (needsOf i t)) h := by
  refine good [] [] Tryz.func170 rfl rfl Tryz.ntmps170 (by kernel_rfl) mixed (by kernel_rfl) ?_
  simp -dsimp only [go_sem, Inst.row]
  have hm := s_MatchType i.t t
  rw [matchV_S] at hm
  refine call_pure (hm _ hi.2.1 ht) ?_
  cases hs : matchS i.t t with
  | none =>
    simp -dsimp only [go_sem]
    refine fin_pure (by simp -dsimp only [go_sem]) ?_
    have : needsOf i t = none := by simp [needsOf, hs]
    simp -dsimp only [go_sem, this, needsV, List.map_nil]
  | some σ =>
    have hσ := matchS_ok hs
    have eN : needsOf i t = needsA σ i.ns := by simp [needsOf, hs]
    rw [eN]
    simp -dsimp only [go_sem]
    refine loop_ruleH [6, 0, 18, 0] (fun (k : {x : Nat × List Need // x.1 ≤ i.ns.length ∧ needsA σ (i.ns.take x.1) = some x.2}) H => ([(6, .so h.n k.1.2.length k.1.2.length), (28, .v (.int .i64 (k.1.1 : Nat)))], ⟨H.n, upd H.o h.n (.rows 28 2 (k.1.2.map Need.row))⟩)) (fun k => i.ns.length - k.1.1) ⟨(0, []), Nat.zero_le _, rfl⟩ ?_ ?_
    · refine weak_objs [h.n] (by simp -dsimp only [go_sem]) (by simp -dsimp only [go_sem]) (by simp -dsimp only [go_sem]) ?_ ?_ ?_
      · intro x h1 h2; simp -dsimp only [go_sem, h1]
      · intro x h1 h2; have h1 : x < h.n + 1 := h1; simp at h2 ⊢; omega
      · simp -dsimp only [go_sem]
    · rintro ⟨⟨k, out⟩, hk, hout⟩
      have hk : k ≤ i.ns.length := hk
      have hout : needsA σ (i.ns.take k) = some out := hout
      have hk1 : k + 1 ≤ 9223372036854775807 := by omega
      have hol := needsA_len hout
      rw [List.length_take] at hol
      have e6 : (out.length + 1) * 32 ≤ 140737488355328 := by omega
      by_cases hlt : k < i.ns.length
      · obtain ⟨n, hb⟩ := get_some hlt
        have hn := hi.2.2.2 n (List.mem_of_getElem? hb)
        simp -dsimp only [go_sem, hlt, hb, Need.row]
        refine call_pure (s_ApplyBindings hσ n.t _ hn.2) ?_
        cases hu : applyB σ n.t with
        | none =>
          have e0 := needsA_none hout hb hu
          simp -dsimp only [go_sem, textV]
          refine fin_pure (by simp -dsimp only [go_sem]) ?_
          simp -dsimp only [go_sem, e0, needsV, List.map_nil]
        | some u =>
          have e1 := needsA_some hout hb hu
          simp -dsimp only [go_sem, textV, hk1, e6]
          refine round_to ⟨(k + 1, out ++ [⟨n.c, u⟩]), hlt, e1⟩ (by simp; omega) ?_
          refine weak_objs [h.n] (by simp -dsimp only [go_sem]) (by simp -dsimp only [go_sem]) (by simp -dsimp only [go_sem]) ?_ ?_ ?_
          · intro x h1 h2; simp -dsimp only [go_sem, h1]
          · intro x h1 h2; have h1 : x < h.n + 1 := h1; simp at h2 ⊢; omega
          · simp -dsimp only [go_sem, Need.row]
      · have e1 : needsA σ i.ns = some out := by rw [← hout, List.take_of_length_le (by omega)]
        simp -dsimp only [go_sem, hlt]
        refine fin_pure (by simp -dsimp only [go_sem]) ?_
        simp -dsimp only [go_sem, e1, needsV, List.length_map]
end Go.Proofs.YtnocdggngfiebaaGreatDoor

namespace Go.Isea
open Go
theorem abc_at {k : Nat} (h : k < 6) : ∃ c, abc[k]? = some c ∧ (abc.drop k).take 1 = [c] := by
  obtain ⟨c, hc⟩ := get_some (l := abc) (k := k) h
  exact ⟨c, hc, by rw [drop_get hc]; rfl⟩
theorem letterL_len (k : Nat) : (letterL k).length ≤ 1 := by unfold letterL; rw [List.length_take]; omega
end Go.Isea
namespace Go.Proofs.YtnocdggngfiebaaGreatDoor
open Go Go.Isea
set_option maxRecDepth 100000
set_option maxHeartbeats 4000000
theorem s_l13Dec_digit (k : Nat) (h : AH) (hk : k ≤ 9) : Good Tryz.prog 115 [.v (.int .i64 (k : Nat))] h [] (str (digitL k)) h := by
  refine good [] [] Tryz.func115 rfl rfl Tryz.ntmps115 (by kernel_rfl) mixed (by kernel_rfl) ?_
  have h1 : ¬ ((k : Nat) : Int) < -9223372036854775807 := by omega
  have h2 : ¬ (9 : Int) < (k : Nat) := by omega
  have e0 : (UInt8.ofNat (48 + k)).toNat = 48 + k := by simp; omega
  have e1 : IntKind.u8.wrap (IntKind.i64.wrap (48 + ((k : Nat) : Int))) = (((UInt8.ofNat (48 + k)).toNat : Nat) : Int) := by
    rw [e0, wrap_i64 (by omega) (by omega), wrap_u8] <;> omega
  simp -dsimp only [go_sem, h1]
  refine loop_ruleH [0, 2] (fun (_ : Unit) H => ([], H)) (fun _ => 0) () ?_ ?_
  · exact weak_at rfl (by simp -dsimp only [go_sem]) (fun x hx => by simp -dsimp only [go_sem, hx]) (by simp -dsimp only [go_sem])
  · intro _
    simp -dsimp only [go_sem, h2, e1]
    exact fin_str (by simp -dsimp only [go_sem]) rfl
theorem s_l9Letter (k : Nat) (h : AH) (hk : k < 6) : Good Tryz.prog 266 [.v (.int .i64 (k : Nat))] h [] (str (letterL k)) h := by
  refine good [] [] Tryz.func266 rfl rfl Tryz.ntmps266 (by kernel_rfl) mixed (by kernel_rfl) ?_
  obtain ⟨c, hc, hd⟩ := abc_at hk
  have e5 : (([97, 98, 99, 100, 101, 102] : L8).drop k).take (k + 1 - k) = [c] := by rw [Nat.add_sub_cancel_left]; exact hd
  have h1 : k + 1 ≤ 9223372036854775807 := by omega
  have h6 : k + 1 ≤ 6 := by omega
  simp -dsimp only [go_sem, h1, e5, h6]
  exact fin_str (by simp -dsimp only [go_sem]) (by unfold letterL; exact hd.symm)
def sCells (w : Wld) (gs : List Need) (a : Nat) (why : L8) : List AV := [.sl (w.cs.map Cls.row), .sl (w.is.map Inst.row), .sl (gs.map Need.row), .v (.int .i64 (a : Nat)), str why]
theorem s_given {l : Nat} (w : Wld) (gs : List Need) (n : Need) (a : Nat) (why : L8) (h : AH) (hl : l < h.n) (ho : h.o l = .cells (sCells w gs a why)) (hw : w.Sm) (hg : gs.length ≤ 6) {d : UInt8} (hd : n.c = [d]) :
    Good Tryz.prog 201 [.ptr l 0, .agg n.row] h [] (str (givenL w gs n)) h := by
  have hfull : gs.length < 7 := by omega
  refine good [] [(10, OT.o 0 (OT.o 1 (OT.o 2 (OT.o 3 (OT.o 4 (OT.o 5 (OT.o 6 (OT.o 7 (OT.o 8 (OT.o 9 (OT.o 10 (OT.o 11 (OT.o 13 (OT.o 14 (OT.o 15 (OT.o 12 (OT.o 16 (OT.o 17 (OT.o 18 OT.e))))))))))))))))))), (11, OT.o 0 (OT.o 2 (OT.o 3 (OT.o 1 (OT.o 4 (OT.o 5 OT.e))))))] Tryz.func201 rfl rfl Tryz.ntmps201 (by kernel_rfl) mixed (by kernel_rfl) ?_
  simp -dsimp only [go_sem, Need.row, hl, ho, sCells]
  refine loop_ruleH [0, 2, 8, 0] (fun (k : {k : Nat // k ≤ gs.length ∧ ∀ j, j < k → givenEqAt gs n j = false}) H => ([(14, .v (.int .i64 (k.1 : Nat)))], H)) (fun k => gs.length - k.1) ⟨0, Nat.zero_le _, fun j hj => absurd hj (Nat.not_lt_zero _)⟩ ?_ ?_
  · exact weak_at rfl (by simp -dsimp only [go_sem]) (fun x hx => by simp -dsimp only [go_sem, hx]) (by simp -dsimp only [go_sem, hl])
  · rintro ⟨k, hk, hall⟩
    have hk1 : k + 1 ≤ 9223372036854775807 := by omega
    by_cases hlt : k < gs.length
    · obtain ⟨g, hb⟩ := get_some hlt
      by_cases hc : g.c = n.c ∧ g.t = n.t
      · have eg : givenEqAt gs n k = true := by
          unfold givenEqAt
          rw [hb]
          obtain ⟨gc, gt⟩ := g
          obtain ⟨nc, nt⟩ := n
          simp only at hc
          simp [hc]
        simp -dsimp only [go_sem, hlt, hb, Need.row, hc, hl, ho, sCells]
        refine call_pure (s_l9Letter k _ (by omega)) ?_
        simp -dsimp only [go_sem]
        refine fin_str (by simp -dsimp only [go_sem]) ?_
        unfold givenL; rw [firstK_some hlt hall eg]
      · have eg : givenEqAt gs n k = false := by
          unfold givenEqAt
          rw [hb]
          simp only [Option.some.injEq, decide_eq_false_iff_not]
          exact fun e => hc (by rw [e]; exact ⟨rfl, rfl⟩)
        simp -dsimp only [go_sem, hlt, hb, Need.row, hc, hl, ho, sCells, hk1]
        refine round_to ⟨k + 1, hlt, ?_⟩ (by simp; omega) (weak_at rfl (by simp -dsimp only [go_sem]) (fun x hx => by simp -dsimp only [go_sem, hx]) (by simp -dsimp only [go_sem, hl, hd]))
        intro j hj
        rcases Nat.lt_or_eq_of_le (Nat.le_of_lt_succ hj) with g' | rfl
        · exact hall j g'
        · exact eg
    · have e1 : firstK (givenEqAt gs n) gs.length = none := firstK_none fun j hj => hall j (by omega)
      simp -dsimp only [go_sem, hlt, hl, ho, sCells]
      refine loop_ruleH [0, 2, 24, 0] (fun (k : {k : Nat // k ≤ gs.length ∧ ∀ j, j < k → givenUpAt w gs n j = false}) H => ([(30, .v (.int .i64 (k.1 : Nat)))], H)) (fun k => gs.length - k.1) ⟨0, Nat.zero_le _, fun j hj => absurd hj (Nat.not_lt_zero _)⟩ ?_ ?_
      · exact weak_at rfl (by simp -dsimp only [go_sem]) (fun x hx => by simp -dsimp only [go_sem, hx]) (by simp -dsimp only [go_sem, hl])
      · rintro ⟨k, hk, hall⟩
        have hk1 : k + 1 ≤ 9223372036854775807 := by omega
        by_cases hlt : k < gs.length
        · obtain ⟨g, hb⟩ := get_some hlt
          have stay : givenUpAt w gs n k = false → ∀ j, j < k + 1 → givenUpAt w gs n j = false := fun eg j hj => by
            rcases Nat.lt_or_eq_of_le (Nat.le_of_lt_succ hj) with g' | rfl
            · exact hall j g'
            · exact eg
          by_cases hc : g.t = n.t
          · have hd0 : n.c[0]? = some d := by rw [hd]; rfl
            simp -dsimp only [go_sem, hlt, hb, Need.row, hc, hl, ho, sCells, hd0]
            refine call_pure (s_SupersOf w g.c _ hw) ?_
            have hsl : (supersOf w g.c).length ≤ 256 := by
              unfold supersOf
              split
              · rename_i hh
                simp only [hasClass, worldOk, Bool.and_eq_true, decide_eq_true_eq] at hh
                have hk0 := supersAt_known hh.1.1.2 g.c
                exact (itS_ok hh.1.1.2 hk0.1 hk0.2 _).2
              · simp
            simp -dsimp only [go_sem, hd]
            refine call_pure (s_l13Find (supersOf w g.c) d _ (by omega)) ?_
            by_cases h0 : 0 ≤ ix (supersOf w g.c) d
            · have eg : givenUpAt w gs n k = true := by simp [givenUpAt, hb, hc, hd, h0]
              have hll : (letterL k).length + 1 ≤ 9223372036854775807 := by have := letterL_len k; omega
              simp -dsimp only [go_sem, h0]
              refine call_pure (s_l9Letter k _ (by omega)) ?_
              simp -dsimp only [go_sem, hd, hll]
              refine fin_str (by simp -dsimp only [go_sem]) ?_
              unfold givenL; rw [e1, firstK_some hlt hall eg, hd]
            · have eg : givenUpAt w gs n k = false := by simp [givenUpAt, hb, hd, h0]
              simp -dsimp only [go_sem, h0, hk1]
              exact round_to ⟨k + 1, hlt, stay eg⟩ (by simp; omega) (weak_at rfl (by simp -dsimp only [go_sem]) (fun x hx => by simp -dsimp only [go_sem, hx]) (by simp -dsimp only [go_sem, hl, hd]))
          · have eg : givenUpAt w gs n k = false := by simp [givenUpAt, hb, hc]
            simp -dsimp only [go_sem, hlt, hb, Need.row, hc, hl, ho, sCells, hk1]
            exact round_to ⟨k + 1, hlt, stay eg⟩ (by simp; omega) (weak_at rfl (by simp -dsimp only [go_sem]) (fun x hx => by simp -dsimp only [go_sem, hx]) (by simp -dsimp only [go_sem, hl, hd]))
        · have e2 : firstK (givenUpAt w gs n) gs.length = none := firstK_none fun j hj => hall j (by omega)
          simp -dsimp only [go_sem, hlt]
          refine fin_str (by simp -dsimp only [go_sem]) ?_
          unfold givenL; rw [e1, e2]
end Go.Proofs.YtnocdggngfiebaaGreatDoor

namespace Go.Isea
open Go
theorem known_letter {cs : List Cls} (h : classesOk cs = true) {c : L8} (hc : 0 ≤ clsIx cs c) : ∃ d, c = [d] ∧ 65 ≤ d.toNat ∧ d.toNat ≤ 84 := by
  obtain ⟨x, hx, e, hl⟩ := clsIx_lt cs c hc
  have := (cls_ok h hx).1
  rw [e] at this
  unfold capital at this
  split at this
  · rename_i d
    simp only [Bool.and_eq_true, decide_eq_true_eq] at this
    exact ⟨d, rfl, this.1, this.2⟩
  · cases this
theorem world_cls {w : Wld} (h : worldOk w = true) : classesOk w.cs = true := by
  simp only [worldOk, Bool.and_eq_true] at h
  exact h.1.2
theorem world_len {w : Wld} (h : worldOk w = true) : w.is.length ≤ 10 := by
  simp only [worldOk, Bool.and_eq_true, decide_eq_true_eq] at h
  exact h.2
theorem world_inst {w : Wld} (h : worldOk w = true) {k : Nat} {i : Inst} (hi : w.is[k]? = some i) : k < 10 ∧ 0 ≤ clsIx w.cs i.c ∧ tv i.t = true ∧ i.t.length ≤ 20 ∧ isV (i.t.headD 0) = false ∧ i.ns.length ≤ 3 ∧ ∀ n ∈ i.ns, needIn w.cs i.t n = true := by
  have hl := world_len h
  simp only [worldOk, Bool.and_eq_true, decide_eq_true_eq, List.all_eq_true] at h
  have := h.1.1 i (List.mem_of_getElem? hi)
  simp only [instOk, Bool.and_eq_true, decide_eq_true_eq, List.all_eq_true, Bool.not_eq_true'] at this
  have hk := (List.getElem?_eq_some_iff.1 hi).1
  obtain ⟨⟨⟨⟨⟨⟨_, h2⟩, h3⟩, h4⟩, h5⟩, h6⟩, h7⟩ := this
  exact ⟨by omega, h2, h3, h4, h5, h6, h7⟩
theorem findL_cons {fd : Need → Nat → L8 × Nat × L8} {m : Need} {ms : List Need} {k : Nat} {out : L8} {a : Nat} : findL fd (m :: ms) k out a = if (fd m a).2.2 = [] then findL fd ms (k + 1) (out ++ [sep k] ++ (fd m a).1) (fd m a).2.1 else ([], (fd m a).2.1, (fd m a).2.2) := rfl
theorem findL_nil {fd : Need → Nat → L8 × Nat × L8} {k : Nat} {out : L8} {a : Nat} : findL fd [] k out a = (out, a, []) := rfl
/-- a need of a valid world -/
def NOk (w : Wld) (n : Need) : Prop := 0 ≤ clsIx w.cs n.c ∧ n.Sm
theorem needs_ok {w : Wld} (h : worldOk w = true) (hw : w.Sm) {k : Nat} {i : Inst} (hi : w.is[k]? = some i) {t : L8} {ms : List Need} (hm : needsOf i t = some ms) : ms.length ≤ 3 ∧ ∀ m ∈ ms, NOk w m ∧ tv m.t = true ∧ m.t.length ≤ 60 := by
  obtain ⟨_, _, _, _, _, h6, h7⟩ := world_inst h hi
  have hsm := hw.i i (List.mem_of_getElem? hi)
  unfold needsOf at hm
  split at hm
  · rename_i σ hσ
    refine ⟨by rw [needsA_len hm]; exact h6, fun m hmm => ?_⟩
    obtain ⟨n, hn, hc, ha⟩ := needsA_mem hm m hmm
    have h8 := h7 n hn
    simp only [needIn, Bool.and_eq_true, decide_eq_true_eq] at h8
    have h9 := applyB_ok (matchS_ok hσ) ha
    refine ⟨⟨by rw [hc]; exact h8.1.1.1, by rw [hc]; exact (hsm.2.2.2 n hn).1, by omega⟩, h9.2, h9.1⟩
  · cases hm
theorem findL_bd {fd : Need → Nat → L8 × Nat × L8} {B : Nat} : ∀ (ms : List Need) (k : Nat) (out : L8) (a : Nat), (∀ m ∈ ms, ∀ a, a ≤ 300 → (fd m a).1.length ≤ B ∧ (fd m a).2.1 ≤ 300) → a ≤ 300 →
    (findL fd ms k out a).1.length ≤ out.length + ms.length * (B + 1) ∧ (findL fd ms k out a).2.1 ≤ 300
  | [], k, out, a, _, ha => by simp [findL, ha]
  | m :: ms, k, out, a, h, ha => by
    obtain ⟨h1, h2⟩ := h m (List.mem_cons_self ..) a ha
    unfold findL
    split
    · have := findL_bd ms (k + 1) (out ++ [sep k] ++ (fd m a).1) (fd m a).2.1 (fun m' hm' => h m' (List.mem_cons_of_mem _ hm')) h2
      refine ⟨Nat.le_trans this.1 ?_, this.2⟩
      simp only [List.length_append, List.length_cons, List.length_nil, Nat.succ_mul]
      omega
    · exact ⟨by simp, h2⟩
theorem findS_bd {w : Wld} {gs : List Need} (h : worldOk w = true) (hw : w.Sm) : ∀ (f : Nat) (n : Need) (a : Nat), NOk w n → a ≤ 300 → (findS w gs f n a).1.length + 3 ≤ 5 * 3 ^ f ∧ (findS w gs f n a).2.1 ≤ 300 := by
  have hgl : ∀ n, NOk w n → (givenL w gs n).length ≤ 2 := fun n hn => by
    obtain ⟨d, hd, _⟩ := known_letter (world_cls h) hn.1
    unfold givenL
    split
    · exact Nat.le_trans (letterL_len _) (by decide)
    · split
      · rename_i k _
        rw [List.length_append, hd]
        have := letterL_len k
        simp; omega
      · simp
  intro f
  induction f with
  | zero =>
    intro n a hn ha
    have := hgl n hn
    unfold findS
    split
    · exact ⟨by simp; omega, ha⟩
    · split <;> exact ⟨by simp, ha⟩
  | succ f ih =>
    intro n a hn ha
    have hg := hgl n hn
    have hp : 1 ≤ 3 ^ f := Nat.one_le_pow _ _ (by decide)
    unfold findS
    rw [Nat.pow_succ]
    split
    · exact ⟨by show (givenL w gs n).length + 3 ≤ _; omega, ha⟩
    · split
      · exact ⟨by simp; omega, ha⟩
      · rename_i ha'
        unfold findB
        split
        · exact ⟨by simp; omega, ha⟩
        · split
          · rename_i i hi
            split
            · rename_i ms hms
              obtain ⟨hl, hmm⟩ := needs_ok h hw hi hms
              rename_i k _ _ _
              have := findL_bd (fd := findS w gs f) (B := 5 * 3 ^ f - 3) ms 0 (digitL k) (a + 1) (fun m hm a ha => by have := ih m a (hmm m hm).1 ha; omega) (by omega)
              have e1 : (digitL k).length = 1 := rfl
              rw [e1] at this
              obtain ⟨t1, t2⟩ := this
              have h3 : ms.length * (5 * 3 ^ f - 3 + 1) ≤ 3 * (5 * 3 ^ f - 3 + 1) := Nat.mul_le_mul_right _ hl
              unfold closeL
              split
              · refine ⟨?_, t2⟩
                simp only [List.length_append]
                split <;> simp only [List.length_cons, List.length_nil] <;> omega
              · exact ⟨by simp; omega, t2⟩
            · exact ⟨by simp; omega, by simp; omega⟩
          · exact ⟨by simp; omega, ha⟩
        · exact ⟨by simp; omega, ha⟩
end Go.Isea
namespace Go.Proofs.YtnocdggngfiebaaGreatDoor
open Go Go.Isea
set_option maxRecDepth 100000
set_option maxHeartbeats 4000000
@[go_sem] theorem cons_nil {a : UInt8} {l : L8} : (a :: l = []) = False := by simp
def FindOk (w : Wld) (gs : List Need) (f : Nat) : Prop := ∀ (l : Nat) (n : Need) (a : Nat) (h : AH), l < h.n → h.o l = .cells (sCells w gs a []) → NOk w n → a ≤ 300 → f ≤ 31 →
    Good Tryz.prog 117 [.ptr l 0, .agg n.row, .v (.int .i64 ((31 - f : Nat)))] h [l] (str (findS w gs f n a).1) (h.set l (.cells (sCells w gs (findS w gs f n a).2.1 (findS w gs f n a).2.2)))
theorem s_find_step {w : Wld} {gs : List Need} (hok : worldOk w = true) (hw : w.Sm) (hgs : gs.length ≤ 6) {f : Nat} (ih : ∀ g, f = g + 1 → FindOk w gs g) : FindOk w gs f := by
  intro l n a h hl ho hn ha hf
  obtain ⟨d, hd, _, _⟩ := known_letter (world_cls hok) hn.1
  have hbd := findS_bd hok hw (gs := gs) f n a hn ha
  have hwl := world_len hok
  have hmem : ∀ k, k ∈ candIx w n → ∃ i, w.is[k]? = some i ∧ i.c = n.c ∧ (matchS i.t n.t).isSome = true := fun k hk => cand_mem hk
  refine good [] [] Tryz.func117 rfl rfl Tryz.ntmps117 (by kernel_rfl) mixed (by kernel_rfl) ?_
  simp -dsimp only [go_sem, Need.row, hl]
  refine call_pure (s_given w gs n a [] _ hl ho hw hgs hd) ?_
  by_cases hg : givenL w gs n = []
  · have eS : findS w gs f n a = if 300 ≤ a then ([], a, longL) else match f with | 0 => ([], a, deepL) | g + 1 => findB (findS w gs g) w n a := by
      cases f <;> simp [findS, hg]
    simp -dsimp only [go_sem, hg, hl, ho, sCells]
    refine call_pure (s_l4Candidates w n _ hw hn.2 (by omega)) ?_
    by_cases hlong : 300 ≤ a
    · have h300 : (300 : Int) ≤ (a : Nat) := by omega
      rw [eS, if_pos hlong]
      simp -dsimp only [go_sem, h300, hl, ho, sCells]
      exact fin_one (by simp -dsimp only [go_sem]) (by simp -dsimp only [go_sem]) (by simp -dsimp only [go_sem, longL, sCells])
    · have h300 : ¬ (300 : Int) ≤ (a : Nat) := by omega
      by_cases hf0 : f = 0
      · have h31 : (30 : Int) < ((31 - f : Nat) : Int) := by omega
        rw [eS, if_neg hlong]
        subst hf0
        simp -dsimp only [go_sem, h300, h31, hl, ho, sCells]
        exact fin_one (by simp -dsimp only [go_sem]) (by simp -dsimp only [go_sem]) (by simp -dsimp only [go_sem, deepL, sCells])
      · obtain ⟨g, rfl⟩ : ∃ g, f = g + 1 := ⟨f - 1, by omega⟩
        obtain ⟨D, hD, hD', hD30⟩ : ∃ D, 31 - (g + 1) = D ∧ 31 - g = D + 1 ∧ D ≤ 30 := ⟨_, rfl, by omega, by omega⟩
        have h31 : ¬ (30 : Int) < ((D : Nat) : Int) := by omega
        have ihg := ih g rfl
        unfold FindOk at ihg
        rw [hD'] at ihg
        rw [hD]
        have eB : findS w gs (g + 1) n a = findB (findS w gs g) w n a := by rw [eS, if_neg hlong]
        clear eS
        cases hcl : candIx w n with
        | nil =>
          have e : findS w gs (g + 1) n a = ([], a, noneL) := by rw [eB]; unfold findB; rw [hcl]
          rw [e]
          simp -dsimp only [go_sem, h300, h31, hl, ho, sCells, List.map_nil]
          exact fin_one (by simp -dsimp only [go_sem]) (by simp -dsimp only [go_sem]) (by simp -dsimp only [go_sem, noneL, sCells])
        | cons k rest =>
          cases rest with
          | cons k2 rest =>
            have e : findS w gs (g + 1) n a = ([], a, manyL) := by rw [eB]; unfold findB; rw [hcl]
            rw [e]
            have hmany : (1 : Int) < ((rest.length + 1 + 1 : Nat) : Int) := by omega
            have hmany0 : ¬ ((rest.length + 1 + 1 : Nat) : Int) = 0 := by omega
            simp -dsimp only [go_sem, h300, h31, hl, ho, sCells, List.map_cons, hmany, hmany0]
            exact fin_one (by simp -dsimp only [go_sem]) (by simp -dsimp only [go_sem]) (by simp -dsimp only [go_sem, manyL, sCells])
          | nil =>
            obtain ⟨i, hi, hic, hm⟩ := hmem k (by rw [hcl]; exact List.mem_cons_self ..)
            obtain ⟨hk10, _, _, _, _, h6, _⟩ := world_inst hok hi
            have hism := hw.i i (List.mem_of_getElem? hi)
            have h1 : a + 1 ≤ 9223372036854775807 := by omega
            simp -dsimp only [go_sem, h300, h31, hl, ho, sCells, List.map_cons, List.map_nil, iRow, hi, Inst.row, h1]
            refine call_pure (s_l4Needs i n.t _ hism hn.2.2 (by omega)) ?_
            cases hN : needsOf i n.t with
            | none =>
              have e : findS w gs (g + 1) n a = ([], a + 1, bigL) := by rw [eB]; unfold findB; rw [hcl]; simp only [hi, hN]
              rw [e]
              simp -dsimp only [go_sem, needsV, hl, sCells]
              exact fin_one (by simp -dsimp only [go_sem]) (by simp -dsimp only [go_sem]) (by simp -dsimp only [go_sem, bigL, sCells])
            | some ms =>
              obtain ⟨hml, hmm⟩ := needs_ok hok hw hi hN
              have e : findS w gs (g + 1) n a = closeL ms (findL (findS w gs g) ms 0 (digitL k) (a + 1)) := by rw [eB]; unfold findB; rw [hcl]; simp only [hi, hN]
              rw [e] at hbd ⊢
              simp -dsimp only [go_sem, needsV]
              refine call_pure (s_l13Dec_digit k _ (by omega)) ?_
              simp -dsimp only [go_sem]
              have hD1 : D + 1 ≤ 9223372036854775807 := by omega
              have hp31 : 3 ^ g ≤ 3 ^ 30 := Nat.pow_le_pow_right (by decide) (by omega)
              have hp1 : 1 ≤ 3 ^ g := Nat.one_le_pow _ _ (by decide)
              have hp2 : 3 ^ g ≤ 205891132094649 := hp31
              have hne : ¬ l = h.n := by omega
              have fb := findS_bd hok hw (gs := gs) g
              generalize hfd : findS w gs g = fd at fb ihg
              generalize 3 ^ g = B at hp1 hp2 fb
              refine loop_ruleH [0, 1, 6, 83, 0] (fun (x : {x : Nat × L8 × Nat // x.1 ≤ ms.length ∧ findL fd ms 0 (digitL k) (a + 1) = findL fd (ms.drop x.1) x.1 x.2.1 x.2.2 ∧ x.2.2 ≤ 300 ∧ x.2.1.length ≤ 1 + x.1 * (5 * B)}) H => ([(11, str x.1.2.1), (95, .v (.int .i64 (x.1.1 : Nat)))], ⟨H.n, upd H.o l (.cells (sCells w gs x.1.2.2 []))⟩)) (fun x => ms.length - x.1.1) ⟨(0, digitL k, a + 1), Nat.zero_le _, rfl, by show a + 1 ≤ 300; omega, by show (digitL k).length ≤ 1 + 0 * _; simp [digitL]⟩ ?_ ?_
              · refine weak_objs [l] (by simp -dsimp only [go_sem]) (by simp -dsimp only [go_sem]) (by simp -dsimp only [go_sem, hl]) ?_ ?_ ?_
                · intro x h1 h2; have h2 : ¬ x = l := by simpa using h2
                  simp -dsimp only [go_sem, h2]
                · intro x h1 h2; have h1 : x < h.n := h1; simp at h2 ⊢; omega
                · simp -dsimp only [go_sem, sCells]
              · rintro ⟨⟨j, out, b⟩, hj, heq, hb300, hol⟩
                have hj : j ≤ ms.length := hj
                have heq : findL fd ms 0 (digitL k) (a + 1) = findL fd (ms.drop j) j out b := heq
                have hb300 : b ≤ 300 := hb300
                have hol : out.length ≤ 1 + j * (5 * B) := hol
                have hj1 : j + 1 ≤ 9223372036854775807 := by omega
                by_cases hlt : j < ms.length
                · obtain ⟨m, hb⟩ := get_some hlt
                  obtain ⟨hmok, _, _⟩ := hmm m (List.mem_of_getElem? hb)
                  rw [drop_get hb] at heq
                  rw [findL_cons] at heq
                  have hfb := fb m b hmok hb300
                  simp -dsimp only [go_sem, hlt, hb, Need.row, hD1]
                  refine call_one (ihg l m b _ (by simp -dsimp only [go_sem, hl]) (by simp -dsimp only [go_sem, hne]) hmok hb300 (by omega)) (by simp -dsimp only [go_sem]) (by simp -dsimp only [go_sem]) ?_
                  by_cases hwy : (fd m b).2.2 = []
                  · rw [if_pos hwy] at heq
                    have hj3 : j + 1 ≤ 3 := by omega
                    have e5 : (([40, 44, 44] : L8).drop j).take (j + 1 - j) = [sep j] := by
                      have : j = 0 ∨ j = 1 ∨ j = 2 := by omega
                      rcases this with rfl | rfl | rfl <;> rfl
                    have hjB : j * (5 * B) ≤ 3 * (5 * B) := Nat.mul_le_mul_right _ (by omega)
                    have hl1 : out.length + 1 ≤ 9223372036854775807 := by omega
                    have hl2 : out.length + 1 + (fd m b).1.length ≤ 9223372036854775807 := by omega
                    simp -dsimp only [go_sem, sCells, hwy, hl, e5, hj3, hj1, hl1, hl2, List.length_append]
                    refine round_to ⟨(j + 1, out ++ [sep j] ++ (fd m b).1, (fd m b).2.1), hlt, heq, hfb.2, ?_⟩ (by simp; omega) ?_
                    · show (out ++ [sep j] ++ (fd m b).1).length ≤ 1 + (j + 1) * (5 * B)
                      rw [List.length_append, List.length_append, Nat.succ_mul]
                      simp only [List.length_cons, List.length_nil]
                      omega
                    · refine weak_objs [l] (by simp -dsimp only [go_sem]) (by simp -dsimp only [go_sem]) (by simp -dsimp only [go_sem, hl]) ?_ ?_ ?_
                      · intro x h1 h2; have h2 : ¬ x = l := by simpa using h2
                        simp -dsimp only [go_sem, h2, h1]
                      · intro x h1 h2; have h1 : x < h.n := h1; simp at h2 ⊢; omega
                      · simp -dsimp only [go_sem, sCells, hl, hwy]
                  · rw [if_neg hwy] at heq
                    have ec : closeL ms (findL fd ms 0 (digitL k) (a + 1)) = ([], (fd m b).2.1, (fd m b).2.2) := by rw [heq]; unfold closeL; rw [if_neg hwy]
                    rw [ec]
                    simp -dsimp only [go_sem, sCells, hwy, hl]
                    exact fin_one (by simp -dsimp only [go_sem]) (by simp -dsimp only [go_sem]) (by simp -dsimp only [go_sem, hl, sCells])
                · have hjm : j = ms.length := by omega
                  have ed : ms.drop j = [] := List.drop_of_length_le (by omega)
                  rw [ed] at heq
                  rw [findL_nil] at heq
                  have hjB : j * (5 * B) ≤ 3 * (5 * B) := Nat.mul_le_mul_right _ (by omega)
                  have hl1 : out.length + 1 ≤ 9223372036854775807 := by omega
                  by_cases hm0 : ms.length = 0
                  · have hm0' : ¬ (0 : Int) < (ms.length : Nat) := by omega
                    have ec : closeL ms (findL fd ms 0 (digitL k) (a + 1)) = (out, b, []) := by rw [heq]; unfold closeL; simp [hm0]
                    rw [ec]
                    simp -dsimp only [go_sem, hlt, hm0']
                    exact fin_one (by simp -dsimp only [go_sem]) (by simp -dsimp only [go_sem]) (by simp -dsimp only [go_sem, hl, sCells])
                  · have hm0' : (0 : Int) < (ms.length : Nat) := by omega
                    have ec : closeL ms (findL fd ms 0 (digitL k) (a + 1)) = (out ++ [41], b, []) := by rw [heq]; unfold closeL; simp [hm0]
                    rw [ec]
                    simp -dsimp only [go_sem, hlt, hm0', hl1]
                    exact fin_one (by simp -dsimp only [go_sem]) (by simp -dsimp only [go_sem]) (by simp -dsimp only [go_sem, hl, sCells])
  · have eS : findS w gs f n a = (givenL w gs n, a, []) := by
      cases f <;> simp [findS, hg]
    rw [eS]
    simp -dsimp only [go_sem, hg]
    exact fin_one (by simp -dsimp only [go_sem]) (by simp -dsimp only [go_sem]) (by simp -dsimp only [go_sem, ho, sCells])
end Go.Proofs.YtnocdggngfiebaaGreatDoor

namespace Go.Isea
open Go
def findGiven (w : Wld) (gs : List Need) (n : Need) : L8 × L8 := if givensOk w gs && (worldOk w && needOk w n) then ((findS w gs 31 n 0).1, (findS w gs 31 n 0).2.2) else ([], wrongL)
end Go.Isea
namespace Go.Proofs.YtnocdggngfiebaaGreatDoor
open Go Go.Isea
set_option maxRecDepth 100000
set_option maxHeartbeats 4000000
theorem s_find {w : Wld} {gs : List Need} (hok : worldOk w = true) (hw : w.Sm) (hgs : gs.length ≤ 6) : ∀ f, FindOk w gs f := by
  intro f
  induction f with
  | zero => exact s_find_step hok hw hgs fun g e => by omega
  | succ f ih => exact s_find_step hok hw hgs fun g e => by have : f = g := by omega
                                                            exact this ▸ ih
theorem s_GivensValid (w : Wld) (gs : List Need) (h : AH) (hw : w.Sm) (hgl : gs.length ≤ 4611686018427387904) (hgs : ∀ g ∈ gs, g.Sm) : Good Tryz.prog 116 [.agg w.row, .sl (gs.map Need.row)] h [] (.v (.bool (givensOk w gs))) h := by
  refine good [] [] Tryz.func116 rfl rfl Tryz.ntmps116 (by kernel_rfl) mixed (by kernel_rfl) ?_
  simp -dsimp only [go_sem, Wld.row]
  let p : Need → Bool := fun g => worldOk w && needOk w g
  refine loop_ruleH [1, 0, 4, 0] (fun (k : {k : Nat // k ≤ gs.length ∧ gs.all p = (gs.drop k).all p}) H => ([(9, .v (.int .i64 (k.1 : Nat)))], H)) (fun k => gs.length - k.1) ⟨0, Nat.zero_le _, rfl⟩ ?_ ?_
  · exact weak_at rfl (by simp -dsimp only [go_sem]) (fun x hx => by simp -dsimp only [go_sem, hx]) (by simp -dsimp only [go_sem])
  · rintro ⟨k, hk, hall⟩
    have hk1 : k + 1 ≤ 9223372036854775807 := by omega
    by_cases hlt : k < gs.length
    · obtain ⟨g, hb⟩ := get_some hlt
      have hg := hgs g (List.mem_of_getElem? hb)
      rw [drop_get hb, List.all_cons] at hall
      simp -dsimp only [go_sem, hlt, hb, Need.row]
      refine call_pure (s_NeedValid w g _ hw hg) ?_
      cases e : (worldOk w && needOk w g) with
      | false =>
        simp -dsimp only [go_sem]
        refine fin_bool (by simp -dsimp only [go_sem]) ?_
        have : p g = false := e
        unfold givensOk
        show false = ((gs.all p && worldOk w) && _)
        rw [hall, this]; rfl
      | true =>
        simp -dsimp only [go_sem, hk1]
        refine round_to ⟨k + 1, hlt, ?_⟩ (by simp; omega) (weak_at rfl (by simp -dsimp only [go_sem]) (fun x hx => by simp -dsimp only [go_sem, hx]) (by simp -dsimp only [go_sem]))
        have : p g = true := e
        rw [hall, this]; rfl
    · have e1 : gs.all p = true := by rw [hall, List.drop_of_length_le (by omega)]; rfl
      have e2 : givensOk w gs = (worldOk w && decide (gs.length ≤ 6)) := by
        unfold givensOk
        show ((gs.all p && worldOk w) && _) = _
        rw [e1]; rfl
      rw [e2]
      simp -dsimp only [go_sem, hlt]
      refine call_pure (s_WorldValid w _ hw) ?_
      cases worldOk w with
      | false =>
        simp -dsimp only [go_sem]
        exact fin_bool (by simp -dsimp only [go_sem]) rfl
      | true =>
        simp -dsimp only [go_sem]
        refine fin_bool (by simp -dsimp only [go_sem]) ?_
        apply decide_eq_decide.2; omega
theorem s_FindGiven (w : Wld) (gs : List Need) (n : Need) (h : AH) (hw : w.Sm) (hgl : gs.length ≤ 4611686018427387904) (hgs : ∀ g ∈ gs, g.Sm) (hn : n.Sm) :
    Good Tryz.prog 39 [.agg w.row, .sl (gs.map Need.row), .agg n.row] h [] (.tup [str (findGiven w gs n).1, str (findGiven w gs n).2]) h := by
  have bad : (givensOk w gs && (worldOk w && needOk w n)) = false → ∀ H : AH, h.n ≤ H.n → FinS [] h H (.tup [str [], str [119, 114, 111, 110, 103]]) h (.tup [str (findGiven w gs n).1, str (findGiven w gs n).2]) := fun e H hH => by
    refine fin_pure hH ?_
    unfold findGiven
    rw [e]
    simp -dsimp only [go_sem, Bool.false_eq_true, if_false, wrongL]
  refine good [23] [] Tryz.func39 rfl rfl Tryz.ntmps39 (by kernel_rfl) mixed (by kernel_rfl) ?_
  simp -dsimp only [go_sem, Wld.row, Need.row]
  refine call_pure (s_GivensValid w gs _ hw hgl hgs) ?_
  cases hg : givensOk w gs with
  | false =>
    simp -dsimp only [go_sem]
    exact bad (by rw [hg]; rfl) _ (by simp -dsimp only [go_sem])
  | true =>
    simp -dsimp only [go_sem]
    refine call_pure (s_NeedValid w n _ hw hn) ?_
    cases e : (worldOk w && needOk w n) with
    | false =>
      simp -dsimp only [go_sem]
      exact bad (by rw [hg]; exact e) _ (by simp -dsimp only [go_sem])
    | true =>
      have e' : (worldOk w && needOk w n) = true := e
      have eF : findGiven w gs n = ((findS w gs 31 n 0).1, (findS w gs 31 n 0).2.2) := by unfold findGiven; rw [hg, e']; rfl
      simp only [Bool.and_eq_true] at e
      have hok := e.1
      have hnk : NOk w n := ⟨by have := e.2; simp only [needOk, Bool.and_eq_true, decide_eq_true_eq] at this; exact this.1, hn⟩
      have hg6 : gs.length ≤ 6 := by simp only [givensOk, Bool.and_eq_true, decide_eq_true_eq] at hg; exact hg.2
      rw [eF]
      simp -dsimp only [go_sem]
      refine call_one (s_find hok hw hg6 31 h.n n 0 _ (by simp -dsimp only [go_sem]) (by simp -dsimp only [go_sem, sCells]) hnk (by decide) (by decide)) (by simp -dsimp only [go_sem]) (by simp -dsimp only [go_sem]) ?_
      simp -dsimp only [go_sem, sCells]
      exact fin_pure (by simp -dsimp only [go_sem]) (by simp -dsimp only [go_sem])
end Go.Proofs.YtnocdggngfiebaaGreatDoor

namespace Go.Isea
open Go
def askB (fd : Need → Nat → L8 × Nat × L8) (w : Wld) (n : Need) (a : Nat) : L8 × Nat × L8 := match candIx w n with
  | [] => ([], a + 1, noneL)
  | [k] => (match w.is[k]? with
    | some i => (match needsOf i n.t with
      | some ms => closeL ms (findL fd ms 0 (digitL k) (a + 1))
      | none => ([], a + 1, bigL))
    | none => ([], a + 1, noneL))
  | _ :: _ :: _ => ([], a + 1, manyL)
def askS (w : Wld) (gs : List Need) : Nat → Need → Nat → L8 × Nat × L8
  | 0, n, a => if givenL w gs n ≠ [] then (givenL w gs n, a, []) else if 300 ≤ a then ([], a, longL) else ([], a + 1, deepL)
  | f + 1, n, a => if givenL w gs n ≠ [] then (givenL w gs n, a, []) else if 300 ≤ a then ([], a, longL) else askB (askS w gs f) w n a
/-- alike but for the number of questions behind a failure -/
def Sim (x y : L8 × Nat × L8) : Prop := x.1 = y.1 ∧ x.2.2 = y.2.2 ∧ (x.2.2 = [] → x.2.1 = y.2.1)
theorem Sim.rfl' (x : L8 × Nat × L8) : Sim x x := ⟨rfl, rfl, fun _ => rfl⟩
theorem findL_sim {fd fd' : Need → Nat → L8 × Nat × L8} (h : ∀ m a, Sim (fd m a) (fd' m a)) : ∀ (ms : List Need) (k : Nat) (out : L8) (a : Nat), Sim (findL fd ms k out a) (findL fd' ms k out a)
  | [], k, out, a => Sim.rfl' _
  | m :: ms, k, out, a => by
    obtain ⟨h1, h2, h3⟩ := h m a
    rw [findL_cons, findL_cons]
    by_cases hw : (fd m a).2.2 = []
    · rw [if_pos hw, if_pos (by rw [← h2]; exact hw), h1, h3 hw]
      exact findL_sim h ms _ _ _
    · rw [if_neg hw, if_neg (by rw [← h2]; exact hw)]
      exact ⟨rfl, h2, fun e => absurd e hw⟩
theorem closeL_sim {ms : List Need} {x y : L8 × Nat × L8} (h : Sim x y) : Sim (closeL ms x) (closeL ms y) := by
  obtain ⟨h1, h2, h3⟩ := h
  by_cases hw : x.2.2 = []
  · have hw' : y.2.2 = [] := by rw [← h2]; exact hw
    have e1 : closeL ms x = (x.1 ++ (if ms.length = 0 then [] else [41]), x.2.1, []) := if_pos hw
    have e2 : closeL ms y = (y.1 ++ (if ms.length = 0 then [] else [41]), y.2.1, []) := if_pos hw'
    rw [e1, e2, h1]
    exact ⟨rfl, rfl, fun _ => h3 hw⟩
  · have hw' : ¬ y.2.2 = [] := by rw [← h2]; exact hw
    have e1 : closeL ms x = ([], x.2.1, x.2.2) := if_neg hw
    have e2 : closeL ms y = ([], y.2.1, y.2.2) := if_neg hw'
    rw [e1, e2]
    exact ⟨rfl, h2, fun e => absurd e hw⟩
theorem askB_sim {fd fd' : Need → Nat → L8 × Nat × L8} (h : ∀ m a, Sim (fd m a) (fd' m a)) (w : Wld) (n : Need) (a : Nat) : Sim (askB fd w n a) (findB fd' w n a) := by
  unfold askB findB
  cases candIx w n with
  | nil => exact ⟨rfl, rfl, fun e => by cases e⟩
  | cons k r =>
    cases r with
    | cons k2 r => exact ⟨rfl, rfl, fun e => by cases e⟩
    | nil =>
      simp only
      cases w.is[k]? with
      | none => exact ⟨rfl, rfl, fun e => by cases e⟩
      | some i =>
        simp only
        cases needsOf i n.t with
        | none => exact ⟨rfl, rfl, fun e => by cases e⟩
        | some ms => exact closeL_sim (findL_sim h ms _ _ _)
theorem ask_find {w : Wld} {gs : List Need} : ∀ (f : Nat) (n : Need) (a : Nat), Sim (askS w gs f n a) (findS w gs f n a)
  | 0, n, a => by
    unfold askS findS
    split
    · exact Sim.rfl' _
    · split
      · exact Sim.rfl' _
      · exact ⟨rfl, rfl, fun e => by cases e⟩
  | f + 1, n, a => by
    unfold askS findS
    split
    · exact Sim.rfl' _
    · split
      · exact Sim.rfl' _
      · exact askB_sim (fun m a => ask_find f m a) w n a
theorem askS_bd {w : Wld} {gs : List Need} (h : worldOk w = true) (hw : w.Sm) (f : Nat) (n : Need) (a : Nat) (hn : NOk w n) (ha : a ≤ 300) : (askS w gs f n a).1.length + 3 ≤ 5 * 3 ^ f ∧ ((askS w gs f n a).2.2 = [] → (askS w gs f n a).2.1 ≤ 300) := by
  obtain ⟨h1, h2, h3⟩ := ask_find (w := w) (gs := gs) f n a
  have := findS_bd h hw (gs := gs) f n a hn ha
  rw [h1]
  exact ⟨this.1, fun e => by rw [h3 e]; exact this.2⟩
/-- the search's record -/
def aRows (a : Nat) : List (List AV) := List.replicate a [.junk, .junk]
theorem aRows_len (a : Nat) : (aRows a).length = a := List.length_replicate ..
def stA : List Need → AV
  | [] => .v (.slice none 0 0)
  | x :: xs => .sl ((x :: xs).map Need.row)
theorem stA_snoc (st : List Need) (n : Need) : stA (st ++ [n]) = .sl ((st ++ [n]).map Need.row) := by
  cases st <;> rfl
@[go_sem] theorem stA_ok {h : AH} {st : List Need} : AV.ok h (stA st) = true := by cases st <;> rfl
@[go_sem] theorem stA_cells {st : List Need} : (stA st).cells = [stA st] := by cases st <;> rfl
@[go_sem] theorem stA_one {h : AH} {st : List Need} : AV.one h (stA st) = true := by cases st <;> rfl
@[go_sem] theorem stA_len {P : Program} {h : AH} {st : List Need} {e : TypeId} : alenD P (stA st) h (some (.slice e)) = some (.v (.int .i64 (st.length : Nat))) := by
  cases st with
  | nil => exact alen_nil
  | cons x xs => exact alen_sl.trans (by rw [List.length_map])
@[go_sem] theorem stA_fz {h : AH} {m : Nat} {st : List Need} : Fz h m (stA st) (stA st) = True := by
  cases st with
  | nil => exact eq_true (.v _)
  | cons x xs => exact fz_sl (of_eq_true puR_needs)
@[go_sem] theorem fz_refp {h : AH} {l m o o' : Nat} (hl : l < m) : Fz h m (.ref [.ptr l o] o') (.ref [.ptr l o] o') = True := by
  refine eq_true (.ref rfl fun i x y h1 h2 => ?_)
  rcases i with _ | i
  · simp only [List.getElem?_cons_zero, Option.some.injEq] at h1 h2
    subst h1; subst h2
    exact .ptr hl
  · simp at h1
section
variable {P : Program} {h0 h : AH}
theorem fin_same {T : List Nat} {x r : AV} (hn : h0.n ≤ h.n) (hx : Fz h h0.n x r) (ho : EachO T fun t => ObjFz h h0.n (h.o t) (h0.o t)) : FinS T h0 h x h0 r where
  n0 := Nat.le_refl _
  n := hn
  fz := hx
  old t ht _ := rfl
  turned t ht hT := by
    rcases hT with hT | hT
    · exact eachO ho t hT
    · omega
theorem fin_two {l t : Nat} {x r : AV} {o1 o2 : AObj} (hlt : ¬ l = t) (hn : h0.n ≤ h.n) (hx : Fz h h0.n x r) (h1 : ObjFz h h0.n (h.o l) o1) (h2 : ObjFz h h0.n (h.o t) o2) : FinS [l, t] h0 h x ⟨h0.n, upd (upd h0.o l o1) t o2⟩ r where
  n0 := Nat.le_refl _
  n := hn
  fz := hx
  old i hi hT := by
    simp only [List.mem_cons, List.not_mem_nil, or_false, not_or] at hT
    simp [upd, hT.1, hT.2]
  turned i hi hT := by
    rcases hT with hT | hT
    · simp only [List.mem_cons, List.not_mem_nil, or_false] at hT
      by_cases e : i = t
      · subst e; simpa [upd] using h2
      · have : i = l := by rcases hT with g | g; exact g; exact absurd g e
        subst this
        simpa [upd, hlt] using h1
    · have hi' : i < h0.n := hi
      omega
theorem objFz_aRows {m e a : Nat} {rs : List (List AV)} (hl : rs.length = a) (h2 : ∀ r ∈ rs, r.length = 2) : ObjFz h m (.rows e 2 rs) (.rows e 2 (aRows a)) := by
  have hj : ∀ r' ∈ aRows a, r' = [.junk, .junk] := fun r' hr => List.eq_of_mem_replicate hr
  refine ⟨rfl, rfl, by rw [aRows_len, hl], fun i r r' g1 g2 => ?_, fun i j r r' x y g1 g2 g3 g4 => ?_⟩
  · rw [hj r' (List.mem_of_getElem? g2), h2 r (List.mem_of_getElem? g1)]; rfl
  · rw [hj r' (List.mem_of_getElem? g2)] at g4
    have : y = .junk := by
      have := List.mem_of_getElem? g4
      simpa using this
    rw [this]; exact .junk _
@[go_sem] theorem mem_2a {l t : Nat} : (l ∈ [l, t]) = True := by simp
@[go_sem] theorem mem_2b {l t : Nat} : (t ∈ [l, t]) = True := by simp
/-- what is nil may be told as a slice of one's own, without parts -/
theorem Good.ghost {k : FuncId} {args : List AV} {l e sz : Nat} {cs cs' : List AV} {r : AV} {h' : AH} (hsz : 0 < sz) (hl : l < h.n) (ho : h.o l = .cells cs) (hc : cs'.length = cs.length)
    (hcs : ∀ (i : Nat) (x y : AV), cs[i]? = some x → cs'[i]? = some y → y = x ∨ y = .junk ∨ (x = .v (.slice none 0 0) ∧ y = .so h.n 0 0))
    (hg : Isea.Good P k args ⟨h.n + 1, upd (upd h.o l (.cells cs')) h.n (.rows e sz [])⟩ [l, h.n] r h') : Isea.Good P k args h [l] r h' := by
  refine ⟨hg.1, fun K w vs hK hvs => ?_⟩
  let K1 : KM := upd K h.n (.slice none 0 0)
  let h1 : AH := ⟨h.n + 1, upd (upd h.o l (.cells cs')) h.n (.rows e sz [])⟩
  have hln : ¬ l = h.n := by omega
  have hKt : ∀ t, t < h.n → K1 t = K t := fun t ht => upd_ne _ _ (by omega)
  have hKn : K1 h.n = .slice none 0 0 := upd_same _ _ _
  have hol : h1.o l = .cells cs' := by show upd (upd h.o l _) h.n _ l = _; rw [upd_ne _ _ hln, upd_same]
  have hon : h1.o h.n = .rows e sz [] := upd_same _ _ _
  have hot : ∀ t, t < h.n → t ≠ l → h1.o t = h.o t := fun t ht htl => by show upd (upd h.o l _) h.n _ t = _; rw [upd_ne _ _ (by omega), upd_ne _ _ htl]
  have E : Ext [l] K h w K1 h1 w := ⟨rfl, rfl, rfl, Nat.le_refl _, Nat.le_succ _, fun _ _ _ => rfl, fun t ht htl => ⟨hKt t ht, hot t ht (by simpa using htl)⟩, fun t ht htl => by
      have : t = l := by simpa using htl
      subst this
      rw [ho, hol, hKt t ht]; rfl, fun t b ht hb => by
      have ht : t < h.n + 1 := ht
      by_cases hh : t = h.n
      · subst hh; rw [hKn] at hb; cases hb
      · exact .inr ⟨by omega, by rw [hKt t (by omega)] at hb; exact hb⟩⟩
  have R1 : RH K1 h1 w := by
    refine ⟨fun t b ht hb => ?_, fun s t b hs ht h1 h2 => ?_, fun t ht => ?_, hK.pin.ext E⟩
    · have ht : t < h.n + 1 := ht
      by_cases hh : t = h.n
      · subst hh; rw [hKn] at hb; cases hb
      · rw [hKt t (by omega)] at hb; exact hK.lt t b (by omega) hb
    · have hs : s < h.n + 1 := hs
      have ht : t < h.n + 1 := ht
      by_cases hh : s = h.n
      · subst hh; rw [hKn] at h1; cases h1
      · by_cases hh' : t = h.n
        · subst hh'; rw [hKn] at h2; cases h2
        · rw [hKt s (by omega)] at h1; rw [hKt t (by omega)] at h2
          exact hK.inj s t b (by omega) (by omega) h1 h2
    · have ht : t < h.n + 1 := ht
      by_cases hh : t = h.n
      · subst hh
        rw [hKn, hon]
        exact ⟨[], ⟨by simp, .inl ⟨rfl, rfl⟩⟩, hsz, fun r hr => (by cases hr), fun i j r x y g => (by simp at g)⟩
      · rw [hKt t (by omega)]
        by_cases htl : t = l
        · subst htl
          rw [hol]
          have := hK.obj t hl
          rw [ho] at this
          obtain ⟨b, vs', ty, e1, e2, e3⟩ := this
          refine ⟨b, vs', ty, e1, e2, e3.1.trans hc.symm, fun i y v g1 g2 => ?_⟩
          have hi : i < cs.length := by
            have := (List.getElem?_eq_some_iff.1 g1).1
            omega
          have hr := e3.2 i _ v (List.getElem?_eq_getElem hi) g2
          rcases hcs i _ y (List.getElem?_eq_getElem hi) g1 with g | g | ⟨g, g'⟩
          · rw [g]; exact hr.ext E
          · rw [g]; exact .junk _
          · rw [g'] ; rw [g] at hr
            cases hr
            refine .so (Nat.lt_succ_self _) fun e' sz' rs' he => ?_
            rw [hon] at he
            cases he
            refine ⟨Nat.le_refl _, fun _ => ⟨Nat.le_refl _, ?_⟩⟩
            rw [hKn]; exact Hd.self (Nat.le_refl _)
        · rw [hot t (by omega) htl]
          exact (hK.obj t (by omega)).ext E fun b hb => rfl
  refine (hg.2 K1 w vs R1 (hvs.ext E)).mono ?_
  rintro ee w' ⟨K', v, h1', h2', h3', h4'⟩
  exact ⟨K', v, h1', h2', E.trans h3' (fun t ht _ => ht) (fun t ht htn => by
    simp only [List.mem_cons, List.not_mem_nil, or_false] at ht ⊢
    rcases ht with ht | ht
    · exact ht
    · omega), h4'⟩
/-- a result that is nil may be told so -/
theorem Good.ghostR {k : FuncId} {args : List AV} {T : List Nat} {e sz : Nat} {h' : AH} (hsz : 0 < sz) (hg : Isea.Good P k args h T (.v (.slice none 0 0)) h') : Isea.Good P k args h T (.so h'.n 0 0) (h'.push (.rows e sz [])) := by
  refine ⟨hg.1, fun K w vs hK hvs => (hg.2 K w vs hK hvs).mono ?_⟩
  rintro ee w' ⟨K', v, h1', h2', h3', h4'⟩
  have E : Ext [] K' h' w' (upd K' h'.n (.slice none 0 0)) (h'.push (.rows e sz [])) w' := Ext.push _ _ rfl rfl rfl (Nat.le_refl _) (fun _ _ => rfl) (fun b hb => by cases hb)
  have hkt : ∀ t, t < h'.n → upd K' h'.n (.slice none 0 0) t = K' t := fun t ht => upd_ne _ _ (by omega)
  refine ⟨upd K' h'.n (.slice none 0 0), v, h1', ?_, h3'.trans E (fun t ht _ => ht) (fun t ht => by cases ht), ?_⟩
  · refine ⟨fun t b ht hb => ?_, fun s t b hs ht g1 g2 => ?_, fun t ht => ?_, h2'.pin.ext E⟩
    · have ht : t < h'.n + 1 := ht
      by_cases hh : t = h'.n
      · subst hh; rw [upd_same] at hb; cases hb
      · rw [hkt t (by omega)] at hb; exact h2'.lt t b (by omega) hb
    · have hs : s < h'.n + 1 := hs
      have ht : t < h'.n + 1 := ht
      by_cases hh : s = h'.n
      · subst hh; rw [upd_same] at g1; cases g1
      · by_cases hh' : t = h'.n
        · subst hh'; rw [upd_same] at g2; cases g2
        · rw [hkt s (by omega)] at g1; rw [hkt t (by omega)] at g2
          exact h2'.inj s t b (by omega) (by omega) g1 g2
    · have ht : t < h'.n + 1 := ht
      by_cases hh : t = h'.n
      · subst hh
        rw [upd_same]
        show RObj _ _ _ _ (upd h'.o h'.n _ h'.n)
        rw [upd_same]
        exact ⟨[], ⟨by simp, .inl ⟨rfl, rfl⟩⟩, hsz, fun r hr => (by cases hr), fun i j r x y g => (by simp at g)⟩
      · rw [hkt t (by omega)]
        show RObj _ _ _ _ (upd h'.o h'.n _ t)
        rw [upd_ne _ _ hh]
        exact (h2'.obj t (by omega)).ext E fun b hb => rfl
  · cases h4'
    refine .so (Nat.lt_succ_self _) fun e' sz' rs' he => ?_
    have he : upd h'.o h'.n (AObj.rows e sz []) h'.n = .rows e' sz' rs' := he
    rw [upd_same] at he
    cases he
    refine ⟨Nat.le_refl _, fun _ => ⟨Nat.le_refl _, ?_⟩⟩
    rw [upd_same]; exact Hd.self (Nat.le_refl _)
end
end Go.Isea
