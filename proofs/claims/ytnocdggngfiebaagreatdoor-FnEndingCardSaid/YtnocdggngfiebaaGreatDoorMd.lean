/- Contracts of functions of this program, for all arguments that satisfy what each lemma asks for. -/
import Derived.Test.YtnocdggngfiebaaGreatDoorMc
set_option linter.all false
namespace Go.Proofs.YtnocdggngfiebaaGreatDoor
open Go Go.Isea
set_option maxRecDepth 100000
set_option maxHeartbeats 4000000
theorem s_InstanceValid (w : Wld) (i : Inst) (h : AH) (hw : w.Sm) (hi : i.Sm) : Good Tryz.prog 189 [.agg w.row, .agg i.row] h [] (.v (.bool (instOk w.cs i))) h := by
  obtain ⟨hic, hit, hin, hins⟩ := hi
  have hcl := hw.cl
  have bad : instOk w.cs i = false → ∀ H : AH, h.n ≤ H.n → FinS [] h H (.v (.bool false)) h (.v (.bool (instOk w.cs i))) := fun e H hH => fin_bool hH e.symm
  refine good [] [(6, OT.o 0 (OT.o 1 (OT.o 2 (OT.o 3 (OT.o 4 (OT.o 5 (OT.o 6 (OT.o 7 (OT.o 8 (OT.o 9 (OT.o 10 (OT.o 11 (OT.o 12 (OT.o 13 (OT.o 14 (OT.o 15 (OT.o 16 (OT.o 17 (OT.o 18 (OT.o 19 (OT.o 21 (OT.o 22 (OT.o 23 (OT.o 20 (OT.o 24 (OT.o 25 (OT.o 26 (OT.o 27 OT.e))))))))))))))))))))))))))))] Tryz.func189 rfl rfl Tryz.ntmps189 (by kernel_rfl) mixed (by kernel_rfl) ?_
  simp -dsimp only [go_sem, Wld.row, Inst.row]
  refine call_pure (s_l3Classes w.cs _ hw.cl hw.c) ?_
  cases h1 : classesOk w.cs with
  | false =>
    simp -dsimp only [go_sem]
    exact bad (by simp [instOk, h1]) _ (by simp -dsimp only [go_sem])
  | true =>
    simp -dsimp only [go_sem]
    refine call_pure (s_l3Class w i.c _ hw.cl) ?_
    by_cases h2 : clsIx w.cs i.c < 0
    · have h2' : ¬ 0 ≤ clsIx w.cs i.c := by omega
      simp -dsimp only [go_sem, h2]
      exact bad (by simp [instOk, h2']) _ (by simp -dsimp only [go_sem])
    · have h2' : 0 ≤ clsIx w.cs i.c := by omega
      simp -dsimp only [go_sem, h2]
      refine call_pure (s_TypeValid i.t hit _) ?_
      cases h3 : tv i.t with
      | false =>
        simp -dsimp only [go_sem]
        exact bad (by simp [instOk, h3]) _ (by simp -dsimp only [go_sem])
      | true =>
        have hcons := tv_cons h3
        rcases hcons with ⟨c, l, hcl', hg0, hhd⟩
        by_cases h4 : (20 : Int) < (i.t.length : Nat)
        · have h4' : ¬ i.t.length ≤ 20 := by omega
          simp -dsimp only [go_sem, h4]
          exact bad (by simp [instOk, h4']) _ (by simp -dsimp only [go_sem])
        · have h4' : i.t.length ≤ 20 := by omega
          simp -dsimp only [go_sem, h4, hg0]
          refine call_pure (s_l1Variable c _) ?_
          cases h5 : isV c with
          | true =>
            simp -dsimp only [go_sem]
            exact bad (by unfold instOk; rw [hhd, h5]; simp) _ (by simp -dsimp only [go_sem])
          | false =>
            by_cases h6 : (3 : Int) < (i.ns.length : Nat)
            · have h6' : ¬ i.ns.length ≤ 3 := by omega
              simp -dsimp only [go_sem, h6]
              exact bad (by simp [instOk, h6']) _ (by simp -dsimp only [go_sem])
            · have h6' : i.ns.length ≤ 3 := by omega
              have e : instOk w.cs i = i.ns.all (needIn w.cs i.t) := by
                simp only [instOk, h1, h2', h3, h4', h6', decide_true, Bool.true_and, Bool.and_true]
                rw [hhd, h5]; rfl
              simp -dsimp only [go_sem, h6]
              refine loop_ruleH [2, 0, 43, 0] (fun (k : {k : Nat // k ≤ i.ns.length ∧ i.ns.all (needIn w.cs i.t) = (i.ns.drop k).all (needIn w.cs i.t)}) H => ([(49, .v (.int .i64 (k.1 : Nat)))], H)) (fun k => i.ns.length - k.1) ⟨0, Nat.zero_le _, rfl⟩ ?_ ?_
              · exact weak_at rfl (by simp -dsimp only [go_sem]) (fun x hx => by simp -dsimp only [go_sem, hx]) (by simp -dsimp only [go_sem])
              · rintro ⟨k, hk, hall⟩
                have hk1 : k + 1 ≤ 9223372036854775807 := by omega
                by_cases hlt : k < i.ns.length
                · obtain ⟨n, hb⟩ := get_some hlt
                  have hns := hins n (List.mem_of_getElem? hb)
                  rw [drop_get hb, List.all_cons] at hall
                  have nbad : needIn w.cs i.t n = false → instOk w.cs i = false := fun en => by rw [e, hall, en]; rfl
                  simp -dsimp only [go_sem, hlt, hb, Need.row]
                  refine call_pure (s_l3Class w n.c _ hw.cl) ?_
                  by_cases g2 : clsIx w.cs n.c < 0
                  · have g2' : ¬ 0 ≤ clsIx w.cs n.c := by omega
                    simp -dsimp only [go_sem, g2]
                    exact bad (nbad (by simp [needIn, g2'])) _ (by simp -dsimp only [go_sem])
                  · have g2' : 0 ≤ clsIx w.cs n.c := by omega
                    simp -dsimp only [go_sem, g2]
                    refine call_pure (s_TypeValid n.t hns.2 _) ?_
                    cases g3 : tv n.t with
                    | false =>
                      simp -dsimp only [go_sem]
                      exact bad (nbad (by simp [needIn, g3])) _ (by simp -dsimp only [go_sem])
                    | true =>
                      by_cases g4 : (20 : Int) < (n.t.length : Nat)
                      · have g4' : ¬ n.t.length ≤ 20 := by omega
                        simp -dsimp only [go_sem, g4]
                        exact bad (nbad (by simp [needIn, g4'])) _ (by simp -dsimp only [go_sem])
                      · have g4' : n.t.length ≤ 20 := by omega
                        have hv1 := s_VarsOf n.t
                        have hv2 := s_VarsOf i.t
                        rw [g3, if_pos rfl] at hv1
                        rw [h3, if_pos rfl] at hv2
                        have l1 : (varsIn n.t).length ≤ 6 := List.length_filter_le _ vars6
                        have l2 : (varsIn i.t).length ≤ 6 := List.length_filter_le _ vars6
                        simp -dsimp only [go_sem, g4]
                        refine call_pure (hv1 _ hns.2) ?_
                        simp -dsimp only [go_sem]
                        refine call_pure (hv2 _ hit) ?_
                        simp -dsimp only [go_sem]
                        refine call_pure (s_l3Within (varsIn n.t) (varsIn i.t) _ (by omega) (by omega)) ?_
                        have en : needIn w.cs i.t n = within (varsIn n.t) (varsIn i.t) := by simp [needIn, g2', g3, g4']
                        cases g5 : within (varsIn n.t) (varsIn i.t) with
                        | false =>
                          simp -dsimp only [go_sem]
                          exact bad (nbad (en.trans g5)) _ (by simp -dsimp only [go_sem])
                        | true =>
                          simp -dsimp only [go_sem, hk1]
                          refine round_to ⟨k + 1, hlt, ?_⟩ (by simp; omega) (weak_at rfl (by simp -dsimp only [go_sem]) (fun x hx => by simp -dsimp only [go_sem, hx]) (by simp -dsimp only [go_sem]))
                          rw [hall, en, g5]; rfl
                · simp -dsimp only [go_sem, hlt]
                  refine fin_bool (by simp -dsimp only [go_sem]) ?_
                  rw [e, hall, List.drop_of_length_le (by omega)]; rfl
theorem s_WorldValid (w : Wld) (h : AH) (hw : w.Sm) : Good Tryz.prog 103 [.agg w.row] h [] (.v (.bool (worldOk w))) h := by
  have hil := hw.il
  refine good [] [] Tryz.func103 rfl rfl Tryz.ntmps103 (by kernel_rfl) mixed (by kernel_rfl) ?_
  simp -dsimp only [go_sem, Wld.row]
  refine loop_ruleH [1, 4, 0] (fun (k : {k : Nat // k ≤ w.is.length ∧ w.is.all (instOk w.cs) = (w.is.drop k).all (instOk w.cs)}) H => ([(8, .v (.int .i64 (k.1 : Nat)))], H)) (fun k => w.is.length - k.1) ⟨0, Nat.zero_le _, rfl⟩ ?_ ?_
  · exact weak_at rfl (by simp -dsimp only [go_sem]) (fun x hx => by simp -dsimp only [go_sem, hx]) (by simp -dsimp only [go_sem])
  · rintro ⟨k, hk, hall⟩
    have hk1 : k + 1 ≤ 9223372036854775807 := by omega
    by_cases hlt : k < w.is.length
    · obtain ⟨i, hb⟩ := get_some hlt
      have hi := hw.i i (List.mem_of_getElem? hb)
      rw [drop_get hb, List.all_cons] at hall
      simp -dsimp only [go_sem, hlt, hb, Inst.row]
      refine call_pure (s_InstanceValid w i _ hw hi) ?_
      cases g : instOk w.cs i with
      | false =>
        simp -dsimp only [go_sem]
        refine fin_bool (by simp -dsimp only [go_sem]) ?_
        rw [worldOk, hall, g]; rfl
      | true =>
        simp -dsimp only [go_sem, hk1]
        refine round_to ⟨k + 1, hlt, ?_⟩ (by simp; omega) (weak_at rfl (by simp -dsimp only [go_sem]) (fun x hx => by simp -dsimp only [go_sem, hx]) (by simp -dsimp only [go_sem]))
        rw [hall, g]; rfl
    · have e1 : w.is.all (instOk w.cs) = true := by rw [hall, List.drop_of_length_le (by omega)]; rfl
      simp -dsimp only [go_sem, hlt]
      refine call_pure (s_l3Classes w.cs _ hw.cl hw.c) ?_
      cases g : classesOk w.cs with
      | false =>
        simp -dsimp only [go_sem]
        refine fin_bool (by simp -dsimp only [go_sem]) ?_
        rw [worldOk, e1, g]; rfl
      | true =>
        simp -dsimp only [go_sem]
        refine fin_bool (by simp -dsimp only [go_sem]) ?_
        rw [worldOk, e1, g]
        simp only [Bool.true_and]
        apply decide_eq_decide.2; omega
end Go.Proofs.YtnocdggngfiebaaGreatDoor

namespace Go.Proofs.YtnocdggngfiebaaGreatDoor
open Go Go.Isea
set_option maxRecDepth 100000
set_option maxHeartbeats 4000000
end Go.Proofs.YtnocdggngfiebaaGreatDoor

namespace Go.Proofs.YtnocdggngfiebaaGreatDoor
open Go Go.Isea
set_option maxRecDepth 100000
set_option maxHeartbeats 4000000
@[go_sem] theorem tf_ss : isSS Tryz.prog 28 = true := by kernel_rfl
theorem s_l4Need (w : Wld) (n : Need) (h : AH) (hw : w.Sm) (hn : n.Sm) : Good Tryz.prog 167 [.agg w.row, .agg n.row] h [] (.v (.bool (needOk w n))) h := by
  refine good [] [] Tryz.func167 rfl rfl Tryz.ntmps167 (by kernel_rfl) mixed (by kernel_rfl) ?_
  simp -dsimp only [go_sem, Wld.row, Need.row]
  refine call_pure (s_l3Class w n.c _ hw.cl) ?_
  by_cases h1 : 0 ≤ clsIx w.cs n.c
  · simp -dsimp only [go_sem, h1]
    refine call_pure (s_TypeValid n.t hn.2 _) ?_
    simp -dsimp only [go_sem]
    exact fin_bool (by simp -dsimp only [go_sem]) (by simp [needOk, h1])
  · simp -dsimp only [go_sem, h1]
    exact fin_bool (by simp -dsimp only [go_sem]) (by simp [needOk, h1])
theorem s_NeedValid (w : Wld) (n : Need) (h : AH) (hw : w.Sm) (hn : n.Sm) : Good Tryz.prog 87 [.agg w.row, .agg n.row] h [] (.v (.bool (worldOk w && needOk w n))) h := by
  refine good [] [] Tryz.func87 rfl rfl Tryz.ntmps87 (by kernel_rfl) mixed (by kernel_rfl) ?_
  simp -dsimp only [go_sem, Wld.row, Need.row]
  refine call_pure (s_WorldValid w _ hw) ?_
  cases worldOk w with
  | false =>
    simp -dsimp only [go_sem]
    exact fin_bool (by simp -dsimp only [go_sem]) rfl
  | true =>
    simp -dsimp only [go_sem]
    refine call_pure (s_l4Need w n _ hw hn) ?_
    simp -dsimp only [go_sem]
    exact fin_bool (by simp -dsimp only [go_sem]) rfl
theorem s_l4Candidates (w : Wld) (n : Need) (h : AH) (hw : w.Sm) (hn : n.Sm) (hl : w.is.length ≤ 1000) : Good Tryz.prog 169 [.agg w.row, .agg n.row] h [] (.sl ((candIx w n).map iRow)) h := by
  refine good [] [] Tryz.func169 rfl rfl Tryz.ntmps169 (by kernel_rfl) mixed (by kernel_rfl) ?_
  simp -dsimp only [go_sem, Wld.row, Need.row]
  refine loop_ruleH [2, 0, 6, 0] (fun (k : {k : Nat // k ≤ w.is.length}) H => ([(5, .so h.n (candTake w n k.1).length (candTake w n k.1).length), (12, .v (.int .i64 (k.1 : Nat)))], ⟨H.n, upd H.o h.n (.rows 3 1 ((candTake w n k.1).map iRow))⟩)) (fun k => w.is.length - k.1) ⟨0, Nat.zero_le _⟩ ?_ ?_
  · have e0 : candTake w n 0 = [] := rfl
    refine weak_objs [h.n] (by simp -dsimp only [go_sem]) (by simp -dsimp only [go_sem]) (by simp -dsimp only [go_sem, e0]) ?_ ?_ ?_
    · intro x h1 h2; simp -dsimp only [go_sem, h1]
    · intro x h1 h2; have h1 : x < h.n + 1 := h1; simp at h2 ⊢; omega
    · simp -dsimp only [go_sem, e0]
  · rintro ⟨k, hk⟩
    have hk1 : k + 1 ≤ 9223372036854775807 := by omega
    have hcl := candTake_len w n k
    have e6 : ((candTake w n k).length + 1) * 8 ≤ 140737488355328 := by omega
    by_cases hlt : k < w.is.length
    · obtain ⟨i, hb⟩ := get_some hlt
      have hi := hw.i i (List.mem_of_getElem? hb)
      have h3 := candTake_succ w n k
      by_cases hc : i.c = n.c
      · simp -dsimp only [go_sem, hlt, hb, Inst.row, hc]
        refine call_pure (s_IsInstance i.t n.t _ hi.2.1 hn.2) ?_
        cases hm : isInst i.t n.t with
        | true =>
          have ec : candAt w n k = true := by simp [candAt, hb, hc, hm]
          rw [if_pos ec] at h3
          simp -dsimp only [go_sem, hk1, e6]
          refine round_to ⟨k + 1, hlt⟩ (by simp; omega) ?_
          refine weak_objs [h.n] (by simp -dsimp only [go_sem]) (by simp -dsimp only [go_sem]) (by simp -dsimp only [go_sem, h3]) ?_ ?_ ?_
          · intro x h1 h2; simp -dsimp only [go_sem, h1]
          · intro x h1 h2; have h1 : x < h.n + 1 := h1; simp at h2 ⊢; omega
          · simp -dsimp only [go_sem, h3, iRow]
        | false =>
          have ec : candAt w n k = false := by simp [candAt, hb, hm]
          rw [if_neg (by simp [ec])] at h3
          simp -dsimp only [go_sem, hk1]
          refine round_to ⟨k + 1, hlt⟩ (by simp; omega) ?_
          refine weak_objs [h.n] (by simp -dsimp only [go_sem]) (by simp -dsimp only [go_sem]) (by simp -dsimp only [go_sem, h3]) ?_ ?_ ?_
          · intro x h1 h2; simp -dsimp only [go_sem, h1]
          · intro x h1 h2; have h1 : x < h.n + 1 := h1; simp at h2 ⊢; omega
          · simp -dsimp only [go_sem, h3]
      · have ec : candAt w n k = false := by simp [candAt, hb, hc]
        rw [if_neg (by simp [ec])] at h3
        simp -dsimp only [go_sem, hlt, hb, Inst.row, hc, hk1]
        refine round_to ⟨k + 1, hlt⟩ (by simp; omega) ?_
        refine weak_objs [h.n] (by simp -dsimp only [go_sem]) (by simp -dsimp only [go_sem]) (by simp -dsimp only [go_sem, h3]) ?_ ?_ ?_
        · intro x h1 h2; simp -dsimp only [go_sem, h1]
        · intro x h1 h2; have h1 : x < h.n + 1 := h1; simp at h2 ⊢; omega
        · simp -dsimp only [go_sem, h3]
    · simp -dsimp only [go_sem, hlt]
      refine fin_pure (by simp -dsimp only [go_sem]) ?_
      have ek : k = w.is.length := by omega
      subst ek
      simp -dsimp only [go_sem, candIx, List.length_map]
theorem s_l4Needs (i : Inst) (t : L8) (h : AH) (hi : i.Sm) (ht : t.length ≤ 4611686018427387904) (hl : i.ns.length ≤ 1000) : Good Tryz.prog 170 [.agg i.row, str t] h [] (needsV (needsOf i t)) h := by
  refine good [] [] Tryz.func170 rfl rfl Tryz.ntmps170 (by kernel_rfl) mixed (by kernel_rfl) ?_
  simp -dsimp only [go_sem, Inst.row]
  have hm := s_MatchType i.t t
  rw [matchV_S] at hm
  refine call_pure (hm _ hi.2.1 ht) ?_
  cases hs : matchS i.t t with
  | none =>
    simp -dsimp only [go_sem]
    refine fin_pure (by simp -dsimp only [go_sem]) ?_
    have : needsOf i t = none := by simp [needsOf, hs]
    simp -dsimp only [go_sem, this, needsV, List.map_nil]
  | some σ =>
    have hσ := matchS_ok hs
    have eN : needsOf i t = needsA σ i.ns := by simp [needsOf, hs]
    rw [eN]
    simp -dsimp only [go_sem]
    refine loop_ruleH [6, 0, 18, 0] (fun (k : {x : Nat × List Need // x.1 ≤ i.ns.length ∧ needsA σ (i.ns.take x.1) = some x.2}) H => ([(6, .so h.n k.1.2.length k.1.2.length), (28, .v (.int .i64 (k.1.1 : Nat)))], ⟨H.n, upd H.o h.n (.rows 28 2 (k.1.2.map Need.row))⟩)) (fun k => i.ns.length - k.1.1) ⟨(0, []), Nat.zero_le _, rfl⟩ ?_ ?_
    · refine weak_objs [h.n] (by simp -dsimp only [go_sem]) (by simp -dsimp only [go_sem]) (by simp -dsimp only [go_sem]) ?_ ?_ ?_
      · intro x h1 h2; simp -dsimp only [go_sem, h1]
      · intro x h1 h2; have h1 : x < h.n + 1 := h1; simp at h2 ⊢; omega
      · simp -dsimp only [go_sem]
    · rintro ⟨⟨k, out⟩, hk, hout⟩
      have hk : k ≤ i.ns.length := hk
      have hout : needsA σ (i.ns.take k) = some out := hout
      have hk1 : k + 1 ≤ 9223372036854775807 := by omega
      have hol := needsA_len hout
      rw [List.length_take] at hol
      have e6 : (out.length + 1) * 32 ≤ 140737488355328 := by omega
      by_cases hlt : k < i.ns.length
      · obtain ⟨n, hb⟩ := get_some hlt
        have hn := hi.2.2.2 n (List.mem_of_getElem? hb)
        simp -dsimp only [go_sem, hlt, hb, Need.row]
        refine call_pure (s_ApplyBindings hσ n.t _ hn.2) ?_
        cases hu : applyB σ n.t with
        | none =>
          have e0 := needsA_none hout hb hu
          simp -dsimp only [go_sem, textV]
          refine fin_pure (by simp -dsimp only [go_sem]) ?_
          simp -dsimp only [go_sem, e0, needsV, List.map_nil]
        | some u =>
          have e1 := needsA_some hout hb hu
          simp -dsimp only [go_sem, textV, hk1, e6]
          refine round_to ⟨(k + 1, out ++ [⟨n.c, u⟩]), hlt, e1⟩ (by simp; omega) ?_
          refine weak_objs [h.n] (by simp -dsimp only [go_sem]) (by simp -dsimp only [go_sem]) (by simp -dsimp only [go_sem]) ?_ ?_ ?_
          · intro x h1 h2; simp -dsimp only [go_sem, h1]
          · intro x h1 h2; have h1 : x < h.n + 1 := h1; simp at h2 ⊢; omega
          · simp -dsimp only [go_sem, Need.row]
      · have e1 : needsA σ i.ns = some out := by rw [← hout, List.take_of_length_le (by omega)]
        simp -dsimp only [go_sem, hlt]
        refine fin_pure (by simp -dsimp only [go_sem]) ?_
        simp -dsimp only [go_sem, e1, needsV, List.length_map]
end Go.Proofs.YtnocdggngfiebaaGreatDoor

namespace Go.Isea
open Go
end Go.Isea
namespace Go.Proofs.YtnocdggngfiebaaGreatDoor
open Go Go.Isea
set_option maxRecDepth 100000
set_option maxHeartbeats 4000000
theorem s_l13Dec_digit (k : Nat) (h : AH) (hk : k ≤ 9) : Good Tryz.prog 115 [.v (.int .i64 (k : Nat))] h [] (str (digitL k)) h := by
  refine good [] [] Tryz.func115 rfl rfl Tryz.ntmps115 (by kernel_rfl) mixed (by kernel_rfl) ?_
  have h1 : ¬ ((k : Nat) : Int) < -9223372036854775807 := by omega
  have h2 : ¬ (9 : Int) < (k : Nat) := by omega
  have e0 : (UInt8.ofNat (48 + k)).toNat = 48 + k := by simp; omega
  have e1 : IntKind.u8.wrap (IntKind.i64.wrap (48 + ((k : Nat) : Int))) = (((UInt8.ofNat (48 + k)).toNat : Nat) : Int) := by
    rw [e0, wrap_i64 (by omega) (by omega), wrap_u8] <;> omega
  simp -dsimp only [go_sem, h1]
  refine loop_ruleH [0, 2] (fun (_ : Unit) H => ([], H)) (fun _ => 0) () ?_ ?_
  · exact weak_at rfl (by simp -dsimp only [go_sem]) (fun x hx => by simp -dsimp only [go_sem, hx]) (by simp -dsimp only [go_sem])
  · intro _
    simp -dsimp only [go_sem, h2, e1]
    exact fin_str (by simp -dsimp only [go_sem]) rfl
def sCells (w : Wld) (gs : List Need) (a : Nat) (why : L8) : List AV := [.sl (w.cs.map Cls.row), .sl (w.is.map Inst.row), .sl (gs.map Need.row), .v (.int .i64 (a : Nat)), str why]
end Go.Proofs.YtnocdggngfiebaaGreatDoor

namespace Go.Isea
open Go
theorem known_letter {cs : List Cls} (h : classesOk cs = true) {c : L8} (hc : 0 ≤ clsIx cs c) : ∃ d, c = [d] ∧ 65 ≤ d.toNat ∧ d.toNat ≤ 84 := by
  obtain ⟨x, hx, e, hl⟩ := clsIx_lt cs c hc
  have := (cls_ok h hx).1
  rw [e] at this
  unfold capital at this
  split at this
  · rename_i d
    simp only [Bool.and_eq_true, decide_eq_true_eq] at this
    exact ⟨d, rfl, this.1, this.2⟩
  · cases this
theorem world_cls {w : Wld} (h : worldOk w = true) : classesOk w.cs = true := by
  simp only [worldOk, Bool.and_eq_true] at h
  exact h.1.2
theorem world_len {w : Wld} (h : worldOk w = true) : w.is.length ≤ 10 := by
  simp only [worldOk, Bool.and_eq_true, decide_eq_true_eq] at h
  exact h.2
theorem world_inst {w : Wld} (h : worldOk w = true) {k : Nat} {i : Inst} (hi : w.is[k]? = some i) : k < 10 ∧ 0 ≤ clsIx w.cs i.c ∧ tv i.t = true ∧ i.t.length ≤ 20 ∧ isV (i.t.headD 0) = false ∧ i.ns.length ≤ 3 ∧ ∀ n ∈ i.ns, needIn w.cs i.t n = true := by
  have hl := world_len h
  simp only [worldOk, Bool.and_eq_true, decide_eq_true_eq, List.all_eq_true] at h
  have := h.1.1 i (List.mem_of_getElem? hi)
  simp only [instOk, Bool.and_eq_true, decide_eq_true_eq, List.all_eq_true, Bool.not_eq_true'] at this
  have hk := (List.getElem?_eq_some_iff.1 hi).1
  obtain ⟨⟨⟨⟨⟨⟨_, h2⟩, h3⟩, h4⟩, h5⟩, h6⟩, h7⟩ := this
  exact ⟨by omega, h2, h3, h4, h5, h6, h7⟩
/-- a need of a valid world -/
def NOk (w : Wld) (n : Need) : Prop := 0 ≤ clsIx w.cs n.c ∧ n.Sm
theorem needs_ok {w : Wld} (h : worldOk w = true) (hw : w.Sm) {k : Nat} {i : Inst} (hi : w.is[k]? = some i) {t : L8} {ms : List Need} (hm : needsOf i t = some ms) : ms.length ≤ 3 ∧ ∀ m ∈ ms, NOk w m ∧ tv m.t = true ∧ m.t.length ≤ 60 := by
  obtain ⟨_, _, _, _, _, h6, h7⟩ := world_inst h hi
  have hsm := hw.i i (List.mem_of_getElem? hi)
  unfold needsOf at hm
  split at hm
  · rename_i σ hσ
    refine ⟨by rw [needsA_len hm]; exact h6, fun m hmm => ?_⟩
    obtain ⟨n, hn, hc, ha⟩ := needsA_mem hm m hmm
    have h8 := h7 n hn
    simp only [needIn, Bool.and_eq_true, decide_eq_true_eq] at h8
    have h9 := applyB_ok (matchS_ok hσ) ha
    refine ⟨⟨by rw [hc]; exact h8.1.1.1, by rw [hc]; exact (hsm.2.2.2 n hn).1, by omega⟩, h9.2, h9.1⟩
  · cases hm
end Go.Isea
namespace Go.Proofs.YtnocdggngfiebaaGreatDoor
open Go Go.Isea
set_option maxRecDepth 100000
set_option maxHeartbeats 4000000
@[go_sem] theorem cons_nil {a : UInt8} {l : L8} : (a :: l = []) = False := by simp
def FindOk (w : Wld) (gs : List Need) (f : Nat) : Prop := ∀ (l : Nat) (n : Need) (a : Nat) (h : AH), l < h.n → h.o l = .cells (sCells w gs a []) → NOk w n → a ≤ 300 → f ≤ 31 →
    Good Tryz.prog 117 [.ptr l 0, .agg n.row, .v (.int .i64 ((31 - f : Nat)))] h [l] (str (findS w gs f n a).1) (h.set l (.cells (sCells w gs (findS w gs f n a).2.1 (findS w gs f n a).2.2)))
end Go.Proofs.YtnocdggngfiebaaGreatDoor

namespace Go.Isea
open Go
def findGiven (w : Wld) (gs : List Need) (n : Need) : L8 × L8 := if givensOk w gs && (worldOk w && needOk w n) then ((findS w gs 31 n 0).1, (findS w gs 31 n 0).2.2) else ([], wrongL)
end Go.Isea
namespace Go.Proofs.YtnocdggngfiebaaGreatDoor
open Go Go.Isea
set_option maxRecDepth 100000
set_option maxHeartbeats 4000000
end Go.Proofs.YtnocdggngfiebaaGreatDoor

namespace Go.Isea
open Go
def askB (fd : Need → Nat → L8 × Nat × L8) (w : Wld) (n : Need) (a : Nat) : L8 × Nat × L8 := match candIx w n with
  | [] => ([], a + 1, noneL)
  | [k] => (match w.is[k]? with
    | some i => (match needsOf i n.t with
      | some ms => closeL ms (findL fd ms 0 (digitL k) (a + 1))
      | none => ([], a + 1, bigL))
    | none => ([], a + 1, noneL))
  | _ :: _ :: _ => ([], a + 1, manyL)
def askS (w : Wld) (gs : List Need) : Nat → Need → Nat → L8 × Nat × L8
  | 0, n, a => if givenL w gs n ≠ [] then (givenL w gs n, a, []) else if 300 ≤ a then ([], a, longL) else ([], a + 1, deepL)
  | f + 1, n, a => if givenL w gs n ≠ [] then (givenL w gs n, a, []) else if 300 ≤ a then ([], a, longL) else askB (askS w gs f) w n a
/-- alike but for the number of questions behind a failure -/
def Sim (x y : L8 × Nat × L8) : Prop := x.1 = y.1 ∧ x.2.2 = y.2.2 ∧ (x.2.2 = [] → x.2.1 = y.2.1)
/-- the search's record -/
def aRows (a : Nat) : List (List AV) := List.replicate a [.junk, .junk]
def stA : List Need → AV
  | [] => .v (.slice none 0 0)
  | x :: xs => .sl ((x :: xs).map Need.row)
theorem stA_snoc (st : List Need) (n : Need) : stA (st ++ [n]) = .sl ((st ++ [n]).map Need.row) := by
  cases st <;> rfl
@[go_sem] theorem stA_ok {h : AH} {st : List Need} : AV.ok h (stA st) = true := by cases st <;> rfl
@[go_sem] theorem stA_cells {st : List Need} : (stA st).cells = [stA st] := by cases st <;> rfl
@[go_sem] theorem stA_one {h : AH} {st : List Need} : AV.one h (stA st) = true := by cases st <;> rfl
@[go_sem] theorem stA_len {P : Program} {h : AH} {st : List Need} {e : TypeId} : alenD P (stA st) h (some (.slice e)) = some (.v (.int .i64 (st.length : Nat))) := by
  cases st with
  | nil => exact alen_nil
  | cons x xs => exact alen_sl.trans (by rw [List.length_map])
@[go_sem] theorem stA_fz {h : AH} {m : Nat} {st : List Need} : Fz h m (stA st) (stA st) = True := by
  cases st with
  | nil => exact eq_true (.v _)
  | cons x xs => exact fz_sl (of_eq_true puR_needs)
@[go_sem] theorem fz_refp {h : AH} {l m o o' : Nat} (hl : l < m) : Fz h m (.ref [.ptr l o] o') (.ref [.ptr l o] o') = True := by
  refine eq_true (.ref rfl fun i x y h1 h2 => ?_)
  rcases i with _ | i
  · simp only [List.getElem?_cons_zero, Option.some.injEq] at h1 h2
    subst h1; subst h2
    exact .ptr hl
  · simp at h1
section
variable {P : Program} {h0 h : AH}
theorem fin_two {l t : Nat} {x r : AV} {o1 o2 : AObj} (hlt : ¬ l = t) (hn : h0.n ≤ h.n) (hx : Fz h h0.n x r) (h1 : ObjFz h h0.n (h.o l) o1) (h2 : ObjFz h h0.n (h.o t) o2) : FinS [l, t] h0 h x ⟨h0.n, upd (upd h0.o l o1) t o2⟩ r where
  n0 := Nat.le_refl _
  n := hn
  fz := hx
  old i hi hT := by
    simp only [List.mem_cons, List.not_mem_nil, or_false, not_or] at hT
    simp [upd, hT.1, hT.2]
  turned i hi hT := by
    rcases hT with hT | hT
    · simp only [List.mem_cons, List.not_mem_nil, or_false] at hT
      by_cases e : i = t
      · subst e; simpa [upd] using h2
      · have : i = l := by rcases hT with g | g; exact g; exact absurd g e
        subst this
        simpa [upd, hlt] using h1
    · have hi' : i < h0.n := hi
      omega
@[go_sem] theorem mem_2a {l t : Nat} : (l ∈ [l, t]) = True := by simp
@[go_sem] theorem mem_2b {l t : Nat} : (t ∈ [l, t]) = True := by simp
/-- a result that is nil may be told so -/
theorem Good.ghostR {k : FuncId} {args : List AV} {T : List Nat} {e sz : Nat} {h' : AH} (hsz : 0 < sz) (hg : Isea.Good P k args h T (.v (.slice none 0 0)) h') : Isea.Good P k args h T (.so h'.n 0 0) (h'.push (.rows e sz [])) := by
  refine ⟨hg.1, fun K w vs hK hvs => (hg.2 K w vs hK hvs).mono ?_⟩
  rintro ee w' ⟨K', v, h1', h2', h3', h4'⟩
  have E : Ext [] K' h' w' (upd K' h'.n (.slice none 0 0)) (h'.push (.rows e sz [])) w' := Ext.push _ _ rfl rfl rfl (Nat.le_refl _) (fun _ _ => rfl) (fun b hb => by cases hb)
  have hkt : ∀ t, t < h'.n → upd K' h'.n (.slice none 0 0) t = K' t := fun t ht => upd_ne _ _ (by omega)
  refine ⟨upd K' h'.n (.slice none 0 0), v, h1', ?_, h3'.trans E (fun t ht _ => ht) (fun t ht => by cases ht), ?_⟩
  · refine ⟨fun t b ht hb => ?_, fun s t b hs ht g1 g2 => ?_, fun t ht => ?_, h2'.pin.ext E⟩
    · have ht : t < h'.n + 1 := ht
      by_cases hh : t = h'.n
      · subst hh; rw [upd_same] at hb; cases hb
      · rw [hkt t (by omega)] at hb; exact h2'.lt t b (by omega) hb
    · have hs : s < h'.n + 1 := hs
      have ht : t < h'.n + 1 := ht
      by_cases hh : s = h'.n
      · subst hh; rw [upd_same] at g1; cases g1
      · by_cases hh' : t = h'.n
        · subst hh'; rw [upd_same] at g2; cases g2
        · rw [hkt s (by omega)] at g1; rw [hkt t (by omega)] at g2
          exact h2'.inj s t b (by omega) (by omega) g1 g2
    · have ht : t < h'.n + 1 := ht
      by_cases hh : t = h'.n
      · subst hh
        rw [upd_same]
        show RObj _ _ _ _ (upd h'.o h'.n _ h'.n)
        rw [upd_same]
        exact ⟨[], ⟨by simp, .inl ⟨rfl, rfl⟩⟩, hsz, fun r hr => (by cases hr), fun i j r x y g => (by simp at g)⟩
      · rw [hkt t (by omega)]
        show RObj _ _ _ _ (upd h'.o h'.n _ t)
        rw [upd_ne _ _ hh]
        exact (h2'.obj t (by omega)).ext E fun b hb => rfl
  · cases h4'
    refine .so (Nat.lt_succ_self _) fun e' sz' rs' he => ?_
    have he : upd h'.o h'.n (AObj.rows e sz []) h'.n = .rows e' sz' rs' := he
    rw [upd_same] at he
    cases he
    refine ⟨Nat.le_refl _, fun _ => ⟨Nat.le_refl _, ?_⟩⟩
    rw [upd_same]; exact Hd.self (Nat.le_refl _)
end
end Go.Isea
