/- The law Lv0: its code returns true; its row and its card, which this claim proves. No condition is added. -/
import Derived.Test.YtiphcdmjlkngfaaGreatDoorMI
import Derived.Test.YtiphcdmjlkngfaaGreatDoorMU
import Derived.Test.YtiphcdmjlkngfaaGreatDoorMN
import Derived.Test.YtiphcdmjlkngfaaGreatDoorMK
import Derived.Test.YtiphcdmjlkngfaaGreatDoorMj
import Derived.Test.YtiphcdmjlkngfaaGreatDoorMJ
import Derived.Test.YtiphcdmjlkngfaaGreatDoorRows
import Derived.OpenShut
import Derived.Stop.Joined
import Derived.Lay
import Derived.LaidHandle
set_option linter.all false
namespace Go.Isea
open Go
theorem level_count {w : Wld} {n : Need} {k : Nat} (hk : k ≤ 6) {L : List L8} (hok : worldOk w = true) (hno : needOk w n = true) (hw : w.Sm) (hL : allD w k n = some L) : (0 < L.length) ↔ (0 ≤ levelN w n ∧ levelN w n ≤ ((k : Nat) : Int)) := by
  rw [allD_some hok hw hL]
  unfold levelN
  rw [if_pos (by rw [hok, hno]; rfl)]
  rcases lvF_spec (w := w) (n := n) 7 0 (fun e he => by omega) with ⟨q, h1, h2, h3, h4⟩ | ⟨h1, h2⟩
  · rw [h1]
    constructor
    · intro hs
      refine ⟨by omega, ?_⟩
      by_cases hlt : k < q
      · rw [h4 k hlt] at hs; cases hs
      · omega
    · rintro ⟨_, hq⟩
      exact someD_mono (by omega) h3
  · rw [h1, h2 k (by omega)]
    constructor
    · intro h; cases h
    · rintro ⟨h, _⟩; omega
theorem level_found {w : Wld} {n : Need} (hw : w.Sm) (h : (ask0 w false n).2.2 = []) : ∃ D : Dct, dictOf (ask0 w false n).1 = some D ∧ (ask0 w false n).1.length ≤ 1200 ∧ (D.depth ≤ 6 → levelN w n = ((D.depth : Nat) : Int)) := by
  obtain ⟨D, e1, _, _, e4, _, _, e7⟩ := found0 (sp := false) (n := n) hw h
  have hl := (dictOf_some e7).2.2
  refine ⟨D, by rw [e1]; exact e7, by rw [e1]; exact hl, fun hd => ?_⟩
  unfold checkDict at e4
  rw [e7] at e4
  simp only at e4
  split at e4
  · rename_i hv
    have hon : ∀ D E : Dct, chkD w D n = okW → chkD w E n = okW → D = E := by
      unfold ask0 at h
      rw [if_pos hv] at h
      exact only_ok 31 [] n _ h
    unfold levelN
    rw [if_pos hv]
    rcases lvF_spec (w := w) (n := n) 7 0 (fun e he => by omega) with ⟨q, h1, h2, h3, h4⟩ | ⟨h1, h2⟩
    · rw [h1]
      obtain ⟨E, hE1, hE2⟩ := (someD_iff q n).1 h3
      have := hon D E e4 hE2
      subst this
      by_cases hlt : D.depth < q
      · have h5 := h4 _ hlt
        rw [(someD_iff D.depth n).2 ⟨D, Nat.le_refl _, e4⟩] at h5
        cases h5
      · omega
    · have h5 := h2 D.depth (by omega)
      rw [(someD_iff D.depth n).2 ⟨D, Nat.le_refl _, e4⟩] at h5
      cases h5
  · exact absurd e4 wrongL_ne
end Go.Isea
namespace Go.Proofs.YtiphcdmjlkngfaaGreatDoor
open Go Go.Isea
set_option maxRecDepth 100000
set_option maxHeartbeats 16000000
theorem s_DrawLevelOf (b : L8) : ∃ (w : Wld) (n : Need), smW w = true ∧ w.cs.length ≤ 6 ∧ w.is.length ≤ 30 ∧ smNd n = true ∧ ∀ h : AH, Isea.Good Tryz.prog 43 [.sl (b.map byR)] h [] (.tup [.agg w.row, .agg n.row]) h := by
  obtain ⟨w, n, q, w1, w2, w3, w4, _, _, hS⟩ := s_l4Some (b.take 2000) 0 (by rw [List.length_take]; omega) (by decide)
  refine ⟨w, n, w1, w2, w3, w4, fun h => ?_⟩
  obtain ⟨cs, is⟩ := w
  have hW : (⟨cs, is⟩ : Wld).row = [.sl (cs.map Cls.row), .sl (is.map Inst.row)] := rfl
  rw [hW] at hS ⊢
  have hN : n.row = [str n.c, str n.t] := rfl
  rw [hN] at hS ⊢
  refine good [] [] Tryz.func43 rfl rfl Tryz.ntmps43 (by kernel_rfl) mixed (by kernel_rfl) ?_
  simp -dsimp only [go_sem]
  refine call_pure (s_l13Open b _) ?_
  simp -dsimp only [go_sem]
  refine call_one (hS _ _ (by simp -dsimp only [go_sem]) (by simp -dsimp only [go_sem])) (by simp -dsimp only [go_sem]) (by simp -dsimp only [go_sem, not_false_eq_true]) ?_
  simp -dsimp only [go_sem]
  exact fin_pure (by simp -dsimp only [go_sem]) (by simp -dsimp only [go_sem])
theorem level_cnt {w : Wld} {n : Need} (hw : w.Sm) (k : Nat) (hk : k ≤ 6) : countD w n ((k : Nat) : Int) = -1 ∨ (0 ≤ countD w n ((k : Nat) : Int) ∧ (0 < countD w n ((k : Nat) : Int) ↔ 0 ≤ levelN w n ∧ levelN w n ≤ ((k : Nat) : Int))) := by
  rcases opt_cases (allDicts w n ((k : Nat) : Int)) with e | ⟨L, e⟩
  · exact .inl (countD_none e)
  · have F := adF hw e
    have hal := F.al
    rw [Int.toNat_natCast] at hal
    have := level_count hk F.wk F.nk hw hal
    rw [countD_some e]
    exact .inr ⟨by omega, by rw [← this]; omega⟩
theorem law_LevelOf (b : L8) (h : AH) (_hb : b.length ≤ 9223372036854775807) : Isea.Good Tryz.prog 7 [.sl (b.map byR)] h [] (.v (.bool true)) h := by
  by_cases hl : 1048576 < b.length
  · have hl' : ((1048576 : Int) < ((b.length : Nat) : Int)) = True := eq_true (by omega)
    refine good [] [] Tryz.func7 rfl rfl Tryz.ntmps7 (by kernel_rfl) mixed (by kernel_rfl) ?_
    simp -dsimp only [go_sem, hl', List.length_map]
    exact fin_pure (by simp -dsimp only [go_sem]) (by simp -dsimp only [go_sem])
  · have hl' : ((1048576 : Int) < ((b.length : Nat) : Int)) = False := eq_false (by omega)
    obtain ⟨w, n, w1, w2, w3, w4, hD⟩ := s_DrawLevelOf b
    have hw := smW_Sm w1
    have hnn := smNd_iff.1 w4
    have hn : n.Sm := ⟨by omega, by omega⟩
    have hLi := fun H => i_LevelOf w n H hw hn
    have hLs := fun H => s_LevelOf w n H hw hn
    have hCt := fun k H => i_CountDicts w n ((k : Nat) : Int) H hw hn
    have hcn := fun k hk => level_cnt (w := w) (n := n) hw k hk
    have hF := fun H => i_FindDict w n H hw hn
    unfold findD at hF
    have hfound := level_found (w := w) (n := n) hw
    obtain ⟨K, hK⟩ : ∃ K, levelN w n = K := ⟨_, rfl⟩
    obtain ⟨X, hX⟩ : ∃ X, (ask0 w false n).1 = X := ⟨_, rfl⟩
    obtain ⟨Y, hY⟩ : ∃ Y, (ask0 w false n).2.2 = Y := ⟨_, rfl⟩
    rw [hK] at hLi hLs
    simp only [hX, hY] at hF
    rw [hX, hY, hK] at hfound
    simp only [hK] at hcn
    obtain ⟨c, hc⟩ : ∃ c : Nat → Int, c = fun k => countD w n ((k : Nat) : Int) := ⟨_, rfl⟩
    have hcn2 : ∀ k, k ≤ 6 → c k = -1 ∨ (0 ≤ c k ∧ (0 < c k ↔ 0 ≤ K ∧ K ≤ ((k : Nat) : Int))) := fun k hk => by rw [hc]; exact hcn k hk
    have hCt2 : ∀ k, k ≤ 6 → ∀ H, Isea.Good Tryz.prog 22 [.agg w.row, .agg n.row, .v (.int .i64 (k : Nat))] H [] (.v (.int .i64 (c k))) H := fun k hk H => by rw [hc]; exact hCt k H (by omega)
    clear hcn hCt hK hX hY hc
    refine good [] [] Tryz.func7 rfl rfl Tryz.ntmps7 (by kernel_rfl) mixed (by kernel_rfl) ?_
    simp -dsimp only [go_sem, hl', Wld.row, Need.row, List.length_map] at hD hLi hLs hF hCt2 ⊢
    refine call_pure (hD _) ?_
    simp -dsimp only [go_sem]
    refine call_pure (hLi _) ?_
    simp -dsimp only [go_sem]
    refine call_pure (hLs _) ?_
    simp -dsimp only [go_sem]
    refine loop_ruleH [] (fun (k : {k : Nat // k ≤ 7}) H => ([(3, .ref [.sl (w.cs.map Cls.row), .sl (w.is.map Inst.row)] 0), (4, .ref [str n.c, str n.t] 0), (5, .v (.int .i64 K)), (26, .v (.int .i64 (k.1 : Nat)))], ⟨h.n, H.o⟩)) (fun k => 7 - k.1) ⟨0, by simp⟩ ?_ ?_
    · refine weak_objs [] (by simp -dsimp only [go_sem]) (by simp -dsimp only [go_sem]) (by simp -dsimp only [go_sem, List.length_map]) ?_ ?_ ?_
      · intro t h1 h2
        have a0 : ¬ t = h.n := by omega
        have a1 : ¬ t = h.n + 1 := by omega
        have a2 : ¬ t = h.n + 2 := by omega
        have a3 : ¬ t = h.n + 3 := by omega
        simp -dsimp only [go_sem, a0, a1, a2, a3]
      · intro x h1 h2; have h1 : x < h.n := h1; simp at h2 ⊢; omega
      · simp -dsimp only [go_sem]
    · rintro ⟨k, hk⟩
      have k1 : k + 1 ≤ 9223372036854775807 := by omega
      by_cases hlt : k < 7
      · have hkc : (((k : Nat) : Int) < 7) = True := eq_true (by omega)
        have hCk := hCt2 k (by omega)
        have hck := hcn2 k (by omega)
        generalize c k = ck at hCk hck
        simp -dsimp only [go_sem, hkc]
        refine call_pure (hCk _) ?_
        rcases hck with hck | ⟨hc0, hcp⟩
        · have q0 : ((0 : Int) ≤ ck) = False := eq_false (by omega)
          simp -dsimp only [go_sem, q0, k1]
          refine round_to ⟨k + 1, hlt⟩ (by show 7 - (k + 1) < 7 - k; omega) ?_
          refine weak_objs [] (by simp -dsimp only [go_sem]) (by simp -dsimp only [go_sem]) (by simp -dsimp only [go_sem, List.length_map]) ?_ ?_ ?_
          · intro t h1 h2
            have a0 : ¬ t = h.n := by omega
            have a1 : ¬ t = h.n + 1 := by omega
            have a2 : ¬ t = h.n + 2 := by omega
            have a3 : ¬ t = h.n + 3 := by omega
            simp -dsimp only [go_sem, a0, a1, a2, a3]
          · intro x h1 h2; have h1 : x < h.n := h1; simp at h2 ⊢; omega
          · simp -dsimp only [go_sem]
        · have q0 : ((0 : Int) ≤ ck) = True := eq_true (by omega)
          by_cases hp : 0 < ck
          · have q1 : ((0 : Int) < ck) = True := eq_true hp
            have q2 : ((0 : Int) ≤ K) = True := eq_true (hcp.1 hp).1
            have q3 : (K ≤ ((k : Nat) : Int)) = True := eq_true (hcp.1 hp).2
            simp -dsimp only [go_sem, q0, q1, q2, q3, k1]
            refine round_to ⟨k + 1, hlt⟩ (by show 7 - (k + 1) < 7 - k; omega) ?_
            refine weak_objs [] (by simp -dsimp only [go_sem]) (by simp -dsimp only [go_sem]) (by simp -dsimp only [go_sem, List.length_map]) ?_ ?_ ?_
            · intro t h1 h2
              have a0 : ¬ t = h.n := by omega
              have a1 : ¬ t = h.n + 1 := by omega
              have a2 : ¬ t = h.n + 2 := by omega
              have a3 : ¬ t = h.n + 3 := by omega
              simp -dsimp only [go_sem, a0, a1, a2, a3]
            · intro x h1 h2; have h1 : x < h.n := h1; simp at h2 ⊢; omega
            · simp -dsimp only [go_sem]
          · have q1 : ((0 : Int) < ck) = False := eq_false hp
            by_cases hK0 : 0 ≤ K
            · have q2 : ((0 : Int) ≤ K) = True := eq_true hK0
              have q3 : (K ≤ ((k : Nat) : Int)) = False := eq_false fun q => hp (hcp.2 ⟨hK0, q⟩)
              simp -dsimp only [go_sem, q0, q1, q2, q3, k1]
              refine round_to ⟨k + 1, hlt⟩ (by show 7 - (k + 1) < 7 - k; omega) ?_
              refine weak_objs [] (by simp -dsimp only [go_sem]) (by simp -dsimp only [go_sem]) (by simp -dsimp only [go_sem, List.length_map]) ?_ ?_ ?_
              · intro t h1 h2
                have a0 : ¬ t = h.n := by omega
                have a1 : ¬ t = h.n + 1 := by omega
                have a2 : ¬ t = h.n + 2 := by omega
                have a3 : ¬ t = h.n + 3 := by omega
                simp -dsimp only [go_sem, a0, a1, a2, a3]
              · intro x h1 h2; have h1 : x < h.n := h1; simp at h2 ⊢; omega
              · simp -dsimp only [go_sem]
            · have q2 : ((0 : Int) ≤ K) = False := eq_false hK0
              simp -dsimp only [go_sem, q0, q1, q2, k1]
              refine round_to ⟨k + 1, hlt⟩ (by show 7 - (k + 1) < 7 - k; omega) ?_
              refine weak_objs [] (by simp -dsimp only [go_sem]) (by simp -dsimp only [go_sem]) (by simp -dsimp only [go_sem, List.length_map]) ?_ ?_ ?_
              · intro t h1 h2
                have a0 : ¬ t = h.n := by omega
                have a1 : ¬ t = h.n + 1 := by omega
                have a2 : ¬ t = h.n + 2 := by omega
                have a3 : ¬ t = h.n + 3 := by omega
                simp -dsimp only [go_sem, a0, a1, a2, a3]
              · intro x h1 h2; have h1 : x < h.n := h1; simp at h2 ⊢; omega
              · simp -dsimp only [go_sem]
      · have hkc : (((k : Nat) : Int) < 7) = False := eq_false (by omega)
        simp -dsimp only [go_sem, hkc]
        refine call_pure (hF _) ?_
        by_cases hy : Y = []
        · obtain ⟨D, g1, g2, g3⟩ := hfound hy
          have hT := fun H => i_DepthOfDict X H (by omega)
          unfold depthD at hT
          rw [g1] at hT
          simp only at hT
          by_cases h6 : 6 < D.depth
          · have q : ((6 : Int) < ((D.depth : Nat) : Int)) = True := eq_true (by omega)
            simp -dsimp only [go_sem, hy]
            refine call_pure (hT _) ?_
            simp -dsimp only [go_sem, q]
            exact fin_pure (by simp -dsimp only [go_sem]) (by simp -dsimp only [go_sem])
          · have q : ((6 : Int) < ((D.depth : Nat) : Int)) = False := eq_false (by omega)
            have q4 : (K = ((D.depth : Nat) : Int)) = True := eq_true (g3 (by omega))
            simp -dsimp only [go_sem, hy]
            refine call_pure (hT _) ?_
            simp -dsimp only [go_sem, q]
            refine call_pure (hT _) ?_
            simp -dsimp only [go_sem, q4]
            exact fin_pure (by simp -dsimp only [go_sem]) (by simp -dsimp only [go_sem])
        · simp -dsimp only [go_sem, hy]
          exact fin_pure (by simp -dsimp only [go_sem]) (by simp -dsimp only [go_sem])
end Go.Proofs.YtiphcdmjlkngfaaGreatDoor

namespace Go.Proofs.YtiphcdmjlkngfaaGreatDoor.LevelOf
open Go Go.Isea Go.ChangeShapes Go.WideShapes Go.ChangeAt Go.RowKit Go.Deep
set_option maxRecDepth 100000
set_option maxHeartbeats 4000000
theorem contract (W : World) (args : Array Value) (b0 : L8) (bl0 : b0.length ≤ 9223372036854775807)
    (hr : ∀ (K : KM) (o : Nat → AObj), RepL K ⟨0, o⟩ W [.sl (b0.map byR)] args) :
    Calls Tryz.prog 7 args W fun e W' => e = .returned (.bool true) ∧ W'.os = W.os ∧ W'.tape = W.tape ∧ W'.output = W.output ∧ W.heap.size ≤ W'.heap.size ∧ ∀ b, b < W.heap.size → W'.heap[b]? = W.heap[b]? := by
  have hg := law_LevelOf b0 ⟨0, fun _ => default⟩ bl0
  refine (hg.2 (fun _ => undef) W args ⟨fun t b ht => absurd ht (Nat.not_lt_zero _), fun s t b hs => absurd hs (Nat.not_lt_zero _), fun t ht => absurd ht (Nat.not_lt_zero _)⟩ (hr _ _)).mono ?_
  rintro e W' ⟨K', v, rfl, _, hE, hv⟩
  have e1 : v = .bool true := raw_rep (x := .v (.bool true)) rfl hv
  subst e1
  exact ⟨rfl, hE.os, hE.tape, hE.output, hE.size, fun b hb => hE.same b hb fun t ht => by cases ht⟩
theorem laidOut : laidOutB Tryz.prog = true := by kernel_rfl
theorem body (H : Type) (enc : TypeId × Value → H) (W : World) (base : Nat) (args : Array Value) (ds gs : List (DataW H)) (before : List MemPlace)
    (hval : ∀ (j : Nat) t v, Tryz.f7.params[j]? = some t → args[j]? = some v → Value.okWide Tryz.prog W .any base t v)
    (hW : DataW.Whole enc Tryz.prog Tryz.f7.params.toList Rows.fnLevelOfSpec.vars false W args.toList ds gs before) :
    Calls Tryz.prog 7 args W fun e W' => ∃ v, e = .returned v ∧ Rows.fnLevelOfSpec.post enc Tryz.prog Tryz.f7 false true false false W args v W' := by
  have hW' := hW
  obtain ⟨p, q, hA0, hV, rfl, hfz, hnd⟩ := hW
  have hA : DataW.TrodAll enc Tryz.prog W 0 (fun _ => true) true Tryz.f7.params.toList args.toList ds p := hA0
  rw [Tryz.params7] at hA hval
  obtain ⟨v0, vs0, d0, ds0, p0, q0, hargs, rfl, rfl, h0, r0⟩ := trodAll_cons hA
  obtain ⟨rfl, rfl, rfl⟩ := trodAll_nil r0
  obtain rfl : args = #[v0] := by cases args; simp_all
  obtain ⟨rfl, rfl⟩ := trodVars_none hV
  have o0 := hval 0 22 v0 rfl rfl
  unfold Value.okWide at o0
  rw [Tryz.underlying22] at o0
  have h0k := h0
  obtain ⟨f0, t0⟩ := h0
  have e0 : v0.cells.toList = [v0] := by
    cases v0 <;> first | rfl | (exfalso; simp [Cell.okWide, Cell.ok, Tryz.underlying22] at o0)
  rw [e0] at t0
  obtain ⟨b0, hb0, bl0⟩ := read_bytes t0
  have aggR : ∀ (K : KM) (o : Nat → AObj) (r : List AV) (c : Array Value), RowR W r c.toList → Rep K ⟨0, o⟩ W (.agg r) (.agg c) := fun K o r c h => .agg (by simpa using h.1) fun i x y a b => h.2 K o i x y a (by simpa using b)
  refine (contract W _ b0 bl0 fun K o => ⟨rfl, fun i x y a b => ?_⟩).mono ?_
  · rcases i with _ | i
    · simp at a b; subst a; subst b; exact hb0 K o
    · simp at a
  · rintro e W' ⟨rfl, h3, h3', h4, h5, h6⟩
    have hb : Below W.heap.size W W' := ⟨h3, h3', h4, h5, h6⟩
    have hlt := hW'.lt
    refine ⟨_, rfl, _, _, _, [], p0 ++ ([]), [], hW', ?_, ?_, ?_, ?_, fun h => by cases h⟩
    · exact trodAll_mk1 (shut_bool Tryz.underlying4 true)
    · exact trodAll_cons_mk (Below.trod laidOut (by kernel_rfl) (of_decide_eq_true (by kernel_rfl)) h0k hb (fun x hx => hlt x (by simp [hx]))) (trodAll_mk0)
    · rfl
    · refine ⟨h3, h4, fun i hi => ?_⟩
      rw [h6 i hi]
      cases W.heap[i]? with
      | none => rfl
      | some o => cases o <;> first | exact ⟨rfl, rfl, rfl, fun _ _ => rfl⟩ | exact .inr ⟨rfl, rfl⟩ | rfl
end Go.Proofs.YtiphcdmjlkngfaaGreatDoor.LevelOf

namespace Go.Proofs.YtiphcdmjlkngfaaGreatDoor.LevelOf
open Go Go.Isea Go.ChangeShapes Go.WideShapes Go.ChangeAt Go.RowKit Go.Deep
set_option maxRecDepth 100000
set_option maxHeartbeats 4000000
theorem own : ownKnob Tryz.prog.godebug = none := by kernel_rfl
noncomputable abbrev wit (os : Os) : World := World.laidAll Tryz.prog os Rows.fnLevelOfRow.laid
def witArgs : Array Value := #[.slice none 0 0]
theorem wit_met (os : Os) : laidMetH Tryz.prog Rows.fnLevelOfRow.laid ((wit os).forCall (fun _ _ => 0) ⟨#[], witArgs, []⟩).memory :=
  laidMetH_of_parts (laidMet_laidAll (os := os) witArgs (by kernel_rfl) (by kernel_rfl)) (by kernel_rfl)
theorem lifted (os : Os) (started : os.Started) (H : Type) (enc : TypeId × Value → H) :
    ReturnsInHanded {} Tryz.checked os 7 .any (fun w args => (Rows.fnLevelOfSpec.pre enc Tryz.prog Tryz.f7 [] false w args ∧ laidMetH Tryz.prog Rows.fnLevelOfRow.laid w) ∧ sizedMet enc Tryz.prog Tryz.f7 (OpenSpec.ofChange Rows.fnLevelOfSpec) false w args)
      (Rows.fnLevelOfSpec.post enc Tryz.prog Tryz.f7 false true false false) := by
  refine returnsInHanded_of_change_and (C := Tryz.checked) (X := fun w _ => laidMetH Tryz.prog Rows.fnLevelOfRow.laid w) (fun _ _ _ hh h => h.of_heap hh) own started (by kernel_rfl) Tryz.func7
    (ChangeSpec.witness_at (enc := enc) (C := Tryz.checked) (os := os) (X := fun w _ => laidMetH Tryz.prog Rows.fnLevelOfRow.laid w) false (wit os) witArgs 8 (World.laidAll_os _ _ _) (by kernel_rfl) (by kernel_rfl) (by kernel_rfl) (by kernel_rfl) (by kernel_rfl) (wit_met os)) ?_
  intro W base args ds gs before hval0 hW _ _ _ _
  exact body H enc W base args ds gs before hval0 hW
end Go.Proofs.YtiphcdmjlkngfaaGreatDoor.LevelOf
