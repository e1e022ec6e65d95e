/- Contracts of functions of this program, for all arguments that satisfy what each lemma asks for. -/
import Derived.Test.YtiphcdmjlkngfaaGreatDoorMx
set_option linter.all false
namespace Go.Proofs.YtiphcdmjlkngfaaGreatDoor
open Go Go.Isea
set_option maxRecDepth 100000
set_option maxHeartbeats 16000000
/-- what is told of all is so at a depth -/
def AllOkS (w : Wld) (d : Nat) : Prop := ∀ (l t1 t2 t3 : Nat) (n : Need) (S : TbL) (h : AH), Dis l t1 t2 t3 → AtT l t1 t2 t3 w S h → NOk w n → TbOk w S → S.length + bT (d + 1) ≤ 2000000000 →
    Isea.Good Tryz.prog 79 [.ptr l 0, .agg n.row, .v (.int .i64 (d : Nat))] h [t3, t2, t1, l] (.tup [.sl (((allT w d n S).1.getD []).map sRow), .v (.bool (allT w d n S).1.isSome)]) ⟨h.n, tbH l t1 t2 t3 w (allT w d n S).2 h.o⟩
def madeT (w : Wld) (d : Nat) (n : Need) (S : TbL) : Option (List L8) × TbL := candT w (subT w d) d n (candIx w n) [] S
def MadeOkS (w : Wld) (d : Nat) : Prop := ∀ (l t1 t2 t3 : Nat) (n : Need) (S : TbL) (h : AH), Dis l t1 t2 t3 → AtT l t1 t2 t3 w S h → NOk w n → TbOk w S → S.length + 30 * bT d ≤ 2000000000 →
    Isea.Good Tryz.prog 141 [.ptr l 0, .agg n.row, .v (.int .i64 (d : Nat))] h [t3, t2, t1, l] (.tup [.sl (((madeT w d n S).1.getD []).map sRow), .v (.bool (madeT w d n S).1.isSome)]) ⟨h.n, tbH l t1 t2 t3 w (madeT w d n S).2 h.o⟩
theorem s_made_step {w : Wld} (hok : worldOk w = true) (hw : w.Sm) {d : Nat} (hd6 : d ≤ 6) (ih : ∀ e, d = e + 1 → AllOkS w e) : MadeOkS w d := by
  intro l t1 t2 t3 n S h hd ha hn hS hb
  have hfd := subT_ok hok hw d (Nat.le_succ_of_le hd6)
  have hc10 := cand_len10 hok n
  have hwl := world_len hok
  have hcand := fun H => s_l4Candidates w n H hw hn.2 (by omega)
  have hmem : ∀ k, k ∈ candIx w n → ∃ i, w.is[k]? = some i ∧ i.c = n.c ∧ (matchS i.t n.t).isSome = true := fun k hk => cand_mem hk
  have hdl := fun k hk H => s_l13Dec_digit k H hk
  unfold madeT
  generalize hT : candT w (subT w d) d n (candIx w n) [] S = T
  generalize hC : candIx w n = C at hcand hc10 hmem hT
  have hb0 : S.length + C.length * (3 * bT d) ≤ 2000000000 := by
    have : C.length * (3 * bT d) ≤ 10 * (3 * bT d) := Nat.mul_le_mul_right _ hc10
    omega
  obtain ⟨ll, lt1, lt2, lt3, ol, o1, o2, o3⟩ := ha
  obtain ⟨l1, l2, l3, k1, k2, k3, a2, a3, b1, b3, c1, c2⟩ := hd
  have hd : Dis l t1 t2 t3 := ⟨l1, l2, l3, k1, k2, k3, a2, a3, b1, b3, c1, c2⟩
  have ol' := ol
  simp only [tbC] at ol
  have f1 : ¬ l = h.n := by omega
  have f2 : ¬ t1 = h.n := by omega
  have f3 : ¬ t2 = h.n := by omega
  have f4 : ¬ t3 = h.n := by omega
  have g1 : ¬ h.n = l := by omega
  have g2 : ¬ h.n = t1 := by omega
  have g3 : ¬ h.n = t2 := by omega
  have g4 : ¬ h.n = t3 := by omega
  have m1 : ∀ k, ¬ l = h.n + k := fun k => by omega
  have m2 : ∀ k, ¬ t1 = h.n + k := fun k => by omega
  have m3 : ∀ k, ¬ t2 = h.n + k := fun k => by omega
  have m4 : ∀ k, ¬ t3 = h.n + k := fun k => by omega
  have p1 : ∀ k, ¬ h.n + k = l := fun k => by omega
  have p2 : ∀ k, ¬ h.n + k = t1 := fun k => by omega
  have p3 : ∀ k, ¬ h.n + k = t2 := fun k => by omega
  have p4 : ∀ k, ¬ h.n + k = t3 := fun k => by omega
  have hwr : d = d := rfl
  refine good [] [] Tryz.func141 rfl rfl Tryz.ntmps141 (by kernel_rfl) mixed (by kernel_rfl) ?_
  simp -dsimp only [go_sem, Need.row, Wld.row] at hcand
  simp -dsimp only [go_sem, Need.row, Wld.row, ll, ol, f1, g1]
  refine call_pure (hcand _) ?_
  simp -dsimp only [go_sem, List.length_map]
  refine loop_ruleH [0, 1, 1, 3, 24, 0] (fun (y : {y : Nat × List L8 × TbL // y.1 ≤ C.length ∧ T = candT w (subT w d) d n (C.drop y.1) y.2.1 y.2.2 ∧ TbOk w y.2.2 ∧ y.2.2.length + (C.length - y.1) * (3 * bT d) ≤ 2000000000 ∧ y.2.1.length ≤ 60}) H => ([(9, .so (h.n + 1) y.1.2.1.length y.1.2.1.length), (35, .v (.int .i64 (y.1.1 : Nat)))], ⟨h.n + 2, upd (upd (tbH l t1 t2 t3 w y.1.2.2 h.o) h.n (.cells [.sl (w.cs.map Cls.row), .sl (w.is.map Inst.row)])) (h.n + 1) (.rows 9 1 (y.1.2.1.map sRow))⟩)) (fun y => C.length - y.1.1) ⟨(0, [], S), Nat.zero_le _, hT.symm, hS, hb0, by simp⟩ ?_ ?_
  · refine weak_objs [l, t1, t2, t3, h.n, h.n + 1] (by simp -dsimp only [go_sem]) (by simp -dsimp only [go_sem]) (by simp -dsimp only [go_sem, f1, f2, f3, f4, g1, g2, g3, g4, m1, m2, m3, m4, p1, p2, p3, p4, l1, l2, l3, k1, k2, k3, a2, a3, b1, b3, c1, c2, ll, lt1, lt2, lt3, List.length_nil]) ?_ ?_ ?_
    · exact fun x q1 q2 => by
        have q1 : x < h.n := q1
        simp only [List.mem_cons, List.not_mem_nil, or_false, not_or] at q2
        obtain ⟨r1, r2, r3, r4⟩ := q2
        have r5 : ¬ x = h.n := by omega
        have r6 : ∀ k, ¬ x = h.n + k := fun k => by omega
        simp -dsimp only [go_sem, tbH, r1, r2, r3, r4, r5, r6]
    · exact fun x q1 q2 => by
        have q1 : x < h.n + 2 := q1
        simp only [List.mem_cons, List.not_mem_nil, or_false] at q2 ⊢
        rcases q2 with (r | r | r | r) | r
        · exact .inr (.inr (.inr (.inl r)))
        · exact .inr (.inr (.inl r))
        · exact .inr (.inl r)
        · exact .inl r
        · have r : h.n ≤ x := r
          omega
    · simp -dsimp only [go_sem, tbH, f1, f2, f3, f4, g1, g2, g3, g4, m1, m2, m3, m4, p1, p2, p3, p4, l1, l2, l3, k1, k2, k3, a2, a3, b1, b3, c1, c2, ll, lt1, lt2, lt3, tbC, kR, objFz_lR, objFz_oR, ol', o1, o2, o3, List.map_nil]
  · rintro ⟨⟨j, out, S1⟩, hj, heq, hS1, hb1, ho1⟩
    have hj : j ≤ C.length := hj
    have heq : T = candT w (subT w d) d n (C.drop j) out S1 := heq
    have hS1 : TbOk w S1 := hS1
    have hb1 : S1.length + (C.length - j) * (3 * bT d) ≤ 2000000000 := hb1
    have ho1 : out.length ≤ 60 := ho1
    have hj1 : j + 1 ≤ 9223372036854775807 := by omega
    clear hT
    by_cases hlt : j < C.length
    · obtain ⟨k, hk⟩ := get_some hlt
      obtain ⟨x, hx, hxc, hxm⟩ := hmem k (List.mem_of_getElem? hk)
      have hk9 : k ≤ 9 := by have := (List.getElem?_eq_some_iff.1 hx).1; omega
      have hwi := world_inst hok hx
      have h6 := hwi.2.2.2.2.2.1
      clear hwi
      have hxs := hw.i x (List.mem_of_getElem? hx)
      have hN4 := fun H => s_l4Needs x n.t H hxs hn.2.2 (by omega)
      have hkd := hdl k hk9
      have hbj : (C.length - (j + 1)) * (3 * bT d) + 3 * bT d = (C.length - j) * (3 * bT d) := by
        rw [← Nat.succ_mul]; congr 1; omega
      rw [drop_get hk] at heq
      have hadL := addT_len hok hw hfd (d := d) (i := k) (n := n) (S := S1)
      have hadK := (addT_ok hok hw hfd (d := d) (i := k) (n := n) hS1).2
      simp -dsimp only [go_sem, Inst.row] at hN4
      rcases opt_cases (needsOf x n.t) with hN | ⟨ms, hN⟩
      · rw [candT_skip (addT_no hx hN) ho1] at heq
        rw [hN] at hN4
        simp -dsimp only [go_sem, hlt, hk, iRow, hx, Inst.row, f1, f2, f3, f4, g1, g2, g3, g4, m1, m2, m3, m4, p1, p2, p3, p4, l1, l2, l3, k1, k2, k3, a2, a3, b1, b3, c1, c2, ll, lt1, lt2, lt3]
        refine call_pure (hN4 _) ?_
        simp -dsimp only [go_sem, needsV, hj1]
        refine round_to ⟨(j + 1, out, S1), hlt, heq, hS1, by simp only; omega, ho1⟩ (by simp; omega) ?_
        refine weak_objs [l, t1, t2, t3, h.n, h.n + 1] (by simp -dsimp only [go_sem]) (by simp -dsimp only [go_sem]) (by simp -dsimp only [go_sem, f1, f2, f3, f4, g1, g2, g3, g4, m1, m2, m3, m4, p1, p2, p3, p4, l1, l2, l3, k1, k2, k3, a2, a3, b1, b3, c1, c2, ll, lt1, lt2, lt3]) ?_ ?_ ?_
        · exact fun x q1 q2 => by
            have q1 : x < h.n := q1
            simp only [List.mem_cons, List.not_mem_nil, or_false, not_or] at q2
            obtain ⟨r1, r2, r3, r4⟩ := q2
            have r5 : ¬ x = h.n := by omega
            have r6 : ∀ k, ¬ x = h.n + k := fun k => by omega
            simp -dsimp only [go_sem, tbH, r1, r2, r3, r4, r5, r6]
        · exact fun x q1 q2 => by
            have q1 : x < h.n + 2 := q1
            simp only [List.mem_cons, List.not_mem_nil, or_false] at q2 ⊢
            rcases q2 with (r | r | r | r) | r
            · exact .inr (.inr (.inr (.inl r)))
            · exact .inr (.inr (.inl r))
            · exact .inr (.inl r)
            · exact .inl r
            · have r : h.n ≤ x := r
              omega
        · simp -dsimp only [go_sem, tbH, f1, f2, f3, f4, g1, g2, g3, g4, m1, m2, m3, m4, p1, p2, p3, p4, l1, l2, l3, k1, k2, k3, a2, a3, b1, b3, c1, c2, ll, lt1, lt2, lt3, tbC, kR, objFz_lR, objFz_oR]
      · have hno := needs_ok hok hw hx hN
        have hml := hno.1
        have hmm := hno.2
        clear hno
        rw [hN] at hN4
        by_cases hlow : 0 < ms.length ∧ d = 0
        · rw [candT_skip (addT_low hx hN hlow) ho1] at heq
          have q1 : (0 : Int) < (ms.length : Nat) := by omega
          have q2 : ((d : Nat) : Int) = 0 := by omega
          simp -dsimp only [go_sem, hlt, hk, iRow, hx, Inst.row, f1, f2, f3, f4, g1, g2, g3, g4, m1, m2, m3, m4, p1, p2, p3, p4, l1, l2, l3, k1, k2, k3, a2, a3, b1, b3, c1, c2, ll, lt1, lt2, lt3]
          refine call_pure (hN4 _) ?_
          simp -dsimp only [go_sem, needsV, List.length_map, q1, q2, hj1]
          refine round_to ⟨(j + 1, out, S1), hlt, heq, hS1, by simp only; omega, ho1⟩ (by simp; omega) ?_
          refine weak_objs [l, t1, t2, t3, h.n, h.n + 1] (by simp -dsimp only [go_sem]) (by simp -dsimp only [go_sem]) (by simp -dsimp only [go_sem, f1, f2, f3, f4, g1, g2, g3, g4, m1, m2, m3, m4, p1, p2, p3, p4, l1, l2, l3, k1, k2, k3, a2, a3, b1, b3, c1, c2, ll, lt1, lt2, lt3]) ?_ ?_ ?_
          · exact fun x q1 q2 => by
              have q1 : x < h.n := q1
              simp only [List.mem_cons, List.not_mem_nil, or_false, not_or] at q2
              obtain ⟨r1, r2, r3, r4⟩ := q2
              have r5 : ¬ x = h.n := by omega
              have r6 : ∀ k, ¬ x = h.n + k := fun k => by omega
              simp -dsimp only [go_sem, tbH, r1, r2, r3, r4, r5, r6]
          · exact fun x q1 q2 => by
              have q1 : x < h.n + 2 := q1
              simp only [List.mem_cons, List.not_mem_nil, or_false] at q2 ⊢
              rcases q2 with (r | r | r | r) | r
              · exact .inr (.inr (.inr (.inl r)))
              · exact .inr (.inr (.inl r))
              · exact .inr (.inl r)
              · exact .inl r
              · have r : h.n ≤ x := r
                omega
          · simp -dsimp only [go_sem, tbH, f1, f2, f3, f4, g1, g2, g3, g4, m1, m2, m3, m4, p1, p2, p3, p4, l1, l2, l3, k1, k2, k3, a2, a3, b1, b3, c1, c2, ll, lt1, lt2, lt3, tbC, kR, objFz_lR, objFz_oR]
        · have hadd := addT_rows (fd := subT w d) (S := S1) hx hN hlow
          rw [hadd] at hadL hadK
          generalize hP : partsT (subT w d) ms [[]] S1 = P at hadd hadL hadK
          have hq : (¬ (0 : Int) < (ms.length : Nat) ∧ True) ∨ ((0 : Int) < (ms.length : Nat) ∧ ¬ ((d : Nat) : Int) = 0) := by
            rcases Nat.eq_zero_or_pos ms.length with h0 | h0
            · exact .inl ⟨by omega, trivial⟩
            · exact .inr ⟨by omega, by omega⟩
          have hb2 : S1.length + ms.length * bT d ≤ S1.length + 3 * bT d := Nat.add_le_add_left (Nat.mul_le_mul_right _ hml) _
          have ht0 : txts k [[]] = [digitL k] := by simp [txts, rowTxt, joinB]
          have ht9 : ∀ ps, txts k (crossL [] ps) = [] := fun ps => rfl
          have fzTx : True := trivial
          simp -dsimp only [go_sem, hlt, hk, iRow, hx, Inst.row, f1, f2, f3, f4, g1, g2, g3, g4, m1, m2, m3, m4, p1, p2, p3, p4, l1, l2, l3, k1, k2, k3, a2, a3, b1, b3, c1, c2, ll, lt1, lt2, lt3]
          refine call_pure (hN4 _) ?_
          rcases hq with ⟨q1, q2⟩ | ⟨q1, q2⟩
          all_goals
            simp -dsimp only [go_sem, needsV, List.length_map, q1, q2]
            refine call_pure (hkd _) ?_
            simp -dsimp only [go_sem, List.length_map]
            refine loop_ruleH [0, 1, 1, 3, 0, 2, 20, 0, 0, 28, 0] (fun (y : {y : Nat × List (List L8) × TbL // y.1 ≤ ms.length ∧ P = partsT (subT w d) (ms.drop y.1) y.2.1 y.2.2 ∧ TbOk w y.2.2 ∧ y.2.2.length + (ms.length - y.1) * bT d ≤ S1.length + 3 * bT d ∧ y.2.1.length ≤ 60 ∧ RwOk y.1 y.2.1}) H => ([(14, .sl ((txts k y.1.2.1).map sRow)), (66, .v (.int .i64 (y.1.1 : Nat)))], ⟨h.n + 2, upd (upd (tbH l t1 t2 t3 w y.1.2.2 h.o) h.n (.cells [.sl (w.cs.map Cls.row), .sl (w.is.map Inst.row)])) (h.n + 1) (.rows 9 1 (out.map sRow))⟩)) (fun y => ms.length - y.1.1) ⟨(0, [[]], S1), Nat.zero_le _, hP.symm, hS1, hb2, by simp, RwOk.one⟩ ?_ ?_
            · refine weak_objs [l, t1, t2, t3, h.n, h.n + 1] (by simp -dsimp only [go_sem]) (by simp -dsimp only [go_sem]) (by simp -dsimp only [go_sem, f1, f2, f3, f4, g1, g2, g3, g4, m1, m2, m3, m4, p1, p2, p3, p4, l1, l2, l3, k1, k2, k3, a2, a3, b1, b3, c1, c2, ll, lt1, lt2, lt3, ht0, List.map_cons, List.map_nil, sRow]) ?_ ?_ ?_
              · exact fun x q1 q2 => by
                  have q1 : x < h.n := q1
                  simp only [List.mem_cons, List.not_mem_nil, or_false, not_or] at q2
                  obtain ⟨r1, r2, r3, r4⟩ := q2
                  have r5 : ¬ x = h.n := by omega
                  have r6 : ∀ k, ¬ x = h.n + k := fun k => by omega
                  simp -dsimp only [go_sem, tbH, r1, r2, r3, r4, r5, r6]
              · exact fun x q1 q2 => by
                  have q1 : x < h.n + 2 := q1
                  simp only [List.mem_cons, List.not_mem_nil, or_false] at q2 ⊢
                  rcases q2 with (r | r | r | r) | r
                  · exact .inr (.inr (.inr (.inl r)))
                  · exact .inr (.inr (.inl r))
                  · exact .inr (.inl r)
                  · exact .inl r
                  · have r : h.n ≤ x := r
                    omega
              · simp -dsimp only [go_sem, tbH, f1, f2, f3, f4, g1, g2, g3, g4, m1, m2, m3, m4, p1, p2, p3, p4, l1, l2, l3, k1, k2, k3, a2, a3, b1, b3, c1, c2, ll, lt1, lt2, lt3, tbC, kR, objFz_lR, objFz_oR]
            · rintro ⟨⟨q, rows, S2⟩, hq, hPq, hS2, hb2, hr60, hrw⟩
              have hq : q ≤ ms.length := hq
              have hPq : P = partsT (subT w d) (ms.drop q) rows S2 := hPq
              have hS2 : TbOk w S2 := hS2
              have hb2 : S2.length + (ms.length - q) * bT d ≤ S1.length + 3 * bT d := hb2
              have hr60 : rows.length ≤ 60 := hr60
              have hrw : RwOk q rows := hrw
              clear hP
              have hq1 : q + 1 ≤ 9223372036854775807 := by omega
              have hj3 : 3 * bT d ≤ (C.length - j) * (3 * bT d) := Nat.le_mul_of_pos_left _ (by omega)
              by_cases hqt : q < ms.length
              · obtain ⟨m, hm⟩ := get_some hqt
                obtain ⟨e, hde⟩ : ∃ e, d = e + 1 := ⟨d - 1, by omega⟩
                have hmN := (hmm m (List.mem_of_getElem? hm)).1
                have hRok := hfd.ok m S2 hmN hS2
                have hRl := hfd.len m S2
                have hRv := hfd.val m S2 hmN hS2
                have hbd : bT d ≤ (ms.length - q) * bT d := Nat.le_mul_of_pos_left _ (by omega)
                have hbq : (ms.length - (q + 1)) * bT d + bT d = (ms.length - q) * bT d := by
                  rw [← Nat.succ_mul]; congr 1; omega
                rw [drop_get hm] at hPq
                have hA : ∀ H : AH, AtT l t1 t2 t3 w S2 H → Isea.Good Tryz.prog 79 [.ptr l 0, .agg m.row, .v (.int .i64 (e : Nat))] H [t3, t2, t1, l] (.tup [.sl ((((subT w d m S2).1).getD []).map sRow), .v (.bool (subT w d m S2).1.isSome)]) ⟨H.n, tbH l t1 t2 t3 w (subT w d m S2).2 H.o⟩ := fun H hat => by
                  have := ih e hde l t1 t2 t3 m S2 H hd hat hmN hS2 (by rw [← hde]; omega)
                  rw [hde]
                  exact this
                have hwd : IntKind.i64.wrap (((d : Nat) : Int) - 1) = ((e : Nat) : Int) := by rw [wrap_i64] <;> omega
                generalize hR : subT w d m S2 = R at hA hRok hRl hRv
                simp -dsimp only [go_sem, Need.row] at hA
                simp -dsimp only [go_sem, hqt, hm, Need.row, hwd, f1, f2, f3, f4, g1, g2, g3, g4, m1, m2, m3, m4, p1, p2, p3, p4, l1, l2, l3, k1, k2, k3, a2, a3, b1, b3, c1, c2, ll, lt1, lt2, lt3]
                refine call_turn (hA _ ⟨by simp -dsimp only [go_sem, f1, f2, f3, f4, g1, g2, g3, g4, m1, m2, m3, m4, p1, p2, p3, p4, l1, l2, l3, k1, k2, k3, a2, a3, b1, b3, c1, c2, ll, lt1, lt2, lt3], by simp -dsimp only [go_sem, f1, f2, f3, f4, g1, g2, g3, g4, m1, m2, m3, m4, p1, p2, p3, p4, l1, l2, l3, k1, k2, k3, a2, a3, b1, b3, c1, c2, ll, lt1, lt2, lt3], by simp -dsimp only [go_sem, f1, f2, f3, f4, g1, g2, g3, g4, m1, m2, m3, m4, p1, p2, p3, p4, l1, l2, l3, k1, k2, k3, a2, a3, b1, b3, c1, c2, ll, lt1, lt2, lt3], by simp -dsimp only [go_sem, f1, f2, f3, f4, g1, g2, g3, g4, m1, m2, m3, m4, p1, p2, p3, p4, l1, l2, l3, k1, k2, k3, a2, a3, b1, b3, c1, c2, ll, lt1, lt2, lt3], by simp -dsimp only [go_sem, tbH, f1, f2, f3, f4, g1, g2, g3, g4, m1, m2, m3, m4, p1, p2, p3, p4, l1, l2, l3, k1, k2, k3, a2, a3, b1, b3, c1, c2, ll, lt1, lt2, lt3], by simp -dsimp only [go_sem, tbH, f1, f2, f3, f4, g1, g2, g3, g4, m1, m2, m3, m4, p1, p2, p3, p4, l1, l2, l3, k1, k2, k3, a2, a3, b1, b3, c1, c2, ll, lt1, lt2, lt3], by simp -dsimp only [go_sem, tbH, f1, f2, f3, f4, g1, g2, g3, g4, m1, m2, m3, m4, p1, p2, p3, p4, l1, l2, l3, k1, k2, k3, a2, a3, b1, b3, c1, c2, ll, lt1, lt2, lt3], by simp -dsimp only [go_sem, tbH, f1, f2, f3, f4, g1, g2, g3, g4, m1, m2, m3, m4, p1, p2, p3, p4, l1, l2, l3, k1, k2, k3, a2, a3, b1, b3, c1, c2, ll, lt1, lt2, lt3]⟩) (fun t ht _ => .inr ht) (fun t ht => by cases ht) ?_
                rcases opt_cases R.1 with hr | ⟨parts, hr⟩
                · have hPn : P = (none, R.2) := by rw [hPq, partsT_bad (by rw [hR]; exact hr), hR]
                  rw [candT_bad (S' := R.2) (by rw [hadd, hPn]; rfl)] at heq
                  clear hPq
                  subst heq
                  rw [hr]
                  simp -dsimp only [go_sem, Option.isSome_none]
                  exact fin_tb hd (by simp -dsimp only [go_sem]) (by simp -dsimp only [go_sem, Option.getD_none, Option.isSome_none, Option.getD_some, Option.isSome_some, List.map_nil, f1, f2, f3, f4, g1, g2, g3, g4, m1, m2, m3, m4, p1, p2, p3, p4, l1, l2, l3, k1, k2, k3, a2, a3, b1, b3, c1, c2, ll, lt1, lt2, lt3]) (by simp -dsimp only [go_sem, tbH, f1, f2, f3, f4, g1, g2, g3, g4, m1, m2, m3, m4, p1, p2, p3, p4, l1, l2, l3, k1, k2, k3, a2, a3, b1, b3, c1, c2, ll, lt1, lt2, lt3, tbC, kR, objFz_lR, objFz_oR]) (by simp -dsimp only [go_sem, tbH, f1, f2, f3, f4, g1, g2, g3, g4, m1, m2, m3, m4, p1, p2, p3, p4, l1, l2, l3, k1, k2, k3, a2, a3, b1, b3, c1, c2, ll, lt1, lt2, lt3, tbC, kR, objFz_lR, objFz_oR]) (by simp -dsimp only [go_sem, tbH, f1, f2, f3, f4, g1, g2, g3, g4, m1, m2, m3, m4, p1, p2, p3, p4, l1, l2, l3, k1, k2, k3, a2, a3, b1, b3, c1, c2, ll, lt1, lt2, lt3, tbC, kR, objFz_lR, objFz_oR]) (by simp -dsimp only [go_sem, tbH, f1, f2, f3, f4, g1, g2, g3, g4, m1, m2, m3, m4, p1, p2, p3, p4, l1, l2, l3, k1, k2, k3, a2, a3, b1, b3, c1, c2, ll, lt1, lt2, lt3, tbC, kR, objFz_lR, objFz_oR])
                · rw [hr] at hRv
                  have hpl : LOk parts := allD_ok (w := w) (d := e) (n := m) (by rw [hde] at hRv; exact hRv.symm)
                  have hp1 := hpl.1
                  have hp2 := hpl.2
                  rw [hr]
                  simp -dsimp only [go_sem, Option.getD_some, Option.isSome_some, List.length_map, txts_len, f1, f2, f3, f4, g1, g2, g3, g4, m1, m2, m3, m4, p1, p2, p3, p4, l1, l2, l3, k1, k2, k3, a2, a3, b1, b3, c1, c2, ll, lt1, lt2, lt3]
                  refine loop_ruleH [0, 1, 1, 3, 0, 2, 2, 1, 15, 0, 0, 28, 0, 0, 16, 0] (fun (a : {a : Nat // a ≤ rows.length}) H => ([(19, .so (h.n + 3) (txts k (crossL (rows.take a.1) parts)).length (txts k (crossL (rows.take a.1) parts)).length), (85, .v (.int .i64 (a.1 : Nat)))], ⟨h.n + 4, upd (upd (upd (upd (tbH l t1 t2 t3 w R.2 h.o) h.n (.cells [.sl (w.cs.map Cls.row), .sl (w.is.map Inst.row)])) (h.n + 1) (.rows 9 1 (out.map sRow))) (h.n + 2) (.cells [.junk, .junk])) (h.n + 3) (.rows 9 1 ((txts k (crossL (rows.take a.1) parts)).map sRow))⟩)) (fun a => rows.length - a.1) ⟨0, Nat.zero_le _⟩ ?_ ?_
                  · refine weak_objs [l, t1, t2, t3, h.n, h.n + 1, h.n + 2, h.n + 3] (by simp -dsimp only [go_sem]) (by simp -dsimp only [go_sem]) (by simp -dsimp only [go_sem, f1, f2, f3, f4, g1, g2, g3, g4, m1, m2, m3, m4, p1, p2, p3, p4, l1, l2, l3, k1, k2, k3, a2, a3, b1, b3, c1, c2, ll, lt1, lt2, lt3, List.take_zero, ht9]) ?_ ?_ ?_
                    · exact fun x q1 q2 => by
                        have q1 : x < h.n := q1
                        simp only [List.mem_cons, List.not_mem_nil, or_false, not_or] at q2
                        obtain ⟨r1, r2, r3, r4⟩ := q2
                        have r5 : ¬ x = h.n := by omega
                        have r6 : ∀ k, ¬ x = h.n + k := fun k => by omega
                        simp -dsimp only [go_sem, tbH, r1, r2, r3, r4, r5, r6]
                    · exact fun x q1 q2 => by
                        have q1 : x < h.n + 4 := q1
                        simp only [List.mem_cons, List.not_mem_nil, or_false] at q2 ⊢
                        rcases q2 with (r | r | r | r) | r
                        · exact .inr (.inr (.inr (.inl r)))
                        · exact .inr (.inr (.inl r))
                        · exact .inr (.inl r)
                        · exact .inl r
                        · have r : h.n ≤ x := r
                          omega
                    · simp -dsimp only [go_sem, tbH, f1, f2, f3, f4, g1, g2, g3, g4, m1, m2, m3, m4, p1, p2, p3, p4, l1, l2, l3, k1, k2, k3, a2, a3, b1, b3, c1, c2, ll, lt1, lt2, lt3, tbC, kR, objFz_lR, objFz_oR, List.take_zero, ht9, List.map_nil]
                  · rintro ⟨a, ha4⟩
                    have ha4 : a ≤ rows.length := ha4
                    have ha1 : a + 1 ≤ 9223372036854775807 := by omega
                    by_cases hat : a < rows.length
                    · obtain ⟨r, hra⟩ := get_some hat
                      have hrt : (txts k rows)[a]? = some (rowTxt k r) := by unfold txts; rw [List.getElem?_map, hra]; rfl
                      have hrl := hrw r (List.mem_of_getElem? hra)
                      have hrl1 : (rowTxt k r).length ≤ 4000 := by
                        have := hrl.2
                        unfold rowTxt digitL
                        simp only [List.length_append, List.length_cons, List.length_nil]
                        omega
                      have hnx := txts_next (parts := parts) (k := k) hra hrl.1
                      have hcl : (txts k (crossL (rows.take a) parts)).length ≤ 3600 := by
                        have := crossL_take_len rows parts a
                        have h2 : a * parts.length ≤ 60 * 60 := Nat.mul_le_mul (by omega) hp1
                        rw [txts_len]; omega
                      have hsn : (rows.take (a + 1)) = rows.take a ++ [r] := take_next hra
                      generalize hX : txts k (crossL (rows.take a) parts) = X at hnx hcl
                      simp -dsimp only [go_sem, hat, hrt, hX, List.getElem?_map, Option.map_some, sRow, List.length_map]
                      refine loop_ruleH [0, 1, 1, 3, 0, 2, 2, 1, 3, 11, 0, 0, 28, 0, 0, 16, 0, 0, 3, 0] (fun (b : {b : Nat // b ≤ parts.length}) H => ([(19, .so (h.n + 3) (X ++ (parts.take b.1).map fun p => rowTxt k r ++ [sep q] ++ p).length (X ++ (parts.take b.1).map fun p => rowTxt k r ++ [sep q] ++ p).length), (91, .v (.int .i64 (b.1 : Nat)))], ⟨h.n + 4, upd (upd (upd (upd (tbH l t1 t2 t3 w R.2 h.o) h.n (.cells [.sl (w.cs.map Cls.row), .sl (w.is.map Inst.row)])) (h.n + 1) (.rows 9 1 (out.map sRow))) (h.n + 2) (.cells [.junk, .junk])) (h.n + 3) (.rows 9 1 ((X ++ (parts.take b.1).map fun p => rowTxt k r ++ [sep q] ++ p).map sRow))⟩)) (fun b => parts.length - b.1) ⟨0, Nat.zero_le _⟩ ?_ ?_
                      · refine weak_objs [l, t1, t2, t3, h.n, h.n + 1, h.n + 2, h.n + 3] (by simp -dsimp only [go_sem]) (by simp -dsimp only [go_sem]) (by simp -dsimp only [go_sem, f1, f2, f3, f4, g1, g2, g3, g4, m1, m2, m3, m4, p1, p2, p3, p4, l1, l2, l3, k1, k2, k3, a2, a3, b1, b3, c1, c2, ll, lt1, lt2, lt3, List.take_zero, List.map_nil, List.append_nil]) ?_ ?_ ?_
                        · exact fun x q1 q2 => by
                            have q1 : x < h.n := q1
                            simp only [List.mem_cons, List.not_mem_nil, or_false, not_or] at q2
                            obtain ⟨r1, r2, r3, r4⟩ := q2
                            have r5 : ¬ x = h.n := by omega
                            have r6 : ∀ k, ¬ x = h.n + k := fun k => by omega
                            simp -dsimp only [go_sem, tbH, r1, r2, r3, r4, r5, r6]
                        · exact fun x q1 q2 => by
                            have q1 : x < h.n + 4 := q1
                            simp only [List.mem_cons, List.not_mem_nil, or_false] at q2 ⊢
                            rcases q2 with (r | r | r | r) | r
                            · exact .inr (.inr (.inr (.inl r)))
                            · exact .inr (.inr (.inl r))
                            · exact .inr (.inl r)
                            · exact .inl r
                            · have r : h.n ≤ x := r
                              omega
                        · simp -dsimp only [go_sem, tbH, f1, f2, f3, f4, g1, g2, g3, g4, m1, m2, m3, m4, p1, p2, p3, p4, l1, l2, l3, k1, k2, k3, a2, a3, b1, b3, c1, c2, ll, lt1, lt2, lt3, tbC, kR, objFz_lR, objFz_oR, List.take_zero, List.map_nil, List.append_nil]
                      · rintro ⟨b, hb⟩
                        have hb : b ≤ parts.length := hb
                        have hb1' : b + 1 ≤ 9223372036854775807 := by omega
                        by_cases hbt : b < parts.length
                        · obtain ⟨p, hp⟩ := get_some hbt
                          have hpp := hp2 p (List.mem_of_getElem? hp)
                          have hq3 : q + 1 ≤ 3 := by omega
                          have e5 : (([40, 44, 44] : L8).drop q).take (q + 1 - q) = [sep q] := by
                            have : q = 0 ∨ q = 1 ∨ q = 2 := by omega
                            rcases this with rfl | rfl | rfl <;> rfl
                          have hs1 : (rowTxt k r).length + 1 ≤ 9223372036854775807 := by omega
                          have hs2 : (rowTxt k r).length + 1 + p.length ≤ 9223372036854775807 := by omega
                          have hs3 : (rowTxt k r).length + (1 + p.length) ≤ 9223372036854775807 := by omega
                          have hnx2 : (X ++ (parts.take (b + 1)).map fun p => rowTxt k r ++ [sep q] ++ p) = (X ++ (parts.take b).map fun p => rowTxt k r ++ [sep q] ++ p) ++ [rowTxt k r ++ [sep q] ++ p] := by
                            rw [take_next hp, List.map_append, List.append_assoc]; rfl
                          have hY : (X ++ (parts.take b).map fun p => rowTxt k r ++ [sep q] ++ p).length ≤ 4000 := by
                            rw [List.length_append, List.length_map, List.length_take]; omega
                          generalize hYd : (X ++ (parts.take b).map fun p => rowTxt k r ++ [sep q] ++ p) = Y at hY hnx2
                          have hlz : X.length + (parts.take (b + 1)).length = Y.length + 1 := by have := congrArg List.length hnx2; simp only [List.length_append, List.length_map, List.length_cons, List.length_nil] at this; omega
                          have hmz : X.map sRow ++ ((parts.take (b + 1)).map fun p => rowTxt k r ++ [sep q] ++ p).map sRow = Y.map sRow ++ [[str (rowTxt k r ++ [sep q] ++ p)]] := by rw [← List.map_append, hnx2, List.map_append]; rfl
                          have hY16 : (Y.length + 1) * 16 ≤ 140737488355328 := by omega
                          simp -dsimp only [go_sem, hbt, hp, hYd, e5, hq3, hq1, hs1, hs2, hs3, hY16, hb1', sRow, List.length_map, List.length_append, List.length_cons, List.length_nil, f1, f2, f3, f4, g1, g2, g3, g4, m1, m2, m3, m4, p1, p2, p3, p4, l1, l2, l3, k1, k2, k3, a2, a3, b1, b3, c1, c2, ll, lt1, lt2, lt3]
                          refine round_to ⟨b + 1, hbt⟩ (by simp; omega) ?_
                          refine weak_objs [l, t1, t2, t3, h.n, h.n + 1, h.n + 2, h.n + 3] (by simp -dsimp only [go_sem]) (by simp -dsimp only [go_sem]) (by simp -dsimp only [go_sem, f1, f2, f3, f4, g1, g2, g3, g4, m1, m2, m3, m4, p1, p2, p3, p4, l1, l2, l3, k1, k2, k3, a2, a3, b1, b3, c1, c2, ll, lt1, lt2, lt3, hlz, hb1']) ?_ ?_ ?_
                          · exact fun x q1 q2 => by
                              have q1 : x < h.n := q1
                              simp only [List.mem_cons, List.not_mem_nil, or_false, not_or] at q2
                              obtain ⟨r1, r2, r3, r4⟩ := q2
                              have r5 : ¬ x = h.n := by omega
                              have r6 : ∀ k, ¬ x = h.n + k := fun k => by omega
                              simp -dsimp only [go_sem, tbH, r1, r2, r3, r4, r5, r6]
                          · exact fun x q1 q2 => by
                              have q1 : x < h.n + 4 := q1
                              simp only [List.mem_cons, List.not_mem_nil, or_false] at q2 ⊢
                              rcases q2 with (r | r | r | r) | r
                              · exact .inr (.inr (.inr (.inl r)))
                              · exact .inr (.inr (.inl r))
                              · exact .inr (.inl r)
                              · exact .inl r
                              · have r : h.n ≤ x := r
                                omega
                          · simp -dsimp only [go_sem, tbH, f1, f2, f3, f4, g1, g2, g3, g4, m1, m2, m3, m4, p1, p2, p3, p4, l1, l2, l3, k1, k2, k3, a2, a3, b1, b3, c1, c2, ll, lt1, lt2, lt3, tbC, kR, objFz_lR, objFz_oR, hmz, sRow]
                        · have et : parts.take b = parts := List.take_of_length_le (by omega)
                          simp -dsimp only [go_sem, hbt, et, ha1]
                          refine round_to ⟨a + 1, hat⟩ (by simp; omega) ?_
                          refine weak_objs [l, t1, t2, t3, h.n, h.n + 1, h.n + 2, h.n + 3] (by simp -dsimp only [go_sem]) (by simp -dsimp only [go_sem]) (by simp -dsimp only [go_sem, f1, f2, f3, f4, g1, g2, g3, g4, m1, m2, m3, m4, p1, p2, p3, p4, l1, l2, l3, k1, k2, k3, a2, a3, b1, b3, c1, c2, ll, lt1, lt2, lt3, hnx]) ?_ ?_ ?_
                          · exact fun x q1 q2 => by
                              have q1 : x < h.n := q1
                              simp only [List.mem_cons, List.not_mem_nil, or_false, not_or] at q2
                              obtain ⟨r1, r2, r3, r4⟩ := q2
                              have r5 : ¬ x = h.n := by omega
                              have r6 : ∀ k, ¬ x = h.n + k := fun k => by omega
                              simp -dsimp only [go_sem, tbH, r1, r2, r3, r4, r5, r6]
                          · exact fun x q1 q2 => by
                              have q1 : x < h.n + 4 := q1
                              simp only [List.mem_cons, List.not_mem_nil, or_false] at q2 ⊢
                              rcases q2 with (r | r | r | r) | r
                              · exact .inr (.inr (.inr (.inl r)))
                              · exact .inr (.inr (.inl r))
                              · exact .inr (.inl r)
                              · exact .inl r
                              · have r : h.n ≤ x := r
                                omega
                          · simp -dsimp only [go_sem, tbH, f1, f2, f3, f4, g1, g2, g3, g4, m1, m2, m3, m4, p1, p2, p3, p4, l1, l2, l3, k1, k2, k3, a2, a3, b1, b3, c1, c2, ll, lt1, lt2, lt3, tbC, kR, objFz_lR, objFz_oR, hnx]
                    · have et : rows.take a = rows := List.take_of_length_le (by omega)
                      have hcl : (crossL rows parts).length ≤ 3600 := by
                        have := crossL_take_len rows parts a
                        rw [et] at this
                        have h2 : a * parts.length ≤ 60 * 60 := Nat.mul_le_mul (by omega) hp1
                        omega
                      by_cases hl60 : (crossL rows parts).length ≤ 60
                      · have hgt : ¬ (60 : Int) < ((crossL rows parts).length : Nat) := by omega
                        have hPn := partsT_one (ms := ms.drop (q + 1)) (show (subT w d m S2).1 = some parts by rw [hR]; exact hr) hl60
                        rw [← hPq, hR] at hPn
                        simp -dsimp only [go_sem, hat, et, List.length_map, txts_len, hgt, hq1]
                        refine round_to ⟨(q + 1, crossL rows parts, R.2), hqt, hPn, hRok, by simp only; omega, hl60, hrw.cross hp2⟩ (by simp; omega) ?_
                        refine weak_objs [l, t1, t2, t3, h.n, h.n + 1] (by simp -dsimp only [go_sem]) (by simp -dsimp only [go_sem]) (by simp -dsimp only [go_sem, f1, f2, f3, f4, g1, g2, g3, g4, m1, m2, m3, m4, p1, p2, p3, p4, l1, l2, l3, k1, k2, k3, a2, a3, b1, b3, c1, c2, ll, lt1, lt2, lt3, txts_len, List.length_map]) ?_ ?_ ?_
                        · exact fun x q1 q2 => by
                            have q1 : x < h.n := q1
                            simp only [List.mem_cons, List.not_mem_nil, or_false, not_or] at q2
                            obtain ⟨r1, r2, r3, r4⟩ := q2
                            have r5 : ¬ x = h.n := by omega
                            have r6 : ∀ k, ¬ x = h.n + k := fun k => by omega
                            simp -dsimp only [go_sem, tbH, r1, r2, r3, r4, r5, r6]
                        · exact fun x q1 q2 => by
                            have q1 : x < h.n + 2 := q1
                            simp only [List.mem_cons, List.not_mem_nil, or_false] at q2 ⊢
                            rcases q2 with (r | r | r | r) | r
                            · exact .inr (.inr (.inr (.inl r)))
                            · exact .inr (.inr (.inl r))
                            · exact .inr (.inl r)
                            · exact .inl r
                            · have r : h.n ≤ x := r
                              omega
                        · simp -dsimp only [go_sem, tbH, f1, f2, f3, f4, g1, g2, g3, g4, m1, m2, m3, m4, p1, p2, p3, p4, l1, l2, l3, k1, k2, k3, a2, a3, b1, b3, c1, c2, ll, lt1, lt2, lt3, tbC, kR, objFz_lR, objFz_oR]
                      · have hgt : (60 : Int) < ((crossL rows parts).length : Nat) := by omega
                        have hPn := partsT_many (ms := ms.drop (q + 1)) (show (subT w d m S2).1 = some parts by rw [hR]; exact hr) hl60
                        rw [← hPq, hR] at hPn
                        rw [candT_bad (S' := R.2) (by rw [hadd, hPn]; rfl)] at heq
                        clear hPq
                        subst heq
                        simp -dsimp only [go_sem, hat, et, List.length_map, txts_len, hgt]
                        exact fin_tb hd (by simp -dsimp only [go_sem]) (by simp -dsimp only [go_sem, Option.getD_none, Option.isSome_none, Option.getD_some, Option.isSome_some, List.map_nil, f1, f2, f3, f4, g1, g2, g3, g4, m1, m2, m3, m4, p1, p2, p3, p4, l1, l2, l3, k1, k2, k3, a2, a3, b1, b3, c1, c2, ll, lt1, lt2, lt3]) (by simp -dsimp only [go_sem, tbH, f1, f2, f3, f4, g1, g2, g3, g4, m1, m2, m3, m4, p1, p2, p3, p4, l1, l2, l3, k1, k2, k3, a2, a3, b1, b3, c1, c2, ll, lt1, lt2, lt3, tbC, kR, objFz_lR, objFz_oR]) (by simp -dsimp only [go_sem, tbH, f1, f2, f3, f4, g1, g2, g3, g4, m1, m2, m3, m4, p1, p2, p3, p4, l1, l2, l3, k1, k2, k3, a2, a3, b1, b3, c1, c2, ll, lt1, lt2, lt3, tbC, kR, objFz_lR, objFz_oR]) (by simp -dsimp only [go_sem, tbH, f1, f2, f3, f4, g1, g2, g3, g4, m1, m2, m3, m4, p1, p2, p3, p4, l1, l2, l3, k1, k2, k3, a2, a3, b1, b3, c1, c2, ll, lt1, lt2, lt3, tbC, kR, objFz_lR, objFz_oR]) (by simp -dsimp only [go_sem, tbH, f1, f2, f3, f4, g1, g2, g3, g4, m1, m2, m3, m4, p1, p2, p3, p4, l1, l2, l3, k1, k2, k3, a2, a3, b1, b3, c1, c2, ll, lt1, lt2, lt3, tbC, kR, objFz_lR, objFz_oR])
              · have hqm : q = ms.length := by omega
                rw [List.drop_of_length_le (by omega)] at hPq
                have hPq : P = (some rows, S2) := hPq
                have hS2l : S2.length + (C.length - (j + 1)) * (3 * bT d) ≤ 2000000000 := by
                  rw [hPq] at hadL
                  have hadL : S2.length ≤ S1.length + 3 * bT d := hadL
                  omega
                simp -dsimp only [go_sem, hqt, List.length_map, txts_len]
                refine loop_ruleH [0, 1, 1, 3, 3, 20, 0, 0, 78, 0] (fun (c : {c : Nat // c ≤ rows.length ∧ ∀ r ∈ rows.take c, (dictT k r).length ≤ 1200}) H => ([(9, .so (h.n + 1) (out ++ (rows.take c.1).map (dictT k)).length (out ++ (rows.take c.1).map (dictT k)).length), (116, .v (.int .i64 (c.1 : Nat)))], ⟨h.n + 2, upd (upd (tbH l t1 t2 t3 w S2 h.o) h.n (.cells [.sl (w.cs.map Cls.row), .sl (w.is.map Inst.row)])) (h.n + 1) (.rows 9 1 ((out ++ (rows.take c.1).map (dictT k)).map sRow))⟩)) (fun c => rows.length - c.1) ⟨0, Nat.zero_le _, fun r hr => by simp at hr⟩ ?_ ?_
                · refine weak_objs [l, t1, t2, t3, h.n, h.n + 1] (by simp -dsimp only [go_sem]) (by simp -dsimp only [go_sem]) (by simp -dsimp only [go_sem, f1, f2, f3, f4, g1, g2, g3, g4, m1, m2, m3, m4, p1, p2, p3, p4, l1, l2, l3, k1, k2, k3, a2, a3, b1, b3, c1, c2, ll, lt1, lt2, lt3, List.take_zero, List.map_nil, List.append_nil]) ?_ ?_ ?_
                  · exact fun x q1 q2 => by
                      have q1 : x < h.n := q1
                      simp only [List.mem_cons, List.not_mem_nil, or_false, not_or] at q2
                      obtain ⟨r1, r2, r3, r4⟩ := q2
                      have r5 : ¬ x = h.n := by omega
                      have r6 : ∀ k, ¬ x = h.n + k := fun k => by omega
                      simp -dsimp only [go_sem, tbH, r1, r2, r3, r4, r5, r6]
                  · exact fun x q1 q2 => by
                      have q1 : x < h.n + 2 := q1
                      simp only [List.mem_cons, List.not_mem_nil, or_false] at q2 ⊢
                      rcases q2 with (r | r | r | r) | r
                      · exact .inr (.inr (.inr (.inl r)))
                      · exact .inr (.inr (.inl r))
                      · exact .inr (.inl r)
                      · exact .inl r
                      · have r : h.n ≤ x := r
                        omega
                  · simp -dsimp only [go_sem, tbH, f1, f2, f3, f4, g1, g2, g3, g4, m1, m2, m3, m4, p1, p2, p3, p4, l1, l2, l3, k1, k2, k3, a2, a3, b1, b3, c1, c2, ll, lt1, lt2, lt3, tbC, kR, objFz_lR, objFz_oR, List.take_zero, List.map_nil, List.append_nil]
                · rintro ⟨c, hc, hsh⟩
                  have hc : c ≤ rows.length := hc
                  have hsh : ∀ r ∈ rows.take c, (dictT k r).length ≤ 1200 := hsh
                  have hc1 : c + 1 ≤ 9223372036854775807 := by omega
                  by_cases hct : c < rows.length
                  · obtain ⟨r, hrc⟩ := get_some hct
                    have hrt : (txts k rows)[c]? = some (rowTxt k r) := by unfold txts; rw [List.getElem?_map, hrc]; rfl
                    have hrl := hrw r (List.mem_of_getElem? hrc)
                    have hrl1 : (rowTxt k r).length ≤ 4000 := by
                      have := hrl.2
                      unfold rowTxt digitL
                      simp only [List.length_append, List.length_cons, List.length_nil]
                      omega
                    have hs1 : (rowTxt k r).length + 1 ≤ 9223372036854775807 := by omega
                    have hdt : dictT k r = if (0 : Int) < (ms.length : Nat) then rowTxt k r ++ [41] else rowTxt k r := by
                      unfold dictT rowTxt
                      rw [hrl.1, hqm]
                      by_cases h0 : ms.length = 0
                      · rw [if_pos h0, if_neg (by omega), List.append_nil]
                      · rw [if_neg h0, if_pos (by omega)]
                    have hO : (out ++ (rows.take c).map (dictT k)).length ≤ 120 := by
                      rw [List.length_append, List.length_map, List.length_take]; omega
                    have hnx : (out ++ (rows.take (c + 1)).map (dictT k)) = (out ++ (rows.take c).map (dictT k)) ++ [dictT k r] := by
                      rw [take_next hrc, List.map_append, List.append_assoc]; rfl
                    generalize hOd : (out ++ (rows.take c).map (dictT k)) = O at hO hnx
                    have hlz : out.length + (rows.take (c + 1)).length = O.length + 1 := by have := congrArg List.length hnx; simp only [List.length_append, List.length_map, List.length_cons, List.length_nil] at this; omega
                    have hmz : out.map sRow ++ ((rows.take (c + 1)).map (dictT k)).map sRow = O.map sRow ++ [[str (dictT k r)]] := by rw [← List.map_append, hnx, List.map_append]; rfl
                    have hO16 : (O.length + 1) * 16 ≤ 140737488355328 := by omega
                    first | rw [if_pos q1] at hdt | rw [if_neg q1] at hdt
                    simp -dsimp only [go_sem, hct, hrt, q1, hs1, List.getElem?_map, Option.map_some, sRow, List.length_map]
                    have hz := congrArg List.length hdt
                    try simp only [List.length_append, List.length_cons, List.length_nil, Nat.zero_add] at hz
                    rw [← hdt]
                    by_cases hd12 : (dictT k r).length ≤ 1200
                    · have hgt : ¬ (1200 : Int) < ((dictT k r).length : Nat) := by omega
                      have hgtz := hgt
                      rw [hz] at hgtz
                      simp -dsimp only [go_sem, hgt, hgtz, hOd, hO16, hc1, f1, f2, f3, f4, g1, g2, g3, g4, m1, m2, m3, m4, p1, p2, p3, p4, l1, l2, l3, k1, k2, k3, a2, a3, b1, b3, c1, c2, ll, lt1, lt2, lt3]
                      refine round_to ⟨c + 1, hct, fun x hx => ?_⟩ (by simp; omega) ?_
                      · rw [take_next hrc] at hx
                        rcases List.mem_append.1 hx with hx | hx
                        · exact hsh x hx
                        · rw [List.mem_singleton.1 hx]; exact hd12
                      · refine weak_objs [l, t1, t2, t3, h.n, h.n + 1] (by simp -dsimp only [go_sem]) (by simp -dsimp only [go_sem]) (by simp -dsimp only [go_sem, f1, f2, f3, f4, g1, g2, g3, g4, m1, m2, m3, m4, p1, p2, p3, p4, l1, l2, l3, k1, k2, k3, a2, a3, b1, b3, c1, c2, ll, lt1, lt2, lt3, hlz]) ?_ ?_ ?_
                        · exact fun x q1 q2 => by
                            have q1 : x < h.n := q1
                            simp only [List.mem_cons, List.not_mem_nil, or_false, not_or] at q2
                            obtain ⟨r1, r2, r3, r4⟩ := q2
                            have r5 : ¬ x = h.n := by omega
                            have r6 : ∀ k, ¬ x = h.n + k := fun k => by omega
                            simp -dsimp only [go_sem, tbH, r1, r2, r3, r4, r5, r6]
                        · exact fun x q1 q2 => by
                            have q1 : x < h.n + 2 := q1
                            simp only [List.mem_cons, List.not_mem_nil, or_false] at q2 ⊢
                            rcases q2 with (r | r | r | r) | r
                            · exact .inr (.inr (.inr (.inl r)))
                            · exact .inr (.inr (.inl r))
                            · exact .inr (.inl r)
                            · exact .inl r
                            · have r : h.n ≤ x := r
                              omega
                        · simp -dsimp only [go_sem, tbH, f1, f2, f3, f4, g1, g2, g3, g4, m1, m2, m3, m4, p1, p2, p3, p4, l1, l2, l3, k1, k2, k3, a2, a3, b1, b3, c1, c2, ll, lt1, lt2, lt3, tbC, kR, objFz_lR, objFz_oR, hmz, sRow]
                    · have hgt : (1200 : Int) < ((dictT k r).length : Nat) := by omega
                      rw [candT_bad (S' := S2) (by rw [hadd, hPq]; show (rowsT k (some rows), S2) = _; rw [rowsT_bad (List.mem_of_getElem? hrc) hd12])] at heq
                      clear hPq
                      subst heq
                      have hgtz := hgt
                      rw [hz] at hgtz
                      simp -dsimp only [go_sem, hgt, hgtz]
                      exact fin_tb hd (by simp -dsimp only [go_sem]) (by simp -dsimp only [go_sem, Option.getD_none, Option.isSome_none, Option.getD_some, Option.isSome_some, List.map_nil, f1, f2, f3, f4, g1, g2, g3, g4, m1, m2, m3, m4, p1, p2, p3, p4, l1, l2, l3, k1, k2, k3, a2, a3, b1, b3, c1, c2, ll, lt1, lt2, lt3]) (by simp -dsimp only [go_sem, tbH, f1, f2, f3, f4, g1, g2, g3, g4, m1, m2, m3, m4, p1, p2, p3, p4, l1, l2, l3, k1, k2, k3, a2, a3, b1, b3, c1, c2, ll, lt1, lt2, lt3, tbC, kR, objFz_lR, objFz_oR]) (by simp -dsimp only [go_sem, tbH, f1, f2, f3, f4, g1, g2, g3, g4, m1, m2, m3, m4, p1, p2, p3, p4, l1, l2, l3, k1, k2, k3, a2, a3, b1, b3, c1, c2, ll, lt1, lt2, lt3, tbC, kR, objFz_lR, objFz_oR]) (by simp -dsimp only [go_sem, tbH, f1, f2, f3, f4, g1, g2, g3, g4, m1, m2, m3, m4, p1, p2, p3, p4, l1, l2, l3, k1, k2, k3, a2, a3, b1, b3, c1, c2, ll, lt1, lt2, lt3, tbC, kR, objFz_lR, objFz_oR]) (by simp -dsimp only [go_sem, tbH, f1, f2, f3, f4, g1, g2, g3, g4, m1, m2, m3, m4, p1, p2, p3, p4, l1, l2, l3, k1, k2, k3, a2, a3, b1, b3, c1, c2, ll, lt1, lt2, lt3, tbC, kR, objFz_lR, objFz_oR])
                  · have et : rows.take c = rows := List.take_of_length_le (by omega)
                    rw [et] at hsh
                    have hro := rowsT_ok (i := k) hsh
                    by_cases ho60 : (out ++ rows.map (dictT k)).length ≤ 60
                    · have hgt : ¬ (60 : Int) < ((out ++ rows.map (dictT k)).length : Nat) := by omega
                      rw [candT_more (S' := S2) (l := rows.map (dictT k)) (by rw [hadd, hPq]; show (rowsT k (some rows), S2) = _; rw [hro]) ho60] at heq
                      have hgt2 : ¬ (60 : Int) < ((out.length + rows.length : Nat) : Int) := by rw [List.length_append, List.length_map] at ho60; omega
                      simp -dsimp only [go_sem, hct, et, hgt, hgt2, hj1, List.length_append, List.length_map]
                      refine round_to ⟨(j + 1, out ++ rows.map (dictT k), S2), hlt, heq, hS2, hS2l, ho60⟩ (by simp; omega) ?_
                      refine weak_objs [l, t1, t2, t3, h.n, h.n + 1] (by simp -dsimp only [go_sem]) (by simp -dsimp only [go_sem]) (by simp -dsimp only [go_sem, f1, f2, f3, f4, g1, g2, g3, g4, m1, m2, m3, m4, p1, p2, p3, p4, l1, l2, l3, k1, k2, k3, a2, a3, b1, b3, c1, c2, ll, lt1, lt2, lt3, List.length_append, List.length_map]) ?_ ?_ ?_
                      · exact fun x q1 q2 => by
                          have q1 : x < h.n := q1
                          simp only [List.mem_cons, List.not_mem_nil, or_false, not_or] at q2
                          obtain ⟨r1, r2, r3, r4⟩ := q2
                          have r5 : ¬ x = h.n := by omega
                          have r6 : ∀ k, ¬ x = h.n + k := fun k => by omega
                          simp -dsimp only [go_sem, tbH, r1, r2, r3, r4, r5, r6]
                      · exact fun x q1 q2 => by
                          have q1 : x < h.n + 2 := q1
                          simp only [List.mem_cons, List.not_mem_nil, or_false] at q2 ⊢
                          rcases q2 with (r | r | r | r) | r
                          · exact .inr (.inr (.inr (.inl r)))
                          · exact .inr (.inr (.inl r))
                          · exact .inr (.inl r)
                          · exact .inl r
                          · have r : h.n ≤ x := r
                            omega
                      · simp -dsimp only [go_sem, tbH, f1, f2, f3, f4, g1, g2, g3, g4, m1, m2, m3, m4, p1, p2, p3, p4, l1, l2, l3, k1, k2, k3, a2, a3, b1, b3, c1, c2, ll, lt1, lt2, lt3, tbC, kR, objFz_lR, objFz_oR]
                    · have hgt : (60 : Int) < ((out ++ rows.map (dictT k)).length : Nat) := by omega
                      rw [candT_many (S' := S2) (l := rows.map (dictT k)) (by rw [hadd, hPq]; show (rowsT k (some rows), S2) = _; rw [hro]) ho60] at heq
                      clear hPq
                      subst heq
                      have hgt2 : (60 : Int) < ((out.length + rows.length : Nat) : Int) := by rw [List.length_append, List.length_map] at ho60; omega
                      simp -dsimp only [go_sem, hct, et, hgt, hgt2, List.length_append, List.length_map]
                      exact fin_tb hd (by simp -dsimp only [go_sem]) (by simp -dsimp only [go_sem, Option.getD_none, Option.isSome_none, Option.getD_some, Option.isSome_some, List.map_nil, f1, f2, f3, f4, g1, g2, g3, g4, m1, m2, m3, m4, p1, p2, p3, p4, l1, l2, l3, k1, k2, k3, a2, a3, b1, b3, c1, c2, ll, lt1, lt2, lt3]) (by simp -dsimp only [go_sem, tbH, f1, f2, f3, f4, g1, g2, g3, g4, m1, m2, m3, m4, p1, p2, p3, p4, l1, l2, l3, k1, k2, k3, a2, a3, b1, b3, c1, c2, ll, lt1, lt2, lt3, tbC, kR, objFz_lR, objFz_oR]) (by simp -dsimp only [go_sem, tbH, f1, f2, f3, f4, g1, g2, g3, g4, m1, m2, m3, m4, p1, p2, p3, p4, l1, l2, l3, k1, k2, k3, a2, a3, b1, b3, c1, c2, ll, lt1, lt2, lt3, tbC, kR, objFz_lR, objFz_oR]) (by simp -dsimp only [go_sem, tbH, f1, f2, f3, f4, g1, g2, g3, g4, m1, m2, m3, m4, p1, p2, p3, p4, l1, l2, l3, k1, k2, k3, a2, a3, b1, b3, c1, c2, ll, lt1, lt2, lt3, tbC, kR, objFz_lR, objFz_oR]) (by simp -dsimp only [go_sem, tbH, f1, f2, f3, f4, g1, g2, g3, g4, m1, m2, m3, m4, p1, p2, p3, p4, l1, l2, l3, k1, k2, k3, a2, a3, b1, b3, c1, c2, ll, lt1, lt2, lt3, tbC, kR, objFz_lR, objFz_oR])
    · have ed : C.drop j = [] := List.drop_of_length_le (by omega)
      rw [ed] at heq
      have heq : T = (some out, S1) := heq
      subst heq
      simp -dsimp only [go_sem, hlt]
      exact fin_tb hd (by simp -dsimp only [go_sem]) (by simp -dsimp only [go_sem, Option.getD_none, Option.isSome_none, Option.getD_some, Option.isSome_some, List.map_nil, f1, f2, f3, f4, g1, g2, g3, g4, m1, m2, m3, m4, p1, p2, p3, p4, l1, l2, l3, k1, k2, k3, a2, a3, b1, b3, c1, c2, ll, lt1, lt2, lt3]) (by simp -dsimp only [go_sem, tbH, f1, f2, f3, f4, g1, g2, g3, g4, m1, m2, m3, m4, p1, p2, p3, p4, l1, l2, l3, k1, k2, k3, a2, a3, b1, b3, c1, c2, ll, lt1, lt2, lt3, tbC, kR, objFz_lR, objFz_oR]) (by simp -dsimp only [go_sem, tbH, f1, f2, f3, f4, g1, g2, g3, g4, m1, m2, m3, m4, p1, p2, p3, p4, l1, l2, l3, k1, k2, k3, a2, a3, b1, b3, c1, c2, ll, lt1, lt2, lt3, tbC, kR, objFz_lR, objFz_oR]) (by simp -dsimp only [go_sem, tbH, f1, f2, f3, f4, g1, g2, g3, g4, m1, m2, m3, m4, p1, p2, p3, p4, l1, l2, l3, k1, k2, k3, a2, a3, b1, b3, c1, c2, ll, lt1, lt2, lt3, tbC, kR, objFz_lR, objFz_oR]) (by simp -dsimp only [go_sem, tbH, f1, f2, f3, f4, g1, g2, g3, g4, m1, m2, m3, m4, p1, p2, p3, p4, l1, l2, l3, k1, k2, k3, a2, a3, b1, b3, c1, c2, ll, lt1, lt2, lt3, tbC, kR, objFz_lR, objFz_oR])
end Go.Proofs.YtiphcdmjlkngfaaGreatDoor

namespace Go.Proofs.YtiphcdmjlkngfaaGreatDoor
open Go Go.Isea
set_option maxRecDepth 100000
set_option maxHeartbeats 16000000
theorem objFz_kR {S : TbL} {h : AH} {m : Nat} : ObjFz h m (.rows 9 1 (kR S)) (.rows 9 1 (kR S)) := of_eq_true (objFz_r puR_kR)
theorem s_all_step {w : Wld} (hok : worldOk w = true) (hw : w.Sm) {d : Nat} (hd6 : d ≤ 6) (hm : MadeOkS w d) : AllOkS w d := by
  intro l t1 t2 t3 n S h hd ha hn hS hb
  have hb' : S.length + 30 * bT d + 1 ≤ 2000000000 := hb
  have hK := fun H => s_l7Key n d H hn.2 (nok_c hok hn) (by omega)
  have hk := hS.key hok hn (d := d) (by omega)
  have hAt := s_at n d h ha hk (by omega)
  have hM := hm l t1 t2 t3 n S h hd ha hn hS (by omega)
  have eA := allT_eq w d n S
  have hcl : (madeT w d n S).2.length ≤ S.length + 30 * bT d := by
    have h1 := candT_len hok hw (subT_ok hok hw d (by omega)) (d := d) (n := n) (candIx w n) [] S
    have h2 : (candIx w n).length * (3 * bT d) ≤ 10 * (3 * bT d) := Nat.mul_le_mul_right _ (cand_len10 hok n)
    unfold madeT
    omega
  have eM : candT w (subT w d) d n (candIx w n) [] S = madeT w d n S := rfl
  rw [eM] at eA
  generalize madeT w d n S = R at hM eA hcl
  generalize hT : allT w d n S = T at eA ⊢
  clear hT
  unfold keepT at eA
  have hP := fun H hat => s_put n d R.1 H hd hat (S := R.2) (w := w) (by omega)
  have hat2 := AtT.of (S' := R.2) hd ha
  have ha' := ha
  obtain ⟨ll, lt1, lt2, lt3, ol, o1, o2, o3⟩ := ha
  have ol' := ol
  simp only [tbC] at ol
  have hd' := hd
  obtain ⟨l1, l2, l3, k1, k2, k3, a2, a3, b1, b3, c1, c2⟩ := hd
  refine good [] [] Tryz.func79 rfl rfl Tryz.ntmps79 (by kernel_rfl) mixed (by kernel_rfl) ?_
  simp -dsimp only [go_sem, Need.row] at hK hM ⊢
  refine call_pure (hK _) ?_
  simp -dsimp only [go_sem]
  refine call_pure hAt ?_
  rcases opt_cases (tbF S n d) with e | ⟨a, e⟩
  · rw [e] at eA
    have eA : T = (R.1, R.2 ++ [((n, d), R.1)]) := eA
    subst eA
    rw [tbI_none e]
    have c0 : ¬ (0 : Int) ≤ -1 := by omega
    simp -dsimp only [go_sem, c0]
    refine call_turn hM (fun t ht _ => .inr ht) (fun t ht => by cases ht) ?_
    simp -dsimp only [go_sem]
    refine call_turn (hP _ hat2) (fun t ht _ => .inr ht) (fun t ht => by cases ht) ?_
    simp -dsimp only [go_sem]
    exact fin_tb hd' (by simp -dsimp only [go_sem]) (by simp -dsimp only [go_sem]) (by simp -dsimp only [go_sem, tbH, tbC, l1, l2, l3, k1, k2, k3, a2, a3, b1, b3, c1, c2, ll, lt1, lt2, lt3]) (by simp -dsimp only [go_sem, tbH, objFz_kR, l1, l2, l3, k1, k2, k3, a2, a3, b1, b3, c1, c2, ll, lt1, lt2, lt3]) (by simp -dsimp only [go_sem, tbH, objFz_lR, l1, l2, l3, k1, k2, k3, a2, a3, b1, b3, c1, c2, ll, lt1, lt2, lt3]) (by simp -dsimp only [go_sem, tbH, objFz_oR, l1, l2, l3, k1, k2, k3, a2, a3, b1, b3, c1, c2, ll, lt1, lt2, lt3])
  · rw [e] at eA
    have eA : T = (a, S) := eA
    subst eA
    obtain ⟨i, x, h1, h2, h3⟩ := tbI_some e (j := 0)
    rw [h1, Nat.zero_add]
    have hi : i < S.length := (List.getElem?_eq_some_iff.1 h2).1
    have c0 : (0 : Int) ≤ ((i : Nat) : Int) := by omega
    have hll : (lR S).length = S.length := by unfold lR; rw [List.length_map]
    have hol : (oR S).length = S.length := by unfold oR; rw [List.length_map]
    have hli : (lR S)[i]? = some [.sl ((a.getD []).map sRow)] := by unfold lR; rw [List.getElem?_map, h2, ← h3]; rfl
    have hoi : (oR S)[i]? = some [.v (.bool a.isSome)] := by unfold oR; rw [List.getElem?_map, h2, ← h3]; rfl
    simp -dsimp only [go_sem, c0, hi, ll, lt1, lt2, lt3, ol, o2, o3, hll, hol, hli, hoi, al_lR, al_oR]
    exact fin_tb hd' (by simp -dsimp only [go_sem]) (by simp -dsimp only [go_sem, fz_slS]) (by rw [ol']; simp -dsimp only [go_sem, tbC, ll, lt1, lt2, lt3]) (by rw [o1]; exact objFz_kR) (by rw [o2]; exact objFz_lR) (by rw [o3]; exact of_eq_true (objFz_r puR_oR))
theorem s_all {w : Wld} (hok : worldOk w = true) (hw : w.Sm) : ∀ d, d ≤ 6 → AllOkS w d
  | 0, h => s_all_step hok hw h (s_made_step hok hw h fun e he => by cases he)
  | d + 1, h => s_all_step hok hw h (s_made_step hok hw h fun e he => by cases he; exact s_all hok hw d (by omega))
theorem s_all_first {w : Wld} (hok : worldOk w = true) (hw : w.Sm) (d : Nat) (hd6 : d ≤ 6) (l : Nat) (n : Need) (h : AH) (hl : l < h.n) (hn : NOk w n)
    (ho : h.o l = .cells [.sl (w.cs.map Cls.row), .sl (w.is.map Inst.row), .v (.slice none 0 0), .v (.slice none 0 0), .v (.slice none 0 0)]) :
    ∃ o', Isea.Good Tryz.prog 79 [.ptr l 0, .agg n.row, .v (.int .i64 (d : Nat))] h [l] (.tup [.sl (((allD w d n).getD []).map sRow), .v (.bool (allD w d n).isSome)]) ⟨h.n + 3, o'⟩ := by
  have e0 : ¬ l = h.n := by omega
  have e1 : ¬ l = h.n + 1 := by omega
  have e2 : ¬ l = h.n + 2 := by omega
  have hd : Dis l h.n (h.n + 1) (h.n + 2) := by constructor <;> omega
  have hval := (subT_ok hok hw (d + 1) (by omega)).val n [] hn TbOk.nil
  have hval : (allT w d n []).1 = allD w d n := hval
  have hB : bT (d + 1) ≤ 1000000000 := bT_le (d + 1) (by omega)
  let c1 : List AV := [.sl (w.cs.map Cls.row), .sl (w.is.map Inst.row), .so h.n 0 0, .v (.slice none 0 0), .v (.slice none 0 0)]
  let c2 : List AV := [.sl (w.cs.map Cls.row), .sl (w.is.map Inst.row), .so h.n 0 0, .so (h.n + 1) 0 0, .v (.slice none 0 0)]
  let c3 : List AV := [.sl (w.cs.map Cls.row), .sl (w.is.map Inst.row), .so h.n 0 0, .so (h.n + 1) 0 0, .so (h.n + 2) 0 0]
  let m1 : AH := ⟨h.n + 1, upd (upd h.o l (.cells c1)) h.n (.rows 9 1 [])⟩
  let m2 : AH := ⟨h.n + 2, upd (upd m1.o l (.cells c2)) (h.n + 1) (.rows 41 1 [])⟩
  let m3 : AH := ⟨h.n + 3, upd (upd m2.o l (.cells c3)) (h.n + 2) (.rows 4 1 [])⟩
  have hA := s_all hok hw d hd6 l h.n (h.n + 1) (h.n + 2) n [] m3 hd ⟨by show l < h.n + 3; omega, by show h.n < h.n + 3; omega, by show h.n + 1 < h.n + 3; omega, by show h.n + 2 < h.n + 3; omega,
    by show upd (upd _ l _) (h.n + 2) _ l = _; rw [upd_ne _ _ e2, upd_same]; rfl,
    by show upd (upd (upd (upd (upd (upd _ l _) h.n _) l _) (h.n + 1) _) l _) (h.n + 2) _ h.n = _; rw [upd_ne _ _ (by omega), upd_ne _ _ (by omega), upd_ne _ _ (by omega), upd_ne _ _ (by omega), upd_same]; rfl,
    by show upd (upd (upd (upd _ l _) (h.n + 1) _) l _) (h.n + 2) _ (h.n + 1) = _; rw [upd_ne _ _ (by omega), upd_ne _ _ (by omega), upd_same]; rfl,
    upd_same _ _ _⟩ hn TbOk.nil (by simp only [List.length_nil]; omega)
  rw [hval] at hA
  have g2 := Good.ghostT (h := m2) (e := 4) (sz := 1) (cs := c2) (cs' := c3) (T := [h.n + 1, h.n, l]) (by decide) (by simp) (show l < h.n + 2 by omega) (by show upd (upd _ l _) (h.n + 1) _ l = _; rw [upd_ne _ _ e1, upd_same]) rfl
    (fun i x y q1 q2 => by rcases i with _ | _ | _ | _ | _ | i <;> simp [c2, c3] at q1 q2 <;> subst q1 <;> subst q2 <;> simp [m2, m1]) hA
  have g1 := Good.ghostT (h := m1) (e := 41) (sz := 1) (cs := c1) (cs' := c2) (T := [h.n, l]) (by decide) (by simp) (show l < h.n + 1 by omega) (by show upd (upd _ l _) h.n _ l = _; rw [upd_ne _ _ e0, upd_same]) rfl
    (fun i x y q1 q2 => by rcases i with _ | _ | _ | _ | _ | i <;> simp [c2, c1] at q1 q2 <;> subst q1 <;> subst q2 <;> simp [m1]) g2
  have g0 := Good.ghostT (h := h) (e := 9) (sz := 1) (cs := [.sl (w.cs.map Cls.row), .sl (w.is.map Inst.row), .v (.slice none 0 0), .v (.slice none 0 0), .v (.slice none 0 0)]) (cs' := c1) (T := [l]) (by decide) (by simp) hl ho rfl
    (fun i x y q1 q2 => by rcases i with _ | _ | _ | _ | _ | i <;> simp [c1] at q1 q2 <;> subst q1 <;> subst q2 <;> simp) g1
  exact ⟨_, g0⟩
theorem s_AllDicts (w : Wld) (n : Need) (d : Int) (h : AH) (hw : w.Sm) (hn : n.Sm) (hd : -9223372036854775808 ≤ d ∧ d ≤ 9223372036854775807) (hc : w.cs.length ≤ 1048576) (hi : w.is.length ≤ 1048576) (hio : ∀ i ∈ w.is, i.Ok) :
    Isea.Good Tryz.prog 21 [.agg w.row, .agg n.row, .v (.int .i64 d)] h [] (.tup [.sl (((allDicts w n d).getD []).map sRow), .v (.bool (allDicts w n d).isSome)]) h := by
  have hO := fun H => s_l13OwnWorld w H (by omega) (by omega) (fun i h => Nat.le_trans (show i.ns.length ≤ 1048576 from hio i h) (by decide))
  have hAs := fun H => s_l7Asked w n d H hw hn
  unfold allDicts
  by_cases hc : (worldOk w && needOk w n) = true ∧ 0 ≤ d ∧ d ≤ 6
  · rw [decide_eq_true hc] at hAs
    rw [if_pos hc]
    obtain ⟨e, rfl⟩ : ∃ e : Nat, d = (e : Int) := ⟨d.toNat, by omega⟩
    have hb := hc.1
    rw [Bool.and_eq_true] at hb
    have hF := fun H hl ho => s_all_first hb.1 hw e (by omega) (h.n + 1) n H hl (nok_of hb.2 hn) ho
    rw [Int.toNat_natCast]
    generalize allD w e n = r at hF ⊢
    refine good [3, 19] [] Tryz.func21 rfl rfl Tryz.ntmps21 (by kernel_rfl) mixed (by kernel_rfl) ?_
    simp -dsimp only [go_sem, Wld.row, Need.row] at hO hAs hF ⊢
    refine call_pure (hO _) ?_
    simp -dsimp only [go_sem]
    refine call_pure (hAs _) ?_
    simp -dsimp only [go_sem]
    refine call_gen fun M hM => ?_
    have b1 : M.n = h.n + 2 := by rw [hM]
    have b2 : M.o (h.n + 1) = .cells [.sl (w.cs.map Cls.row), .sl (w.is.map Inst.row), .v (.slice none 0 0), .v (.slice none 0 0), .v (.slice none 0 0)] := by rw [hM]; exact upd_same _ _ _
    clear hM
    obtain ⟨o', hG⟩ := hF M (by omega) b2
    refine call_one hG (.inl (Nat.le_succ _)) (by simp) ?_
    simp -dsimp only [go_sem]
    exact fin_pure (by show h.n ≤ M.n + 3; omega) (by simp -dsimp only [go_sem])
  · rw [decide_eq_false hc] at hAs
    rw [if_neg hc]
    refine good [3] [] Tryz.func21 rfl rfl Tryz.ntmps21 (by kernel_rfl) mixed (by kernel_rfl) ?_
    simp -dsimp only [go_sem, Wld.row, Need.row] at hO hAs ⊢
    refine call_pure (hO _) ?_
    simp -dsimp only [go_sem]
    refine call_pure (hAs _) ?_
    simp -dsimp only [go_sem]
    exact fin_pure (by simp -dsimp only [go_sem]) (by simp -dsimp only [go_sem, Option.getD_none, Option.isSome_none, List.map_nil])
end Go.Proofs.YtiphcdmjlkngfaaGreatDoor
