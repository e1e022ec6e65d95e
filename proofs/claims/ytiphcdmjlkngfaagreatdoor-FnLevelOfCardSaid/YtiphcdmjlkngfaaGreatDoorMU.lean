/- Contracts of functions of this program, for all arguments that satisfy what each lemma asks for. -/
import Derived.Test.YtiphcdmjlkngfaaGreatDoorMy
import Derived.Test.YtiphcdmjlkngfaaGreatDoorMS
import Derived.Test.YtiphcdmjlkngfaaGreatDoorMA
set_option linter.all false
namespace Go.Isea
open Go
theorem anyN_skip {w : Wld} {fd : FbT} {d i : Nat} {n : Need} {is : List Nat} {S S' : TbB} (h : oneN w fd d n i S = (false, S')) : anyN w fd d n (i :: is) S = anyN w fd d n is S' := by rw [anyN, h]; rfl
theorem anyN_hit {w : Wld} {fd : FbT} {d i : Nat} {n : Need} {is : List Nat} {S S' : TbB} (h : oneN w fd d n i S = (true, S')) : anyN w fd d n (i :: is) S = (true, S') := by rw [anyN, h]; rfl
theorem oneN_no {w : Wld} {fd : FbT} {d i : Nat} {n : Need} {S : TbB} {x : Inst} (hx : w.is[i]? = some x) (hm : needsOf x n.t = none) : oneN w fd d n i S = (false, S) := by unfold oneN; rw [hx]; simp only; rw [hm]
theorem oneN_low' {w : Wld} {fd : FbT} {d i : Nat} {n : Need} {S : TbB} {x : Inst} {ms : List Need} (hx : w.is[i]? = some x) (hm : needsOf x n.t = some ms) (hl : 0 < ms.length ∧ d = 0) : oneN w fd d n i S = (false, S) := by unfold oneN; rw [hx]; simp only; rw [hm]; simp only; rw [if_pos hl]
theorem oneN_all {w : Wld} {fd : FbT} {d i : Nat} {n : Need} {S : TbB} {x : Inst} {ms : List Need} (hx : w.is[i]? = some x) (hm : needsOf x n.t = some ms) (hl : ¬ (0 < ms.length ∧ d = 0)) : oneN w fd d n i S = allN fd ms S := by unfold oneN; rw [hx]; simp only; rw [hm]; simp only; rw [if_neg hl]
theorem allN_cons {fd : FbT} {m : Need} {ms : List Need} {S : TbB} : allN fd (m :: ms) S = if (fd m S).1 = true then allN fd ms (fd m S).2 else (false, (fd m S).2) := rfl
section
variable {P : Program} {k : FuncId} {args args' : List AV} {h h' : AH} {T : List Nat} {r : AV}
/-- a contract at arguments that say less serves at arguments that say more -/
theorem Good.asArgs (hg : Isea.Good P k args' h T r h') (hr : ∀ (K : KM) (w : World) (vs : Array Value), RepL K h w args vs → RepL K h w args' vs) : Isea.Good P k args h T r h' :=
  ⟨hg.1, fun K w vs hK hv => hg.2 K w vs hK (hr K w vs hv)⟩
end
end Go.Isea
namespace Go.Proofs.YtiphcdmjlkngfaaGreatDoor
open Go Go.Isea
set_option maxRecDepth 100000
set_option maxHeartbeats 16000000
def HasOkS (w : Wld) (d : Nat) : Prop := ∀ (l t1 t2 t3 : Nat) (n : Need) (S : TbB) (h : AH), Dis l t1 t2 t3 → AtT l t1 t2 t3 w (tbB S) h → NOk w n → TbBOk w S → S.length + bT (d + 1) ≤ 2000000000 →
    Isea.Good Tryz.prog 107 [.ptr l 0, .agg n.row, .v (.int .i64 (d : Nat))] h [t3, t2, t1, l] (.v (.bool (someT w d n S).1)) ⟨h.n, tbH l t1 t2 t3 w (tbB (someT w d n S).2) h.o⟩
def SomeOkS (w : Wld) (d : Nat) : Prop := ∀ (l t1 t2 t3 : Nat) (n : Need) (S : TbB) (h : AH), Dis l t1 t2 t3 → AtT l t1 t2 t3 w (tbB S) h → NOk w n → TbBOk w S → S.length + 30 * bT d ≤ 2000000000 →
    Isea.Good Tryz.prog 175 [.ptr l 0, .agg n.row, .v (.int .i64 (d : Nat))] h [t3, t2, t1, l] (.v (.bool (anyN w (sbB w d) d n (candIx w n) S).1)) ⟨h.n, tbH l t1 t2 t3 w (tbB (anyN w (sbB w d) d n (candIx w n) S).2) h.o⟩
theorem s_some_step {w : Wld} (hok : worldOk w = true) (hw : w.Sm) {d : Nat} (hd6 : d ≤ 6) (ih : ∀ e, d = e + 1 → HasOkS w e) : SomeOkS w d := by
  intro l t1 t2 t3 n S h hd ha hn hS hb
  have hfd := sbB_ok hok hw d (Nat.le_succ_of_le hd6)
  have hc10 := cand_len10 hok n
  have hwl := world_len hok
  have hcand := fun H => s_l4Candidates w n H hw hn.2 (by omega)
  have hmem : ∀ k, k ∈ candIx w n → ∃ i, w.is[k]? = some i ∧ i.c = n.c ∧ (matchS i.t n.t).isSome = true := fun k hk => cand_mem hk
  generalize hT : anyN w (sbB w d) d n (candIx w n) S = T
  generalize hC : candIx w n = C at hcand hc10 hmem hT
  have hb0 : S.length + C.length * (3 * bT d) ≤ 2000000000 := by
    have : C.length * (3 * bT d) ≤ 10 * (3 * bT d) := Nat.mul_le_mul_right _ hc10
    omega
  obtain ⟨ll, lt1, lt2, lt3, ol, o1, o2, o3⟩ := ha
  obtain ⟨l1, l2, l3, k1, k2, k3, a2, a3, b1, b3, c1, c2⟩ := hd
  have hd : Dis l t1 t2 t3 := ⟨l1, l2, l3, k1, k2, k3, a2, a3, b1, b3, c1, c2⟩
  have ol' := ol
  simp only [tbC] at ol
  have f1 : ¬ l = h.n := by omega
  have f2 : ¬ t1 = h.n := by omega
  have f3 : ¬ t2 = h.n := by omega
  have f4 : ¬ t3 = h.n := by omega
  have g1 : ¬ h.n = l := by omega
  have g2 : ¬ h.n = t1 := by omega
  have g3 : ¬ h.n = t2 := by omega
  have g4 : ¬ h.n = t3 := by omega
  have m1 : ∀ k, ¬ l = h.n + k := fun k => by omega
  have m2 : ∀ k, ¬ t1 = h.n + k := fun k => by omega
  have m3 : ∀ k, ¬ t2 = h.n + k := fun k => by omega
  have m4 : ∀ k, ¬ t3 = h.n + k := fun k => by omega
  have p1 : ∀ k, ¬ h.n + k = l := fun k => by omega
  have p2 : ∀ k, ¬ h.n + k = t1 := fun k => by omega
  have p3 : ∀ k, ¬ h.n + k = t2 := fun k => by omega
  have p4 : ∀ k, ¬ h.n + k = t3 := fun k => by omega
  refine good [] [] Tryz.func175 rfl rfl Tryz.ntmps175 (by kernel_rfl) mixed (by kernel_rfl) ?_
  simp -dsimp only [go_sem, Need.row, Wld.row] at hcand
  simp -dsimp only [go_sem, Need.row, Wld.row, ll, ol, f1, g1]
  refine call_pure (hcand _) ?_
  simp -dsimp only [go_sem, List.length_map]
  refine loop_ruleH [0, 1, 1, 2, 13, 0] (fun (y : {y : Nat × TbB // y.1 ≤ C.length ∧ T = anyN w (sbB w d) d n (C.drop y.1) y.2 ∧ TbBOk w y.2 ∧ y.2.length + (C.length - y.1) * (3 * bT d) ≤ 2000000000}) H => ([(23, .v (.int .i64 (y.1.1 : Nat)))], ⟨h.n + 1, upd (tbH l t1 t2 t3 w (tbB y.1.2) h.o) h.n (.cells [.sl (w.cs.map Cls.row), .sl (w.is.map Inst.row)])⟩)) (fun y => C.length - y.1.1) ⟨(0, S), Nat.zero_le _, hT.symm, hS, hb0⟩ ?_ ?_
  · refine weak_objs [l, t1, t2, t3, h.n] (by simp -dsimp only [go_sem]) (by simp -dsimp only [go_sem]) (by simp -dsimp only [go_sem, f1, f2, f3, f4, g1, g2, g3, g4, m1, m2, m3, m4, p1, p2, p3, p4, l1, l2, l3, k1, k2, k3, a2, a3, b1, b3, c1, c2, ll, lt1, lt2, lt3]) ?_ ?_ ?_
    · exact fun x q1 q2 => by
        have q1 : x < h.n := q1
        simp only [List.mem_cons, List.not_mem_nil, or_false, not_or] at q2
        obtain ⟨r1, r2, r3, r4⟩ := q2
        have r5 : ¬ x = h.n := by omega
        have r6 : ∀ k, ¬ x = h.n + k := fun k => by omega
        simp -dsimp only [go_sem, tbH, r1, r2, r3, r4, r5, r6]
    · exact fun x q1 q2 => by
        have q1 : x < h.n + 1 := q1
        simp only [List.mem_cons, List.not_mem_nil, or_false] at q2 ⊢
        rcases q2 with (r | r | r | r) | r
        · exact .inr (.inr (.inr (.inl r)))
        · exact .inr (.inr (.inl r))
        · exact .inr (.inl r)
        · exact .inl r
        · have r : h.n ≤ x := r
          omega
    · simp -dsimp only [go_sem, tbH, f1, f2, f3, f4, g1, g2, g3, g4, m1, m2, m3, m4, p1, p2, p3, p4, l1, l2, l3, k1, k2, k3, a2, a3, b1, b3, c1, c2, ll, lt1, lt2, lt3, tbC, kR, objFz_lR, objFz_oR, ol', o1, o2, o3]
  · rintro ⟨⟨j, S1⟩, hj, heq, hS1, hb1⟩
    have hj : j ≤ C.length := hj
    have heq : T = anyN w (sbB w d) d n (C.drop j) S1 := heq
    have hS1 : TbBOk w S1 := hS1
    have hb1 : S1.length + (C.length - j) * (3 * bT d) ≤ 2000000000 := hb1
    have hj1 : j + 1 ≤ 9223372036854775807 := by omega
    clear hT
    by_cases hlt : j < C.length
    · obtain ⟨k, hk⟩ := get_some hlt
      obtain ⟨x, hx, hxc, hxm⟩ := hmem k (List.mem_of_getElem? hk)
      have hwi := world_inst hok hx
      have h6 := hwi.2.2.2.2.2.1
      clear hwi
      have hxs := hw.i x (List.mem_of_getElem? hx)
      have hN4 := fun H => s_l4Needs x n.t H hxs hn.2.2 (by omega)
      have hbj : (C.length - (j + 1)) * (3 * bT d) + 3 * bT d = (C.length - j) * (3 * bT d) := by
        rw [← Nat.succ_mul]; congr 1; omega
      rw [drop_get hk] at heq
      simp -dsimp only [go_sem, Inst.row] at hN4
      rcases opt_cases (needsOf x n.t) with hN | ⟨ms, hN⟩
      · rw [anyN_skip (oneN_no hx hN)] at heq
        rw [hN] at hN4
        simp -dsimp only [go_sem, hlt, hk, iRow, hx, Inst.row, f1, f2, f3, f4, g1, g2, g3, g4, m1, m2, m3, m4, p1, p2, p3, p4, l1, l2, l3, k1, k2, k3, a2, a3, b1, b3, c1, c2, ll, lt1, lt2, lt3]
        refine call_pure (hN4 _) ?_
        simp -dsimp only [go_sem, needsV, hj1]
        refine round_to ⟨(j + 1, S1), hlt, heq, hS1, by simp only; omega⟩ (by simp; omega) ?_
        refine weak_objs [l, t1, t2, t3, h.n] (by simp -dsimp only [go_sem]) (by simp -dsimp only [go_sem]) (by simp -dsimp only [go_sem, f1, f2, f3, f4, g1, g2, g3, g4, m1, m2, m3, m4, p1, p2, p3, p4, l1, l2, l3, k1, k2, k3, a2, a3, b1, b3, c1, c2, ll, lt1, lt2, lt3]) ?_ ?_ ?_
        · exact fun x q1 q2 => by
            have q1 : x < h.n := q1
            simp only [List.mem_cons, List.not_mem_nil, or_false, not_or] at q2
            obtain ⟨r1, r2, r3, r4⟩ := q2
            have r5 : ¬ x = h.n := by omega
            have r6 : ∀ k, ¬ x = h.n + k := fun k => by omega
            simp -dsimp only [go_sem, tbH, r1, r2, r3, r4, r5, r6]
        · exact fun x q1 q2 => by
            have q1 : x < h.n + 1 := q1
            simp only [List.mem_cons, List.not_mem_nil, or_false] at q2 ⊢
            rcases q2 with (r | r | r | r) | r
            · exact .inr (.inr (.inr (.inl r)))
            · exact .inr (.inr (.inl r))
            · exact .inr (.inl r)
            · exact .inl r
            · have r : h.n ≤ x := r
              omega
        · simp -dsimp only [go_sem, tbH, f1, f2, f3, f4, g1, g2, g3, g4, m1, m2, m3, m4, p1, p2, p3, p4, l1, l2, l3, k1, k2, k3, a2, a3, b1, b3, c1, c2, ll, lt1, lt2, lt3, tbC, kR, objFz_lR, objFz_oR]
      · have hno := needs_ok hok hw hx hN
        have hml := hno.1
        have hmm := hno.2
        clear hno
        rw [hN] at hN4
        by_cases hlow : 0 < ms.length ∧ d = 0
        · rw [anyN_skip (oneN_low' hx hN hlow)] at heq
          have q1 : (0 : Int) < (ms.length : Nat) := by omega
          have q2 : ((d : Nat) : Int) = 0 := by omega
          simp -dsimp only [go_sem, hlt, hk, iRow, hx, Inst.row, f1, f2, f3, f4, g1, g2, g3, g4, m1, m2, m3, m4, p1, p2, p3, p4, l1, l2, l3, k1, k2, k3, a2, a3, b1, b3, c1, c2, ll, lt1, lt2, lt3]
          refine call_pure (hN4 _) ?_
          simp -dsimp only [go_sem, needsV, List.length_map, q1, q2, hj1]
          refine round_to ⟨(j + 1, S1), hlt, heq, hS1, by simp only; omega⟩ (by simp; omega) ?_
          refine weak_objs [l, t1, t2, t3, h.n] (by simp -dsimp only [go_sem]) (by simp -dsimp only [go_sem]) (by simp -dsimp only [go_sem, f1, f2, f3, f4, g1, g2, g3, g4, m1, m2, m3, m4, p1, p2, p3, p4, l1, l2, l3, k1, k2, k3, a2, a3, b1, b3, c1, c2, ll, lt1, lt2, lt3]) ?_ ?_ ?_
          · exact fun x q1 q2 => by
              have q1 : x < h.n := q1
              simp only [List.mem_cons, List.not_mem_nil, or_false, not_or] at q2
              obtain ⟨r1, r2, r3, r4⟩ := q2
              have r5 : ¬ x = h.n := by omega
              have r6 : ∀ k, ¬ x = h.n + k := fun k => by omega
              simp -dsimp only [go_sem, tbH, r1, r2, r3, r4, r5, r6]
          · exact fun x q1 q2 => by
              have q1 : x < h.n + 1 := q1
              simp only [List.mem_cons, List.not_mem_nil, or_false] at q2 ⊢
              rcases q2 with (r | r | r | r) | r
              · exact .inr (.inr (.inr (.inl r)))
              · exact .inr (.inr (.inl r))
              · exact .inr (.inl r)
              · exact .inl r
              · have r : h.n ≤ x := r
                omega
          · simp -dsimp only [go_sem, tbH, f1, f2, f3, f4, g1, g2, g3, g4, m1, m2, m3, m4, p1, p2, p3, p4, l1, l2, l3, k1, k2, k3, a2, a3, b1, b3, c1, c2, ll, lt1, lt2, lt3, tbC, kR, objFz_lR, objFz_oR]
        · have hone := oneN_all (fd := sbB w d) (S := S1) hx hN hlow
          generalize hP : allN (sbB w d) ms S1 = P at hone
          have hq : (¬ (0 : Int) < (ms.length : Nat) ∧ True) ∨ ((0 : Int) < (ms.length : Nat) ∧ ¬ ((d : Nat) : Int) = 0) := by
            rcases Nat.eq_zero_or_pos ms.length with h0 | h0
            · exact .inl ⟨by omega, trivial⟩
            · exact .inr ⟨by omega, by omega⟩
          have hb2 : S1.length + ms.length * bT d ≤ S1.length + 3 * bT d := Nat.add_le_add_left (Nat.mul_le_mul_right _ hml) _
          simp -dsimp only [go_sem, hlt, hk, iRow, hx, Inst.row, f1, f2, f3, f4, g1, g2, g3, g4, m1, m2, m3, m4, p1, p2, p3, p4, l1, l2, l3, k1, k2, k3, a2, a3, b1, b3, c1, c2, ll, lt1, lt2, lt3]
          refine call_pure (hN4 _) ?_
          rcases hq with ⟨q1, q2⟩ | ⟨q1, q2⟩
          all_goals
            simp -dsimp only [go_sem, needsV, List.length_map, q1, q2]
            refine loop_ruleH [0, 1, 1, 2, 13, 0, 0, 25, 0] (fun (y : {y : Nat × Bool × TbB // y.1 ≤ ms.length ∧ P = (if y.2.1 = true then allN (sbB w d) (ms.drop y.1) y.2.2 else (false, y.2.2)) ∧ TbBOk w y.2.2 ∧ y.2.2.length + (ms.length - y.1) * bT d ≤ S1.length + 3 * bT d}) H => ([(12, .v (.bool y.1.2.1)), (51, .v (.int .i64 (y.1.1 : Nat)))], ⟨h.n + 1, upd (tbH l t1 t2 t3 w (tbB y.1.2.2) h.o) h.n (.cells [.sl (w.cs.map Cls.row), .sl (w.is.map Inst.row)])⟩)) (fun y => ms.length - y.1.1) ⟨(0, true, S1), Nat.zero_le _, hP.symm, hS1, hb2⟩ ?_ ?_
            · refine weak_objs [l, t1, t2, t3, h.n] (by simp -dsimp only [go_sem]) (by simp -dsimp only [go_sem]) (by simp -dsimp only [go_sem, f1, f2, f3, f4, g1, g2, g3, g4, m1, m2, m3, m4, p1, p2, p3, p4, l1, l2, l3, k1, k2, k3, a2, a3, b1, b3, c1, c2, ll, lt1, lt2, lt3]) ?_ ?_ ?_
              · exact fun x q1 q2 => by
                  have q1 : x < h.n := q1
                  simp only [List.mem_cons, List.not_mem_nil, or_false, not_or] at q2
                  obtain ⟨r1, r2, r3, r4⟩ := q2
                  have r5 : ¬ x = h.n := by omega
                  have r6 : ∀ k, ¬ x = h.n + k := fun k => by omega
                  simp -dsimp only [go_sem, tbH, r1, r2, r3, r4, r5, r6]
              · exact fun x q1 q2 => by
                  have q1 : x < h.n + 1 := q1
                  simp only [List.mem_cons, List.not_mem_nil, or_false] at q2 ⊢
                  rcases q2 with (r | r | r | r) | r
                  · exact .inr (.inr (.inr (.inl r)))
                  · exact .inr (.inr (.inl r))
                  · exact .inr (.inl r)
                  · exact .inl r
                  · have r : h.n ≤ x := r
                    omega
              · simp -dsimp only [go_sem, tbH, f1, f2, f3, f4, g1, g2, g3, g4, m1, m2, m3, m4, p1, p2, p3, p4, l1, l2, l3, k1, k2, k3, a2, a3, b1, b3, c1, c2, ll, lt1, lt2, lt3, tbC, kR, objFz_lR, objFz_oR]
            · rintro ⟨⟨q, bb, S2⟩, hqm, hPe, hS2, hbb⟩
              have hqm : q ≤ ms.length := hqm
              have hPe : P = (if bb = true then allN (sbB w d) (ms.drop q) S2 else (false, S2)) := hPe
              have hS2 : TbBOk w S2 := hS2
              have hbb : S2.length + (ms.length - q) * bT d ≤ S1.length + 3 * bT d := hbb
              have hq1 : q + 1 ≤ 9223372036854775807 := by omega
              clear hP
              by_cases hqt : q < ms.length
              · obtain ⟨m, hm⟩ := get_some hqt
                have hqj : (ms.length - (q + 1)) * bT d + bT d = (ms.length - q) * bT d := by
                  rw [← Nat.succ_mul]; congr 1; omega
                rcases Bool.eq_false_or_eq_true bb with hbt | hbt
                · rw [hbt, if_pos rfl, drop_get hm, allN_cons] at hPe
                  obtain ⟨e, he⟩ : ∃ e, d = e + 1 := ⟨d - 1, by
                    have : ¬ ((d : Nat) : Int) = 0 := fun z => hlow ⟨by omega, by omega⟩
                    omega⟩
                  have hih := ih e he
                  have hmk := hmm m (List.mem_of_getElem? hm)
                  have hlen2 := hfd.len m S2
                  have hok2 := hfd.ok m S2 hmk.1 hS2
                  have hew : IntKind.i64.wrap (((d : Nat) : Int) - 1) = ((e : Nat) : Int) := by rw [wrap_i64] <;> omega
                  have hsb : sbB w d = someT w e := by rw [he]; rfl
                  have hHs := fun H hat => hih l t1 t2 t3 m S2 H hd hat hmk.1 hS2 (by rw [show bT (e + 1) = bT d by rw [he]]; omega)
                  rw [hsb] at hPe hlen2 hok2
                  have hbe : bT d = bT (e + 1) := by rw [he]
                  generalize someT w e m S2 = R at hPe hlen2 hok2 hHs
                  simp -dsimp only [go_sem, Need.row] at hHs
                  simp -dsimp only [go_sem, hqt, hm, hbt, hew, Need.row, f1, f2, f3, f4, g1, g2, g3, g4, m1, m2, m3, m4, p1, p2, p3, p4, l1, l2, l3, k1, k2, k3, a2, a3, b1, b3, c1, c2, ll, lt1, lt2, lt3]
                  refine call_turn (hHs _ ⟨by simp -dsimp only [go_sem, f1, f2, f3, f4, g1, g2, g3, g4, m1, m2, m3, m4, p1, p2, p3, p4, l1, l2, l3, k1, k2, k3, a2, a3, b1, b3, c1, c2, ll, lt1, lt2, lt3], by simp -dsimp only [go_sem, f1, f2, f3, f4, g1, g2, g3, g4, m1, m2, m3, m4, p1, p2, p3, p4, l1, l2, l3, k1, k2, k3, a2, a3, b1, b3, c1, c2, ll, lt1, lt2, lt3], by simp -dsimp only [go_sem, f1, f2, f3, f4, g1, g2, g3, g4, m1, m2, m3, m4, p1, p2, p3, p4, l1, l2, l3, k1, k2, k3, a2, a3, b1, b3, c1, c2, ll, lt1, lt2, lt3], by simp -dsimp only [go_sem, f1, f2, f3, f4, g1, g2, g3, g4, m1, m2, m3, m4, p1, p2, p3, p4, l1, l2, l3, k1, k2, k3, a2, a3, b1, b3, c1, c2, ll, lt1, lt2, lt3], by simp -dsimp only [go_sem, tbH, f1, f2, f3, f4, g1, g2, g3, g4, m1, m2, m3, m4, p1, p2, p3, p4, l1, l2, l3, k1, k2, k3, a2, a3, b1, b3, c1, c2, ll, lt1, lt2, lt3], by simp -dsimp only [go_sem, tbH, f1, f2, f3, f4, g1, g2, g3, g4, m1, m2, m3, m4, p1, p2, p3, p4, l1, l2, l3, k1, k2, k3, a2, a3, b1, b3, c1, c2, ll, lt1, lt2, lt3], by simp -dsimp only [go_sem, tbH, f1, f2, f3, f4, g1, g2, g3, g4, m1, m2, m3, m4, p1, p2, p3, p4, l1, l2, l3, k1, k2, k3, a2, a3, b1, b3, c1, c2, ll, lt1, lt2, lt3], by simp -dsimp only [go_sem, tbH, f1, f2, f3, f4, g1, g2, g3, g4, m1, m2, m3, m4, p1, p2, p3, p4, l1, l2, l3, k1, k2, k3, a2, a3, b1, b3, c1, c2, ll, lt1, lt2, lt3]⟩) (fun t ht _ => .inr ht) (fun t ht => by cases ht) ?_
                  simp -dsimp only [go_sem, hq1]
                  refine round_to ⟨(q + 1, R.1, R.2), hqt, by rw [hsb]; exact hPe, hok2, by simp only; omega⟩ (by simp; omega) ?_
                  refine weak_objs [l, t1, t2, t3, h.n] (by simp -dsimp only [go_sem]) (by simp -dsimp only [go_sem]) (by simp -dsimp only [go_sem, f1, f2, f3, f4, g1, g2, g3, g4, m1, m2, m3, m4, p1, p2, p3, p4, l1, l2, l3, k1, k2, k3, a2, a3, b1, b3, c1, c2, ll, lt1, lt2, lt3]) ?_ ?_ ?_
                  · exact fun x q1 q2 => by
                      have q1 : x < h.n := q1
                      simp only [List.mem_cons, List.not_mem_nil, or_false, not_or] at q2
                      obtain ⟨r1, r2, r3, r4⟩ := q2
                      have r5 : ¬ x = h.n := by omega
                      have r6 : ∀ k, ¬ x = h.n + k := fun k => by omega
                      simp -dsimp only [go_sem, tbH, r1, r2, r3, r4, r5, r6]
                  · exact fun x q1 q2 => by
                      have q1 : x < h.n + 1 := q1
                      simp only [List.mem_cons, List.not_mem_nil, or_false] at q2 ⊢
                      rcases q2 with (r | r | r | r) | r
                      · exact .inr (.inr (.inr (.inl r)))
                      · exact .inr (.inr (.inl r))
                      · exact .inr (.inl r)
                      · exact .inl r
                      · have r : h.n ≤ x := r
                        omega
                  · simp -dsimp only [go_sem, tbH, f1, f2, f3, f4, g1, g2, g3, g4, m1, m2, m3, m4, p1, p2, p3, p4, l1, l2, l3, k1, k2, k3, a2, a3, b1, b3, c1, c2, ll, lt1, lt2, lt3, tbC, kR, objFz_lR, objFz_oR]
                · rw [hbt, if_neg (by simp)] at hPe
                  simp -dsimp only [go_sem, hqt, hm, hbt, hq1, Need.row, f1, f2, f3, f4, g1, g2, g3, g4, m1, m2, m3, m4, p1, p2, p3, p4, l1, l2, l3, k1, k2, k3, a2, a3, b1, b3, c1, c2, ll, lt1, lt2, lt3]
                  refine round_to ⟨(q + 1, false, S2), hqt, by simp only; rw [if_neg (by simp)]; exact hPe, hS2, by simp only; omega⟩ (by simp; omega) ?_
                  refine weak_objs [l, t1, t2, t3, h.n] (by simp -dsimp only [go_sem]) (by simp -dsimp only [go_sem]) (by simp -dsimp only [go_sem, f1, f2, f3, f4, g1, g2, g3, g4, m1, m2, m3, m4, p1, p2, p3, p4, l1, l2, l3, k1, k2, k3, a2, a3, b1, b3, c1, c2, ll, lt1, lt2, lt3]) ?_ ?_ ?_
                  · exact fun x q1 q2 => by
                      have q1 : x < h.n := q1
                      simp only [List.mem_cons, List.not_mem_nil, or_false, not_or] at q2
                      obtain ⟨r1, r2, r3, r4⟩ := q2
                      have r5 : ¬ x = h.n := by omega
                      have r6 : ∀ k, ¬ x = h.n + k := fun k => by omega
                      simp -dsimp only [go_sem, tbH, r1, r2, r3, r4, r5, r6]
                  · exact fun x q1 q2 => by
                      have q1 : x < h.n + 1 := q1
                      simp only [List.mem_cons, List.not_mem_nil, or_false] at q2 ⊢
                      rcases q2 with (r | r | r | r) | r
                      · exact .inr (.inr (.inr (.inl r)))
                      · exact .inr (.inr (.inl r))
                      · exact .inr (.inl r)
                      · exact .inl r
                      · have r : h.n ≤ x := r
                        omega
                  · simp -dsimp only [go_sem, tbH, f1, f2, f3, f4, g1, g2, g3, g4, m1, m2, m3, m4, p1, p2, p3, p4, l1, l2, l3, k1, k2, k3, a2, a3, b1, b3, c1, c2, ll, lt1, lt2, lt3, tbC, kR, objFz_lR, objFz_oR]
              · have hqe : ms.drop q = [] := List.drop_of_length_le (by omega)
                rw [hqe] at hPe
                rcases Bool.eq_false_or_eq_true bb with hbt | hbt
                · have hPe : P = (true, S2) := by rw [hPe, if_pos hbt]; rfl
                  rw [hPe] at hone
                  rw [anyN_hit hone] at heq
                  subst heq
                  simp -dsimp only [go_sem, hqt, hbt]
                  exact fin_tb hd (by simp -dsimp only [go_sem]) (by simp -dsimp only [go_sem]) (by simp -dsimp only [go_sem, tbH, tbC, f1, f2, f3, f4, g1, g2, g3, g4, m1, m2, m3, m4, p1, p2, p3, p4, l1, l2, l3, k1, k2, k3, a2, a3, b1, b3, c1, c2, ll, lt1, lt2, lt3]) (by simp -dsimp only [go_sem, tbH, tbC, objFz_kR, f1, f2, f3, f4, g1, g2, g3, g4, m1, m2, m3, m4, p1, p2, p3, p4, l1, l2, l3, k1, k2, k3, a2, a3, b1, b3, c1, c2, ll, lt1, lt2, lt3]) (by simp -dsimp only [go_sem, tbH, tbC, objFz_lR, f1, f2, f3, f4, g1, g2, g3, g4, m1, m2, m3, m4, p1, p2, p3, p4, l1, l2, l3, k1, k2, k3, a2, a3, b1, b3, c1, c2, ll, lt1, lt2, lt3]) (by simp -dsimp only [go_sem, tbH, tbC, objFz_oR, f1, f2, f3, f4, g1, g2, g3, g4, m1, m2, m3, m4, p1, p2, p3, p4, l1, l2, l3, k1, k2, k3, a2, a3, b1, b3, c1, c2, ll, lt1, lt2, lt3])
                · have hPe : P = (false, S2) := by rw [hPe, if_neg (by rw [hbt]; simp)]
                  rw [hPe] at hone
                  rw [anyN_skip hone] at heq
                  simp -dsimp only [go_sem, hqt, hbt, hj1]
                  refine round_to ⟨(j + 1, S2), hlt, heq, hS2, by simp only; omega⟩ (by simp; omega) ?_
                  refine weak_objs [l, t1, t2, t3, h.n] (by simp -dsimp only [go_sem]) (by simp -dsimp only [go_sem]) (by simp -dsimp only [go_sem, f1, f2, f3, f4, g1, g2, g3, g4, m1, m2, m3, m4, p1, p2, p3, p4, l1, l2, l3, k1, k2, k3, a2, a3, b1, b3, c1, c2, ll, lt1, lt2, lt3]) ?_ ?_ ?_
                  · exact fun x q1 q2 => by
                      have q1 : x < h.n := q1
                      simp only [List.mem_cons, List.not_mem_nil, or_false, not_or] at q2
                      obtain ⟨r1, r2, r3, r4⟩ := q2
                      have r5 : ¬ x = h.n := by omega
                      have r6 : ∀ k, ¬ x = h.n + k := fun k => by omega
                      simp -dsimp only [go_sem, tbH, r1, r2, r3, r4, r5, r6]
                  · exact fun x q1 q2 => by
                      have q1 : x < h.n + 1 := q1
                      simp only [List.mem_cons, List.not_mem_nil, or_false] at q2 ⊢
                      rcases q2 with (r | r | r | r) | r
                      · exact .inr (.inr (.inr (.inl r)))
                      · exact .inr (.inr (.inl r))
                      · exact .inr (.inl r)
                      · exact .inl r
                      · have r : h.n ≤ x := r
                        omega
                  · simp -dsimp only [go_sem, tbH, f1, f2, f3, f4, g1, g2, g3, g4, m1, m2, m3, m4, p1, p2, p3, p4, l1, l2, l3, k1, k2, k3, a2, a3, b1, b3, c1, c2, ll, lt1, lt2, lt3, tbC, kR, objFz_lR, objFz_oR]
    · have hje : C.drop j = [] := List.drop_of_length_le (by omega)
      rw [hje] at heq
      have heq : T = (false, S1) := heq
      subst heq
      simp -dsimp only [go_sem, hlt]
      exact fin_tb hd (by simp -dsimp only [go_sem]) (by simp -dsimp only [go_sem]) (by simp -dsimp only [go_sem, tbH, tbC, f1, f2, f3, f4, g1, g2, g3, g4, m1, m2, m3, m4, p1, p2, p3, p4, l1, l2, l3, k1, k2, k3, a2, a3, b1, b3, c1, c2, ll, lt1, lt2, lt3]) (by simp -dsimp only [go_sem, tbH, tbC, objFz_kR, f1, f2, f3, f4, g1, g2, g3, g4, m1, m2, m3, m4, p1, p2, p3, p4, l1, l2, l3, k1, k2, k3, a2, a3, b1, b3, c1, c2, ll, lt1, lt2, lt3]) (by simp -dsimp only [go_sem, tbH, tbC, objFz_lR, f1, f2, f3, f4, g1, g2, g3, g4, m1, m2, m3, m4, p1, p2, p3, p4, l1, l2, l3, k1, k2, k3, a2, a3, b1, b3, c1, c2, ll, lt1, lt2, lt3]) (by simp -dsimp only [go_sem, tbH, tbC, objFz_oR, f1, f2, f3, f4, g1, g2, g3, g4, m1, m2, m3, m4, p1, p2, p3, p4, l1, l2, l3, k1, k2, k3, a2, a3, b1, b3, c1, c2, ll, lt1, lt2, lt3])
theorem s_has_step {w : Wld} (hok : worldOk w = true) (hw : w.Sm) {d : Nat} (hd6 : d ≤ 6) (hm : SomeOkS w d) : HasOkS w d := by
  intro l t1 t2 t3 n S h hd ha hn hS hb
  have hb' : S.length + 30 * bT d + 1 ≤ 2000000000 := hb
  have hK := fun H => s_l7Key n d H hn.2 (nok_c hok hn) (by omega)
  have hk := hS.keyS hok hn (d := d) (by omega)
  have hAt := s_at n d h ha hk (by rw [tbB_len]; omega)
  have hM := hm l t1 t2 t3 n S h hd ha hn hS (by omega)
  have eA := someT_eq w d n S
  have hcl : (anyN w (sbB w d) d n (candIx w n) S).2.length ≤ S.length + 30 * bT d := by
    have h1 := anyN_len hok hw (sbB_ok hok hw d (by omega)) (d := d) (n := n) (candIx w n) S
    have h2 : (candIx w n).length * (3 * bT d) ≤ 10 * (3 * bT d) := Nat.mul_le_mul_right _ (cand_len10 hok n)
    omega
  generalize anyN w (sbB w d) d n (candIx w n) S = R at hM eA hcl
  generalize hT : someT w d n S = T at eA ⊢
  clear hT
  unfold keepB at eA
  have hP : ∀ H, AtT l t1 t2 t3 w (tbB R.2) H → Isea.Good Tryz.prog 142 [.ptr l 0, str (keyS n d), .v (.slice none 0 0), .v (.bool R.1)] H [t3, t2, t1, l] (.tup []) ⟨H.n, tbH l t1 t2 t3 w (tbB (R.2 ++ [((n, d), R.1)])) H.o⟩ := fun H hat => by
    have h0 := s_put n d (if R.1 = true then some [] else none) H hd hat (S := tbB R.2) (w := w) (by rw [tbB_len]; omega)
    have e1 : tbB R.2 ++ [((n, d), if R.1 = true then some [] else none)] = tbB (R.2 ++ [((n, d), R.1)]) := by rw [tbB_app]; rfl
    have e2 : ((if R.1 = true then some [] else none : Option (List L8)).getD []).map sRow = [] := by split <;> rfl
    have e3 : (if R.1 = true then some [] else none : Option (List L8)).isSome = R.1 := by cases R.1 <;> rfl
    rw [e1, e2, e3] at h0
    refine Good.asArgs h0 fun K w vs hv => ⟨hv.1, fun i x y hx hy => ?_⟩
    rcases i with _ | _ | _ | i
    · exact hv.2 0 x y hx hy
    · exact hv.2 1 x y hx hy
    · have hx : AV.sl [] = x := by simpa using hx
      subst hx
      have := hv.2 2 _ y rfl hy
      cases this
      exact .sl0 _ _
    · exact hv.2 (i + 3) x y hx hy
  have hat2 := AtT.of (S' := tbB R.2) hd ha
  have ha' := ha
  obtain ⟨ll, lt1, lt2, lt3, ol, o1, o2, o3⟩ := ha
  have ol' := ol
  simp only [tbC] at ol
  have hd' := hd
  obtain ⟨l1, l2, l3, k1, k2, k3, a2, a3, b1, b3, c1, c2⟩ := hd
  refine good [] [] Tryz.func107 rfl rfl Tryz.ntmps107 (by kernel_rfl) mixed (by kernel_rfl) ?_
  simp -dsimp only [go_sem, Need.row] at hK hM ⊢
  refine call_pure (hK _) ?_
  simp -dsimp only [go_sem]
  refine call_pure hAt ?_
  rcases opt_cases (tfB S n d) with e | ⟨a, e⟩
  · rw [e] at eA
    have eA : T = (R.1, R.2 ++ [((n, d), R.1)]) := eA
    subst eA
    have e2 : tbF (tbB S) n d = none := by rw [tbF_tbB, e]; rfl
    rw [tbI_none e2]
    have c0 : ¬ (0 : Int) ≤ -1 := by omega
    simp -dsimp only [go_sem, c0]
    refine call_turn hM (fun t ht _ => .inr ht) (fun t ht => by cases ht) ?_
    simp -dsimp only [go_sem]
    refine call_turn (hP _ hat2) (fun t ht _ => .inr ht) (fun t ht => by cases ht) ?_
    simp -dsimp only [go_sem]
    exact fin_tb hd' (by simp -dsimp only [go_sem]) (by simp -dsimp only [go_sem]) (by simp -dsimp only [go_sem, tbH, tbC, l1, l2, l3, k1, k2, k3, a2, a3, b1, b3, c1, c2, ll, lt1, lt2, lt3]) (by simp -dsimp only [go_sem, tbH, objFz_kR, l1, l2, l3, k1, k2, k3, a2, a3, b1, b3, c1, c2, ll, lt1, lt2, lt3]) (by simp -dsimp only [go_sem, tbH, objFz_lR, l1, l2, l3, k1, k2, k3, a2, a3, b1, b3, c1, c2, ll, lt1, lt2, lt3]) (by simp -dsimp only [go_sem, tbH, objFz_oR, l1, l2, l3, k1, k2, k3, a2, a3, b1, b3, c1, c2, ll, lt1, lt2, lt3])
  · rw [e] at eA
    have eA : T = (a, S) := eA
    subst eA
    have e2 : tbF (tbB S) n d = some (if a = true then some [] else none) := by rw [tbF_tbB, e]; rfl
    obtain ⟨i, x, h1, h2, h3⟩ := tbI_some e2 (j := 0)
    rw [h1, Nat.zero_add]
    have hi : i < (tbB S).length := (List.getElem?_eq_some_iff.1 h2).1
    have c0 : (0 : Int) ≤ ((i : Nat) : Int) := by omega
    have hol : (oR (tbB S)).length = (tbB S).length := by unfold oR; rw [List.length_map]
    have hoi : (oR (tbB S))[i]? = some [.v (.bool a)] := by
      unfold oR
      rw [List.getElem?_map, h2]
      show some [AV.v (.bool x.2.isSome)] = _
      rw [h3]
      cases a <;> rfl
    simp -dsimp only [go_sem, c0, hi, ll, lt1, lt2, lt3, ol, o2, o3, hol, hoi, al_oR]
    exact fin_tb hd' (by simp -dsimp only [go_sem]) (by simp -dsimp only [go_sem]) (by rw [ol']; simp -dsimp only [go_sem, tbC, ll, lt1, lt2, lt3]) (by rw [o1]; exact objFz_kR) (by rw [o2]; exact objFz_lR) (by rw [o3]; exact of_eq_true (objFz_r puR_oR))
theorem s_has {w : Wld} (hok : worldOk w = true) (hw : w.Sm) : ∀ d, d ≤ 6 → HasOkS w d
  | 0, h => s_has_step hok hw h (s_some_step hok hw h fun e he => by cases he)
  | d + 1, h => s_has_step hok hw h (s_some_step hok hw h fun e he => by cases he; exact s_has hok hw d (by omega))
end Go.Proofs.YtiphcdmjlkngfaaGreatDoor

namespace Go.Isea
open Go
/-- what the program keeps -/
def mapB (S : TbB) : List (AV × AV) := S.map fun e => (str (Isea.keyL e.1.1 e.1.2), .v (.bool e.2))
theorem mapB_snoc (S : TbB) (n : Need) (d : Nat) (b : Bool) : mapB (S ++ [((n, d), b)]) = mapB S ++ [(.v (.string (bs (Isea.keyL n d))), .v (.bool b))] := by unfold mapB; rw [List.map_append]; rfl
theorem mfind_mapB {n : Need} {d : Nat} : ∀ {S : TbB}, (∀ e ∈ S, Isea.keyL e.1.1 e.1.2 = Isea.keyL n d ↔ e.1 = (n, d)) →
    mfind (mapB S) (bs (Isea.keyL n d)) = some ((tfB S n d).map fun r => AV.v (.bool r))
  | [], _ => rfl
  | ((m, e), r) :: es, hk => by
    have h2 := hk _ (List.mem_cons_self ..)
    have ih := mfind_mapB (S := es) (fun x hx => hk x (List.mem_cons_of_mem _ hx))
    show (if bs (Isea.keyL m e) = bs (Isea.keyL n d) then some (some (AV.v (.bool r))) else mfind (mapB es) (bs (Isea.keyL n d))) = _
    unfold tfB
    by_cases hc : (m, e) = (n, d)
    · rw [if_pos (by rw [h2.2 hc]), if_pos hc]; rfl
    · rw [if_neg (fun hh => hc (h2.1 (bs_inj hh))), if_neg hc, ih]
theorem mput_mapB {n : Need} {d : Nat} {x : AV} : ∀ {S : TbB}, (∀ e ∈ S, Isea.keyL e.1.1 e.1.2 = Isea.keyL n d ↔ e.1 = (n, d)) → tfB S n d = none →
    mput (mapB S) (bs (Isea.keyL n d)) x = mapB S ++ [(.v (.string (bs (Isea.keyL n d))), x)]
  | [], _, _ => rfl
  | ((m, e), r) :: es, hk, hf => by
    have h2 := hk _ (List.mem_cons_self ..)
    unfold tfB at hf
    split at hf
    · cases hf
    · rename_i hc
      have ih := mput_mapB (x := x) (S := es) (fun y hy => hk y (List.mem_cons_of_mem _ hy)) hf
      show (if bs (Isea.keyL m e) = bs (Isea.keyL n d) then (.v (.string (bs (Isea.keyL n d))), x) :: mapB es else (str (Isea.keyL m e), AV.v (.bool r)) :: mput (mapB es) (bs (Isea.keyL n d)) x) = _
      rw [if_neg (fun hh => hc (h2.1 (bs_inj hh))), ih]
      rfl
@[go_sem] theorem objFz_mapB {h : AH} {m : Nat} {S : TbB} : ObjFz h m (.map (mapB S)) (.map (mapB S)) = True := eq_true ⟨rfl, fun i x y h1 h2 => by
  rw [h1] at h2; cases h2
  have := List.mem_of_getElem? h1
  unfold mapB at this
  obtain ⟨e, _, rfl⟩ := List.mem_map.1 this
  exact ⟨.v _, .v _⟩⟩
/-- the first one for which it is so -/
def ixB {α : Type} (fd : α → TbB → Bool × TbB) : List α → TbB → Nat → Int
  | [], _, _ => -1
  | a :: cs, S, j => if (fd a S).1 = true then ((j : Nat) : Int) else ixB fd cs (fd a S).2 (j + 1)
def foldB {α : Type} (fd : α → TbB → Bool × TbB) : List α → TbB → Bool × TbB
  | [], S => (false, S)
  | a :: cs, S => if (fd a S).1 = true then (true, (fd a S).2) else foldB fd cs (fd a S).2
theorem ixB_cons {α : Type} {fd : α → TbB → Bool × TbB} {a : α} {cs : List α} {S : TbB} {j : Nat} : ixB fd (a :: cs) S j = if (fd a S).1 = true then ((j : Nat) : Int) else ixB fd cs (fd a S).2 (j + 1) := rfl
theorem foldB_cons {α : Type} {fd : α → TbB → Bool × TbB} {a : α} {cs : List α} {S : TbB} : foldB fd (a :: cs) S = if (fd a S).1 = true then (true, (fd a S).2) else foldB fd cs (fd a S).2 := rfl
theorem ixB_fold {α : Type} {fd : α → TbB → Bool × TbB} : ∀ (cs : List α) (S : TbB) (j : Nat), decide (0 ≤ ixB fd cs S j) = (foldB fd cs S).1
  | [], S, j => by simp [ixB, foldB]
  | a :: cs, S, j => by
    rw [ixB_cons, foldB_cons]
    by_cases h : (fd a S).1 = true
    · rw [if_pos h, if_pos h]; simp
    · rw [if_neg h, if_neg h]; exact ixB_fold cs _ _
theorem fold_any {w : Wld} {fd : FbT} {d : Nat} {n : Need} : ∀ (is : List Nat) (S : TbB), foldB (oneN w fd d n) is S = anyN w fd d n is S
  | [], S => rfl
  | i :: is, S => by
    rw [foldB_cons, anyN]
    split
    · rfl
    · exact fold_any is _
def notB (fd : FbT) : Need → TbB → Bool × TbB := fun m S => (!(fd m S).1, (fd m S).2)
theorem fold_all {fd : FbT} : ∀ (ms : List Need) (S : TbB), foldB (notB fd) ms S = (!(allN fd ms S).1, (allN fd ms S).2)
  | [], S => rfl
  | m :: ms, S => by
    rw [foldB_cons, allN_cons]
    show (if (!(fd m S).1) = true then _ else _) = _
    by_cases h : (fd m S).1 = true
    · rw [if_neg (by rw [h]; simp), if_pos h]; exact fold_all ms _
    · have h2 : (fd m S).1 = false := by simpa using h
      rw [if_pos (by rw [h2]; rfl), if_neg h]; rfl
end Go.Isea
namespace Go.Proofs.YtiphcdmjlkngfaaGreatDoor
open Go Go.Isea
set_option maxRecDepth 100000
set_option maxHeartbeats 16000000
/-- the ways in memory -/
structure AtB (l a b : Nat) (w : Wld) (S : TbB) (h : AH) : Prop where
  ll : l < h.n
  lb : b < h.n
  lab : ¬ l = b
  ol : h.o l = .cells (wyC w a b true)
  ob : h.o b = .map (mapB S)
def CloB_int (w : Wld) (l a b : Nat) (k : FuncId) (cap : List AV) (fd : Nat → TbB → Bool × TbB) (ms : List Nat) : Prop := ∀ m ∈ ms, ∀ (s : TbB) (H : AH), TbBOk w s → AtB l a b w s H →
  Isea.Good Tryz.prog k ((.v (.int .i64 (m : Nat)) : AV) :: cap) H [b] (.v (.bool (fd m s).1)) ⟨H.n, upd H.o b (.map (mapB (fd m s).2))⟩
theorem l_IndexFuncB_int (w : Wld) (l a b : Nat) (k : FuncId) (cap : List AV) (fd : Nat → TbB → Bool × TbB) (ms : List Nat) (s0 : TbB) (h : AH) (hat : AtB l a b w s0 h)
    (hcap : ∀ H : AH, ∀ m, h.n ≤ m → FzL H m cap cap) (hclo : CloB_int w l a b k cap fd ms) (hms : ms.length ≤ 1000) (hs0 : TbBOk w s0) (hfd : ∀ m ∈ ms, ∀ s, TbBOk w s → TbBOk w (fd m s).2) :
    Isea.Good Tryz.prog 274 [.sl (ms.map iRow), .fn k cap] h [b] (.v (.int .i64 (ixB fd ms s0 0))) ⟨h.n, upd h.o b (.map (mapB (foldB fd ms s0).2))⟩ := by
  obtain ⟨ll, lb, lab, ol, ob⟩ := hat
  have lba : ¬ b = l := fun e => lab e.symm
  refine good [] [] Tryz.func274 rfl rfl Tryz.ntmps274 (by kernel_rfl) mixed (by kernel_rfl) ?_
  simp -dsimp only [go_sem, List.length_map]
  generalize hT : foldB fd ms s0 = T
  generalize hX : ixB fd ms s0 0 = X
  refine loop_ruleH [0, 0, 5] (fun (x : {x : Nat × TbB // x.1 ≤ ms.length ∧ T = foldB fd (ms.drop x.1) x.2 ∧ X = ixB fd (ms.drop x.1) x.2 x.1 ∧ TbBOk w x.2}) H => ([(8, .v (.int .i64 (x.1.1 : Nat)))], ⟨h.n, upd H.o b (.map (mapB x.1.2))⟩)) (fun x => ms.length - x.1.1) ⟨(0, s0), Nat.zero_le _, hT.symm, hX.symm, hs0⟩ ?_ ?_
  · refine weak_objs [b] (by simp -dsimp only [go_sem]) (by simp -dsimp only [go_sem]) (by simp -dsimp only [go_sem, hcap _ _ (Nat.le_refl _)]) ?_ ?_ ?_
    · intro x h1 h2; have h2 : ¬ x = b := by simpa using h2
      simp -dsimp only [go_sem, h2]
    · intro x h1 h2; have h1 : x < h.n := h1; simp at h2 ⊢; omega
    · simp -dsimp only [go_sem, ob, lb]
  · rintro ⟨⟨j, s⟩, hj, heq, hix, hs⟩
    have hj : j ≤ ms.length := hj
    have heq : T = foldB fd (ms.drop j) s := heq
    have hix : X = ixB fd (ms.drop j) s j := hix
    have hs : TbBOk w s := hs
    clear hT hX
    have hj1 : j + 1 ≤ 9223372036854775807 := by omega
    have hln : ¬ l = h.n := by omega
    have hbn : ¬ b = h.n := by omega
    by_cases hlj : j < ms.length
    · obtain ⟨m, hb⟩ := get_some hlj
      rw [drop_get hb, foldB_cons] at heq
      rw [drop_get hb, ixB_cons] at hix
      have hC := fun H => hclo m (List.mem_of_getElem? hb) s H hs
      have hs2 := hfd m (List.mem_of_getElem? hb) s hs
      try simp only [Need.row] at hC
      simp -dsimp only [go_sem, hlj, hb, Need.row, iRow]
      refine call_turn (hC _ ⟨by simp -dsimp only [go_sem, ll], by simp -dsimp only [go_sem, lb], lab, by simp -dsimp only [go_sem, lab, hln, ol], by simp -dsimp only [go_sem, hbn]⟩) (fun t ht _ => .inr ht) (fun t ht => by cases ht) ?_
      by_cases hfm : (fd m s).1 = true
      · rw [if_pos hfm] at heq hix
        subst heq
        subst hix
        simp -dsimp only [go_sem, hfm]
        exact fin_one (by simp -dsimp only [go_sem]) (by simp -dsimp only [go_sem]) (by simp -dsimp only [go_sem, lb, hbn])
      · have hff : (fd m s).1 = false := by simpa using hfm
        rw [if_neg hfm] at heq hix
        simp -dsimp only [go_sem, hff, hj1]
        refine round_to ⟨(j + 1, (fd m s).2), hlj, heq, hix, hs2⟩ (by simp; omega) ?_
        refine weak_objs [b] (by simp -dsimp only [go_sem]) (by simp -dsimp only [go_sem]) (by simp -dsimp only [go_sem, hcap _ _ (Nat.le_refl _)]) ?_ ?_ ?_
        · intro x h1 h2; have h2 : ¬ x = b := by simpa using h2
          have h3 : ¬ x = h.n := by have h1 : x < h.n := h1; omega
          simp -dsimp only [go_sem, h2, h3]
        · intro x h1 h2; have h1 : x < h.n := h1; simp at h2 ⊢; omega
        · simp -dsimp only [go_sem, lb, hbn]
    · have ed : ms.drop j = [] := List.drop_of_length_le (by omega)
      rw [ed] at heq hix
      have heq : T = (false, s) := heq
      have hix : X = -1 := hix
      subst heq
      subst hix
      simp -dsimp only [go_sem, hlj]
      exact fin_one (by simp -dsimp only [go_sem]) (by simp -dsimp only [go_sem]) (by simp -dsimp only [go_sem, lb, hbn])
theorem l_ContainsFuncB_int (w : Wld) (l a b : Nat) (k : FuncId) (cap : List AV) (fd : Nat → TbB → Bool × TbB) (ms : List Nat) (s0 : TbB) (h : AH) (hat : AtB l a b w s0 h)
    (hcap : ∀ H : AH, ∀ m, h.n ≤ m → FzL H m cap cap) (hclo : CloB_int w l a b k cap fd ms) (hms : ms.length ≤ 1000) (hs0 : TbBOk w s0) (hfd : ∀ m ∈ ms, ∀ s, TbBOk w s → TbBOk w (fd m s).2) :
    Isea.Good Tryz.prog 227 [.sl (ms.map iRow), .fn k cap] h [b] (.v (.bool (foldB fd ms s0).1)) ⟨h.n, upd h.o b (.map (mapB (foldB fd ms s0).2))⟩ := by
  have hI := l_IndexFuncB_int w l a b k cap fd ms s0 h hat hcap hclo hms hs0 hfd
  have lb := hat.lb
  refine good [] [] Tryz.func227 rfl rfl Tryz.ntmps227 (by kernel_rfl) mixed (by kernel_rfl) ?_
  simp -dsimp only [go_sem]
  refine call_turn hI (fun t ht _ => .inr ht) (fun t ht => by cases ht) ?_
  rw [← ixB_fold ms s0 0]
  simp -dsimp only [go_sem]
  exact fin_one (by simp -dsimp only [go_sem]) (by simp -dsimp only [go_sem]) (by simp -dsimp only [go_sem, lb])
def CloB_Need (w : Wld) (l a b : Nat) (k : FuncId) (cap : List AV) (fd : Need → TbB → Bool × TbB) (ms : List Need) : Prop := ∀ m ∈ ms, ∀ (s : TbB) (H : AH), TbBOk w s → AtB l a b w s H →
  Isea.Good Tryz.prog k ((.agg m.row : AV) :: cap) H [b] (.v (.bool (fd m s).1)) ⟨H.n, upd H.o b (.map (mapB (fd m s).2))⟩
theorem l_IndexFuncB_Need (w : Wld) (l a b : Nat) (k : FuncId) (cap : List AV) (fd : Need → TbB → Bool × TbB) (ms : List Need) (s0 : TbB) (h : AH) (hat : AtB l a b w s0 h)
    (hcap : ∀ H : AH, ∀ m, h.n ≤ m → FzL H m cap cap) (hclo : CloB_Need w l a b k cap fd ms) (hms : ms.length ≤ 1000) (hs0 : TbBOk w s0) (hfd : ∀ m ∈ ms, ∀ s, TbBOk w s → TbBOk w (fd m s).2) :
    Isea.Good Tryz.prog 202 [.sl (ms.map Need.row), .fn k cap] h [b] (.v (.int .i64 (ixB fd ms s0 0))) ⟨h.n, upd h.o b (.map (mapB (foldB fd ms s0).2))⟩ := by
  obtain ⟨ll, lb, lab, ol, ob⟩ := hat
  have lba : ¬ b = l := fun e => lab e.symm
  refine good [] [] Tryz.func202 rfl rfl Tryz.ntmps202 (by kernel_rfl) mixed (by kernel_rfl) ?_
  simp -dsimp only [go_sem, List.length_map]
  generalize hT : foldB fd ms s0 = T
  generalize hX : ixB fd ms s0 0 = X
  refine loop_ruleH [0, 0, 5] (fun (x : {x : Nat × TbB // x.1 ≤ ms.length ∧ T = foldB fd (ms.drop x.1) x.2 ∧ X = ixB fd (ms.drop x.1) x.2 x.1 ∧ TbBOk w x.2}) H => ([(8, .v (.int .i64 (x.1.1 : Nat)))], ⟨h.n, upd H.o b (.map (mapB x.1.2))⟩)) (fun x => ms.length - x.1.1) ⟨(0, s0), Nat.zero_le _, hT.symm, hX.symm, hs0⟩ ?_ ?_
  · refine weak_objs [b] (by simp -dsimp only [go_sem]) (by simp -dsimp only [go_sem]) (by simp -dsimp only [go_sem, hcap _ _ (Nat.le_refl _)]) ?_ ?_ ?_
    · intro x h1 h2; have h2 : ¬ x = b := by simpa using h2
      simp -dsimp only [go_sem, h2]
    · intro x h1 h2; have h1 : x < h.n := h1; simp at h2 ⊢; omega
    · simp -dsimp only [go_sem, ob, lb]
  · rintro ⟨⟨j, s⟩, hj, heq, hix, hs⟩
    have hj : j ≤ ms.length := hj
    have heq : T = foldB fd (ms.drop j) s := heq
    have hix : X = ixB fd (ms.drop j) s j := hix
    have hs : TbBOk w s := hs
    clear hT hX
    have hj1 : j + 1 ≤ 9223372036854775807 := by omega
    have hln : ¬ l = h.n := by omega
    have hbn : ¬ b = h.n := by omega
    by_cases hlj : j < ms.length
    · obtain ⟨m, hb⟩ := get_some hlj
      rw [drop_get hb, foldB_cons] at heq
      rw [drop_get hb, ixB_cons] at hix
      have hC := fun H => hclo m (List.mem_of_getElem? hb) s H hs
      have hs2 := hfd m (List.mem_of_getElem? hb) s hs
      try simp only [Need.row] at hC
      simp -dsimp only [go_sem, hlj, hb, Need.row, iRow]
      refine call_turn (hC _ ⟨by simp -dsimp only [go_sem, ll], by simp -dsimp only [go_sem, lb], lab, by simp -dsimp only [go_sem, lab, hln, ol], by simp -dsimp only [go_sem, hbn]⟩) (fun t ht _ => .inr ht) (fun t ht => by cases ht) ?_
      by_cases hfm : (fd m s).1 = true
      · rw [if_pos hfm] at heq hix
        subst heq
        subst hix
        simp -dsimp only [go_sem, hfm]
        exact fin_one (by simp -dsimp only [go_sem]) (by simp -dsimp only [go_sem]) (by simp -dsimp only [go_sem, lb, hbn])
      · have hff : (fd m s).1 = false := by simpa using hfm
        rw [if_neg hfm] at heq hix
        simp -dsimp only [go_sem, hff, hj1]
        refine round_to ⟨(j + 1, (fd m s).2), hlj, heq, hix, hs2⟩ (by simp; omega) ?_
        refine weak_objs [b] (by simp -dsimp only [go_sem]) (by simp -dsimp only [go_sem]) (by simp -dsimp only [go_sem, hcap _ _ (Nat.le_refl _)]) ?_ ?_ ?_
        · intro x h1 h2; have h2 : ¬ x = b := by simpa using h2
          have h3 : ¬ x = h.n := by have h1 : x < h.n := h1; omega
          simp -dsimp only [go_sem, h2, h3]
        · intro x h1 h2; have h1 : x < h.n := h1; simp at h2 ⊢; omega
        · simp -dsimp only [go_sem, lb, hbn]
    · have ed : ms.drop j = [] := List.drop_of_length_le (by omega)
      rw [ed] at heq hix
      have heq : T = (false, s) := heq
      have hix : X = -1 := hix
      subst heq
      subst hix
      simp -dsimp only [go_sem, hlj]
      exact fin_one (by simp -dsimp only [go_sem]) (by simp -dsimp only [go_sem]) (by simp -dsimp only [go_sem, lb, hbn])
theorem l_ContainsFuncB_Need (w : Wld) (l a b : Nat) (k : FuncId) (cap : List AV) (fd : Need → TbB → Bool × TbB) (ms : List Need) (s0 : TbB) (h : AH) (hat : AtB l a b w s0 h)
    (hcap : ∀ H : AH, ∀ m, h.n ≤ m → FzL H m cap cap) (hclo : CloB_Need w l a b k cap fd ms) (hms : ms.length ≤ 1000) (hs0 : TbBOk w s0) (hfd : ∀ m ∈ ms, ∀ s, TbBOk w s → TbBOk w (fd m s).2) :
    Isea.Good Tryz.prog 143 [.sl (ms.map Need.row), .fn k cap] h [b] (.v (.bool (foldB fd ms s0).1)) ⟨h.n, upd h.o b (.map (mapB (foldB fd ms s0).2))⟩ := by
  have hI := l_IndexFuncB_Need w l a b k cap fd ms s0 h hat hcap hclo hms hs0 hfd
  have lb := hat.lb
  refine good [] [] Tryz.func143 rfl rfl Tryz.ntmps143 (by kernel_rfl) mixed (by kernel_rfl) ?_
  simp -dsimp only [go_sem]
  refine call_turn hI (fun t ht _ => .inr ht) (fun t ht => by cases ht) ?_
  rw [← ixB_fold ms s0 0]
  simp -dsimp only [go_sem]
  exact fin_one (by simp -dsimp only [go_sem]) (by simp -dsimp only [go_sem]) (by simp -dsimp only [go_sem, lb])
def SomeOkI (w : Wld) (d : Nat) : Prop := ∀ (l a b : Nat) (n : Need) (S : TbB) (h : AH), AtB l a b w S h → NOk w n → TbBOk w S →
    Isea.Good Tryz.prog 174 [.ptr l 0, .agg n.row, .v (.int .i64 (d : Nat))] h [b] (.v (.bool (someT w d n S).1)) ⟨h.n, upd h.o b (.map (mapB (someT w d n S).2))⟩
theorem i_some11 {w : Wld} {e : Nat} (he : e ≤ 6) (ih : SomeOkI w e) (l a b : Nat) (ms : List Need) (hmm : ∀ m ∈ ms, NOk w m ∧ tv m.t = true ∧ m.t.length ≤ 60) : CloB_Need w l a b 229 [.ref [.ptr l 0] 0, .ref [.v (.int .i64 ((e + 1 : Nat) : Int))] 0] (notB (someT w e)) ms := by
  intro m hm s H hs hat
  have hew : IntKind.i64.wrap (((e + 1 : Nat) : Int) - 1) = ((e : Nat) : Int) := by rw [wrap_i64] <;> omega
  have hS := fun H hat => ih l a b m s H hat (hmm m hm).1 hs
  unfold notB
  generalize someT w e m s = R at hS
  obtain ⟨ll, lb, lab, ol, ob⟩ := hat
  refine good [] [] Tryz.func229 rfl rfl Tryz.ntmps229 (by kernel_rfl) mixed (by kernel_rfl) ?_
  simp -dsimp only [go_sem, Need.row, hew] at hS ⊢
  refine call_turn (hS _ ⟨by simp -dsimp only [go_sem, ll], by simp -dsimp only [go_sem, lb], lab, by simp -dsimp only [go_sem, ol], by simp -dsimp only [go_sem, ob]⟩) (fun t ht _ => .inr ht) (fun t ht => by cases ht) ?_
  simp -dsimp only [go_sem]
  exact fin_one (by simp -dsimp only [go_sem]) (by simp -dsimp only [go_sem]) (by simp -dsimp only [go_sem, lb])
theorem i_some1 {w : Wld} (hok : worldOk w = true) (hw : w.Sm) {d : Nat} (hd6 : d ≤ 6) (ih : ∀ e, d = e + 1 → SomeOkI w e) (l a b : Nat) (n : Need) (hn : n.Sm) (hns : ∀ i ∈ candIx w n, True) : CloB_int w l a b 228 [.ref [.ptr l 0] 0, .ref [str n.c, str n.t] 0, .ref [.v (.int .i64 (d : Nat))] 0] (oneN w (sbB w d) d n) (candIx w n) := by
  intro i hi s H hs hat
  obtain ⟨x, hx, hxc, hxm⟩ := cand_mem hi
  have hwi := world_inst hok hx
  have h6 := hwi.2.2.2.2.2.1
  have hi9 : i < w.is.length := (List.getElem?_eq_some_iff.1 hx).1
  clear hwi
  have hxs := hw.i x (List.mem_of_getElem? hx)
  have hN4 := fun H => i_needs x n.t H hxs hn.2 (by omega)
  have hat' := hat
  obtain ⟨ll, lb, lab, ol, ob⟩ := hat
  have lba : ¬ b = l := fun e => lab e.symm
  simp only [wyC] at ol
  simp -dsimp only [go_sem, Inst.row] at hN4
  rcases opt_cases (needsOf x n.t) with hN | ⟨ms, hN⟩
  · rw [oneN_no hx hN]
    rw [hN] at hN4
    refine good [] [] Tryz.func228 rfl rfl Tryz.ntmps228 (by kernel_rfl) mixed (by kernel_rfl) ?_
    simp -dsimp only [go_sem, ll, ol, hi9, hx, Inst.row, List.length_map]
    refine call_pure (hN4 _) ?_
    simp -dsimp only [go_sem, needsV]
    exact fin_one (by simp -dsimp only [go_sem]) (by simp -dsimp only [go_sem]) (by simp -dsimp only [go_sem, ob])
  · have hno := needs_ok hok hw hx hN
    have hml := hno.1
    have hmm := hno.2
    clear hno
    rw [hN] at hN4
    by_cases hlow : 0 < ms.length ∧ d = 0
    · rw [oneN_low' hx hN hlow]
      have q1 : (((ms.length : Nat) : Int) = 0) = False := eq_false (by omega)
      have q2 : ((0 : Int) < ((d : Nat) : Int)) = False := eq_false (by omega)
      refine good [] [] Tryz.func228 rfl rfl Tryz.ntmps228 (by kernel_rfl) mixed (by kernel_rfl) ?_
      simp -dsimp only [go_sem, ll, ol, hi9, hx, Inst.row, List.length_map]
      refine call_pure (hN4 _) ?_
      simp -dsimp only [go_sem, needsV, q1, q2, List.length_map]
      exact fin_one (by simp -dsimp only [go_sem]) (by simp -dsimp only [go_sem]) (by simp -dsimp only [go_sem, ob])
    · have hfd := sbB_ok hok hw d (by omega)
      rw [oneN_all hx hN hlow]
      have hF := fold_all (fd := sbB w d) ms s
      have hC : CloB_Need w l a b 229 [.ref [.ptr l 0] 0, .ref [.v (.int .i64 (d : Nat))] 0] (notB (sbB w d)) ms := by
        rcases Nat.eq_zero_or_pos ms.length with h0 | h0
        · intro m hm
          rw [List.eq_nil_of_length_eq_zero h0] at hm
          cases hm
        · obtain ⟨e, rfl⟩ : ∃ e, d = e + 1 := ⟨d - 1, by
            have : ¬ d = 0 := fun z => hlow ⟨h0, z⟩
            omega⟩
          exact i_some11 (by omega) (ih e rfl) l a b ms hmm
      have hCc := fun H hat hcap => l_ContainsFuncB_Need w l a b 229 [.ref [.ptr l 0] 0, .ref [.v (.int .i64 (d : Nat))] 0] (notB (sbB w d)) ms s H hat hcap hC (by omega) hs (fun m hm s hs => hfd.ok m s (hmm m hm).1 hs)
      rw [hF] at hCc
      generalize allN (sbB w d) ms s = R at hCc
      have hcp : ∀ (H0 H : AH) (m : Nat), l < H0.n → H0.n ≤ m → FzL H m [.ref [.ptr l 0] 0, .ref [.v (.int .i64 ((d : Nat) : Int))] 0] [.ref [.ptr l 0] 0, .ref [.v (.int .i64 ((d : Nat) : Int))] 0] := fun H0 H m h1 h2 => by
        have hlm : l < m := by omega
        simp -dsimp only [go_sem, hlm]
      have hq : (((ms.length : Nat) : Int) = 0) = True ∨ ((((ms.length : Nat) : Int) = 0) = False ∧ ((0 : Int) < ((d : Nat) : Int)) = True) := by
        rcases Nat.eq_zero_or_pos ms.length with h0 | h0
        · exact .inl (eq_true (by omega))
        · exact .inr ⟨eq_false (by omega), eq_true (by
            have : ¬ d = 0 := fun z => hlow ⟨h0, z⟩
            omega)⟩
      rcases hq with q1 | ⟨q1, q2⟩
      · refine good [] [] Tryz.func228 rfl rfl Tryz.ntmps228 (by kernel_rfl) mixed (by kernel_rfl) ?_
        simp -dsimp only [go_sem, ll, ol, hi9, hx, Inst.row, List.length_map]
        refine call_pure (hN4 _) ?_
        simp -dsimp only [go_sem, needsV, q1, List.length_map, ll]
        refine call_turn (hCc _ ⟨by simp -dsimp only [go_sem, ll], by simp -dsimp only [go_sem, lb], lab, by simp -dsimp only [go_sem, ol, wyC], by simp -dsimp only [go_sem, ob]⟩ (fun H m hm => hcp _ H m (by simp -dsimp only [go_sem, ll]) hm)) (fun t ht _ => .inr ht) (fun t ht => by cases ht) ?_
        simp -dsimp only [go_sem]
        exact fin_one (by simp -dsimp only [go_sem]) (by simp -dsimp only [go_sem, Bool.not_not]) (by simp -dsimp only [go_sem, lb])
      · refine good [] [] Tryz.func228 rfl rfl Tryz.ntmps228 (by kernel_rfl) mixed (by kernel_rfl) ?_
        simp -dsimp only [go_sem, ll, ol, hi9, hx, Inst.row, List.length_map]
        refine call_pure (hN4 _) ?_
        simp -dsimp only [go_sem, needsV, q1, q2, List.length_map, ll]
        refine call_turn (hCc _ ⟨by simp -dsimp only [go_sem, ll], by simp -dsimp only [go_sem, lb], lab, by simp -dsimp only [go_sem, ol, wyC], by simp -dsimp only [go_sem, ob]⟩ (fun H m hm => hcp _ H m (by simp -dsimp only [go_sem, ll]) hm)) (fun t ht _ => .inr ht) (fun t ht => by cases ht) ?_
        simp -dsimp only [go_sem]
        exact fin_one (by simp -dsimp only [go_sem]) (by simp -dsimp only [go_sem, Bool.not_not]) (by simp -dsimp only [go_sem, lb])
theorem i_some_step {w : Wld} (hok : worldOk w = true) (hw : w.Sm) {d : Nat} (hd6 : d ≤ 6) (ih : ∀ e, d = e + 1 → SomeOkI w e) : SomeOkI w d := by
  intro l a b n S h hat hn hS
  have hc10 := cand_len10 hok n
  have hwl := world_len hok
  have hfd := sbB_ok hok hw d (by omega)
  have hcand := fun H => i_candidates w n H hw hn.2 (by omega)
  have hK := fun H => i_key n d H hn.2 (nok_cI hok hn) (by omega)
  have hk := hS.keyL hok hn (d := d) (by omega)
  have eA := someT_eq w d n S
  generalize hTT : someT w d n S = TT at eA ⊢
  clear hTT
  unfold keepB at eA
  have hat' := hat
  obtain ⟨ll, lb, lab, ol, ob⟩ := hat
  have lba : ¬ b = l := fun e => lab e.symm
  simp only [wyC] at ol
  have hmf := mfind_mapB hk
  have hMT : MT Tryz.prog 107 = some (.v (.bool false)) := by kernel_rfl
  have hcp : ∀ (H : AH) (m : Nat), h.n ≤ m → FzL H m [.ref [.ptr l 0] 0, .ref [str n.c, str n.t] 0, .ref [.v (.int .i64 ((d : Nat) : Int))] 0] [.ref [.ptr l 0] 0, .ref [str n.c, str n.t] 0, .ref [.v (.int .i64 ((d : Nat) : Int))] 0] := fun H m h2 => by
    have hlm : l < m := by omega
    simp -dsimp only [go_sem, hlm]
  have hCf := fun H hat hcap => l_ContainsFuncB_int w l a b 228 [.ref [.ptr l 0] 0, .ref [str n.c, str n.t] 0, .ref [.v (.int .i64 (d : Nat))] 0] (oneN w (sbB w d) d n) (candIx w n) S H hat hcap (i_some1 hok hw hd6 ih l a b n hn.2 fun _ _ => trivial) (by omega) hS (fun m hm s hs => (oneN_ok hok hw hfd hs).2)
  rw [fold_any] at hCf
  obtain ⟨R0, hR0, hlow⟩ := anyN_low hfd (d := d) (n := n) (candIx w n) S
  have hRok := (anyN_ok hok hw hfd (d := d) (n := n) (candIx w n) S hS).2
  generalize anyN w (sbB w d) d n (candIx w n) S = R at eA hCf hR0 hRok
  refine good [] [(4, OT.o 0 (OT.o 1 (OT.o 2 (OT.o 3 (OT.o 4 (OT.o 6 (OT.o 5 (OT.o 7 (OT.o 8 OT.e))))))))), (5, OT.o 0 (OT.o 1 (OT.o 2 (OT.o 3 (OT.o 4 (OT.o 5 (OT.o 7 (OT.o 6 (OT.o 8 OT.e)))))))))] Tryz.func174 rfl rfl Tryz.ntmps174 (by kernel_rfl) mixed (by kernel_rfl) ?_
  simp -dsimp only [go_sem, Need.row, Wld.row] at hcand hK
  simp -dsimp only [go_sem, Need.row, Wld.row, ol, ob, ll, lb]
  refine call_pure (hK _) ?_
  simp -dsimp only [go_sem, ol, ob, hmf, hMT, ll, lb]
  rcases opt_cases (tfB S n d) with e0 | ⟨r0, e0⟩
  rotate_left
  · rw [e0] at eA
    have eA : TT = (r0, S) := eA
    subst eA
    rw [e0]
    simp -dsimp only [go_sem, Option.map_some]
    exact fin_one (by simp -dsimp only [go_sem]) (by simp -dsimp only [go_sem]) (by simp -dsimp only [go_sem, ob])
  · have e1 : tfB R.2 n d = none := by rw [hR0]; exact tfB_low e0 hlow
    rw [e0] at eA
    rw [e0]
    have eA : TT = (R.1, R.2 ++ [((n, d), R.1)]) := eA
    subst eA
    have hk2 := hRok.keyL hok hn (d := d) (by omega)
    have hmp := mput_mapB (x := .v (.bool R.1)) hk2 e1
    have hmf2 := mfind_mapB hk2
    rw [e1] at hmf2
    simp -dsimp only [go_sem, Option.map_none, ol, ob, ll, lb]
    refine call_pure (hcand _) ?_
    simp -dsimp only [go_sem, ll, lb]
    refine call_one (hCf _ ⟨by simp -dsimp only [go_sem, ll], by simp -dsimp only [go_sem, lb], lab, by simp -dsimp only [go_sem, ol, wyC], by simp -dsimp only [go_sem, ob]⟩ (fun H m hm => hcp H m hm)) (.inr (by simp)) (out_prS (by kernel_rfl)) ?_
    simp -dsimp only [go_sem, ol, ll, lb, lab, lba]
    refine call_pure (hK _) ?_
    simp -dsimp only [go_sem, ol, ll, lb, lab, lba, hmp, hmf2, hMT, Option.map_none, Option.isSome_some]
    refine fin_one (by simp -dsimp only [go_sem]) (by simp -dsimp only [go_sem]) ?_
    simp -dsimp only [go_sem, lb]
    have e : mapB (R.2 ++ [((n, d), R.1)]) = mapB R.2 ++ [(str (Isea.keyL n d), .v (.bool R.1))] := mapB_snoc ..
    rw [← e]
    exact of_eq_true objFz_mapB
theorem i_some {w : Wld} (hok : worldOk w = true) (hw : w.Sm) : ∀ d, d ≤ 6 → SomeOkI w d
  | 0, h => i_some_step hok hw h fun e he => by cases he
  | d + 1, h => i_some_step hok hw h fun e he => by cases he; exact i_some hok hw d (by omega)
end Go.Proofs.YtiphcdmjlkngfaaGreatDoor

namespace Go.Isea
open Go
theorem lvF_s (w : Wld) (n : Need) (m d : Nat) : lvF w n (m + 1) d = if someD w d n = true then (d : Int) else lvF w n m (d + 1) := rfl
theorem someT_ok {w : Wld} (hok : worldOk w = true) (hw : w.Sm) {d : Nat} (hd : d ≤ 6) {n : Need} (hn : NOk w n) {S : TbB} (hS : TbBOk w S) : (someT w d n S).1 = someD w d n ∧ TbBOk w (someT w d n S).2 ∧ (someT w d n S).2.length ≤ S.length + bT (d + 1) := by
  have h := sbB_ok hok hw (d + 1) (by omega)
  exact ⟨h.val n S hn hS, h.ok n S hn hS, h.len n S⟩
end Go.Isea
namespace Go.Proofs.YtiphcdmjlkngfaaGreatDoor
open Go Go.Isea
set_option maxRecDepth 100000
set_option maxHeartbeats 16000000
theorem i_levelOf (w : Wld) (n : Need) (h : AH) (hok : worldOk w = true) (hw : w.Sm) (hn : NOk w n) : Isea.Good Tryz.prog 106 [.agg w.row, .agg n.row] h [] (.v (.int .i64 (lvF w n 7 0))) h := by
  have hB := fun H => i_begin w H
  have hS := fun d hd H S hat hs => i_some hok hw d hd (h.n + 2) h.n (h.n + 1) n S H hat hn hs
  generalize hT : lvF w n 7 0 = T
  have a1 : ¬ h.n = h.n + 1 := by omega
  have a2 : ¬ h.n = h.n + 2 := by omega
  have a3 : ¬ h.n + 1 = h.n + 2 := by omega
  have b1 : ¬ h.n + 1 = h.n := by omega
  have b2 : ¬ h.n + 2 = h.n := by omega
  have b3 : ¬ h.n + 2 = h.n + 1 := by omega
  have e0 : mapB [] = [] := rfl
  refine good [] [] Tryz.func106 rfl rfl Tryz.ntmps106 (by kernel_rfl) mixed (by kernel_rfl) ?_
  simp -dsimp only [go_sem, Wld.row, Need.row] at hB hS ⊢
  refine call_pure (hB _) ?_
  simp -dsimp only [go_sem]
  refine loop_ruleH [3, 1] (fun (y : {y : Nat × TbB // y.1 ≤ 7 ∧ T = lvF w n (7 - y.1) y.1 ∧ TbBOk w y.2}) H => ([(9, .v (.int .i64 (y.1.1 : Nat)))], ⟨h.n + 3, upd (upd (upd H.o h.n (.map [])) (h.n + 1) (.map (mapB y.1.2))) (h.n + 2) (.cells (wyC w h.n (h.n + 1) true))⟩)) (fun y => 7 - y.1.1) ⟨(0, []), by simp, hT.symm, TbBOk.nil⟩ ?_ ?_
  · refine weak_objs [h.n, h.n + 1, h.n + 2] (by simp -dsimp only [go_sem]) (by simp -dsimp only [go_sem]) (by simp -dsimp only [go_sem]) ?_ ?_ ?_
    · intro t h1 h2
      have c0 : ¬ t = h.n := by omega
      have c1 : ¬ t = h.n + 1 := by omega
      have c2 : ¬ t = h.n + 2 := by omega
      simp -dsimp only [go_sem, c0, c1, c2]
    · intro x h1 h2; have h1 : x < h.n + 3 := h1; simp at h2 ⊢; omega
    · simp -dsimp only [go_sem, wyC, e0, objFz_map0, a1, a2, a3, b1, b2, b3]
  · rintro ⟨⟨k, S⟩, hk, hinv, hs⟩
    have hk : k ≤ 7 := hk
    have hinv : T = lvF w n (7 - k) k := hinv
    have hs : TbBOk w S := hs
    clear hT
    have k1 : k + 1 ≤ 9223372036854775807 := by omega
    by_cases hlt : k < 7
    · have hkc : (((k : Nat) : Int) < 7) = True := eq_true (by omega)
      rw [show 7 - k = (7 - (k + 1)) + 1 by omega, lvF_s] at hinv
      obtain ⟨v1, v2, _⟩ := someT_ok hok hw (d := k) (by omega) hn hs
      have hSk := fun H hat => hS k (by omega) H S hat hs
      rw [v1] at hSk
      generalize (someT w k n S).2 = S2 at hSk v2
      simp -dsimp only [go_sem, hkc]
      refine call_turn (hSk _ ⟨by simp -dsimp only [go_sem], by simp -dsimp only [go_sem], by omega, by simp -dsimp only [go_sem], by simp -dsimp only [go_sem, a3]⟩) (fun t ht _ => .inl (by simp at ht; show h.n ≤ t; omega)) (fun t ht => by cases ht) ?_
      cases hsd : someD w k n with
      | true =>
        rw [hsd, if_pos rfl] at hinv
        subst hinv
        simp -dsimp only [go_sem]
        exact fin_pure (by simp -dsimp only [go_sem]) (by simp -dsimp only [go_sem])
      | false =>
        rw [hsd, if_neg (by simp)] at hinv
        simp -dsimp only [go_sem, k1]
        refine round_to ⟨(k + 1, S2), hlt, hinv, v2⟩ (by show 7 - (k + 1) < 7 - k; omega) ?_
        refine weak_objs [h.n, h.n + 1, h.n + 2] (by simp -dsimp only [go_sem]) (by simp -dsimp only [go_sem]) (by simp -dsimp only [go_sem]) ?_ ?_ ?_
        · intro t h1 h2
          have c0 : ¬ t = h.n := by omega
          have c1 : ¬ t = h.n + 1 := by omega
          have c2 : ¬ t = h.n + 2 := by omega
          simp -dsimp only [go_sem, c0, c1, c2]
        · intro x h1 h2; have h1 : x < h.n + 3 := h1; simp at h2 ⊢; omega
        · simp -dsimp only [go_sem, wyC, objFz_map0, a1, a2, a3, b1, b2, b3]
    · have hkc : (((k : Nat) : Int) < 7) = False := eq_false (by omega)
      have hke : 7 - k = 0 := by omega
      rw [hke] at hinv
      have hinv : T = -1 := hinv
      subst hinv
      simp -dsimp only [go_sem, hkc]
      exact fin_pure (by simp -dsimp only [go_sem]) (by simp -dsimp only [go_sem])
theorem i_LevelOf (w : Wld) (n : Need) (h : AH) (hw : w.Sm) (hn : n.Sm) : Isea.Good Tryz.prog 44 [.agg w.row, .agg n.row] h [] (.v (.int .i64 (levelN w n))) h := by
  have hV := fun H => i_NeedValid w n H hw hn
  unfold levelN
  cases hv : (worldOk w && needOk w n) with
  | false =>
    rw [if_neg (by simp)]
    rw [hv] at hV
    refine good [] [] Tryz.func44 rfl rfl Tryz.ntmps44 (by kernel_rfl) mixed (by kernel_rfl) ?_
    simp -dsimp only [go_sem, Wld.row, Need.row] at hV ⊢
    refine call_pure (hV _) ?_
    simp -dsimp only [go_sem]
    exact fin_pure (by simp -dsimp only [go_sem]) (by simp -dsimp only [go_sem])
  | true =>
    rw [if_pos rfl]
    rw [hv] at hV
    rw [Bool.and_eq_true] at hv
    have hL := fun H => i_levelOf w n H hv.1 hw (nok_of hv.2 hn)
    refine good [] [] Tryz.func44 rfl rfl Tryz.ntmps44 (by kernel_rfl) mixed (by kernel_rfl) ?_
    simp -dsimp only [go_sem, Wld.row, Need.row] at hV hL ⊢
    refine call_pure (hV _) ?_
    simp -dsimp only [go_sem]
    refine call_pure (hL _) ?_
    simp -dsimp only [go_sem]
    exact fin_pure (by simp -dsimp only [go_sem]) (by simp -dsimp only [go_sem])
theorem s_has_first {w : Wld} (hok : worldOk w = true) (hw : w.Sm) (d : Nat) (hd6 : d ≤ 6) (l : Nat) (n : Need) (h : AH) (hl : l < h.n) (hn : NOk w n)
    (ho : h.o l = .cells [.sl (w.cs.map Cls.row), .sl (w.is.map Inst.row), .v (.slice none 0 0), .v (.slice none 0 0), .v (.slice none 0 0)]) :
    Isea.Good Tryz.prog 107 [.ptr l 0, .agg n.row, .v (.int .i64 (d : Nat))] h [l] (.v (.bool (someT w d n []).1)) ⟨h.n + 3, tbH l h.n (h.n + 1) (h.n + 2) w (tbB (someT w d n []).2) h.o⟩ := by
  have e0 : ¬ l = h.n := by omega
  have e1 : ¬ l = h.n + 1 := by omega
  have e2 : ¬ l = h.n + 2 := by omega
  have hd : Dis l h.n (h.n + 1) (h.n + 2) := by constructor <;> omega
  have hB : bT (d + 1) ≤ 1000000000 := bT_le (d + 1) (by omega)
  let c1 : List AV := [.sl (w.cs.map Cls.row), .sl (w.is.map Inst.row), .so h.n 0 0, .v (.slice none 0 0), .v (.slice none 0 0)]
  let c2 : List AV := [.sl (w.cs.map Cls.row), .sl (w.is.map Inst.row), .so h.n 0 0, .so (h.n + 1) 0 0, .v (.slice none 0 0)]
  let c3 : List AV := [.sl (w.cs.map Cls.row), .sl (w.is.map Inst.row), .so h.n 0 0, .so (h.n + 1) 0 0, .so (h.n + 2) 0 0]
  let m1 : AH := ⟨h.n + 1, upd (upd h.o l (.cells c1)) h.n (.rows 9 1 [])⟩
  let m2 : AH := ⟨h.n + 2, upd (upd m1.o l (.cells c2)) (h.n + 1) (.rows 41 1 [])⟩
  let m3 : AH := ⟨h.n + 3, upd (upd m2.o l (.cells c3)) (h.n + 2) (.rows 4 1 [])⟩
  have hA := s_has hok hw d hd6 l h.n (h.n + 1) (h.n + 2) n [] m3 hd ⟨by show l < h.n + 3; omega, by show h.n < h.n + 3; omega, by show h.n + 1 < h.n + 3; omega, by show h.n + 2 < h.n + 3; omega,
    by show upd (upd _ l _) (h.n + 2) _ l = _; rw [upd_ne _ _ e2, upd_same]; rfl,
    by show upd (upd (upd (upd (upd (upd _ l _) h.n _) l _) (h.n + 1) _) l _) (h.n + 2) _ h.n = _; rw [upd_ne _ _ (by omega), upd_ne _ _ (by omega), upd_ne _ _ (by omega), upd_ne _ _ (by omega), upd_same]; rfl,
    by show upd (upd (upd (upd _ l _) (h.n + 1) _) l _) (h.n + 2) _ (h.n + 1) = _; rw [upd_ne _ _ (by omega), upd_ne _ _ (by omega), upd_same]; rfl,
    upd_same _ _ _⟩ hn TbBOk.nil (by simp only [List.length_nil]; omega)
  have g2 := Good.ghostT (h := m2) (e := 4) (sz := 1) (cs := c2) (cs' := c3) (T := [h.n + 1, h.n, l]) (by decide) (by simp) (show l < h.n + 2 by omega) (by show upd (upd _ l _) (h.n + 1) _ l = _; rw [upd_ne _ _ e1, upd_same]) rfl
    (fun i x y q1 q2 => by rcases i with _ | _ | _ | _ | _ | i <;> simp [c2, c3] at q1 q2 <;> subst q1 <;> subst q2 <;> simp [m2, m1]) hA
  have g1 := Good.ghostT (h := m1) (e := 41) (sz := 1) (cs := c1) (cs' := c2) (T := [h.n, l]) (by decide) (by simp) (show l < h.n + 1 by omega) (by show upd (upd _ l _) h.n _ l = _; rw [upd_ne _ _ e0, upd_same]) rfl
    (fun i x y q1 q2 => by rcases i with _ | _ | _ | _ | _ | i <;> simp [c2, c1] at q1 q2 <;> subst q1 <;> subst q2 <;> simp [m1]) g2
  have g0 := Good.ghostT (h := h) (e := 9) (sz := 1) (cs := [.sl (w.cs.map Cls.row), .sl (w.is.map Inst.row), .v (.slice none 0 0), .v (.slice none 0 0), .v (.slice none 0 0)]) (cs' := c1) (T := [l]) (by decide) (by simp) hl ho rfl
    (fun i x y q1 q2 => by rcases i with _ | _ | _ | _ | _ | i <;> simp [c1] at q1 q2 <;> subst q1 <;> subst q2 <;> simp) g1
  have e : tbH l h.n (h.n + 1) (h.n + 2) w (tbB (someT w d n []).2) m3.o = tbH l h.n (h.n + 1) (h.n + 2) w (tbB (someT w d n []).2) h.o := by
    funext x
    unfold tbH
    simp only [upd]
    by_cases x3 : x = h.n + 2
    · rw [if_pos x3, if_pos x3]
    by_cases x2 : x = h.n + 1
    · rw [if_neg x3, if_neg x3, if_pos x2, if_pos x2]
    by_cases x1 : x = h.n
    · rw [if_neg x3, if_neg x3, if_neg x2, if_neg x2, if_pos x1, if_pos x1]
    by_cases x0 : x = l
    · rw [if_neg x3, if_neg x3, if_neg x2, if_neg x2, if_neg x1, if_neg x1, if_pos x0, if_pos x0]
    rw [if_neg x3, if_neg x3, if_neg x2, if_neg x2, if_neg x1, if_neg x1, if_neg x0, if_neg x0]
    simp only [m3, m2, m1, upd, x3, x2, x1, x0, if_false]
  rw [e] at g0
  exact g0
/-- the table as it stands before a round -/
def lvM (w : Wld) (m : Nat) (o : Nat → AObj) (S : TbB) : Nat → AH
  | 0 => ⟨m + 1, upd o m (.cells [.sl (w.cs.map Cls.row), .sl (w.is.map Inst.row), .v (.slice none 0 0), .v (.slice none 0 0), .v (.slice none 0 0)])⟩
  | _ + 1 => ⟨m + 4, tbH m (m + 1) (m + 2) (m + 3) w (tbB S) o⟩
theorem s_LevelOf (w : Wld) (n : Need) (h : AH) (hw : w.Sm) (hn : n.Sm) : Isea.Good Tryz.prog 45 [.agg w.row, .agg n.row] h [] (.v (.int .i64 (levelN w n))) h := by
  have hV := fun H => s_NeedValid w n H hw hn
  unfold levelN
  cases hv : (worldOk w && needOk w n) with
  | false =>
    rw [if_neg (by simp)]
    rw [hv] at hV
    refine good [9] [] Tryz.func45 rfl rfl Tryz.ntmps45 (by kernel_rfl) mixed (by kernel_rfl) ?_
    simp -dsimp only [go_sem, Wld.row, Need.row] at hV ⊢
    refine loop_ruleH [2, 0, 1] (fun (k : {k : Nat // k ≤ 7}) H => ([(10, .v (.int .i64 (k.1 : Nat)))], ⟨h.n + 1, upd H.o h.n (.cells [.sl (w.cs.map Cls.row), .sl (w.is.map Inst.row), .v (.slice none 0 0), .v (.slice none 0 0), .v (.slice none 0 0)])⟩)) (fun k => 7 - k.1) ⟨0, by simp⟩ ?_ ?_
    · refine weak_objs [h.n] (by simp -dsimp only [go_sem]) (by simp -dsimp only [go_sem]) (by simp -dsimp only [go_sem]) ?_ ?_ ?_
      · intro t h1 h2
        have c0 : ¬ t = h.n := by omega
        simp -dsimp only [go_sem, c0]
      · intro x h1 h2; have h1 : x < h.n + 1 := h1; simp at h2 ⊢; omega
      · simp -dsimp only [go_sem]
    · rintro ⟨k, hk⟩
      have k1 : k + 1 ≤ 9223372036854775807 := by omega
      by_cases hlt : k < 7
      · have hkc : (((k : Nat) : Int) < 7) = True := eq_true (by omega)
        simp -dsimp only [go_sem, hkc]
        refine call_pure (hV _) ?_
        simp -dsimp only [go_sem, k1]
        refine round_to ⟨k + 1, hlt⟩ (by show 7 - (k + 1) < 7 - k; omega) ?_
        refine weak_objs [h.n] (by simp -dsimp only [go_sem]) (by simp -dsimp only [go_sem]) (by simp -dsimp only [go_sem]) ?_ ?_ ?_
        · intro t h1 h2
          have c0 : ¬ t = h.n := by omega
          simp -dsimp only [go_sem, c0]
        · intro x h1 h2; have h1 : x < h.n + 1 := h1; simp at h2 ⊢; omega
        · simp -dsimp only [go_sem]
      · have hkc : (((k : Nat) : Int) < 7) = False := eq_false (by omega)
        simp -dsimp only [go_sem, hkc]
        exact fin_pure (by simp -dsimp only [go_sem]) (by simp -dsimp only [go_sem])
  | true =>
    rw [if_pos rfl]
    rw [hv] at hV
    rw [Bool.and_eq_true] at hv
    have hnn := nok_of hv.2 hn
    have hF := fun H hl ho => s_has_first hv.1 hw 0 (by omega) h.n n H hl hnn ho
    have hS := fun d hd H S hat hs hb => s_has hv.1 hw d hd h.n (h.n + 1) (h.n + 2) (h.n + 3) n S H (by constructor <;> omega) hat hnn hs hb
    have hv := hv.1
    generalize hT : lvF w n 7 0 = T
    have hbT : ∀ d, d ≤ 7 → bT d ≤ 1000000000 := bT_le
    have d01 : ¬ h.n = h.n + 1 := by omega
    have d02 : ¬ h.n = h.n + 2 := by omega
    have d03 : ¬ h.n = h.n + 3 := by omega
    have d10 : ¬ h.n + 1 = h.n := by omega
    have d12 : ¬ h.n + 1 = h.n + 2 := by omega
    have d13 : ¬ h.n + 1 = h.n + 3 := by omega
    have d20 : ¬ h.n + 2 = h.n := by omega
    have d21 : ¬ h.n + 2 = h.n + 1 := by omega
    have d23 : ¬ h.n + 2 = h.n + 3 := by omega
    have d30 : ¬ h.n + 3 = h.n := by omega
    have d31 : ¬ h.n + 3 = h.n + 1 := by omega
    have d32 : ¬ h.n + 3 = h.n + 2 := by omega
    refine good [9] [] Tryz.func45 rfl rfl Tryz.ntmps45 (by kernel_rfl) mixed (by kernel_rfl) ?_
    simp -dsimp only [go_sem, Wld.row, Need.row] at hV hF hS ⊢
    refine loop_ruleH [2, 0, 1] (fun (y : {y : Nat × TbB // y.1 ≤ 7 ∧ T = lvF w n (7 - y.1) y.1 ∧ TbBOk w y.2 ∧ (y.1 = 0 → y.2 = []) ∧ y.2.length ≤ 2 * bT y.1}) H => ([(10, .v (.int .i64 (y.1.1 : Nat)))], lvM w h.n H.o y.1.2 y.1.1)) (fun y => 7 - y.1.1) ⟨(0, []), by simp, hT.symm, TbBOk.nil, fun _ => rfl, by simp⟩ ?_ ?_
    · refine weak_objs [h.n] (by simp -dsimp only [go_sem, lvM]) (by simp -dsimp only [go_sem, lvM]) (by simp -dsimp only [go_sem, lvM]) ?_ ?_ ?_
      · intro t h1 h2
        have c0 : ¬ t = h.n := by omega
        simp -dsimp only [go_sem, lvM, c0]
      · intro x h1 h2; have h1 : x < h.n + 1 := h1; simp at h2 ⊢; omega
      · simp -dsimp only [go_sem, lvM]
    · rintro ⟨⟨k, S⟩, hk, hinv, hs, h0, hb⟩
      have hk : k ≤ 7 := hk
      have hin2 : T = lvF w n (7 - k) k := hinv
      have hs2 : TbBOk w S := hs
      have h02 : k = 0 → S = [] := h0
      have hb3 : S.length ≤ 2 * bT k := hb
      clear hT
      have k1 : k + 1 ≤ 9223372036854775807 := by omega
      by_cases hlt : k < 7
      · have hkc : (((k : Nat) : Int) < 7) = True := eq_true (by omega)
        rw [show 7 - k = (7 - (k + 1)) + 1 by omega, lvF_s] at hin2
        obtain ⟨v1, v2, v3⟩ := someT_ok hv hw (d := k) (by omega) hnn hs2
        have hbk : bT (k + 1) = 30 * bT k + 1 := rfl
        have hbl := hbT (k + 1) (by omega)
        have hb2 : (someT w k n S).2.length ≤ 2 * bT (k + 1) := by omega
        rcases Nat.eq_zero_or_pos k with hk0 | hk0
        · have hS0 := h02 hk0
          subst hk0
          subst hS0
          rw [v1] at hF
          generalize (someT w 0 n []).2 = S2 at hF v2 hb2
          simp -dsimp only [go_sem, lvM]
          refine call_pure (hV _) ?_
          simp -dsimp only [go_sem]
          refine call_one (hF _ (by simp -dsimp only [go_sem]) (by simp -dsimp only [go_sem])) (.inl (Nat.le_refl _)) (by simp) ?_
          cases hsd : someD w 0 n with
          | true =>
            rw [hsd, if_pos rfl] at hin2
            subst hin2
            simp -dsimp only [go_sem]
            exact fin_pure (by simp -dsimp only [go_sem]) (by simp -dsimp only [go_sem])
          | false =>
            rw [hsd, if_neg (by simp)] at hin2
            simp -dsimp only [go_sem, k1]
            refine round_to ⟨(1, S2), hlt, hin2, v2, fun z => by simp at z, hb2⟩ (by show 7 - 1 < 7 - 0; omega) ?_
            refine weak_objs [h.n, h.n + 1, h.n + 2, h.n + 3] (by simp -dsimp only [go_sem, lvM]) (by simp -dsimp only [go_sem, lvM]) (by simp -dsimp only [go_sem, lvM]) ?_ ?_ ?_
            · intro t h1 h2
              have c0 : ¬ t = h.n := by omega
              have c1 : ¬ t = h.n + 1 := by omega
              have c2 : ¬ t = h.n + 2 := by omega
              have c3 : ¬ t = h.n + 3 := by omega
              simp -dsimp only [go_sem, lvM, tbH, c0, c1, c2, c3]
            · intro x h1 h2; have h1 : x < h.n + 4 := h1; simp at h2 ⊢; omega
            · simp -dsimp only [go_sem, lvM, tbH, tbC, objFz_kR, objFz_lR, objFz_oR, d01, d02, d03, d10, d12, d13, d20, d21, d23, d30, d31, d32]
        · obtain ⟨q, rfl⟩ : ∃ q, k = q + 1 := ⟨k - 1, by omega⟩
          have hSk := fun H hat => hS (q + 1) (by omega) H S hat hs2 (by omega)
          rw [v1] at hSk
          generalize (someT w (q + 1) n S).2 = S2 at hSk v2 hb2
          simp -dsimp only [go_sem, hkc, lvM]
          refine call_pure (hV _) ?_
          simp -dsimp only [go_sem]
          refine call_turn (hSk _ ⟨by simp -dsimp only [go_sem], by simp -dsimp only [go_sem], by simp -dsimp only [go_sem], by simp -dsimp only [go_sem], by simp -dsimp only [go_sem, tbH, d01, d02, d03, d10, d12, d13, d20, d21, d23, d30, d31, d32], by simp -dsimp only [go_sem, tbH, d01, d02, d03, d10, d12, d13, d20, d21, d23, d30, d31, d32], by simp -dsimp only [go_sem, tbH, d01, d02, d03, d10, d12, d13, d20, d21, d23, d30, d31, d32], by simp -dsimp only [go_sem, tbH, d01, d02, d03, d10, d12, d13, d20, d21, d23, d30, d31, d32]⟩) (fun t ht _ => .inl (by simp at ht; show h.n ≤ t; omega)) (fun t ht => by cases ht) ?_
          cases hsd : someD w (q + 1) n with
          | true =>
            rw [hsd, if_pos rfl] at hin2
            subst hin2
            simp -dsimp only [go_sem]
            exact fin_pure (by simp -dsimp only [go_sem]) (by simp -dsimp only [go_sem])
          | false =>
            rw [hsd, if_neg (by simp)] at hin2
            simp -dsimp only [go_sem, k1]
            refine round_to ⟨(q + 1 + 1, S2), hlt, hin2, v2, fun z => by simp at z, hb2⟩ (by show 7 - (q + 1 + 1) < 7 - (q + 1); omega) ?_
            refine weak_objs [h.n, h.n + 1, h.n + 2, h.n + 3] (by simp -dsimp only [go_sem, lvM]) (by simp -dsimp only [go_sem, lvM]) (by simp -dsimp only [go_sem, lvM]) ?_ ?_ ?_
            · intro t h1 h2
              have c0 : ¬ t = h.n := by omega
              have c1 : ¬ t = h.n + 1 := by omega
              have c2 : ¬ t = h.n + 2 := by omega
              have c3 : ¬ t = h.n + 3 := by omega
              simp -dsimp only [go_sem, lvM, tbH, c0, c1, c2, c3]
            · intro x h1 h2; have h1 : x < h.n + 4 := h1; simp at h2 ⊢; omega
            · simp -dsimp only [go_sem, lvM, tbH, tbC, objFz_kR, objFz_lR, objFz_oR, d01, d02, d03, d10, d12, d13, d20, d21, d23, d30, d31, d32]
      · have hkc : (((k : Nat) : Int) < 7) = False := eq_false (by omega)
        have hke : 7 - k = 0 := by omega
        rw [hke] at hin2
        have hin2 : T = -1 := hin2
        subst hin2
        obtain ⟨q, rfl⟩ : ∃ q, k = q + 1 := ⟨k - 1, by omega⟩
        simp -dsimp only [go_sem, hkc, lvM]
        exact fin_pure (by simp -dsimp only [go_sem]) (by simp -dsimp only [go_sem])
end Go.Proofs.YtiphcdmjlkngfaaGreatDoor
