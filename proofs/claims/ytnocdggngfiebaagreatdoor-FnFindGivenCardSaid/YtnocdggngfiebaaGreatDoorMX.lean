/- Contracts of functions of this program, for all arguments that satisfy what each lemma asks for. -/
import Derived.Test.YtnocdggngfiebaaGreatDoorMI
set_option linter.all false
namespace Go.Proofs.YtnocdggngfiebaaGreatDoor
open Go Go.Isea
set_option maxRecDepth 100000
set_option maxHeartbeats 16000000
def gTy : List L8 := [[120], [121], [120], [108, 40, 120, 41], [105], [122]]
def RoundG (b : L8) (w : Wld) (cnt k : Nat) (s s' : Nat × List Need) : Prop := k < cnt → ∃ (x t : L8) (q1 : Nat), s'.2 = s.2 ++ [(⟨x, t⟩ : Need)] ∧
  (∀ (l : Nat) (h : AH), l < h.n → h.o l = .cells (rdCE b s.1) → Isea.Good Tryz.prog 162 [.ptr l 0, .agg w.row] h [l] (str x) (h.set l (.cells (rdCE b q1)))) ∧
  (∀ (l : Nat) (h : AH), l < h.n → h.o l = .cells (rdCE b q1) → Isea.Good Tryz.prog 112 [.ptr l 0, .sl (gTy.map sRow)] h [l] (str t) (h.set l (.cells (rdCE b s'.1))))
def RoundG2 (b : L8) (w : Wld) (cnt k : Nat) (s s' : Nat × List Need) : Prop := k < cnt → ∃ (x : L8), s'.2 = s.2 ++ [(⟨x, [120]⟩ : Need)] ∧
  (∀ (l : Nat) (h : AH), l < h.n → h.o l = .cells (rdCE b s.1) → Isea.Good Tryz.prog 162 [.ptr l 0, .agg w.row] h [l] (str x) (h.set l (.cells (rdCE b s'.1))))
theorem roundsG (b : L8) (w : Wld) (cnt q0 : Nat) (hb : b.length ≤ 2000) (hq : q0 + 10 * cnt + 3000 ≤ 1000000000) (hw : smW w = true) :
    ∃ f : Nat → Nat × List Need, f 0 = (q0, []) ∧ ∀ k, (k ≤ cnt → (f k).2.length = k ∧ q0 ≤ (f k).1 ∧ (f k).1 ≤ q0 + 10 * k ∧ ∀ n ∈ (f k).2, n.c.length ≤ 60 ∧ n.t.length ≤ 4) ∧ RoundG b w cnt k (f k) (f (k + 1)) := by
  refine dep_seq (s0 := (q0, [])) (Inv := fun k s => k ≤ cnt → s.2.length = k ∧ q0 ≤ s.1 ∧ s.1 ≤ q0 + 10 * k ∧ ∀ n ∈ s.2, n.c.length ≤ 60 ∧ n.t.length ≤ 4) (R := RoundG b w cnt) (fun k s hs => ?_) (fun _ => ⟨rfl, Nat.le_refl _, by simp, fun n hn => by cases hn⟩)
  by_cases hk : k < cnt
  · obtain ⟨i1, i2, i3, i4⟩ := hs (by omega)
    obtain ⟨x, q1, n1, n2, n3, n4⟩ := s_l3Letter b s.1 w hb (by omega) hw
    obtain ⟨t, ht, hG⟩ := s_of b q1 gTy hb (by omega) (by decide)
    have htl : t.length ≤ 4 := by
      have : ∀ z ∈ gTy, z.length ≤ 4 := by decide
      exact this t ht
    refine ⟨(q1 + 1, s.2 ++ [⟨x, t⟩]), fun _ => ⟨by simp [i1], by show q0 ≤ q1 + 1; omega, by show q1 + 1 ≤ _; omega, fun y hy => ?_⟩, fun _ => ⟨x, t, q1, rfl, n4, hG⟩⟩
    rcases List.mem_append.1 hy with hy | hy
    · exact i4 y hy
    · rw [List.mem_singleton.1 hy]; exact ⟨n1, htl⟩
  · exact ⟨s, fun h => absurd h (by omega), fun h => absurd h hk⟩
theorem roundsG2 (b : L8) (w : Wld) (cnt q0 : Nat) (g0 : List Need) (hb : b.length ≤ 2000) (hq : q0 + 10 * cnt + 3000 ≤ 1000000000) (hw : smW w = true) (hg : ∀ n ∈ g0, n.c.length ≤ 60 ∧ n.t.length ≤ 4) :
    ∃ f : Nat → Nat × List Need, f 0 = (q0, g0) ∧ ∀ k, (k ≤ cnt → (f k).2.length = g0.length + k ∧ q0 ≤ (f k).1 ∧ (f k).1 ≤ q0 + 10 * k ∧ ∀ n ∈ (f k).2, n.c.length ≤ 60 ∧ n.t.length ≤ 4) ∧ RoundG2 b w cnt k (f k) (f (k + 1)) := by
  refine dep_seq (s0 := (q0, g0)) (Inv := fun k s => k ≤ cnt → s.2.length = g0.length + k ∧ q0 ≤ s.1 ∧ s.1 ≤ q0 + 10 * k ∧ ∀ n ∈ s.2, n.c.length ≤ 60 ∧ n.t.length ≤ 4) (R := RoundG2 b w cnt) (fun k s hs => ?_) (fun _ => ⟨rfl, Nat.le_refl _, by simp, hg⟩)
  by_cases hk : k < cnt
  · obtain ⟨i1, i2, i3, i4⟩ := hs (by omega)
    obtain ⟨x, q1, n1, n2, n3, n4⟩ := s_l3Letter b s.1 w hb (by omega) hw
    refine ⟨(q1, s.2 ++ [⟨x, [120]⟩]), fun _ => ⟨by simp [i1]; omega, by show q0 ≤ q1; omega, by show q1 ≤ _; omega, fun y hy => ?_⟩, fun _ => ⟨x, rfl, n4⟩⟩
    rcases List.mem_append.1 hy with hy | hy
    · exact i4 y hy
    · rw [List.mem_singleton.1 hy]; exact ⟨n1, by simp⟩
  · exact ⟨s, fun h => absurd h (by omega), fun h => absurd h hk⟩
theorem s_l9Givens (b : L8) (p : Nat) (w : Wld) (hb : b.length ≤ 2000) (hp : p + 5000 ≤ 1000000000) (hw : smW w = true) : ∃ (gs : List Need) (q : Nat), gs.length ≤ 9 ∧ (∀ g ∈ gs, g.c.length ≤ 60 ∧ g.t.length ≤ 4) ∧ p ≤ q ∧ q ≤ p + 200 ∧ ∀ (l : Nat) (h : AH), l < h.n → h.o l = .cells (rdCE b p) →
    Isea.Good Tryz.prog 161 [.ptr l 0, .agg w.row] h [l] (.sl (gs.map Need.row)) (h.set l (.cells (rdCE b q))) := by
  obtain ⟨v1, hv1, hG1⟩ := s_rpick b p 4 hb (by omega)
  have hv1 := hv1 (by decide)
  rw [show ((4 : Nat) : Int) = 4 from rfl] at hG1
  obtain ⟨f, f0, hf⟩ := roundsG b w v1 (p + 1) hb (by omega) hw
  obtain ⟨fl, fq1, fq2, fsm⟩ := (hf v1).1 (Nat.le_refl _)
  obtain ⟨v2, hv2, hG2⟩ := s_rpick b (f v1).1 24 hb (by omega)
  rw [show ((24 : Nat) : Int) = 24 from rfl] at hG2
  obtain ⟨g, g0, hg⟩ := roundsG2 b w 6 ((f v1).1 + 1) (f v1).2 hb (by omega) hw fsm
  obtain ⟨gl, gq1, gq2, gsm⟩ := (hg 6).1 (Nat.le_refl _)
  have hfr : ∀ k, k < v1 → RoundG b w v1 k (f k) (f (k + 1)) := fun k _ => (hf k).2
  have hgr : ∀ k, k < 6 → RoundG2 b w 6 k (g k) (g (k + 1)) := fun k _ => (hg k).2
  have hfl : ∀ k, k ≤ v1 → (f k).2.length = k := fun k hk => ((hf k).1 hk).1
  have hgl : ∀ k, k ≤ 6 → (g k).2.length = v1 + k := fun k hk => by rw [((hg k).1 hk).1, fl]
  have f0q : (f 0).1 = p + 1 := by rw [f0]
  have f0g : (f 0).2 = [] := by rw [f0]
  have g0q : (g 0).1 = (f v1).1 + 1 := by rw [g0]
  have g0g : (g 0).2 = (f v1).2 := by rw [g0]
  have num6 : ∀ k, k ≤ 6 → (v1 + k + 1) * 32 ≤ 140737488355328 := fun k hk => by omega
  have num7 : ∀ k, k ≤ 6 → ((g k).2.length + 1) * 32 ≤ 140737488355328 := fun k hk => by rw [hgl k hk]; exact num6 k hk
  clear hf hg
  obtain ⟨cs, is⟩ := w
  have hW : (⟨cs, is⟩ : Wld).row = [.sl (cs.map Cls.row), .sl (is.map Inst.row)] := rfl
  by_cases h0 : v2 = 0
  · have h0' : (((v2 : Nat) : Int) = 0) = True := eq_true (by omega)
    refine ⟨(g 6).2, (g 6).1, by omega, gsm, by omega, by omega, fun l h hl ho => ?_⟩
    have n0 : ¬ l = h.n := by omega
    have n1 : ¬ h.n = l := by omega
    rw [hW]
    refine good [] [] Tryz.func161 rfl rfl Tryz.ntmps161 (by kernel_rfl) mixed (by kernel_rfl) ?_
    simp -dsimp only [go_sem, hl, n0, n1]
    refine call_one (hG1 l _ (by simp -dsimp only [go_sem, hl]) (by simp -dsimp only [go_sem, ho, hl, n0, n1, rdCE])) (by simp -dsimp only [go_sem]) (by simp -dsimp only [go_sem, hl, not_false_eq_true]) ?_
    simp -dsimp only [go_sem, hl, n0, n1]
    refine loop_ruleH [0, 2, 4] (fun (k : {k : Nat // k ≤ v1}) H => ([(5, .so h.n k.1 k.1), (9, .v (.int .i64 (k.1 : Nat)))], ⟨h.n + 1, upd (upd H.o l (.cells (rdCE b (f k.1).1))) h.n (.rows 28 2 ((f k.1).2.map Need.row))⟩)) (fun k => v1 - k.1) ⟨0, Nat.zero_le _⟩ ?_ ?_
    · refine weak_objs [l, h.n] (by simp -dsimp only [go_sem]) (by simp -dsimp only [go_sem]) (by simp -dsimp only [go_sem, hl, n0, n1, f0q, f0g, List.map_nil]) ?_ ?_ ?_
      · intro t h1 h2
        have a0 : ¬ t = l := by simp at h2; omega
        have a1 : ¬ t = h.n := by omega
        simp -dsimp only [go_sem, a0, a1]
      · intro x h1 h2; have h1 : x < h.n + 1 := h1; simp at h2 ⊢; omega
      · simp -dsimp only [go_sem, hl, n0, n1, rdCE, f0q, f0g, List.map_nil]
    rintro ⟨k, hk⟩
    have hk : k ≤ v1 := hk
    have k1 : k + 1 ≤ 9223372036854775807 := by omega
    by_cases hlt : k < v1
    · have hkc : (((k : Nat) : Int) < ((v1 : Nat) : Int)) = True := eq_true (by omega)
      obtain ⟨x, t, q1, e1, hX, hY⟩ := hfr k hlt hlt
      have hfk := hfl k hk
      have e6 : (k + 1) * 32 ≤ 140737488355328 := by omega
      have e7 : ((f k).2.length + 1) * 32 ≤ 140737488355328 := by omega
      rw [hW] at hX
      simp only [gTy, List.map_cons, List.map_nil, sRow] at hY
      simp -dsimp only [go_sem, hkc, hl, n0, n1]
      refine call_one (hX l _ (by simp -dsimp only [go_sem, hl]) (by simp -dsimp only [go_sem, ho, hl, n0, n1, rdCE])) (by simp -dsimp only [go_sem]) (by simp -dsimp only [go_sem, hl, not_false_eq_true]) ?_
      simp -dsimp only [go_sem, hl, n0, n1]
      refine call_one (hY l _ (by simp -dsimp only [go_sem, hl]) (by simp -dsimp only [go_sem, ho, hl, n0, n1, rdCE])) (by simp -dsimp only [go_sem]) (by simp -dsimp only [go_sem, hl, not_false_eq_true]) ?_
      simp -dsimp only [go_sem, hl, n0, n1, hfk, e6, e7, k1, List.length_map]
      refine round_to ⟨k + 1, hlt⟩ (by show v1 - (k + 1) < v1 - k; omega) ?_
      refine weak_objs [l, h.n] (by simp -dsimp only [go_sem]) (by simp -dsimp only [go_sem]) (by simp -dsimp only [go_sem, hl, n0, n1, e1, List.map_append, List.map_cons, List.map_nil, Need.row]) ?_ ?_ ?_
      · intro t h1 h2
        have a0 : ¬ t = l := by simp at h2; omega
        have a1 : ¬ t = h.n := by omega
        simp -dsimp only [go_sem, a0, a1]
      · intro x h1 h2; have h1 : x < h.n + 1 := h1; simp at h2 ⊢; omega
      · simp -dsimp only [go_sem, hl, n0, n1, rdCE, e1, List.map_append, List.map_cons, List.map_nil, Need.row]
    have hkc : (((k : Nat) : Int) < ((v1 : Nat) : Int)) = False := eq_false (by omega)
    have hke : k = v1 := by omega
    simp -dsimp only [go_sem, hkc, hl, n0, n1]
    rw [hke]
    refine call_one (hG2 l _ (by simp -dsimp only [go_sem, hl]) (by simp -dsimp only [go_sem, ho, hl, n0, n1, rdCE])) (by simp -dsimp only [go_sem]) (by simp -dsimp only [go_sem, hl, not_false_eq_true]) ?_
    simp -dsimp only [go_sem, hl, n0, n1, h0', hfl v1 (Nat.le_refl _), List.length_map]
    refine loop_ruleH [0, 2] (fun (k : {k : Nat // k ≤ 6}) H => ([(5, .so h.n (v1 + k.1) (v1 + k.1)), (25, .v (.int .i64 (k.1 : Nat)))], ⟨h.n + 1, upd (upd H.o l (.cells (rdCE b (g k.1).1))) h.n (.rows 28 2 ((g k.1).2.map Need.row))⟩)) (fun k => 6 - k.1) ⟨0, by simp⟩ ?_ ?_
    · refine weak_objs [l, h.n] (by simp -dsimp only [go_sem]) (by simp -dsimp only [go_sem]) (by simp -dsimp only [go_sem, hl, n0, n1, g0q, g0g, Nat.add_zero]) ?_ ?_ ?_
      · intro t h1 h2
        have a0 : ¬ t = l := by simp at h2; omega
        have a1 : ¬ t = h.n := by omega
        simp -dsimp only [go_sem, a0, a1]
      · intro x h1 h2; have h1 : x < h.n + 1 := h1; simp at h2 ⊢; omega
      · simp -dsimp only [go_sem, hl, n0, n1, rdCE, g0q, g0g, Nat.add_zero]
    · rintro ⟨k, hk⟩
      have hk : k ≤ 6 := hk
      have k1 : k + 1 ≤ 9223372036854775807 := by omega
      by_cases hlt : k < 6
      · have hkc : (((k : Nat) : Int) < 6) = True := eq_true (by omega)
        obtain ⟨x, e1, hX⟩ := hgr k hlt hlt
        have hgk := hgl k hk
        have e6 := num6 k hk
        have e7 := num7 k hk
        rw [hW] at hX
        simp -dsimp only [go_sem, hkc, hl, n0, n1]
        refine call_one (hX l _ (by simp -dsimp only [go_sem, hl]) (by simp -dsimp only [go_sem, ho, hl, n0, n1, rdCE])) (by simp -dsimp only [go_sem]) (by simp -dsimp only [go_sem, hl, not_false_eq_true]) ?_
        simp -dsimp only [go_sem, hl, n0, n1, hgk, e6, e7, k1, List.length_map]
        refine round_to ⟨k + 1, hlt⟩ (by show 6 - (k + 1) < 6 - k; omega) ?_
        refine weak_objs [l, h.n] (by simp -dsimp only [go_sem]) (by simp -dsimp only [go_sem]) (by simp -dsimp only [go_sem, hl, n0, n1, e1, List.map_append, List.map_cons, List.map_nil, Need.row, Nat.add_assoc]) ?_ ?_ ?_
        · intro t h1 h2
          have a0 : ¬ t = l := by simp at h2; omega
          have a1 : ¬ t = h.n := by omega
          simp -dsimp only [go_sem, a0, a1]
        · intro x h1 h2; have h1 : x < h.n + 1 := h1; simp at h2 ⊢; omega
        · simp -dsimp only [go_sem, hl, n0, n1, rdCE, e1, List.map_append, List.map_cons, List.map_nil, Need.row, Nat.add_assoc]
      · have hkc : (((k : Nat) : Int) < 6) = False := eq_false (by omega)
        have hke : k = 6 := by omega
        have hgk := hgl k hk
        have eg : g k = g 6 := by rw [hke]
        simp -dsimp only [go_sem, hkc, hl, n0, n1]
        rw [← eg]
        refine fin_one (by simp -dsimp only [go_sem]) ?_ ?_
        · simp -dsimp only [go_sem, hl, n0, n1, hgk, List.length_map]
        · simp -dsimp only [go_sem, hl, n0, n1, rdCE]
  · have h0' : (((v2 : Nat) : Int) = 0) = False := eq_false (by omega)
    refine ⟨(f v1).2, (f v1).1 + 1, by omega, fsm, by omega, by omega, fun l h hl ho => ?_⟩
    have n0 : ¬ l = h.n := by omega
    have n1 : ¬ h.n = l := by omega
    rw [hW]
    refine good [] [] Tryz.func161 rfl rfl Tryz.ntmps161 (by kernel_rfl) mixed (by kernel_rfl) ?_
    simp -dsimp only [go_sem, hl, n0, n1]
    refine call_one (hG1 l _ (by simp -dsimp only [go_sem, hl]) (by simp -dsimp only [go_sem, ho, hl, n0, n1, rdCE])) (by simp -dsimp only [go_sem]) (by simp -dsimp only [go_sem, hl, not_false_eq_true]) ?_
    simp -dsimp only [go_sem, hl, n0, n1]
    refine loop_ruleH [0, 2, 4] (fun (k : {k : Nat // k ≤ v1}) H => ([(5, .so h.n k.1 k.1), (9, .v (.int .i64 (k.1 : Nat)))], ⟨h.n + 1, upd (upd H.o l (.cells (rdCE b (f k.1).1))) h.n (.rows 28 2 ((f k.1).2.map Need.row))⟩)) (fun k => v1 - k.1) ⟨0, Nat.zero_le _⟩ ?_ ?_
    · refine weak_objs [l, h.n] (by simp -dsimp only [go_sem]) (by simp -dsimp only [go_sem]) (by simp -dsimp only [go_sem, hl, n0, n1, f0q, f0g, List.map_nil]) ?_ ?_ ?_
      · intro t h1 h2
        have a0 : ¬ t = l := by simp at h2; omega
        have a1 : ¬ t = h.n := by omega
        simp -dsimp only [go_sem, a0, a1]
      · intro x h1 h2; have h1 : x < h.n + 1 := h1; simp at h2 ⊢; omega
      · simp -dsimp only [go_sem, hl, n0, n1, rdCE, f0q, f0g, List.map_nil]
    rintro ⟨k, hk⟩
    have hk : k ≤ v1 := hk
    have k1 : k + 1 ≤ 9223372036854775807 := by omega
    by_cases hlt : k < v1
    · have hkc : (((k : Nat) : Int) < ((v1 : Nat) : Int)) = True := eq_true (by omega)
      obtain ⟨x, t, q1, e1, hX, hY⟩ := hfr k hlt hlt
      have hfk := hfl k hk
      have e6 : (k + 1) * 32 ≤ 140737488355328 := by omega
      have e7 : ((f k).2.length + 1) * 32 ≤ 140737488355328 := by omega
      rw [hW] at hX
      simp only [gTy, List.map_cons, List.map_nil, sRow] at hY
      simp -dsimp only [go_sem, hkc, hl, n0, n1]
      refine call_one (hX l _ (by simp -dsimp only [go_sem, hl]) (by simp -dsimp only [go_sem, ho, hl, n0, n1, rdCE])) (by simp -dsimp only [go_sem]) (by simp -dsimp only [go_sem, hl, not_false_eq_true]) ?_
      simp -dsimp only [go_sem, hl, n0, n1]
      refine call_one (hY l _ (by simp -dsimp only [go_sem, hl]) (by simp -dsimp only [go_sem, ho, hl, n0, n1, rdCE])) (by simp -dsimp only [go_sem]) (by simp -dsimp only [go_sem, hl, not_false_eq_true]) ?_
      simp -dsimp only [go_sem, hl, n0, n1, hfk, e6, e7, k1, List.length_map]
      refine round_to ⟨k + 1, hlt⟩ (by show v1 - (k + 1) < v1 - k; omega) ?_
      refine weak_objs [l, h.n] (by simp -dsimp only [go_sem]) (by simp -dsimp only [go_sem]) (by simp -dsimp only [go_sem, hl, n0, n1, e1, List.map_append, List.map_cons, List.map_nil, Need.row]) ?_ ?_ ?_
      · intro t h1 h2
        have a0 : ¬ t = l := by simp at h2; omega
        have a1 : ¬ t = h.n := by omega
        simp -dsimp only [go_sem, a0, a1]
      · intro x h1 h2; have h1 : x < h.n + 1 := h1; simp at h2 ⊢; omega
      · simp -dsimp only [go_sem, hl, n0, n1, rdCE, e1, List.map_append, List.map_cons, List.map_nil, Need.row]
    have hkc : (((k : Nat) : Int) < ((v1 : Nat) : Int)) = False := eq_false (by omega)
    have hke : k = v1 := by omega
    simp -dsimp only [go_sem, hkc, hl, n0, n1]
    rw [hke]
    refine call_one (hG2 l _ (by simp -dsimp only [go_sem, hl]) (by simp -dsimp only [go_sem, ho, hl, n0, n1, rdCE])) (by simp -dsimp only [go_sem]) (by simp -dsimp only [go_sem, hl, not_false_eq_true]) ?_
    simp -dsimp only [go_sem, hl, n0, n1, h0', hfl v1 (Nat.le_refl _), List.length_map]
    refine fin_one (by simp -dsimp only [go_sem]) ?_ ?_
    · simp -dsimp only [go_sem, hl, n0, n1, hfl v1 (Nat.le_refl _), List.length_map]
    · simp -dsimp only [go_sem, hl, n0, n1, rdCE]
end Go.Proofs.YtnocdggngfiebaaGreatDoor
