/- Contracts of functions of this program, for all arguments that satisfy what each lemma asks for. -/
import Derived.Test.YtnocdggngfiebaaGreatDoorMH
set_option linter.all false
namespace Go.Isea
open Go
set_option maxRecDepth 100000
/-- rows of which the last one bears slices that are frozen -/
theorem fz_snoc {h : AH} {m t n e sz : Nat} {rs : List (List AV)} {r r' : List AV} (ht : m ≤ t) (ho : h.o t = .rows e sz (rs ++ [r])) (hn : n = rs.length + 1) (hp : PuR rs) (hr : FzL h m r r') : Fz h m (.so t n n) (.sl (rs ++ [r'])) := by
  refine .soF ht ho (by simp [hn]) (by simp [hn]) (fun i a a' h1 h2 => ?_) (fun i j a a' x y h1 h2 h3 h4 => ?_)
  · by_cases hi : i < rs.length
    · rw [List.getElem?_append_left hi] at h1 h2
      rw [h1] at h2; cases h2; rfl
    · have hlt := (List.getElem?_eq_some_iff.1 h1).1
      simp only [List.length_append, List.length_cons, List.length_nil] at hlt
      have : i = rs.length := by omega
      subst this
      rw [List.getElem?_append_right (Nat.le_refl _)] at h1 h2
      simp at h1 h2
      rw [← h1, ← h2]; exact hr.1
  · by_cases hi : i < rs.length
    · rw [List.getElem?_append_left hi] at h1 h2
      rw [h1] at h2; cases h2
      rw [h3] at h4; cases h4
      exact Fz.of_lo (hp m a (List.mem_of_getElem? h1) x (List.mem_of_getElem? h3))
    · have hlt := (List.getElem?_eq_some_iff.1 h1).1
      simp only [List.length_append, List.length_cons, List.length_nil] at hlt
      have : i = rs.length := by omega
      subst this
      rw [List.getElem?_append_right (Nat.le_refl _)] at h1 h2
      simp at h1 h2
      subst h1; subst h2
      exact hr.2 j x y h3 h4
end Go.Isea
namespace Go.Proofs.YtnocdggngfiebaaGreatDoor
open Go Go.Isea
set_option maxRecDepth 100000
set_option maxHeartbeats 16000000
def RoundW (b : L8) (cs : List Cls) (cnt k : Nat) (s s' : Nat × List Inst) : Prop := k < cnt →
  ∃ x, smIn x = true ∧ s'.2 = s.2 ++ [x] ∧ ∀ (l U V m : Nat) (h : AH), OwnC cs l U V m h → h.o l = .cells (rdCE b s.1) → Isea.Good Tryz.prog 255 [.ptr l 0, .agg [.so U cs.length cs.length, .so V m m]] h [l] (.agg x.row) (h.set l (.cells (rdCE b s'.1)))
theorem roundsW (b : L8) (cs : List Cls) (cnt q0 : Nat) (hb : b.length ≤ 2000) (hq : q0 + 100 * cnt + 300 ≤ 1000000000) (hc0 : 0 < cs.length) (hcs : ∀ c ∈ cs, smCl c = true) (hc5 : cs.length ≤ 10) :
    ∃ f : Nat → Nat × List Inst, f 0 = (q0, []) ∧ ∀ k, (k ≤ cnt → (f k).2.length = k ∧ q0 ≤ (f k).1 ∧ (f k).1 ≤ q0 + 100 * k ∧ ∀ n ∈ (f k).2, smIn n = true) ∧ RoundW b cs cnt k (f k) (f (k + 1)) := by
  refine dep_seq (s0 := (q0, [])) (Inv := fun k s => k ≤ cnt → s.2.length = k ∧ q0 ≤ s.1 ∧ s.1 ≤ q0 + 100 * k ∧ ∀ n ∈ s.2, smIn n = true) (R := RoundW b cs cnt) (fun k s hs => ?_) (fun _ => ⟨rfl, Nat.le_refl _, by simp, fun n hn => by cases hn⟩)
  by_cases hk : k < cnt
  · obtain ⟨i1, i2, i3, i4⟩ := hs (by omega)
    obtain ⟨x, q, n1, n2, n3, n4⟩ := s_l3DrawInstance b s.1 cs hb (by omega) hc0 hcs hc5
    refine ⟨(q, s.2 ++ [x]), fun _ => ⟨by simp [i1], by show q0 ≤ q; omega, by show q ≤ _; omega, fun y hy => ?_⟩, fun _ => ⟨x, n1, rfl, n4⟩⟩
    rcases List.mem_append.1 hy with hy | hy
    · exact i4 y hy
    · rw [List.mem_singleton.1 hy]; exact n1
  · exact ⟨s, fun h => absurd h (by omega), fun h => absurd h hk⟩
theorem s_l3Draw (b : L8) (p : Nat) (hb : b.length ≤ 2000) (hp : p + 2000 ≤ 1000000000) : ∃ (w : Wld) (q : Nat), smW w = true ∧ w.cs.length ≤ 5 ∧ w.is.length ≤ 20 ∧ p ≤ q ∧ q ≤ p + 700 ∧ ∀ (l : Nat) (h : AH), l < h.n → h.o l = .cells (rdCE b p) →
    Isea.Good Tryz.prog 184 [.ptr l 0] h [l] (.agg w.row) (h.set l (.cells (rdCE b q))) := by
  obtain ⟨v1, hv1, hG1⟩ := s_rpick b p 2 hb (by omega)
  rw [show ((2 : Nat) : Int) = 2 from rfl] at hG1
  by_cases h0 : v1 = 0
  · subst h0
    obtain ⟨v2, hv2, hG2⟩ := s_rpick b (p + 1) 9 hb (by omega)
    have hv2 := hv2 (by decide)
    rw [show ((9 : Nat) : Int) = 9 from rfl] at hG2
    obtain ⟨w, w1, w2, w3, w4, hK⟩ := s_l3Known v2 hv2
    refine ⟨w, p + 1 + 1, w1, w3, w4, by omega, by omega, fun l h hl ho => ?_⟩
    refine good [] [] Tryz.func184 rfl rfl Tryz.ntmps184 (by kernel_rfl) mixed (by kernel_rfl) ?_
    simp -dsimp only [go_sem, hl, Wld.row] at hK ⊢
    refine call_one (hG1 l _ (by simp -dsimp only [go_sem, hl]) (by simp -dsimp only [go_sem, ho, hl, rdCE])) (by simp -dsimp only [go_sem]) (by simp -dsimp only [go_sem, hl, not_false_eq_true]) ?_
    simp -dsimp only [go_sem, hl]
    refine call_one (hG2 l _ (by simp -dsimp only [go_sem, hl]) (by simp -dsimp only [go_sem, ho, hl, rdCE])) (by simp -dsimp only [go_sem]) (by simp -dsimp only [go_sem, hl, not_false_eq_true]) ?_
    simp -dsimp only [go_sem, hl]
    refine call_pure (hK _) ?_
    simp -dsimp only [go_sem, hl]
    refine fin_one (by simp -dsimp only [go_sem]) ?_ ?_ <;> simp -dsimp only [go_sem, hl, rdCE, Wld.row]
  · have h0' : ¬ ((v1 : Nat) : Int) = 0 := by omega
    obtain ⟨x, hx, hG2⟩ := s_of b (p + 1) wls5 hb (by omega) (by decide)
    have hx5 : ([[69], [69, 32, 79, 60, 69], [65, 32, 66], [65, 32, 66, 60, 65, 32, 67, 60, 65, 66], [69, 32, 79, 60, 69, 32, 83]] : List L8) = wls5 := rfl
    rw [← hx5] at hG2
    simp only [List.map_cons, List.map_nil, sRow] at hG2
    obtain ⟨cs, k1, k2, k3, k4⟩ := known5 hx
    have hP := fun H => s_ParseWorld0 x cs H (by have := wls_len.2 x hx; omega) k1 (by omega)
    obtain ⟨v3, hv3, hG3⟩ := s_rpick b (p + 1 + 1) 6 hb (by omega)
    have hv3 := hv3 (by decide)
    rw [show ((6 : Nat) : Int) = 6 from rfl] at hG3
    obtain ⟨c1, c2, _, _⟩ := smW_iff.1 k2
    obtain ⟨f, hf0, hf⟩ := roundsW b cs (1 + v3) (p + 1 + 1 + 1) hb (by omega) k3 c2 c1
    obtain ⟨j1, j2, j3, j4⟩ := (hf (1 + v3)).1 (Nat.le_refl _)
    refine ⟨⟨cs, (f (1 + v3)).2⟩, (f (1 + v3)).1, smW_iff.2 ⟨c1, c2, by show (f (1 + v3)).2.length ≤ 40; omega, j4⟩, k4, by show (f (1 + v3)).2.length ≤ 20; omega, by omega, by omega, fun l h hl ho => ?_⟩
    obtain ⟨cnt, hcnt⟩ : ∃ cnt, 1 + v3 = cnt := ⟨_, rfl⟩
    have hw3 : IntKind.i64.wrap (1 + ((v3 : Nat) : Int)) = ((cnt : Nat) : Int) := by rw [wrap_i64] <;> omega
    rw [hcnt] at hf j1 j2 j3 j4 ⊢
    have n0 : ¬ l = h.n := by omega
    have n1 : ¬ l = h.n + 1 := by omega
    have n2 : ¬ l = h.n + 2 := by omega
    have n3 : ¬ l = h.n + 3 := by omega
    refine good [] [] Tryz.func184 rfl rfl Tryz.ntmps184 (by kernel_rfl) mixed (by kernel_rfl) ?_
    simp -dsimp only [go_sem, hl]
    refine call_one (hG1 l _ (by simp -dsimp only [go_sem, hl]) (by simp -dsimp only [go_sem, ho, hl, rdCE])) (by simp -dsimp only [go_sem]) (by simp -dsimp only [go_sem, hl, not_false_eq_true]) ?_
    simp -dsimp only [go_sem, hl, h0']
    refine call_one (hG2 l _ (by simp -dsimp only [go_sem, hl]) (by simp -dsimp only [go_sem, ho, hl, rdCE])) (by simp -dsimp only [go_sem]) (by simp -dsimp only [go_sem, hl, not_false_eq_true]) ?_
    simp -dsimp only [go_sem, hl]
    refine call_pure (hP _) ?_
    simp -dsimp only [go_sem, hl]
    refine call_one (hG3 l _ (by simp -dsimp only [go_sem, hl]) (by simp -dsimp only [go_sem, ho, hl, rdCE])) (by simp -dsimp only [go_sem]) (by simp -dsimp only [go_sem, hl, not_false_eq_true]) ?_
    simp -dsimp only [go_sem, hl, hw3]
    refine loop_ruleH [0, 1, 0, 16] (fun (k : {k : Nat // k ≤ cnt}) H => ([(21, .v (.int .i64 (k.1 : Nat)))], ⟨h.n + 4, upd (upd (upd H.o l (.cells (rdCE b (f k.1).1))) (h.n + 2) (.rows 45 3 ((f k.1).2.map Inst.row))) (h.n + 3) (.cells [.so (h.n + 1) cs.length cs.length, .so (h.n + 2) k.1 k.1])⟩)) (fun k => cnt - k.1) ⟨0, Nat.zero_le _⟩ ?_ ?_
    · refine weak_objs [l, h.n, h.n + 1, h.n + 2, h.n + 3] (by simp -dsimp only [go_sem]) (by simp -dsimp only [go_sem]) (by simp -dsimp only [go_sem, hl]) ?_ ?_ ?_
      · intro t h1 h2
        have a1 : ¬ t = h.n := by omega
        have a2 : ¬ t = h.n + 1 := by omega
        have a3 : ¬ t = h.n + 2 := by omega
        have a4 : ¬ t = h.n + 3 := by omega
        have a5 : ¬ t = l := by simpa using h2
        simp -dsimp only [go_sem, a1, a2, a3, a4, a5]
      · intro x h1 h2; have h1 : x < h.n + 4 := h1; simp at h2 ⊢; omega
      · simp -dsimp only [go_sem, hl, rdCE, hf0, List.map_nil]
    · rintro ⟨k, hk⟩
      obtain ⟨hI, hR⟩ := hf k
      obtain ⟨hdk, hq⟩ := hI hk
      have h1 : k + 1 ≤ 9223372036854775807 := by omega
      have e6 : (k + 1) * 56 ≤ 140737488355328 := by omega
      by_cases hkl : k < cnt
      · have hkc : ((k : Nat) : Int) < ((cnt : Nat) : Int) := by omega
        obtain ⟨x, hxs, hD, hGi⟩ := hR hkl
        simp -dsimp only [go_sem, hkc, hl, hdk, List.length_map]
        refine call_one (hGi l (h.n + 1) (h.n + 2) k _ ⟨by simp -dsimp only [go_sem, hl], by simp -dsimp only [go_sem], by simp -dsimp only [go_sem], by simp -dsimp only [go_sem, hl, not_false_eq_true], by simp -dsimp only [go_sem, hl, not_false_eq_true], by simp -dsimp only [go_sem, hl], by simp -dsimp only [go_sem, hl, hdk, List.length_map]⟩ (by simp -dsimp only [go_sem, hl, rdCE])) (by simp -dsimp only [go_sem]) (by simp -dsimp only [go_sem, hl, not_false_eq_true]) ?_
        simp -dsimp only [go_sem, hl, rdCE, hdk, e6, h1, Inst.row, List.length_map]
        refine ⟨out_prS (by kernel_rfl), ?_⟩
        refine round_to ⟨k + 1, hkl⟩ (by show cnt - (k + 1) < cnt - k; omega) ?_
        refine weak_objs [l, h.n, h.n + 1, h.n + 2, h.n + 3] (by simp -dsimp only [go_sem]) (by simp -dsimp only [go_sem]) (by simp -dsimp only [go_sem, hl]) ?_ ?_ ?_
        · intro t h1 h2
          have a1 : ¬ t = h.n := by omega
          have a2 : ¬ t = h.n + 1 := by omega
          have a3 : ¬ t = h.n + 2 := by omega
          have a4 : ¬ t = h.n + 3 := by omega
          have a5 : ¬ t = l := by simpa using h2
          simp -dsimp only [go_sem, a1, a2, a3, a4, a5]
        · intro x h1 h2; have h1 : x < h.n + 4 := h1; simp at h2 ⊢; omega
        · simp -dsimp only [go_sem, hl, rdCE, hD, List.map_append, List.map_cons, List.map_nil, Inst.row]
      · have hkc : ¬ ((k : Nat) : Int) < ((cnt : Nat) : Int) := by omega
        have hke : k = cnt := by omega
        subst hke
        simp -dsimp only [go_sem, hkc, hl, hdk, beq_self_eq_true, true_and, List.length_map]
        refine fin_one (by simp -dsimp only [go_sem]) ?_ ?_
        · simp -dsimp only [go_sem, hl, Wld.row, hdk, List.length_map]
        · simp -dsimp only [go_sem, hl, rdCE]
end Go.Proofs.YtnocdggngfiebaaGreatDoor

namespace Go.Isea
open Go
set_option maxRecDepth 100000
theorem smIn_E : smIn ⟨[69], [105], []⟩ = true := by decide
theorem good_insts (H : AH) (xs : List Inst) : goodRows H 3 (xs.map Inst.row) = True := good_map fun c => by simp -dsimp only [Inst.row, go_sem, List.length_cons, List.length_nil, List.all_cons, List.all_nil, Bool.and_self]
theorem pu_insts (xs : List Inst) : PuR (xs.map Inst.row) = True := by simp -dsimp only [go_sem]
theorem rep_snoc {is : List Inst} {k : Nat} {x : Inst} : is ++ List.replicate (k + 1) x = (is ++ List.replicate k x) ++ [x] := by
  rw [List.replicate_succ', List.append_assoc]
end Go.Isea
namespace Go.Proofs.YtnocdggngfiebaaGreatDoor
open Go Go.Isea
set_option maxRecDepth 100000
set_option maxHeartbeats 16000000
theorem s_l3Bad (b : L8) (p : Nat) (w : Wld) (hb : b.length ≤ 2000) (hp : p + 2000 ≤ 1000000000) (hw : smW w = true) (hc5 : w.cs.length ≤ 5) (hi20 : w.is.length ≤ 20) : ∃ (w' : Wld) (q : Nat), smW w' = true ∧ w'.cs.length ≤ 6 ∧ w'.is.length ≤ 30 ∧ p ≤ q ∧ q ≤ p + 10 ∧ ∀ (l : Nat) (h : AH), l < h.n → h.o l = .cells (rdCE b p) →
    Isea.Good Tryz.prog 183 [.ptr l 0, .agg w.row] h [l] (.agg w'.row) (h.set l (.cells (rdCE b q))) := by
  obtain ⟨cs, is⟩ := w
  obtain ⟨c1, c2, c3, c4⟩ := smW_iff.1 hw
  have hc5 : cs.length ≤ 5 := hc5
  have hi20 : is.length ≤ 20 := hi20
  have c1 : cs.length ≤ 10 := c1
  have c3 : is.length ≤ 40 := c3
  have c2 : ∀ c ∈ cs, smCl c = true := c2
  have c4 : ∀ i ∈ is, smIn i = true := c4
  have hgc : ∀ H : AH, goodRows H 2 (cs.map Cls.row) = True := fun H => good_map fun c => by simp -dsimp only [Cls.row, go_sem, List.length_cons, List.length_nil, List.all_cons, List.all_nil, Bool.and_self]
  have hgi : ∀ H : AH, goodRows H 3 (is.map Inst.row) = True := fun H => good_map fun c => by simp -dsimp only [Inst.row, go_sem, List.length_cons, List.length_nil, List.all_cons, List.all_nil, Bool.and_self]
  have e6 : cs.length * 32 ≤ 140737488355328 := by omega
  have e7 : (cs.length + 1) * 32 ≤ 140737488355328 := by omega
  have e8 : is.length * 56 ≤ 140737488355328 := by omega
  have e9 : (is.length + 1) * 56 ≤ 140737488355328 := by omega
  obtain ⟨v, hv, hG1⟩ := s_rpick b p 36 hb (by omega)
  rw [show ((36 : Nat) : Int) = 36 from rfl] at hG1
  by_cases h0 : v = 0
  · have h0' : (((v : Nat) : Int) = 0) = True := eq_true (by omega)
    obtain ⟨x, hx, hG2⟩ := s_of b (p + 1) [[69], [73], [], [72]] hb (by omega) (by decide)
    simp only [List.map_cons, List.map_nil, sRow] at hG2
    have lx : x.length ≤ 60 := by
      have : ∀ z ∈ ([[69], [73], [], [72]] : List L8), z.length ≤ 60 := by decide
      exact this x hx
    obtain ⟨y, hy, hG3⟩ := s_of b (p + 1 + 1) [[], [69], [72], [90]] hb (by omega) (by decide)
    simp only [List.map_cons, List.map_nil, sRow] at hG3
    have ly : y.length ≤ 60 := by
      have : ∀ z ∈ ([[], [69], [72], [90]] : List L8), z.length ≤ 60 := by decide
      exact this y hy
    refine ⟨⟨cs ++ [⟨x, y⟩], is⟩, p + 1 + 1 + 1, smW_iff.2 ⟨by simp; omega, fun c hc => ?_, c3, c4⟩, by simp; omega, by show is.length ≤ 30; omega, by omega, by omega, fun l h hl ho => ?_⟩
    · rcases List.mem_append.1 hc with hc | hc
      · exact c2 c hc
      · rw [List.mem_singleton.1 hc]; exact smCl_iff.2 ⟨lx, ly⟩
    have n0 : ¬ l = h.n := by omega
    have n1 : ¬ l = h.n + 1 := by omega
    have n2 : ¬ l = h.n + 2 := by omega
    refine good [3] [] Tryz.func183 rfl rfl Tryz.ntmps183 (by kernel_rfl) mixed (by kernel_rfl) ?_
    simp -dsimp only [go_sem, hl, Wld.row]
    refine call_one (hG1 l _ (by simp -dsimp only [go_sem, hl]) (by simp -dsimp only [go_sem, ho, hl, rdCE])) (by simp -dsimp only [go_sem]) (by simp -dsimp only [go_sem, hl, not_false_eq_true]) ?_
    simp -dsimp only [go_sem, hl, h0', hgc, e6, e7, Cls.row, Nat.zero_add, List.nil_append, List.length_map]
    refine call_one (hG2 l _ (by simp -dsimp only [go_sem, hl]) (by simp -dsimp only [go_sem, ho, hl, rdCE])) (by simp -dsimp only [go_sem]) (by simp -dsimp only [go_sem, hl, not_false_eq_true]) ?_
    simp -dsimp only [go_sem, hl, h0', hgc, e6, e7, Cls.row, Nat.zero_add, List.nil_append, List.length_map]
    refine call_one (hG3 l _ (by simp -dsimp only [go_sem, hl]) (by simp -dsimp only [go_sem, ho, hl, rdCE])) (by simp -dsimp only [go_sem]) (by simp -dsimp only [go_sem, hl, not_false_eq_true]) ?_
    simp -dsimp only [go_sem, hl, h0', hgc, e6, e7, Cls.row, Nat.zero_add, List.nil_append, List.length_map]
    refine fin_one (by simp -dsimp only [go_sem]) ?_ ?_
    · simp -dsimp only [go_sem, hl, Wld.row, Cls.row, List.map_append, List.map_cons, List.map_nil, List.length_map, List.length_append, List.length_cons, List.length_nil]
    · simp -dsimp only [go_sem, hl, rdCE]
  · have h0' : (((v : Nat) : Int) = 0) = False := eq_false (by omega)
    by_cases h1 : v = 1
    · have h1' : (((v : Nat) : Int) = 1) = True := eq_true (by omega)
      obtain ⟨x, hx, hG2⟩ := s_of b (p + 1) [[69], [72], [65]] hb (by omega) (by decide)
      simp only [List.map_cons, List.map_nil, sRow] at hG2
      have lx : x.length ≤ 60 := by
        have : ∀ z ∈ ([[69], [72], [65]] : List L8), z.length ≤ 60 := by decide
        exact this x hx
      obtain ⟨y, hy, hG3⟩ := s_of b (p + 1 + 1) [[120], [113], [105], [108, 40, 120, 41]] hb (by omega) (by decide)
      simp only [List.map_cons, List.map_nil, sRow] at hG3
      have ly : y.length ≤ 60 := by
        have : ∀ z ∈ ([[120], [113], [105], [108, 40, 120, 41]] : List L8), z.length ≤ 60 := by decide
        exact this y hy
      obtain ⟨z, hz, hG4⟩ := s_of b (p + 1 + 1 + 1) [[69], [65], [72]] hb (by omega) (by decide)
      simp only [List.map_cons, List.map_nil, sRow] at hG4
      have lz : z.length ≤ 60 := by
        have : ∀ z ∈ ([[69], [65], [72]] : List L8), z.length ≤ 60 := by decide
        exact this z hz
      obtain ⟨t, ht, hG5⟩ := s_of b (p + 1 + 1 + 1 + 1) [[121], [105], [113]] hb (by omega) (by decide)
      simp only [List.map_cons, List.map_nil, sRow] at hG5
      have lt : t.length ≤ 60 := by
        have : ∀ z ∈ ([[121], [105], [113]] : List L8), z.length ≤ 60 := by decide
        exact this t ht
      refine ⟨⟨cs, is ++ [⟨x, y, [⟨z, t⟩]⟩]⟩, p + 1 + 1 + 1 + 1 + 1, smW_iff.2 ⟨c1, c2, by simp; omega, fun c hc => ?_⟩, by show cs.length ≤ 6; omega, by simp; omega, by omega, by omega, fun l h hl ho => ?_⟩
      · rcases List.mem_append.1 hc with hc | hc
        · exact c4 c hc
        · rw [List.mem_singleton.1 hc]; exact smIn_iff.2 ⟨lx, ly, by simp, fun n hn => by rw [List.mem_singleton.1 hn]; exact smNd_iff.2 ⟨lz, lt⟩⟩
      have n0 : ¬ l = h.n := by omega
      have n1 : ¬ l = h.n + 1 := by omega
      have n2 : ¬ l = h.n + 2 := by omega
      have hpu := pu_insts (is ++ [(⟨x, y, [⟨z, t⟩]⟩ : Inst)])
      simp only [List.map_append, List.map_cons, List.map_nil, Inst.row, Need.row] at hpu
      refine good [3] [] Tryz.func183 rfl rfl Tryz.ntmps183 (by kernel_rfl) mixed (by kernel_rfl) ?_
      simp -dsimp only [go_sem, hl, Wld.row]
      refine call_one (hG1 l _ (by simp -dsimp only [go_sem, hl]) (by simp -dsimp only [go_sem, ho, hl, rdCE])) (by simp -dsimp only [go_sem]) (by simp -dsimp only [go_sem, hl, not_false_eq_true]) ?_
      simp -dsimp only [go_sem, hl, h0', h1', hgi, e8, e9, Nat.zero_add, List.nil_append, List.length_map]
      refine call_one (hG2 l _ (by simp -dsimp only [go_sem, hl]) (by simp -dsimp only [go_sem, ho, hl, rdCE])) (by simp -dsimp only [go_sem]) (by simp -dsimp only [go_sem, hl, not_false_eq_true]) ?_
      simp -dsimp only [go_sem, hl, h0', h1', hgi, e8, e9, Nat.zero_add, List.nil_append, List.length_map]
      refine call_one (hG3 l _ (by simp -dsimp only [go_sem, hl]) (by simp -dsimp only [go_sem, ho, hl, rdCE])) (by simp -dsimp only [go_sem]) (by simp -dsimp only [go_sem, hl, not_false_eq_true]) ?_
      simp -dsimp only [go_sem, hl, h0', h1', hgi, e8, e9, Nat.zero_add, List.nil_append, List.length_map]
      refine call_one (hG4 l _ (by simp -dsimp only [go_sem, hl]) (by simp -dsimp only [go_sem, ho, hl, rdCE])) (by simp -dsimp only [go_sem]) (by simp -dsimp only [go_sem, hl, not_false_eq_true]) ?_
      simp -dsimp only [go_sem, hl, h0', h1', hgi, e8, e9, Nat.zero_add, List.nil_append, List.length_map]
      refine call_one (hG5 l _ (by simp -dsimp only [go_sem, hl]) (by simp -dsimp only [go_sem, ho, hl, rdCE])) (by simp -dsimp only [go_sem]) (by simp -dsimp only [go_sem, hl, not_false_eq_true]) ?_
      simp -dsimp only [go_sem, hl, h0', h1', hgi, e8, e9, Nat.zero_add, List.nil_append, List.length_map]

      refine fin_one (by simp -dsimp only [go_sem]) ?_ ?_
      · simp -dsimp only [go_sem, hl, Wld.row, Inst.row, Need.row, hpu, List.map_append, List.map_cons, List.map_nil, List.length_map, List.length_append, List.length_cons, List.length_nil]
      · simp -dsimp only [go_sem, hl, rdCE]
    · have h1' : (((v : Nat) : Int) = 1) = False := eq_false (by omega)
      by_cases h2 : v = 2
      · have h2' : (((v : Nat) : Int) = 2) = True := eq_true (by omega)
        refine ⟨⟨cs, is ++ List.replicate 10 ⟨[69], [105], []⟩⟩, p + 1, smW_iff.2 ⟨c1, c2, by simp; omega, fun c hc => ?_⟩, by show cs.length ≤ 6; omega, by simp; omega, by omega, by omega, fun l h hl ho => ?_⟩
        · rcases List.mem_append.1 hc with hc | hc
          · exact c4 c hc
          · rw [(List.mem_replicate.1 hc).2]; exact smIn_E
        have n0 : ¬ l = h.n := by omega
        have n1 : ¬ l = h.n + 1 := by omega
        have n2 : ¬ l = h.n + 2 := by omega
        obtain ⟨g, hg⟩ : ∃ g : Nat → List Inst, g = fun k => is ++ List.replicate k ⟨[69], [105], []⟩ := ⟨_, rfl⟩
        have hg0 : g 0 = is := by rw [hg]; simp
        have hg1 : ∀ k, g (k + 1) = g k ++ [⟨[69], [105], []⟩] := fun k => by rw [hg]; exact rep_snoc
        have hgl : ∀ k, (g k).length = is.length + k := fun k => by rw [hg]; simp
        have hge : is ++ List.replicate 10 ⟨[69], [105], []⟩ = g 10 := by rw [hg]
        rw [hge]
        refine good [3] [] Tryz.func183 rfl rfl Tryz.ntmps183 (by kernel_rfl) mixed (by kernel_rfl) ?_
        simp -dsimp only [go_sem, hl, Wld.row]
        refine call_one (hG1 l _ (by simp -dsimp only [go_sem, hl]) (by simp -dsimp only [go_sem, ho, hl, rdCE])) (by simp -dsimp only [go_sem]) (by simp -dsimp only [go_sem, hl, not_false_eq_true]) ?_
        simp -dsimp only [go_sem, hl, h0', h1', h2']
        refine loop_ruleH [3, 0] (fun (k : {k : Nat // k ≤ 10}) H => ([(50, .v (.int .i64 (k.1 : Nat)))], ⟨h.n + 2, upd (upd H.o l (.cells (rdCE b (p + 1)))) h.n (.cells [.sl (cs.map Cls.row), .sl ((g k.1).map Inst.row)])⟩)) (fun k => 10 - k.1) ⟨0, Nat.zero_le _⟩ ?_ ?_
        · refine weak_objs [l, h.n, h.n + 1] (by simp -dsimp only [go_sem]) (by simp -dsimp only [go_sem]) (by simp -dsimp only [go_sem, hl]) ?_ ?_ ?_
          · intro t h1 h2
            have a1 : ¬ t = h.n := by omega
            have a2 : ¬ t = h.n + 1 := by omega
            have a3 : ¬ t = h.n + 2 := by omega
            have a4 : ¬ t = h.n + 3 := by omega
            have a5 : ¬ t = l := by simpa using h2
            simp -dsimp only [go_sem, a1, a2, a3, a4, a5]
          · intro x h1 h2; have h1 : x < h.n + 2 := h1; simp at h2 ⊢; omega
          · simp -dsimp only [go_sem, hl, rdCE, hg0]
        · rintro ⟨k, hk⟩
          have k1 : k + 1 ≤ 9223372036854775807 := by omega
          have e10 : (g k).length * 56 ≤ 140737488355328 := by have := hgl k; generalize (g k).length = m at this ⊢; omega
          have e11 : ((g k).length + 1) * 56 ≤ 140737488355328 := by have := hgl k; generalize (g k).length = m at this ⊢; omega
          have hgg : ∀ H : AH, goodRows H 3 ((g k).map Inst.row) = True := fun H => good_insts H (g k)
          by_cases hk10 : k < 10
          · have hkc : (((k : Nat) : Int) < 10) = True := eq_true (by omega)
            simp -dsimp only [go_sem, hl, hkc, hgg, e10, e11, k1, Nat.zero_add, List.nil_append, List.length_map]
            refine round_to ⟨k + 1, hk10⟩ (by show 10 - (k + 1) < 10 - k; omega) ?_
            refine weak_objs [l, h.n, h.n + 1] (by simp -dsimp only [go_sem]) (by simp -dsimp only [go_sem]) (by simp -dsimp only [go_sem, hl]) ?_ ?_ ?_
            · intro t h1 h2
              have a1 : ¬ t = h.n := by omega
              have a2 : ¬ t = h.n + 1 := by omega
              have a3 : ¬ t = h.n + 2 := by omega
              have a4 : ¬ t = h.n + 3 := by omega
              have a5 : ¬ t = l := by simpa using h2
              simp -dsimp only [go_sem, a1, a2, a3, a4, a5]
            · intro x h1 h2; have h1 : x < h.n + 2 := h1; simp at h2 ⊢; omega
            · simp -dsimp only [go_sem, hl, rdCE, hg1, List.map_append, List.map_cons, List.map_nil, Inst.row, List.length_map, List.length_append, List.length_cons, List.length_nil]
              exact fz_snoc (e := 45) (sz := 3) (r := [str [69], str [105], .so (h.n + 3) 0 0]) (Nat.le_refl _) (by simp -dsimp only [go_sem]) (by rw [List.length_map]) (by simp -dsimp only [go_sem]) (by simp -dsimp only [go_sem])
          · have hkc : (((k : Nat) : Int) < 10) = False := eq_false (by omega)
            have hke : k = 10 := by omega
            subst hke
            simp -dsimp only [go_sem, hkc, hl]
            refine fin_one (by simp -dsimp only [go_sem]) ?_ ?_
            · simp -dsimp only [go_sem, hl, Wld.row]
            · simp -dsimp only [go_sem, hl, rdCE]
      · have h2' : (((v : Nat) : Int) = 2) = False := eq_false (by omega)
        refine ⟨⟨cs, is⟩, p + 1, hw, by show cs.length ≤ 6; omega, by show is.length ≤ 30; omega, by omega, by omega, fun l h hl ho => ?_⟩
        refine good [3] [] Tryz.func183 rfl rfl Tryz.ntmps183 (by kernel_rfl) mixed (by kernel_rfl) ?_
        simp -dsimp only [go_sem, hl, Wld.row]
        refine call_one (hG1 l _ (by simp -dsimp only [go_sem, hl]) (by simp -dsimp only [go_sem, ho, hl, rdCE])) (by simp -dsimp only [go_sem]) (by simp -dsimp only [go_sem, hl, not_false_eq_true]) ?_
        simp -dsimp only [go_sem, hl, h0', h1', h2']
        refine fin_one (by simp -dsimp only [go_sem]) ?_ ?_
        · simp -dsimp only [go_sem, hl, Wld.row]
        · simp -dsimp only [go_sem, hl, rdCE]
theorem s_l3Some (b : L8) (p : Nat) (hb : b.length ≤ 2000) (hp : p + 3000 ≤ 1000000000) : ∃ (w : Wld) (q : Nat), smW w = true ∧ w.cs.length ≤ 6 ∧ w.is.length ≤ 30 ∧ p ≤ q ∧ q ≤ p + 710 ∧ ∀ (l : Nat) (h : AH), l < h.n → h.o l = .cells (rdCE b p) →
    Isea.Good Tryz.prog 95 [.ptr l 0] h [l] (.agg w.row) (h.set l (.cells (rdCE b q))) := by
  obtain ⟨w, q, w1, w2, w3, w4, w5, hD⟩ := s_l3Draw b p hb (by omega)
  obtain ⟨w', q', x1, x2, x3, x4, x5, hB⟩ := s_l3Bad b q w hb (by omega) w1 w2 w3
  unfold Wld.row at hD hB ⊢
  refine ⟨w', q', x1, x2, x3, by omega, by omega, fun l h hl ho => ?_⟩
  refine good [] [] Tryz.func95 rfl rfl Tryz.ntmps95 (by kernel_rfl) mixed (by kernel_rfl) ?_
  simp -dsimp only [go_sem, hl]
  refine call_one (hD l _ (by simp -dsimp only [go_sem, hl]) (by simp -dsimp only [go_sem, ho, hl, rdCE])) (by simp -dsimp only [go_sem]) (by simp -dsimp only [go_sem, hl, not_false_eq_true]) ?_
  simp -dsimp only [go_sem, hl]
  refine call_one (hB l _ (by simp -dsimp only [go_sem, hl]) (by simp -dsimp only [go_sem, ho, hl, rdCE])) (by simp -dsimp only [go_sem]) (by simp -dsimp only [go_sem, hl, not_false_eq_true]) ?_
  simp -dsimp only [go_sem, hl]
  refine fin_one (by simp -dsimp only [go_sem]) ?_ ?_
  · simp -dsimp only [go_sem, hl, Wld.row]
  · simp -dsimp only [go_sem, hl, rdCE]
end Go.Proofs.YtnocdggngfiebaaGreatDoor

namespace Go.Isea
open Go
set_option maxRecDepth 100000
theorem vars12_ok : ∀ c ∈ vars12, isV c = true ∨ ar c < 0 := by decide
theorem put_len2 {σ : Sub} {n : Nat} (h : ∀ c t, σ c = some t → t.text.length ≤ n) : ∀ {t : Ty}, (put σ t).text.length ≤ t.text.length * (n + 1)
  | .leaf c => by
    unfold put
    cases hc : σ c with
    | none => simp [Ty.text]
    | some t => have := h c t hc; simp [Ty.text]; omega
  | .un c t => by
    have := put_len2 h (t := t)
    simp only [put, Ty.text, List.length_cons, List.length_append, List.length_nil]
    generalize (put σ t).text.length = a at *
    generalize t.text.length = b at *
    simp only [Nat.add_mul, Nat.one_mul]; omega
  | .bin c t u => by
    have h1 := put_len2 h (t := t)
    have h2 := put_len2 h (t := u)
    simp only [put, Ty.text, List.length_cons, List.length_append, List.length_nil]
    generalize (put σ t).text.length = a at *
    generalize t.text.length = b at *
    generalize (put σ u).text.length = a' at *
    generalize u.text.length = b' at *
    simp only [Nat.add_mul, Nat.one_mul]; omega
/-- what is put, small, and for the twelve alone -/
def SmS (σ : Sub) : Prop := ∀ c t, σ c = some t → c ∈ vars12 ∧ t.wf ∧ t.text.length ≤ 60
theorem SmS.ok2 {σ : Sub} (h : SmS σ) : σ.Ok2 60 := fun c t e => ⟨vars12_ok c (h c t e).1, (h c t e).2⟩
theorem SmS.set {σ : Sub} (h : SmS σ) {c : UInt8} {t : Ty} (hc : c ∈ vars12) (hw : t.wf) (hl : t.text.length ≤ 60) : SmS (σ.set c t) := by
  intro c' t' e
  unfold Sub.set at e
  split at e
  · rename_i hcc
    injection e with e
    subst e; subst hcc
    exact ⟨hc, hw, hl⟩
  · exact h c' t' e
end Go.Isea
namespace Go.Proofs.YtnocdggngfiebaaGreatDoor
open Go Go.Isea
set_option maxRecDepth 100000
set_option maxHeartbeats 16000000
theorem s_l3Letter (b : L8) (p : Nat) (w : Wld) (hb : b.length ≤ 2000) (hp : p + 2000 ≤ 1000000000) (hw : smW w = true) : ∃ (x : L8) (q : Nat), x.length ≤ 60 ∧ p ≤ q ∧ q ≤ p + 2 ∧ ∀ (l : Nat) (h : AH), l < h.n → h.o l = .cells (rdCE b p) →
    Isea.Good Tryz.prog 162 [.ptr l 0, .agg w.row] h [l] (str x) (h.set l (.cells (rdCE b q))) := by
  obtain ⟨cs, is⟩ := w
  obtain ⟨c1, c2, c3, c4⟩ := smW_iff.1 hw
  have c1 : cs.length ≤ 10 := c1
  have c2 : ∀ c ∈ cs, smCl c = true := c2
  by_cases hz : cs.length = 0
  · have hcc : (((cs.length : Nat) : Int) = 0) = True := eq_true (by omega)
    obtain ⟨x, hx, hG2⟩ := s_of b (p) [[69], [90], [], [69, 79]] hb (by omega) (by decide)
    simp only [List.map_cons, List.map_nil, sRow] at hG2
    have lx : x.length ≤ 60 := by
      have : ∀ z ∈ ([[69], [90], [], [69, 79]] : List L8), z.length ≤ 60 := by decide
      exact this x hx
    refine ⟨x, p + 1, lx, by omega, by omega, fun l h hl ho => ?_⟩
    refine good [] [] Tryz.func162 rfl rfl Tryz.ntmps162 (by kernel_rfl) mixed (by kernel_rfl) ?_
    simp -dsimp only [go_sem, hl, ho, hcc, Wld.row, Cls.row, List.length_map]
    refine call_one (hG2 l _ (by simp -dsimp only [go_sem, hl]) (by simp -dsimp only [go_sem, ho, hl, rdCE])) (by simp -dsimp only [go_sem]) (by simp -dsimp only [go_sem, hl, not_false_eq_true]) ?_
    simp -dsimp only [go_sem, hl, ho, hcc, Wld.row, Cls.row, List.length_map]
    refine fin_one (by simp -dsimp only [go_sem]) ?_ ?_ <;> simp -dsimp only [go_sem, hl, rdCE]
  · have hcc : (((cs.length : Nat) : Int) = 0) = False := eq_false (by omega)
    obtain ⟨v, hv, hG1⟩ := s_rpick b p 16 hb (by omega)
    rw [show ((16 : Nat) : Int) = 16 from rfl] at hG1
    by_cases h0 : v = 0
    · have h0' : (((v : Nat) : Int) = 0) = True := eq_true (by omega)
      obtain ⟨x, hx, hG2⟩ := s_of b (p + 1) [[69], [90], [], [69, 79]] hb (by omega) (by decide)
      simp only [List.map_cons, List.map_nil, sRow] at hG2
      have lx : x.length ≤ 60 := by
        have : ∀ z ∈ ([[69], [90], [], [69, 79]] : List L8), z.length ≤ 60 := by decide
        exact this x hx
      refine ⟨x, p + 1 + 1, lx, by omega, by omega, fun l h hl ho => ?_⟩
      refine good [] [] Tryz.func162 rfl rfl Tryz.ntmps162 (by kernel_rfl) mixed (by kernel_rfl) ?_
      simp -dsimp only [go_sem, hl, ho, hcc, Wld.row, Cls.row, List.length_map]
      refine call_one (hG1 l _ (by simp -dsimp only [go_sem, hl]) (by simp -dsimp only [go_sem, ho, hl, rdCE])) (by simp -dsimp only [go_sem]) (by simp -dsimp only [go_sem, hl, not_false_eq_true]) ?_
      simp -dsimp only [h0', go_sem, hl, ho, hcc, Wld.row, Cls.row, List.length_map]
      refine call_one (hG2 l _ (by simp -dsimp only [go_sem, hl]) (by simp -dsimp only [go_sem, ho, hl, rdCE])) (by simp -dsimp only [go_sem]) (by simp -dsimp only [go_sem, hl, not_false_eq_true]) ?_
      simp -dsimp only [h0', go_sem, hl, ho, hcc, Wld.row, Cls.row, List.length_map]
      refine fin_one (by simp -dsimp only [go_sem]) ?_ ?_ <;> simp -dsimp only [go_sem, hl, rdCE]
    · have h0' : (((v : Nat) : Int) = 0) = False := eq_false (by omega)
      obtain ⟨k, hk, hG2⟩ := s_rpick b (p + 1) cs.length hb (by omega)
      have hk := hk (by omega)
      obtain ⟨c, hc⟩ := get_some hk
      have hsc := smCl_iff.1 (c2 c (List.mem_of_getElem? hc))
      refine ⟨c.n, p + 1 + 1, hsc.1, by omega, by omega, fun l h hl ho => ?_⟩
      refine good [] [] Tryz.func162 rfl rfl Tryz.ntmps162 (by kernel_rfl) mixed (by kernel_rfl) ?_
      simp -dsimp only [go_sem, hl, ho, hcc, Wld.row, Cls.row, List.length_map]
      refine call_one (hG1 l _ (by simp -dsimp only [go_sem, hl]) (by simp -dsimp only [go_sem, ho, hl, rdCE])) (by simp -dsimp only [go_sem]) (by simp -dsimp only [go_sem, hl, not_false_eq_true]) ?_
      simp -dsimp only [h0', go_sem, hl, ho, hcc, Wld.row, Cls.row, List.length_map]
      refine call_one (hG2 l _ (by simp -dsimp only [go_sem, hl]) (by simp -dsimp only [go_sem, ho, hl, rdCE])) (by simp -dsimp only [go_sem]) (by simp -dsimp only [go_sem, hl, not_false_eq_true]) ?_
      simp -dsimp only [h0', hk, hc, go_sem, hl, ho, hcc, Wld.row, Cls.row, List.length_map]
      refine fin_one (by simp -dsimp only [go_sem]) ?_ ?_ <;> simp -dsimp only [go_sem, hl, rdCE]
def RoundF (b : L8) (k : Nat) (s s' : Nat × Sub) : Prop := k < 12 → ∃ (v1 v2 : Nat) (t : Ty) (c : UInt8), vars12[k]? = some c ∧ t.wf ∧ t.text.length ≤ 60 ∧ s'.2 = s.2.set c t ∧
  (∀ (l : Nat) (h : AH), l < h.n → h.o l = .cells (rdCE b s.1) → Isea.Good Tryz.prog 110 [.ptr l 0, .v (.int .i64 2)] h [l] (.v (.int .i64 (v1 : Nat))) (h.set l (.cells (rdCE b (s.1 + 1))))) ∧
  (∀ (l : Nat) (h : AH), l < h.n → h.o l = .cells (rdCE b (s.1 + 1)) → Isea.Good Tryz.prog 110 [.ptr l 0, .v (.int .i64 2)] h [l] (.v (.int .i64 (v2 : Nat))) (h.set l (.cells (rdCE b (s.1 + 1 + 1))))) ∧
  (∀ (l : Nat) (h : AH), l < h.n → h.o l = .cells (rdCE b (s.1 + 1 + 1)) → Isea.Good Tryz.prog 163 [.ptr l 0, .v (.int .i64 (v1 : Nat)), .v (.bool (decide (((v2 : Nat) : Int) = 0)))] h [l] (str t.text) (h.set l (.cells (rdCE b s'.1))))
theorem roundsF (b : L8) (q0 : Nat) (hb : b.length ≤ 2000) (hq : q0 + 300 ≤ 1000000000) : ∃ f : Nat → Nat × Sub, f 0 = (q0, Sub.none') ∧ ∀ k, (k ≤ 12 → SmS (f k).2 ∧ q0 ≤ (f k).1 ∧ (f k).1 ≤ q0 + 20 * k) ∧ RoundF b k (f k) (f (k + 1)) := by
  refine dep_seq (s0 := (q0, Sub.none')) (Inv := fun k s => k ≤ 12 → SmS s.2 ∧ q0 ≤ s.1 ∧ s.1 ≤ q0 + 20 * k) (R := RoundF b) (fun k s hs => ?_) (fun _ => ⟨fun _ _ e => (by cases e), Nat.le_refl _, (by simp)⟩)
  by_cases hk : k < 12
  · obtain ⟨i1, i2, i3⟩ := hs (by omega)
    obtain ⟨v1, hv1, hG1⟩ := s_rpick b s.1 2 hb (by omega)
    have hv1 := hv1 (by decide)
    obtain ⟨v2, hv2, hG2⟩ := s_rpick b (s.1 + 1) 2 hb (by omega)
    rw [show ((2 : Nat) : Int) = 2 from rfl] at hG1 hG2
    have hpw : 2 ^ v1 ≤ 2 := by
      have : v1 = 0 ∨ v1 = 1 := by omega
      rcases this with rfl | rfl <;> decide
    obtain ⟨t, q, w1, l1, g1, e1, hD⟩ := s_l1Draw v1 b (s.1 + 1 + 1) (decide (((v2 : Nat) : Int) = 0)) hb (by omega)
    obtain ⟨c, hc⟩ := get_some (l := vars12) (k := k) hk
    exact ⟨(q, s.2.set c t), fun _ => ⟨i1.set (List.mem_of_getElem? hc) w1 (by omega), by show q0 ≤ q; omega, by show q ≤ _; omega⟩, fun _ => ⟨v1, v2, t, c, hc, w1, by omega, rfl, hG1, hG2, hD⟩⟩
  · exact ⟨s, fun h => absurd h (by omega), fun h => absurd h hk⟩
theorem s_l2Form (b : L8) (p : Nat) (pt : L8) (hb : b.length ≤ 2000) (hp : p + 2000 ≤ 1000000000) (hpt : pt.length ≤ 60) : ∃ (x : L8) (q : Nat), x.length ≤ 60 ∧ p ≤ q ∧ q ≤ p + 300 ∧ ∀ (l : Nat) (h : AH), l < h.n → h.o l = .cells (rdCE b p) →
    Isea.Good Tryz.prog 207 [.ptr l 0, str pt] h [l] (str x) (h.set l (.cells (rdCE b q))) := by
  cases ha : typeOf pt with
  | none =>
    refine ⟨[105], p, by decide, Nat.le_refl _, by omega, fun l h hl ho => ?_⟩
    refine good [18] [(8, OT.o 0 (OT.o 1 (OT.o 2 (OT.o 3 (OT.o 5 (OT.o 13 (OT.o 4 (OT.o 6 (OT.o 7 (OT.o 8 (OT.o 9 (OT.o 10 (OT.o 11 (OT.o 12 (OT.o 14 (OT.o 15 OT.e))))))))))))))))] Tryz.func207 rfl rfl Tryz.ntmps207 (by kernel_rfl) mixed (by kernel_rfl) ?_
    simp -dsimp only [go_sem, hl]
    refine call_pure (s_l1Read pt (by omega) _) ?_
    simp -dsimp only [go_sem, hl, readV, ha, zNode]
    refine fin_one (by simp -dsimp only [go_sem]) ?_ ?_ <;> simp -dsimp only [go_sem, hl, ho, rdCE]
  | some ty =>
    obtain ⟨ea, hwa, hla⟩ := typeOf_some ha
    obtain ⟨f, hf0, hf⟩ := roundsF b p hb (by omega)
    obtain ⟨j1, j2, j3⟩ := (hf 12).1 (Nat.le_refl _)
    have htl : ty.text.length ≤ 60 := by rw [← ea]; exact hpt
    have hpl := put_len2 (fun c t e => (j1 c t e).2.2) (t := ty)
    obtain ⟨x, hx, hxl⟩ : ∃ x : L8, (if 60 < (put (f 12).2 ty).text.length then [105] else (put (f 12).2 ty).text) = x ∧ x.length ≤ 60 := ⟨_, rfl, by
      split
      · decide
      · omega⟩
    refine ⟨x, (f 12).1, hxl, j2, by omega, fun l h hl ho => ?_⟩
    have n0 : ¬ l = h.n := by omega
    have n1 : ¬ l = h.n + 1 := by omega
    have n2 : ¬ l = h.n + 2 := by omega
    refine good [18] [(8, OT.o 0 (OT.o 1 (OT.o 2 (OT.o 3 (OT.o 5 (OT.o 13 (OT.o 4 (OT.o 6 (OT.o 7 (OT.o 8 (OT.o 9 (OT.o 10 (OT.o 11 (OT.o 12 (OT.o 14 (OT.o 15 OT.e))))))))))))))))] Tryz.func207 rfl rfl Tryz.ntmps207 (by kernel_rfl) mixed (by kernel_rfl) ?_
    simp -dsimp only [go_sem, hl]
    refine call_pure (s_l1Read pt (by omega) _) ?_
    simp -dsimp only [go_sem, hl, readV, ha, zNode]
    refine loop_ruleH [0, 4, 1] (fun (k : {k : Nat // k ≤ 12}) H => ([(19, .v (.int .i64 (k.1 : Nat)))], ⟨h.n + 2, upd (upd H.o l (.cells (rdCE b (f k.1).1))) (h.n + 1) (.cells (mcells (f k.1).2))⟩)) (fun k => 12 - k.1) ⟨0, Nat.zero_le _⟩ ?_ ?_
    · have hz : mcells Sub.none' = [.v (.int .u8 0), .v (.slice none 0 0), .v (.int .u8 0), .v (.slice none 0 0), .v (.int .u8 0), .v (.slice none 0 0), .v (.int .u8 0), .v (.slice none 0 0), .v (.int .u8 0), .v (.slice none 0 0), .v (.int .u8 0), .v (.slice none 0 0), .v (.int .u8 0), .v (.slice none 0 0), .v (.int .u8 0), .v (.slice none 0 0), .v (.int .u8 0), .v (.slice none 0 0), .v (.int .u8 0), .v (.slice none 0 0), .v (.int .u8 0), .v (.slice none 0 0), .v (.int .u8 0), .v (.slice none 0 0)] := rfl
      refine weak_objs [l, h.n, h.n + 1] (by simp -dsimp only [go_sem]) (by simp -dsimp only [go_sem]) (by simp -dsimp only [go_sem, hl]) ?_ ?_ ?_
      · intro t h1 h2
        have a1 : ¬ t = h.n := by omega
        have a2 : ¬ t = h.n + 1 := by omega
        have a5 : ¬ t = l := by simpa using h2
        simp -dsimp only [go_sem, a1, a2, a5]
      · intro x h1 h2; have h1 : x < h.n + 2 := h1; simp at h2 ⊢; omega
      · simp -dsimp only [go_sem, hl, ho, rdCE, hf0, hz]
    · rintro ⟨k, hk⟩
      obtain ⟨_, hR⟩ := hf k
      have k1 : k + 1 ≤ 9223372036854775807 := by omega
      by_cases hk12 : k < 12
      · have hkc : (((k : Nat) : Int) < 12) = True := eq_true (by omega)
        obtain ⟨v1, v2, t, c, hc, w1, l1, hs, hG1, hG2, hD⟩ := hR hk12
        have hr : readV t.text = .tup [.agg t.cells, .v (.bool true)] := by simp [readV, typeOf_text w1 l1]
        have h22 : k * 2 ≤ 22 := by omega
        simp -dsimp only [go_sem, hl, hkc]
        refine call_one (hG1 l _ (by simp -dsimp only [go_sem, hl]) (by simp -dsimp only [go_sem, ho, hl, rdCE])) (by simp -dsimp only [go_sem]) (by simp -dsimp only [go_sem, hl, not_false_eq_true]) ?_
        simp -dsimp only [go_sem, hl, hkc, rdCE]
        refine call_one (hG2 l _ (by simp -dsimp only [go_sem, hl]) (by simp -dsimp only [go_sem, ho, hl, rdCE])) (by simp -dsimp only [go_sem]) (by simp -dsimp only [go_sem, hl, not_false_eq_true]) ?_
        simp -dsimp only [go_sem, hl, hkc, rdCE]
        refine call_one (hD l _ (by simp -dsimp only [go_sem, hl]) (by simp -dsimp only [go_sem, ho, hl, rdCE])) (by simp -dsimp only [go_sem]) (by simp -dsimp only [go_sem, hl, not_false_eq_true]) ?_
        simp -dsimp only [go_sem, hl, hkc, rdCE]
        refine call_pure (s_l1Read t.text (by omega) _) ?_
        simp -dsimp only [go_sem, hl, hr, hk12, k1, mcells_len, h22, mcells_paste _ hc t]
        refine round_to ⟨k + 1, hk12⟩ (by show 12 - (k + 1) < 12 - k; omega) ?_
        refine weak_objs [l, h.n, h.n + 1] (by simp -dsimp only [go_sem]) (by simp -dsimp only [go_sem]) (by simp -dsimp only [go_sem, hl]) ?_ ?_ ?_
        · intro t h1 h2
          have a1 : ¬ t = h.n := by omega
          have a2 : ¬ t = h.n + 1 := by omega
          have a5 : ¬ t = l := by simpa using h2
          simp -dsimp only [go_sem, a1, a2, a5]
        · intro x h1 h2; have h1 : x < h.n + 2 := h1; simp at h2 ⊢; omega
        · simp -dsimp only [go_sem, hl, rdCE, hs]
      · have hkc : (((k : Nat) : Int) < 12) = False := eq_false (by omega)
        have hke : k = 12 := by omega
        subst hke
        simp -dsimp only [go_sem, hkc, hl, ty.cells_ref]
        refine call_pure (s_l2PutV (σ := (f 12).2) ty _ (by simp -dsimp only [go_sem]) (by simp -dsimp only [go_sem]) j1.ok2 hwa (by omega)) ?_
        simp -dsimp only [go_sem, hl]
        refine call_pure (s_l2Length (put (f 12).2 ty) _ (by omega)) ?_
        by_cases h60 : 60 < (put (f 12).2 ty).text.length
        · have h60' : ((60 : Int) < (((put (f 12).2 ty).text.length : Nat) : Int)) = True := eq_true (by omega)
          rw [if_pos h60] at hx
          simp -dsimp only [go_sem, hl, h60']
          refine fin_one (by simp -dsimp only [go_sem]) ?_ ?_ <;> simp -dsimp only [go_sem, hl, rdCE, ← hx]
        · have h60' : ((60 : Int) < (((put (f 12).2 ty).text.length : Nat) : Int)) = False := eq_false (by omega)
          rw [if_neg h60] at hx
          simp -dsimp only [go_sem, hl, h60']
          refine call_pure (s_l1Text (put (f 12).2 ty) _ (by omega)) ?_
          simp -dsimp only [go_sem, hl]
          refine fin_one (by simp -dsimp only [go_sem]) ?_ ?_ <;> simp -dsimp only [go_sem, hl, rdCE, hx]
end Go.Proofs.YtnocdggngfiebaaGreatDoor

namespace Go.Proofs.YtnocdggngfiebaaGreatDoor
open Go Go.Isea
set_option maxRecDepth 100000
set_option maxHeartbeats 16000000
theorem s_l4Some (b : L8) (p : Nat) (hb : b.length ≤ 2000) (hp : p + 10000 ≤ 1000000000) : ∃ (w : Wld) (n : Need) (q : Nat), smW w = true ∧ w.cs.length ≤ 6 ∧ w.is.length ≤ 30 ∧ smNd n = true ∧ p ≤ q ∧ q ≤ p + 2000 ∧ ∀ (l : Nat) (h : AH), l < h.n → h.o l = .cells (rdCE b p) →
    Isea.Good Tryz.prog 120 [.ptr l 0] h [l] (.tup [.agg w.row, .agg n.row]) (h.set l (.cells (rdCE b q))) := by
  obtain ⟨w, q1, w1, w2, w3, g1, e1, hS⟩ := s_l3Some b p hb (by omega)
  obtain ⟨x, q2, lx, g2, e2, hL⟩ := s_l3Letter b q1 w hb (by omega) w1
  obtain ⟨v1, hv1, hG1⟩ := s_rpick b q2 4 hb (by omega)
  have hv1 := hv1 (by decide)
  obtain ⟨v2, hv2, hG2⟩ := s_rpick b (q2 + 1) 4 hb (by omega)
  rw [show ((4 : Nat) : Int) = 4 from rfl] at hG1 hG2
  have hpw : 2 ^ v1 ≤ 8 := by
    have : v1 = 0 ∨ v1 = 1 ∨ v1 = 2 ∨ v1 = 3 := by omega
    rcases this with rfl | rfl | rfl | rfl <;> decide
  obtain ⟨t, q3, wt, lt, g3, e3, hD⟩ := s_l1Draw v1 b (q2 + 1 + 1) (decide ((0 : Int) < ((v2 : Nat) : Int))) hb (by omega)
  obtain ⟨cs, is⟩ := w
  have hW : (⟨cs, is⟩ : Wld).row = [.sl (cs.map Cls.row), .sl (is.map Inst.row)] := rfl
  rw [hW] at hS hL
  have w3 : is.length ≤ 30 := w3
  by_cases hz0 : is.length = 0
  · have hz : ((0 : Int) < ((is.length : Nat) : Int)) = False := eq_false (by omega)
    obtain ⟨v4, hv4, hG4⟩ := s_rpick b (q3) 20 hb (by omega)
    rw [show ((20 : Nat) : Int) = 20 from rfl] at hG4
    by_cases h4 : v4 = 0
    · have h4' : (((v4 : Nat) : Int) = 0) = True := eq_true (by omega)
      obtain ⟨t2, q6, l6, g6, e6, hA⟩ := s_l1Any b (q3 + 1) hb (by omega)
      refine ⟨⟨cs, is⟩, ⟨x, t2⟩, q6, w1, w2, w3, smNd_iff.2 ⟨lx, l6⟩, by omega, by omega, fun l h hl ho => ?_⟩
      have n0 : ¬ l = h.n := by omega
      have n1 : ¬ l = h.n + 1 := by omega
      have n2 : ¬ l = h.n + 2 := by omega
      have n3 : ¬ l = h.n + 3 := by omega
      have n4 : ¬ l = h.n + 4 := by omega
      refine good [4, 5] [(4, OT.o 0 (OT.o 1 (OT.o 2 (OT.o 3 (OT.o 4 (OT.o 5 ((OT.o 6 (OT.o 7 (OT.o 8 (OT.o 9 (OT.o 10 OT.e))))).f (OT.o 9 (OT.o 6 (OT.o 7 (OT.o 8 (OT.o 10 OT.e))))))))))))] Tryz.func120 rfl rfl Tryz.ntmps120 (by kernel_rfl) mixed (by kernel_rfl) ?_
      simp -dsimp only [go_sem, hl, hW, n0, n1, n2, n3, n4, List.length_map]
      refine call_one (hS l _ (by simp -dsimp only [go_sem, hl]) (by simp -dsimp only [go_sem, ho, hl, rdCE])) (by simp -dsimp only [go_sem]) (by simp -dsimp only [go_sem, hl, not_false_eq_true]) ?_
      simp -dsimp only [go_sem, hl, hW, n0, n1, n2, n3, n4, List.length_map]
      refine call_one (hL l _ (by simp -dsimp only [go_sem, hl]) (by simp -dsimp only [go_sem, ho, hl, rdCE])) (by simp -dsimp only [go_sem]) (by simp -dsimp only [go_sem, hl, not_false_eq_true]) ?_
      simp -dsimp only [go_sem, hl, hW, n0, n1, n2, n3, n4, List.length_map]
      refine call_one (hG1 l _ (by simp -dsimp only [go_sem, hl]) (by simp -dsimp only [go_sem, ho, hl, rdCE])) (by simp -dsimp only [go_sem]) (by simp -dsimp only [go_sem, hl, not_false_eq_true]) ?_
      simp -dsimp only [go_sem, hl, hW, n0, n1, n2, n3, n4, List.length_map]
      refine call_one (hG2 l _ (by simp -dsimp only [go_sem, hl]) (by simp -dsimp only [go_sem, ho, hl, rdCE])) (by simp -dsimp only [go_sem]) (by simp -dsimp only [go_sem, hl, not_false_eq_true]) ?_
      simp -dsimp only [go_sem, hl, hW, n0, n1, n2, n3, n4, List.length_map]
      refine call_one (hD l _ (by simp -dsimp only [go_sem, hl]) (by simp -dsimp only [go_sem, ho, hl, rdCE])) (by simp -dsimp only [go_sem]) (by simp -dsimp only [go_sem, hl, not_false_eq_true]) ?_
      simp -dsimp only [go_sem, hl, hW, n0, n1, n2, n3, n4, List.length_map, hz]
      refine call_one (hG4 l _ (by simp -dsimp only [go_sem, hl]) (by simp -dsimp only [go_sem, ho, hl, rdCE])) (by simp -dsimp only [go_sem]) (by simp -dsimp only [go_sem, hl, not_false_eq_true]) ?_
      simp -dsimp only [go_sem, hl, hW, n0, n1, n2, n3, n4, List.length_map, h4']
      refine call_one (hA l _ (by simp -dsimp only [go_sem, hl]) (by simp -dsimp only [go_sem, ho, hl, rdCE])) (by simp -dsimp only [go_sem]) (by simp -dsimp only [go_sem, hl, not_false_eq_true]) ?_
      simp -dsimp only [go_sem, hl, hW, n0, n1, n2, n3, n4, List.length_map]
      refine fin_one (by simp -dsimp only [go_sem]) ?_ ?_
      · simp -dsimp only [go_sem, hl, hW, Wld.row, Need.row]
      · simp -dsimp only [go_sem, hl, rdCE]
    · have h4' : (((v4 : Nat) : Int) = 0) = False := eq_false (by omega)
      refine ⟨⟨cs, is⟩, ⟨x, t.text⟩, q3 + 1, w1, w2, w3, smNd_iff.2 ⟨lx, by show t.text.length ≤ 60; omega⟩, by omega, by omega, fun l h hl ho => ?_⟩
      have n0 : ¬ l = h.n := by omega
      have n1 : ¬ l = h.n + 1 := by omega
      have n2 : ¬ l = h.n + 2 := by omega
      have n3 : ¬ l = h.n + 3 := by omega
      have n4 : ¬ l = h.n + 4 := by omega
      refine good [4, 5] [(4, OT.o 0 (OT.o 1 (OT.o 2 (OT.o 3 (OT.o 4 (OT.o 5 ((OT.o 6 (OT.o 7 (OT.o 8 (OT.o 9 (OT.o 10 OT.e))))).f (OT.o 9 (OT.o 6 (OT.o 7 (OT.o 8 (OT.o 10 OT.e))))))))))))] Tryz.func120 rfl rfl Tryz.ntmps120 (by kernel_rfl) mixed (by kernel_rfl) ?_
      simp -dsimp only [go_sem, hl, hW, n0, n1, n2, n3, n4, List.length_map]
      refine call_one (hS l _ (by simp -dsimp only [go_sem, hl]) (by simp -dsimp only [go_sem, ho, hl, rdCE])) (by simp -dsimp only [go_sem]) (by simp -dsimp only [go_sem, hl, not_false_eq_true]) ?_
      simp -dsimp only [go_sem, hl, hW, n0, n1, n2, n3, n4, List.length_map]
      refine call_one (hL l _ (by simp -dsimp only [go_sem, hl]) (by simp -dsimp only [go_sem, ho, hl, rdCE])) (by simp -dsimp only [go_sem]) (by simp -dsimp only [go_sem, hl, not_false_eq_true]) ?_
      simp -dsimp only [go_sem, hl, hW, n0, n1, n2, n3, n4, List.length_map]
      refine call_one (hG1 l _ (by simp -dsimp only [go_sem, hl]) (by simp -dsimp only [go_sem, ho, hl, rdCE])) (by simp -dsimp only [go_sem]) (by simp -dsimp only [go_sem, hl, not_false_eq_true]) ?_
      simp -dsimp only [go_sem, hl, hW, n0, n1, n2, n3, n4, List.length_map]
      refine call_one (hG2 l _ (by simp -dsimp only [go_sem, hl]) (by simp -dsimp only [go_sem, ho, hl, rdCE])) (by simp -dsimp only [go_sem]) (by simp -dsimp only [go_sem, hl, not_false_eq_true]) ?_
      simp -dsimp only [go_sem, hl, hW, n0, n1, n2, n3, n4, List.length_map]
      refine call_one (hD l _ (by simp -dsimp only [go_sem, hl]) (by simp -dsimp only [go_sem, ho, hl, rdCE])) (by simp -dsimp only [go_sem]) (by simp -dsimp only [go_sem, hl, not_false_eq_true]) ?_
      simp -dsimp only [go_sem, hl, hW, n0, n1, n2, n3, n4, List.length_map, hz]
      refine call_one (hG4 l _ (by simp -dsimp only [go_sem, hl]) (by simp -dsimp only [go_sem, ho, hl, rdCE])) (by simp -dsimp only [go_sem]) (by simp -dsimp only [go_sem, hl, not_false_eq_true]) ?_
      simp -dsimp only [go_sem, hl, hW, n0, n1, n2, n3, n4, List.length_map, h4']
      refine fin_one (by simp -dsimp only [go_sem]) ?_ ?_
      · simp -dsimp only [go_sem, hl, hW, Wld.row, Need.row]
      · simp -dsimp only [go_sem, hl, rdCE]
  · have hz : ((0 : Int) < ((is.length : Nat) : Int)) = True := eq_true (by omega)
    obtain ⟨v3, hv3, hG3⟩ := s_rpick b q3 2 hb (by omega)
    rw [show ((2 : Nat) : Int) = 2 from rfl] at hG3
    by_cases h3 : v3 = 0
    · have h3' : (((v3 : Nat) : Int) = 0) = True := eq_true (by omega)
      obtain ⟨k, hk, hG5⟩ := s_rpick b (q3 + 1) is.length hb (by omega)
      have hk := hk (by omega)
      obtain ⟨y, hy⟩ := get_some hk
      have hsy := smIn_iff.1 ((smW_iff.1 w1).2.2.2 y (List.mem_of_getElem? hy))
      obtain ⟨z, q5, lz, g5, e5, hF⟩ := s_l2Form b (q3 + 1 + 1) y.t hb (by omega) hsy.2.1
      refine ⟨⟨cs, is⟩, ⟨y.c, z⟩, q5, w1, w2, w3, smNd_iff.2 ⟨hsy.1, lz⟩, by omega, by omega, fun l h hl ho => ?_⟩
      have n0 : ¬ l = h.n := by omega
      have n1 : ¬ l = h.n + 1 := by omega
      have n2 : ¬ l = h.n + 2 := by omega
      have n3 : ¬ l = h.n + 3 := by omega
      have n4 : ¬ l = h.n + 4 := by omega
      refine good [4, 5] [(4, OT.o 0 (OT.o 1 (OT.o 2 (OT.o 3 (OT.o 4 (OT.o 5 ((OT.o 6 (OT.o 7 (OT.o 8 (OT.o 9 (OT.o 10 OT.e))))).f (OT.o 9 (OT.o 6 (OT.o 7 (OT.o 8 (OT.o 10 OT.e))))))))))))] Tryz.func120 rfl rfl Tryz.ntmps120 (by kernel_rfl) mixed (by kernel_rfl) ?_
      simp -dsimp only [go_sem, hl, hW, n0, n1, n2, n3, n4, List.length_map]
      refine call_one (hS l _ (by simp -dsimp only [go_sem, hl]) (by simp -dsimp only [go_sem, ho, hl, rdCE])) (by simp -dsimp only [go_sem]) (by simp -dsimp only [go_sem, hl, not_false_eq_true]) ?_
      simp -dsimp only [go_sem, hl, hW, n0, n1, n2, n3, n4, List.length_map]
      refine call_one (hL l _ (by simp -dsimp only [go_sem, hl]) (by simp -dsimp only [go_sem, ho, hl, rdCE])) (by simp -dsimp only [go_sem]) (by simp -dsimp only [go_sem, hl, not_false_eq_true]) ?_
      simp -dsimp only [go_sem, hl, hW, n0, n1, n2, n3, n4, List.length_map]
      refine call_one (hG1 l _ (by simp -dsimp only [go_sem, hl]) (by simp -dsimp only [go_sem, ho, hl, rdCE])) (by simp -dsimp only [go_sem]) (by simp -dsimp only [go_sem, hl, not_false_eq_true]) ?_
      simp -dsimp only [go_sem, hl, hW, n0, n1, n2, n3, n4, List.length_map]
      refine call_one (hG2 l _ (by simp -dsimp only [go_sem, hl]) (by simp -dsimp only [go_sem, ho, hl, rdCE])) (by simp -dsimp only [go_sem]) (by simp -dsimp only [go_sem, hl, not_false_eq_true]) ?_
      simp -dsimp only [go_sem, hl, hW, n0, n1, n2, n3, n4, List.length_map]
      refine call_one (hD l _ (by simp -dsimp only [go_sem, hl]) (by simp -dsimp only [go_sem, ho, hl, rdCE])) (by simp -dsimp only [go_sem]) (by simp -dsimp only [go_sem, hl, not_false_eq_true]) ?_
      simp -dsimp only [go_sem, hl, hW, n0, n1, n2, n3, n4, List.length_map, hz]
      refine call_one (hG3 l _ (by simp -dsimp only [go_sem, hl]) (by simp -dsimp only [go_sem, ho, hl, rdCE])) (by simp -dsimp only [go_sem]) (by simp -dsimp only [go_sem, hl, not_false_eq_true]) ?_
      simp -dsimp only [go_sem, hl, hW, n0, n1, n2, n3, n4, List.length_map, h3']
      constructor
      all_goals
        refine call_one (hG5 l _ (by simp -dsimp only [go_sem, hl]) (by simp -dsimp only [go_sem, ho, hl, rdCE])) (by simp -dsimp only [go_sem]) (by simp -dsimp only [go_sem, hl, not_false_eq_true]) ?_
        simp -dsimp only [go_sem, hl, hW, n0, n1, n2, n3, n4, List.length_map, hk, hy, Inst.row]
        refine call_one (hF l _ (by simp -dsimp only [go_sem, hl]) (by simp -dsimp only [go_sem, ho, hl, rdCE])) (by simp -dsimp only [go_sem]) (by simp -dsimp only [go_sem, hl, not_false_eq_true]) ?_
        simp -dsimp only [go_sem, hl, hW, n0, n1, n2, n3, n4, List.length_map, Inst.row]
        refine fin_one (by simp -dsimp only [go_sem]) ?_ ?_
        · simp -dsimp only [go_sem, hl, hW, Wld.row, Need.row]
        · simp -dsimp only [go_sem, hl, rdCE]
    · have h3' : (((v3 : Nat) : Int) = 0) = False := eq_false (by omega)
      obtain ⟨v4, hv4, hG4⟩ := s_rpick b ((q3 + 1)) 20 hb (by omega)
      rw [show ((20 : Nat) : Int) = 20 from rfl] at hG4
      by_cases h4 : v4 = 0
      · have h4' : (((v4 : Nat) : Int) = 0) = True := eq_true (by omega)
        obtain ⟨t2, q6, l6, g6, e6, hA⟩ := s_l1Any b ((q3 + 1) + 1) hb (by omega)
        refine ⟨⟨cs, is⟩, ⟨x, t2⟩, q6, w1, w2, w3, smNd_iff.2 ⟨lx, l6⟩, by omega, by omega, fun l h hl ho => ?_⟩
        have n0 : ¬ l = h.n := by omega
        have n1 : ¬ l = h.n + 1 := by omega
        have n2 : ¬ l = h.n + 2 := by omega
        have n3 : ¬ l = h.n + 3 := by omega
        have n4 : ¬ l = h.n + 4 := by omega
        refine good [4, 5] [(4, OT.o 0 (OT.o 1 (OT.o 2 (OT.o 3 (OT.o 4 (OT.o 5 ((OT.o 6 (OT.o 7 (OT.o 8 (OT.o 9 (OT.o 10 OT.e))))).f (OT.o 9 (OT.o 6 (OT.o 7 (OT.o 8 (OT.o 10 OT.e))))))))))))] Tryz.func120 rfl rfl Tryz.ntmps120 (by kernel_rfl) mixed (by kernel_rfl) ?_
        simp -dsimp only [go_sem, hl, hW, n0, n1, n2, n3, n4, List.length_map]
        refine call_one (hS l _ (by simp -dsimp only [go_sem, hl]) (by simp -dsimp only [go_sem, ho, hl, rdCE])) (by simp -dsimp only [go_sem]) (by simp -dsimp only [go_sem, hl, not_false_eq_true]) ?_
        simp -dsimp only [go_sem, hl, hW, n0, n1, n2, n3, n4, List.length_map]
        refine call_one (hL l _ (by simp -dsimp only [go_sem, hl]) (by simp -dsimp only [go_sem, ho, hl, rdCE])) (by simp -dsimp only [go_sem]) (by simp -dsimp only [go_sem, hl, not_false_eq_true]) ?_
        simp -dsimp only [go_sem, hl, hW, n0, n1, n2, n3, n4, List.length_map]
        refine call_one (hG1 l _ (by simp -dsimp only [go_sem, hl]) (by simp -dsimp only [go_sem, ho, hl, rdCE])) (by simp -dsimp only [go_sem]) (by simp -dsimp only [go_sem, hl, not_false_eq_true]) ?_
        simp -dsimp only [go_sem, hl, hW, n0, n1, n2, n3, n4, List.length_map]
        refine call_one (hG2 l _ (by simp -dsimp only [go_sem, hl]) (by simp -dsimp only [go_sem, ho, hl, rdCE])) (by simp -dsimp only [go_sem]) (by simp -dsimp only [go_sem, hl, not_false_eq_true]) ?_
        simp -dsimp only [go_sem, hl, hW, n0, n1, n2, n3, n4, List.length_map]
        refine call_one (hD l _ (by simp -dsimp only [go_sem, hl]) (by simp -dsimp only [go_sem, ho, hl, rdCE])) (by simp -dsimp only [go_sem]) (by simp -dsimp only [go_sem, hl, not_false_eq_true]) ?_
        simp -dsimp only [go_sem, hl, hW, n0, n1, n2, n3, n4, List.length_map, hz]
        refine call_one (hG3 l _ (by simp -dsimp only [go_sem, hl]) (by simp -dsimp only [go_sem, ho, hl, rdCE])) (by simp -dsimp only [go_sem]) (by simp -dsimp only [go_sem, hl, not_false_eq_true]) ?_
        simp -dsimp only [go_sem, hl, hW, n0, n1, n2, n3, n4, List.length_map, h3']
        refine call_one (hG4 l _ (by simp -dsimp only [go_sem, hl]) (by simp -dsimp only [go_sem, ho, hl, rdCE])) (by simp -dsimp only [go_sem]) (by simp -dsimp only [go_sem, hl, not_false_eq_true]) ?_
        simp -dsimp only [go_sem, hl, hW, n0, n1, n2, n3, n4, List.length_map, h4']
        refine call_one (hA l _ (by simp -dsimp only [go_sem, hl]) (by simp -dsimp only [go_sem, ho, hl, rdCE])) (by simp -dsimp only [go_sem]) (by simp -dsimp only [go_sem, hl, not_false_eq_true]) ?_
        simp -dsimp only [go_sem, hl, hW, n0, n1, n2, n3, n4, List.length_map]
        refine fin_one (by simp -dsimp only [go_sem]) ?_ ?_
        · simp -dsimp only [go_sem, hl, hW, Wld.row, Need.row]
        · simp -dsimp only [go_sem, hl, rdCE]
      · have h4' : (((v4 : Nat) : Int) = 0) = False := eq_false (by omega)
        refine ⟨⟨cs, is⟩, ⟨x, t.text⟩, (q3 + 1) + 1, w1, w2, w3, smNd_iff.2 ⟨lx, by show t.text.length ≤ 60; omega⟩, by omega, by omega, fun l h hl ho => ?_⟩
        have n0 : ¬ l = h.n := by omega
        have n1 : ¬ l = h.n + 1 := by omega
        have n2 : ¬ l = h.n + 2 := by omega
        have n3 : ¬ l = h.n + 3 := by omega
        have n4 : ¬ l = h.n + 4 := by omega
        refine good [4, 5] [(4, OT.o 0 (OT.o 1 (OT.o 2 (OT.o 3 (OT.o 4 (OT.o 5 ((OT.o 6 (OT.o 7 (OT.o 8 (OT.o 9 (OT.o 10 OT.e))))).f (OT.o 9 (OT.o 6 (OT.o 7 (OT.o 8 (OT.o 10 OT.e))))))))))))] Tryz.func120 rfl rfl Tryz.ntmps120 (by kernel_rfl) mixed (by kernel_rfl) ?_
        simp -dsimp only [go_sem, hl, hW, n0, n1, n2, n3, n4, List.length_map]
        refine call_one (hS l _ (by simp -dsimp only [go_sem, hl]) (by simp -dsimp only [go_sem, ho, hl, rdCE])) (by simp -dsimp only [go_sem]) (by simp -dsimp only [go_sem, hl, not_false_eq_true]) ?_
        simp -dsimp only [go_sem, hl, hW, n0, n1, n2, n3, n4, List.length_map]
        refine call_one (hL l _ (by simp -dsimp only [go_sem, hl]) (by simp -dsimp only [go_sem, ho, hl, rdCE])) (by simp -dsimp only [go_sem]) (by simp -dsimp only [go_sem, hl, not_false_eq_true]) ?_
        simp -dsimp only [go_sem, hl, hW, n0, n1, n2, n3, n4, List.length_map]
        refine call_one (hG1 l _ (by simp -dsimp only [go_sem, hl]) (by simp -dsimp only [go_sem, ho, hl, rdCE])) (by simp -dsimp only [go_sem]) (by simp -dsimp only [go_sem, hl, not_false_eq_true]) ?_
        simp -dsimp only [go_sem, hl, hW, n0, n1, n2, n3, n4, List.length_map]
        refine call_one (hG2 l _ (by simp -dsimp only [go_sem, hl]) (by simp -dsimp only [go_sem, ho, hl, rdCE])) (by simp -dsimp only [go_sem]) (by simp -dsimp only [go_sem, hl, not_false_eq_true]) ?_
        simp -dsimp only [go_sem, hl, hW, n0, n1, n2, n3, n4, List.length_map]
        refine call_one (hD l _ (by simp -dsimp only [go_sem, hl]) (by simp -dsimp only [go_sem, ho, hl, rdCE])) (by simp -dsimp only [go_sem]) (by simp -dsimp only [go_sem, hl, not_false_eq_true]) ?_
        simp -dsimp only [go_sem, hl, hW, n0, n1, n2, n3, n4, List.length_map, hz]
        refine call_one (hG3 l _ (by simp -dsimp only [go_sem, hl]) (by simp -dsimp only [go_sem, ho, hl, rdCE])) (by simp -dsimp only [go_sem]) (by simp -dsimp only [go_sem, hl, not_false_eq_true]) ?_
        simp -dsimp only [go_sem, hl, hW, n0, n1, n2, n3, n4, List.length_map, h3']
        refine call_one (hG4 l _ (by simp -dsimp only [go_sem, hl]) (by simp -dsimp only [go_sem, ho, hl, rdCE])) (by simp -dsimp only [go_sem]) (by simp -dsimp only [go_sem, hl, not_false_eq_true]) ?_
        simp -dsimp only [go_sem, hl, hW, n0, n1, n2, n3, n4, List.length_map, h4']
        refine fin_one (by simp -dsimp only [go_sem]) ?_ ?_
        · simp -dsimp only [go_sem, hl, hW, Wld.row, Need.row]
        · simp -dsimp only [go_sem, hl, rdCE]
end Go.Proofs.YtnocdggngfiebaaGreatDoor
