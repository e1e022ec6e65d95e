/- Contracts of functions of this program, for all arguments that satisfy what each lemma asks for. -/
import Derived.Test.YtnocdggngfiebaaGreatDoorMG
set_option linter.all false
namespace Go.Isea
open Go
set_option maxRecDepth 100000
@[go_sem] theorem fz_ref2 {h : AH} {M U n V m o : Nat} (hU : U < M) (hV : V < M) : Fz h M (.ref [.so U n n, .so V m m] o) (.ref [.so U n n, .so V m m] o) = True := by
  refine eq_true (.ref rfl fun i x y h1 h2 => ?_)
  rw [h1] at h2
  cases h2
  rcases i with _ | _ | i
  · cases h1; exact .so hU
  · cases h1; exact .so hV
  · cases h1
/-- a sequence of choices -/
theorem dep_seq {σ : Type} {Inv : Nat → σ → Prop} {R : Nat → σ → σ → Prop} (h : ∀ k s, Inv k s → ∃ s', Inv (k + 1) s' ∧ R k s s') {s0 : σ} (h0 : Inv 0 s0) : ∃ f : Nat → σ, f 0 = s0 ∧ ∀ k, Inv k (f k) ∧ R k (f k) (f (k + 1)) := by
  let g : (k : Nat) → {s // Inv k s} := fun k => Nat.rec ⟨s0, h0⟩ (fun k s => ⟨Classical.choose (h k s.1 s.2), (Classical.choose_spec (h k s.1 s.2)).1⟩) k
  exact ⟨fun k => (g k).1, rfl, fun k => ⟨(g k).2, (Classical.choose_spec (h k (g k).1 (g k).2)).2⟩⟩
end Go.Isea
namespace Go.Proofs.YtnocdggngfiebaaGreatDoor
open Go Go.Isea
set_option maxRecDepth 100000
set_option maxHeartbeats 16000000
/-- what a round of an instance does -/
def RoundI (b : L8) (cs : List Cls) (vars : L8) (cnt k : Nat) (s s' : Nat × List Need) : Prop := k < cnt →
  (¬ vars = [] ∧ ∃ n, smNd n = true ∧ s'.2 = s.2 ++ [n] ∧ ∀ (l U V m : Nat) (h : AH), OwnC cs l U V m h → h.o l = .cells (rdCE b s.1) → Isea.Good Tryz.prog 300 [.ptr l 0, .agg [.so U cs.length cs.length, .so V m m], str vars] h [l] (.agg n.row) (h.set l (.cells (rdCE b s'.1)))) ∨
  (vars = [] ∧ ∃ v : Nat, (∀ (l : Nat) (h : AH), l < h.n → h.o l = .cells (rdCE b s.1) → Isea.Good Tryz.prog 110 [.ptr l 0, .v (.int .i64 4)] h [l] (.v (.int .i64 (v : Nat))) (h.set l (.cells (rdCE b (s.1 + 1))))) ∧
    ((v = 0 ∧ ∃ n, smNd n = true ∧ s'.2 = s.2 ++ [n] ∧ ∀ (l U V m : Nat) (h : AH), OwnC cs l U V m h → h.o l = .cells (rdCE b (s.1 + 1)) → Isea.Good Tryz.prog 300 [.ptr l 0, .agg [.so U cs.length cs.length, .so V m m], str vars] h [l] (.agg n.row) (h.set l (.cells (rdCE b s'.1)))) ∨
      (¬ v = 0 ∧ s' = (s.1 + 1, s.2))))
theorem rounds (b : L8) (cs : List Cls) (vars : L8) (cnt q0 : Nat) (hb : b.length ≤ 2000) (hq : q0 + 30 * cnt + 30 ≤ 1000000000) (hc0 : 0 < cs.length) (hcs : ∀ c ∈ cs, smCl c = true) (hc5 : cs.length ≤ 10) (hvl : vars.length ≤ 60) :
    ∃ f : Nat → Nat × List Need, f 0 = (q0, []) ∧ ∀ k, (k ≤ cnt → (f k).2.length ≤ k ∧ q0 ≤ (f k).1 ∧ (f k).1 ≤ q0 + 30 * k ∧ ∀ n ∈ (f k).2, smNd n = true) ∧ RoundI b cs vars cnt k (f k) (f (k + 1)) := by
  refine dep_seq (s0 := (q0, [])) (Inv := fun k s => k ≤ cnt → s.2.length ≤ k ∧ q0 ≤ s.1 ∧ s.1 ≤ q0 + 30 * k ∧ ∀ n ∈ s.2, smNd n = true) (R := RoundI b cs vars cnt) (fun k s hs => ?_) (fun _ => ⟨Nat.le_refl _, Nat.le_refl _, by simp, fun n hn => by cases hn⟩)
  by_cases hk : k < cnt
  · obtain ⟨i1, i2, i3, i4⟩ := hs (by omega)
    by_cases hv : vars = []
    · obtain ⟨v, _, hG⟩ := s_rpick b s.1 4 hb (by omega)
      rw [show ((4 : Nat) : Int) = 4 from rfl] at hG
      by_cases hv0 : v = 0
      · obtain ⟨n, q, n1, n2, n3, n4⟩ := s_l3DrawNeed b (s.1 + 1) cs vars hb (by omega) hc0 hcs hc5 hvl
        refine ⟨(q, s.2 ++ [n]), fun _ => ⟨by simp; omega, by show q0 ≤ q; omega, by show q ≤ _; omega, fun x hx => ?_⟩, fun _ => .inr ⟨hv, v, hG, .inl ⟨hv0, n, n1, rfl, n4⟩⟩⟩
        rcases List.mem_append.1 hx with hx | hx
        · exact i4 x hx
        · rw [List.mem_singleton.1 hx]; exact n1
      · exact ⟨(s.1 + 1, s.2), fun _ => ⟨by show s.2.length ≤ _; omega, by show q0 ≤ s.1 + 1; omega, by show s.1 + 1 ≤ _; omega, i4⟩, fun _ => .inr ⟨hv, v, hG, .inr ⟨hv0, rfl⟩⟩⟩
    · obtain ⟨n, q, n1, n2, n3, n4⟩ := s_l3DrawNeed b s.1 cs vars hb (by omega) hc0 hcs hc5 hvl
      refine ⟨(q, s.2 ++ [n]), fun _ => ⟨by simp; omega, by show q0 ≤ q; omega, by show q ≤ _; omega, fun x hx => ?_⟩, fun _ => .inl ⟨hv, n, n1, rfl, n4⟩⟩
      rcases List.mem_append.1 hx with hx | hx
      · exact i4 x hx
      · rw [List.mem_singleton.1 hx]; exact n1
  · exact ⟨s, fun h => absurd h (by omega), fun h => absurd h hk⟩
theorem s_l3DrawInstance (b : L8) (p : Nat) (cs : List Cls) (hb : b.length ≤ 2000) (hp : p + 200 ≤ 1000000000) (hc0 : 0 < cs.length) (hcs : ∀ c ∈ cs, smCl c = true) (hc5 : cs.length ≤ 10) :
    ∃ (x : Inst) (q : Nat), smIn x = true ∧ p ≤ q ∧ q ≤ p + 100 ∧ ∀ (l U V m : Nat) (h : AH), OwnC cs l U V m h → h.o l = .cells (rdCE b p) →
      Isea.Good Tryz.prog 255 [.ptr l 0, .agg [.so U cs.length cs.length, .so V m m]] h [l] (.agg x.row) (h.set l (.cells (rdCE b q))) := by
  obtain ⟨head, hh, hG1⟩ := s_of b p [[105], [98], [108, 40, 120, 41], [112, 40, 120, 44, 121, 41], [109, 40, 120, 41], [108, 40, 105, 41], [112, 40, 120, 44, 120, 41], [112, 40, 105, 44, 120, 41], [108, 40, 108, 40, 120, 41, 41], [117], [108, 40, 120, 41]] hb (by omega) (by decide)
  simp only [List.map_cons, List.map_nil, sRow] at hG1
  have hhl : head.length ≤ 7 := by
    have : ∀ x ∈ ([[105], [98], [108, 40, 120, 41], [112, 40, 120, 44, 121, 41], [109, 40, 120, 41], [108, 40, 105, 41], [112, 40, 120, 44, 120, 41], [112, 40, 105, 44, 120, 41], [108, 40, 108, 40, 120, 41, 41], [117], [108, 40, 120, 41]] : List L8), x.length ≤ 7 := by decide
    exact this head hh
  obtain ⟨v1, hv1, hG2⟩ := s_rpick b (p + 1) cs.length hb (by omega)
  have hv1 := hv1 hc0
  obtain ⟨c, hc⟩ := get_some hv1
  have hsc := smCl_iff.1 (hcs c (List.mem_of_getElem? hc))
  obtain ⟨ni, hni, hNum0⟩ := s_num b (p + 1 + 1) [1, 0, 1, 2] hb (by omega) (by decide)
  obtain ⟨cnt, hcnt, hc2⟩ : ∃ cnt : Nat, ni = (cnt : Int) ∧ cnt ≤ 2 := by
    simp at hni
    rcases hni with rfl | rfl | rfl | rfl
    · exact ⟨1, rfl, by decide⟩
    · exact ⟨0, rfl, by decide⟩
    · exact ⟨1, rfl, by decide⟩
    · exact ⟨2, rfl, by decide⟩
  subst hcnt
  simp only [List.map_cons, List.map_nil] at hNum0
  obtain ⟨vars, hvs, hvl⟩ : ∃ vars, (if tv head = true then varsIn head else []) = vars ∧ vars.length ≤ 60 := ⟨_, rfl, by
    split
    · exact Nat.le_trans (List.length_filter_le _ _) (by decide)
    · simp⟩
  obtain ⟨f, hf0, hf⟩ := rounds b cs vars cnt (p + 1 + 1 + 1) hb (by omega) hc0 hcs hc5 hvl
  obtain ⟨j1, j2, j3, j4⟩ := (hf cnt).1 (Nat.le_refl _)
  refine ⟨⟨c.n, head, (f cnt).2⟩, (f cnt).1, smIn_iff.2 ⟨hsc.1, by show head.length ≤ 60; omega, by show (f cnt).2.length ≤ 10; omega, j4⟩, by omega, by omega, fun l U V m h hw ho => ?_⟩
  have hl := hw.ll
  have hU := hw.lu
  have hUl := hw.nu
  have hV := hw.lv
  have hVl := hw.nv
  have hcc := hw.cc
  have hii := hw.ii
  have u0 : ¬ U = h.n := by omega
  have u1 : ¬ U = h.n + 1 := by omega
  have u2 : ¬ U = h.n + 2 := by omega
  have v0 : ¬ V = h.n := by omega
  have v1' : ¬ V = h.n + 1 := by omega
  have v2 : ¬ V = h.n + 2 := by omega
  have hNum := hNum0 l
  have hAl2 : (∀ r, r ∈ cs.map Cls.row → r.length = 2) = True := eq_true fun r hr => by obtain ⟨j, _, rfl⟩ := List.mem_map.1 hr; rfl
  refine good [] [(2, OT.o 0 (OT.o 1 (OT.o 2 (OT.o 3 (OT.o 4 (OT.o 5 (OT.o 10 (((OT.o 6 (OT.o 7 (OT.o 8 (OT.o 9 (OT.o 11 ((OT.o 12 (OT.o 13 (OT.o 14 (OT.o 15 OT.e)))).f (OT.o 14 (OT.o 12 (OT.o 13 (OT.o 15 OT.e)))))))))).f (OT.o 12 ((OT.o 6 (OT.o 7 (OT.o 8 (OT.o 9 (OT.o 11 (OT.o 13 (OT.o 14 (OT.o 15 OT.e)))))))).f (OT.o 14 (OT.o 6 (OT.o 7 (OT.o 8 (OT.o 9 (OT.o 11 (OT.o 13 (OT.o 15 OT.e))))))))))).f (OT.o 14 ((OT.o 6 (OT.o 7 (OT.o 8 (OT.o 9 (OT.o 11 (OT.o 12 (OT.o 13 (OT.o 15 OT.e)))))))).f (OT.o 12 (OT.o 6 (OT.o 7 (OT.o 8 (OT.o 9 (OT.o 11 (OT.o 13 (OT.o 15 OT.e))))))))))))))))))] Tryz.func255 rfl rfl Tryz.ntmps255 (by kernel_rfl) mixed (by kernel_rfl) ?_
  simp -dsimp only [go_sem, hl, hU, hV, hUl, hVl, hcc, hii, u0, u1, u2, v0, v1', v2, List.length_map]
  refine call_one (hG1 l _ (by simp -dsimp only [go_sem, hl]) (by simp -dsimp only [go_sem, ho, hl])) (by simp -dsimp only [go_sem]) (by simp -dsimp only [go_sem, hl, not_false_eq_true]) ?_
  simp -dsimp only [go_sem, hl, hU, hV, hUl, hVl, hcc, hii, u0, u1, u2, v0, v1', v2, List.length_map]
  refine ⟨⟨?a, ?b1, ?b2⟩, ?c1, ?c2⟩
  all_goals
    refine call_one (hG2 l _ (by simp -dsimp only [go_sem, hl]) (by simp -dsimp only [go_sem, ho, hl, rdCE])) (by simp -dsimp only [go_sem]) (by simp -dsimp only [go_sem, hl, not_false_eq_true]) ?_
    simp -dsimp only [go_sem, hl, hU, hV, hUl, hVl, hcc, hii, u0, u1, u2, v0, v1', v2, hv1, hc, hAl2, Cls.row, List.length_map]
  case' a => refine ⟨?f, ?g⟩
  case f | b1 | b2 =>
    refine call_one (hNum _ (by simp -dsimp only [go_sem, hl]) (by simp -dsimp only [go_sem, hl, rdCE])) (by simp -dsimp only [go_sem]) (by simp -dsimp only [go_sem]) ?_
    simp -dsimp only [go_sem, hl, rdCE]
    refine loop_ruleH [0, 2, 0, 0, 0, 19] (fun (k : {k : Nat // k ≤ cnt}) H => ([(27, .v (.int .i64 (k.1 : Nat)))], ⟨h.n + 3, upd (upd (upd H.o l (.cells (rdCE b (f k.1).1))) (h.n + 1) (.rows 28 2 ((f k.1).2.map Need.row))) (h.n + 2) (.cells [str c.n, str head, .so (h.n + 1) (f k.1).2.length (f k.1).2.length])⟩)) (fun k => cnt - k.1) ⟨0, Nat.zero_le _⟩ ?_ ?_
    · refine weak_objs [l, h.n, h.n + 1, h.n + 2] (by simp -dsimp only [go_sem]) (by simp -dsimp only [go_sem]) (by simp -dsimp only [go_sem, hl, hU, hV]) ?_ ?_ ?_
      · intro t h1 h2
        have a1 : ¬ t = h.n := by omega
        have a2 : ¬ t = h.n + 1 := by omega
        have a3 : ¬ t = h.n + 2 := by omega
        have a4 : ¬ t = l := by simpa using h2
        simp -dsimp only [go_sem, a1, a2, a3, a4]
      · intro x h1 h2; have h1 : x < h.n + 3 := h1; simp at h2 ⊢; omega
      · simp -dsimp only [go_sem, hl, rdCE, hf0, List.map_nil, List.length_nil]
    · rintro ⟨k, hk⟩
      obtain ⟨hI, hR⟩ := hf k
      have h1 : k + 1 ≤ 9223372036854775807 := by omega
      by_cases hkl : k < cnt
      · have hkc : ((k : Nat) : Int) < ((cnt : Nat) : Int) := by omega
        have hR := hR hkl
        obtain ⟨hdl, hq⟩ := hI hk
        have hdk : (f k).2.length ≤ k := hdl
        have e6 : ((f k).2.length + 1) * 32 ≤ 140737488355328 := by omega
        simp -dsimp only [go_sem, hkc]
        refine call_pure (s_VarsOf head _ (by omega)) ?_
        rw [hvs]
        rcases hR with ⟨hvn, n, hn, hD, hGn⟩ | ⟨hve, v, hGv, hR⟩
        · simp -dsimp only [go_sem, hvn, hl, hU, hV, hUl, hVl, u0, u1, u2, v0, v1', v2, hcc, hii]
          refine call_pure (s_VarsOf head _ (by omega)) ?_
          rw [hvs]
          simp -dsimp only [go_sem, hl, hU, hV, hUl, hVl, u0, u1, u2, v0, v1', v2, hcc, hii]
          refine call_one (hGn l U V m _ ⟨by simp -dsimp only [go_sem, hl], by simp -dsimp only [go_sem, hU], by simp -dsimp only [go_sem, hV], hUl, hVl, by simp -dsimp only [go_sem, hl, hU, hV, hUl, hVl, u0, u1, u2, hcc], by simp -dsimp only [go_sem, hl, hU, hV, hUl, hVl, v0, v1', v2, hii]⟩ (by simp -dsimp only [go_sem, hl, rdCE])) (by simp -dsimp only [go_sem]) (by simp -dsimp only [go_sem, hl, not_false_eq_true]) ?_
          simp -dsimp only [go_sem, hl, rdCE, hdk, e6, h1, Need.row, List.length_map]
          refine ⟨out_prS (by kernel_rfl), ?_⟩
          refine round_to ⟨k + 1, hkl⟩ (by show cnt - (k + 1) < cnt - k; omega) ?_
          refine weak_objs [l, h.n, h.n + 1, h.n + 2] (by simp -dsimp only [go_sem]) (by simp -dsimp only [go_sem]) (by simp -dsimp only [go_sem, hl, hU, hV]) ?_ ?_ ?_
          · intro t h1 h2
            have a1 : ¬ t = h.n := by omega
            have a2 : ¬ t = h.n + 1 := by omega
            have a3 : ¬ t = h.n + 2 := by omega
            have a4 : ¬ t = l := by simpa using h2
            simp -dsimp only [go_sem, a1, a2, a3, a4]
          · intro x h1 h2; have h1 : x < h.n + 3 := h1; simp at h2 ⊢; omega
          · simp -dsimp only [go_sem, hl, rdCE, hD, List.map_append, List.map_cons, List.map_nil, List.length_append, List.length_cons, List.length_nil, Need.row]
        · subst hve
          simp -dsimp only [go_sem, hl, hU, hV, hUl, hVl, u0, u1, u2, v0, v1', v2, hcc, hii]
          refine call_one (hGv l _ (by simp -dsimp only [go_sem, hl]) (by simp -dsimp only [go_sem, hl, rdCE])) (by simp -dsimp only [go_sem]) (by simp -dsimp only [go_sem, hl, not_false_eq_true]) ?_
          rcases hR with ⟨hv0, n, hn, hD, hGn⟩ | ⟨hv0, hD⟩
          · have hv0' : ((v : Nat) : Int) = 0 := by omega
            simp -dsimp only [go_sem, hv0', hl, hU, hV, hUl, hVl, u0, u1, u2, v0, v1', v2, hcc, hii]
            refine call_pure (s_VarsOf head _ (by omega)) ?_
            rw [hvs]
            simp -dsimp only [go_sem, hl, hU, hV, hUl, hVl, u0, u1, u2, v0, v1', v2, hcc, hii]
            refine call_one (hGn l U V m _ ⟨by simp -dsimp only [go_sem, hl], by simp -dsimp only [go_sem, hU], by simp -dsimp only [go_sem, hV], hUl, hVl, by simp -dsimp only [go_sem, hl, hU, hV, hUl, hVl, u0, u1, u2, hcc], by simp -dsimp only [go_sem, hl, hU, hV, hUl, hVl, v0, v1', v2, hii]⟩ (by simp -dsimp only [go_sem, hl, rdCE])) (by simp -dsimp only [go_sem]) (by simp -dsimp only [go_sem, hl, not_false_eq_true]) ?_
            simp -dsimp only [go_sem, hl, rdCE, hdk, e6, h1, Need.row, List.length_map]
            refine ⟨out_prS (by kernel_rfl), ?_⟩
            refine round_to ⟨k + 1, hkl⟩ (by show cnt - (k + 1) < cnt - k; omega) ?_
            refine weak_objs [l, h.n, h.n + 1, h.n + 2] (by simp -dsimp only [go_sem]) (by simp -dsimp only [go_sem]) (by simp -dsimp only [go_sem, hl, hU, hV]) ?_ ?_ ?_
            · intro t h1 h2
              have a1 : ¬ t = h.n := by omega
              have a2 : ¬ t = h.n + 1 := by omega
              have a3 : ¬ t = h.n + 2 := by omega
              have a4 : ¬ t = l := by simpa using h2
              simp -dsimp only [go_sem, a1, a2, a3, a4]
            · intro x h1 h2; have h1 : x < h.n + 3 := h1; simp at h2 ⊢; omega
            · simp -dsimp only [go_sem, hl, rdCE, hD, List.map_append, List.map_cons, List.map_nil, List.length_append, List.length_cons, List.length_nil, Need.row]
          · have hv0' : ¬ ((v : Nat) : Int) = 0 := by omega
            simp -dsimp only [go_sem, hv0', hl, h1]
            refine round_to ⟨k + 1, hkl⟩ (by show cnt - (k + 1) < cnt - k; omega) ?_
            refine weak_objs [l, h.n, h.n + 1, h.n + 2] (by simp -dsimp only [go_sem]) (by simp -dsimp only [go_sem]) (by simp -dsimp only [go_sem, hl, hU, hV]) ?_ ?_ ?_
            · intro t h1 h2
              have a1 : ¬ t = h.n := by omega
              have a2 : ¬ t = h.n + 1 := by omega
              have a3 : ¬ t = h.n + 2 := by omega
              have a4 : ¬ t = l := by simpa using h2
              simp -dsimp only [go_sem, a1, a2, a3, a4]
            · intro x h1 h2; have h1 : x < h.n + 3 := h1; simp at h2 ⊢; omega
            · simp -dsimp only [go_sem, hl, rdCE, hD]
      · have hkc : ¬ ((k : Nat) : Int) < ((cnt : Nat) : Int) := by omega
        have hke : k = cnt := by omega
        subst hke
        simp -dsimp only [go_sem, hkc, hl]
        refine fin_one (by simp -dsimp only [go_sem]) ?_ ?_
        · simp -dsimp only [go_sem, hl, Inst.row, List.length_map]
        · simp -dsimp only [go_sem, hl, rdCE]
  case g | c1 | c2 =>
    refine call_one (hNum _ (by simp -dsimp only [go_sem, hl]) (by simp -dsimp only [go_sem, hl, rdCE])) (by simp -dsimp only [go_sem]) (by simp -dsimp only [go_sem]) ?_
    simp -dsimp only [go_sem, hl, rdCE]
    refine loop_ruleH [0, 2, 0, 0, 0, 19] (fun (k : {k : Nat // k ≤ cnt}) H => ([(27, .v (.int .i64 (k.1 : Nat)))], ⟨h.n + 3, upd (upd (upd H.o l (.cells (rdCE b (f k.1).1))) (h.n + 2) (.rows 28 2 ((f k.1).2.map Need.row))) (h.n + 1) (.cells [str c.n, str head, .so (h.n + 2) (f k.1).2.length (f k.1).2.length])⟩)) (fun k => cnt - k.1) ⟨0, Nat.zero_le _⟩ ?_ ?_
    · refine weak_objs [l, h.n, h.n + 1, h.n + 2] (by simp -dsimp only [go_sem]) (by simp -dsimp only [go_sem]) (by simp -dsimp only [go_sem, hl, hU, hV]) ?_ ?_ ?_
      · intro t h1 h2
        have a1 : ¬ t = h.n := by omega
        have a2 : ¬ t = h.n + 1 := by omega
        have a3 : ¬ t = h.n + 2 := by omega
        have a4 : ¬ t = l := by simpa using h2
        simp -dsimp only [go_sem, a1, a2, a3, a4]
      · intro x h1 h2; have h1 : x < h.n + 3 := h1; simp at h2 ⊢; omega
      · simp -dsimp only [go_sem, hl, rdCE, hf0, List.map_nil, List.length_nil]
    · rintro ⟨k, hk⟩
      obtain ⟨hI, hR⟩ := hf k
      have h1 : k + 1 ≤ 9223372036854775807 := by omega
      by_cases hkl : k < cnt
      · have hkc : ((k : Nat) : Int) < ((cnt : Nat) : Int) := by omega
        have hR := hR hkl
        obtain ⟨hdl, hq⟩ := hI hk
        have hdk : (f k).2.length ≤ k := hdl
        have e6 : ((f k).2.length + 1) * 32 ≤ 140737488355328 := by omega
        simp -dsimp only [go_sem, hkc]
        refine call_pure (s_VarsOf head _ (by omega)) ?_
        rw [hvs]
        rcases hR with ⟨hvn, n, hn, hD, hGn⟩ | ⟨hve, v, hGv, hR⟩
        · simp -dsimp only [go_sem, hvn, hl, hU, hV, hUl, hVl, u0, u1, u2, v0, v1', v2, hcc, hii]
          refine call_pure (s_VarsOf head _ (by omega)) ?_
          rw [hvs]
          simp -dsimp only [go_sem, hl, hU, hV, hUl, hVl, u0, u1, u2, v0, v1', v2, hcc, hii]
          refine call_one (hGn l U V m _ ⟨by simp -dsimp only [go_sem, hl], by simp -dsimp only [go_sem, hU], by simp -dsimp only [go_sem, hV], hUl, hVl, by simp -dsimp only [go_sem, hl, hU, hV, hUl, hVl, u0, u1, u2, hcc], by simp -dsimp only [go_sem, hl, hU, hV, hUl, hVl, v0, v1', v2, hii]⟩ (by simp -dsimp only [go_sem, hl, rdCE])) (by simp -dsimp only [go_sem]) (by simp -dsimp only [go_sem, hl, not_false_eq_true]) ?_
          simp -dsimp only [go_sem, hl, rdCE, hdk, e6, h1, Need.row, List.length_map]
          refine ⟨out_prS (by kernel_rfl), ?_⟩
          refine round_to ⟨k + 1, hkl⟩ (by show cnt - (k + 1) < cnt - k; omega) ?_
          refine weak_objs [l, h.n, h.n + 1, h.n + 2] (by simp -dsimp only [go_sem]) (by simp -dsimp only [go_sem]) (by simp -dsimp only [go_sem, hl, hU, hV]) ?_ ?_ ?_
          · intro t h1 h2
            have a1 : ¬ t = h.n := by omega
            have a2 : ¬ t = h.n + 1 := by omega
            have a3 : ¬ t = h.n + 2 := by omega
            have a4 : ¬ t = l := by simpa using h2
            simp -dsimp only [go_sem, a1, a2, a3, a4]
          · intro x h1 h2; have h1 : x < h.n + 3 := h1; simp at h2 ⊢; omega
          · simp -dsimp only [go_sem, hl, rdCE, hD, List.map_append, List.map_cons, List.map_nil, List.length_append, List.length_cons, List.length_nil, Need.row]
        · subst hve
          simp -dsimp only [go_sem, hl, hU, hV, hUl, hVl, u0, u1, u2, v0, v1', v2, hcc, hii]
          refine call_one (hGv l _ (by simp -dsimp only [go_sem, hl]) (by simp -dsimp only [go_sem, hl, rdCE])) (by simp -dsimp only [go_sem]) (by simp -dsimp only [go_sem, hl, not_false_eq_true]) ?_
          rcases hR with ⟨hv0, n, hn, hD, hGn⟩ | ⟨hv0, hD⟩
          · have hv0' : ((v : Nat) : Int) = 0 := by omega
            simp -dsimp only [go_sem, hv0', hl, hU, hV, hUl, hVl, u0, u1, u2, v0, v1', v2, hcc, hii]
            refine call_pure (s_VarsOf head _ (by omega)) ?_
            rw [hvs]
            simp -dsimp only [go_sem, hl, hU, hV, hUl, hVl, u0, u1, u2, v0, v1', v2, hcc, hii]
            refine call_one (hGn l U V m _ ⟨by simp -dsimp only [go_sem, hl], by simp -dsimp only [go_sem, hU], by simp -dsimp only [go_sem, hV], hUl, hVl, by simp -dsimp only [go_sem, hl, hU, hV, hUl, hVl, u0, u1, u2, hcc], by simp -dsimp only [go_sem, hl, hU, hV, hUl, hVl, v0, v1', v2, hii]⟩ (by simp -dsimp only [go_sem, hl, rdCE])) (by simp -dsimp only [go_sem]) (by simp -dsimp only [go_sem, hl, not_false_eq_true]) ?_
            simp -dsimp only [go_sem, hl, rdCE, hdk, e6, h1, Need.row, List.length_map]
            refine ⟨out_prS (by kernel_rfl), ?_⟩
            refine round_to ⟨k + 1, hkl⟩ (by show cnt - (k + 1) < cnt - k; omega) ?_
            refine weak_objs [l, h.n, h.n + 1, h.n + 2] (by simp -dsimp only [go_sem]) (by simp -dsimp only [go_sem]) (by simp -dsimp only [go_sem, hl, hU, hV]) ?_ ?_ ?_
            · intro t h1 h2
              have a1 : ¬ t = h.n := by omega
              have a2 : ¬ t = h.n + 1 := by omega
              have a3 : ¬ t = h.n + 2 := by omega
              have a4 : ¬ t = l := by simpa using h2
              simp -dsimp only [go_sem, a1, a2, a3, a4]
            · intro x h1 h2; have h1 : x < h.n + 3 := h1; simp at h2 ⊢; omega
            · simp -dsimp only [go_sem, hl, rdCE, hD, List.map_append, List.map_cons, List.map_nil, List.length_append, List.length_cons, List.length_nil, Need.row]
          · have hv0' : ¬ ((v : Nat) : Int) = 0 := by omega
            simp -dsimp only [go_sem, hv0', hl, h1]
            refine round_to ⟨k + 1, hkl⟩ (by show cnt - (k + 1) < cnt - k; omega) ?_
            refine weak_objs [l, h.n, h.n + 1, h.n + 2] (by simp -dsimp only [go_sem]) (by simp -dsimp only [go_sem]) (by simp -dsimp only [go_sem, hl, hU, hV]) ?_ ?_ ?_
            · intro t h1 h2
              have a1 : ¬ t = h.n := by omega
              have a2 : ¬ t = h.n + 1 := by omega
              have a3 : ¬ t = h.n + 2 := by omega
              have a4 : ¬ t = l := by simpa using h2
              simp -dsimp only [go_sem, a1, a2, a3, a4]
            · intro x h1 h2; have h1 : x < h.n + 3 := h1; simp at h2 ⊢; omega
            · simp -dsimp only [go_sem, hl, rdCE, hD]
      · have hkc : ¬ ((k : Nat) : Int) < ((cnt : Nat) : Int) := by omega
        have hke : k = cnt := by omega
        subst hke
        simp -dsimp only [go_sem, hkc, hl]
        refine fin_one (by simp -dsimp only [go_sem]) ?_ ?_
        · simp -dsimp only [go_sem, hl, Inst.row, List.length_map]
        · simp -dsimp only [go_sem, hl, rdCE]
end Go.Proofs.YtnocdggngfiebaaGreatDoor
