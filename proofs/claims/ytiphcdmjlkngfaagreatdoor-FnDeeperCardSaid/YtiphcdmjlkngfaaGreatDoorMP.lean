/- Contracts of functions of this program, for all arguments that satisfy what each lemma asks for. -/
import Derived.Test.YtiphcdmjlkngfaaGreatDoorMI
import Derived.Test.YtiphcdmjlkngfaaGreatDoorMj
import Derived.Test.YtiphcdmjlkngfaaGreatDoorMB
import Derived.Test.YtiphcdmjlkngfaaGreatDoorMC
set_option linter.all false
namespace Go.Proofs.YtiphcdmjlkngfaaGreatDoor
open Go Go.Isea
set_option maxRecDepth 100000
set_option maxHeartbeats 16000000
theorem s_SpecialDict (w : Wld) (n : Need) (h : AH) (hw : w.Sm) (hn : n.Sm) : Isea.Good Tryz.prog 160 [.agg w.row, .agg n.row] h [] (.tup [str (findD w true n).1, str (findD w true n).2]) h := by
  have hF := fun H => s_l5Found w n true H hw hn
  refine good [] [] Tryz.func160 rfl rfl Tryz.ntmps160 (by kernel_rfl) mixed (by kernel_rfl) ?_
  simp -dsimp only [go_sem, Wld.row, Need.row, fRec] at hF ⊢
  refine call_pure (hF _) ?_
  simp -dsimp only [go_sem]
  exact fin_pure (by simp -dsimp only [go_sem]) (by simp -dsimp only [go_sem, findD])
def DdOk (d : Nat) : Prop := ∀ (b : L8) (p : Nat), b.length ≤ 2000 → p + 4 * 2 ^ d ≤ 1000000000 → ∃ (s : L8) (q : Nat), 1 ≤ s.length ∧ s.length + 4 ≤ 5 * 2 ^ d ∧ p ≤ q ∧ q + 3 ≤ p + 4 * 2 ^ d ∧ ∀ (l : Nat) (h : AH), l < h.n → h.o l = .cells (rdCE b p) →
    Isea.Good Tryz.prog 216 [.ptr l 0, .v (.int .i64 (d : Nat))] h [l] (str s) (h.set l (.cells (rdCE b q)))
theorem s_l6Draw_0 : DdOk 0 := by
  intro b p hb hp
  obtain ⟨v1, hv1, hG1⟩ := s_rpick b p 6 hb (by omega)
  have hv1 := hv1 (by decide)
  rw [show ((6 : Nat) : Int) = 6 from rfl] at hG1
  have hdl : (digitL v1).length = 1 := rfl
  refine ⟨digitL v1, p + 1, by omega, by omega, by omega, by omega, fun l h hl ho => ?_⟩
  refine good [] [] Tryz.func216 rfl rfl Tryz.ntmps216 (by kernel_rfl) mixed (by kernel_rfl) ?_
  simp -dsimp only [go_sem]
  refine call_one (hG1 l _ (by simp -dsimp only [go_sem, hl]) (by simp -dsimp only [go_sem, ho])) (by simp -dsimp only [go_sem]) (by simp -dsimp only [go_sem]) ?_
  simp -dsimp only [go_sem]
  refine call_pure (s_l13Dec_digit v1 _ (by omega)) ?_
  simp -dsimp only [go_sem]
  refine fin_one (by simp -dsimp only [go_sem]) ?_ ?_ <;> simp -dsimp only [go_sem, rdCE]
theorem s_l6Draw_step {d : Nat} (ih : DdOk d) (hd : d ≤ 100) : DdOk (d + 1) := by
  intro b p hb hp
  have hpw : 2 ^ (d + 1) = 2 * 2 ^ d := by rw [Nat.pow_succ]; omega
  have hpp : 1 ≤ 2 ^ d := Nat.one_le_pow _ _ (by decide)
  have hd0 : (((d + 1 : Nat) : Int) = 0) = False := eq_false (by omega)
  have hdw : IntKind.i64.wrap (((d + 1 : Nat) : Int) - 1) = ((d : Nat) : Int) := by rw [wrap_i64] <;> omega
  obtain ⟨v1, hv1, hG1⟩ := s_rpick b p 6 hb (by omega)
  have hv1 := hv1 (by decide)
  rw [show ((6 : Nat) : Int) = 6 from rfl] at hG1
  have hdl : (digitL v1).length = 1 := rfl
  obtain ⟨v2, hv2, hG2⟩ := s_rpick b (p + 1) 3 hb (by omega)
  have hv2 := hv2 (by decide)
  rw [show ((3 : Nat) : Int) = 3 from rfl] at hG2
  by_cases h0 : v2 = 0
  · subst h0
    refine ⟨digitL v1, p + 1 + 1, by omega, by omega, by omega, by omega, fun l h hl ho => ?_⟩
    refine good [] [] Tryz.func216 rfl rfl Tryz.ntmps216 (by kernel_rfl) mixed (by kernel_rfl) ?_
    simp -dsimp only [go_sem]
    refine call_one (hG1 l _ (by simp -dsimp only [go_sem, hl]) (by simp -dsimp only [go_sem, ho])) (by simp -dsimp only [go_sem]) (by simp -dsimp only [go_sem]) ?_
    simp -dsimp only [go_sem]
    refine call_pure (s_l13Dec_digit v1 _ (by omega)) ?_
    simp -dsimp only [go_sem, hd0]
    refine call_one (hG2 l _ (by simp -dsimp only [go_sem, hl]) (by simp -dsimp only [go_sem, ho])) (by simp -dsimp only [go_sem]) (by simp -dsimp only [go_sem]) ?_
    simp -dsimp only [go_sem]
    refine fin_one (by simp -dsimp only [go_sem]) ?_ ?_ <;> simp -dsimp only [go_sem, rdCE]
  · have h0' : (((v2 : Nat) : Int) = 0) = False := eq_false (by omega)
    obtain ⟨v3, hv3, hG3⟩ := s_rpick b (p + 1 + 1) 2 hb (by omega)
    have hv3 := hv3 (by decide)
    rw [show ((2 : Nat) : Int) = 2 from rfl] at hG3
    obtain ⟨s1, q1, m1, l1, g1, e1, hD1⟩ := ih b (p + 1 + 1 + 1) hb (by omega)
    obtain ⟨s2, q2, m2, l2, g2, e2, hD2⟩ := ih b q1 hb (by omega)
    obtain ⟨S, hS⟩ : ∃ S : Nat → L8, S = fun k => match k with | 0 => digitL v1 | 1 => digitL v1 ++ [40] ++ s1 | _ => digitL v1 ++ [40] ++ s1 ++ [44] ++ s2 := ⟨_, rfl⟩
    obtain ⟨Q, hQ⟩ : ∃ Q : Nat → Nat, Q = fun k => match k with | 0 => p + 1 + 1 + 1 | 1 => q1 | _ => q2 := ⟨_, rfl⟩
    obtain ⟨x, hx⟩ : ∃ x : Nat → L8, x = fun k => match k with | 0 => s1 | _ => s2 := ⟨_, rfl⟩
    have hS0 : S 0 = digitL v1 := congrFun hS 0
    have hQ0 : Q 0 = p + 1 + 1 + 1 := congrFun hQ 0
    have hstep : ∀ k, k < 2 → (∃ c : UInt8, ([40, 44] : L8)[k]? = some c ∧ S (k + 1) = S k ++ [c] ++ x k) ∧ (S k).length + 1 + (x k).length ≤ 100000000000 ∧ ∀ (l : Nat) (h : AH), l < h.n → h.o l = .cells (rdCE b (Q k)) →
        Isea.Good Tryz.prog 216 [.ptr l 0, .v (.int .i64 (d : Nat))] h [l] (str (x k)) (h.set l (.cells (rdCE b (Q (k + 1))))) := by
      intro k hk
      rcases k with _ | _ | k
      · rw [hS, hQ, hx]
        refine ⟨⟨40, rfl, rfl⟩, ?_, hD1⟩
        show (digitL v1).length + 1 + s1.length ≤ _
        omega
      · rw [hS, hQ, hx]
        refine ⟨⟨44, rfl, rfl⟩, ?_, hD2⟩
        show (digitL v1 ++ [40] ++ s1).length + 1 + s2.length ≤ _
        rw [List.length_append, List.length_append]
        simp only [List.length_cons, List.length_nil]
        omega
      · omega
    have hSm : (S (1 + v3)).length + 1 ≤ 100000000000 := by
      have : v3 = 0 ∨ v3 = 1 := by omega
      rw [hS]
      rcases this with rfl | rfl
      · show (digitL v1 ++ [40] ++ s1).length + 1 ≤ _
        rw [List.length_append, List.length_append]
        simp only [List.length_cons, List.length_nil]
        omega
      · show (digitL v1 ++ [40] ++ s1 ++ [44] ++ s2).length + 1 ≤ _
        rw [List.length_append, List.length_append, List.length_append, List.length_append]
        simp only [List.length_cons, List.length_nil]
        omega
    have hSl : (S (1 + v3)).length + 5 ≤ 5 * 2 ^ (d + 1) := by
      have : v3 = 0 ∨ v3 = 1 := by omega
      rw [hS]
      rcases this with rfl | rfl
      · show (digitL v1 ++ [40] ++ s1).length + 5 ≤ _
        rw [List.length_append, List.length_append]
        simp only [List.length_cons, List.length_nil]
        omega
      · show (digitL v1 ++ [40] ++ s1 ++ [44] ++ s2).length + 5 ≤ _
        rw [List.length_append, List.length_append, List.length_append, List.length_append]
        simp only [List.length_cons, List.length_nil]
        omega
    have hQm : p ≤ Q (1 + v3) ∧ Q (1 + v3) + 3 ≤ p + 4 * 2 ^ (d + 1) := by
      have : v3 = 0 ∨ v3 = 1 := by omega
      rw [hQ]
      rcases this with rfl | rfl
      · show p ≤ q1 ∧ q1 + 3 ≤ _
        omega
      · show p ≤ q2 ∧ q2 + 3 ≤ _
        omega
    have hQb : ∀ k, k ≤ 2 → Q k ≤ 1000000000 := by
      intro k hk
      have : k = 0 ∨ k = 1 ∨ k = 2 := by omega
      rw [hQ]
      rcases this with rfl | rfl | rfl
      · show p + 1 + 1 + 1 ≤ _; omega
      · show q1 ≤ _; omega
      · show q2 ≤ _; omega
    clear hS hQ hx hD1 hD2
    refine ⟨S (1 + v3) ++ [41], Q (1 + v3), by simp, by rw [List.length_append]; simp only [List.length_cons, List.length_nil]; omega, hQm.1, hQm.2, fun l h hl ho => ?_⟩
    have hvw : IntKind.i64.wrap (1 + ((v3 : Nat) : Int)) = ((1 + v3 : Nat) : Int) := by rw [wrap_i64] <;> omega
    refine good [] [] Tryz.func216 rfl rfl Tryz.ntmps216 (by kernel_rfl) mixed (by kernel_rfl) ?_
    simp -dsimp only [go_sem]
    refine call_one (hG1 l _ (by simp -dsimp only [go_sem, hl]) (by simp -dsimp only [go_sem, ho])) (by simp -dsimp only [go_sem]) (by simp -dsimp only [go_sem]) ?_
    simp -dsimp only [go_sem]
    refine call_pure (s_l13Dec_digit v1 _ (by omega)) ?_
    simp -dsimp only [go_sem, hd0]
    refine call_one (hG2 l _ (by simp -dsimp only [go_sem, hl]) (by simp -dsimp only [go_sem, ho])) (by simp -dsimp only [go_sem]) (by simp -dsimp only [go_sem]) ?_
    simp -dsimp only [go_sem, h0']
    refine call_one (hG3 l _ (by simp -dsimp only [go_sem, hl]) (by simp -dsimp only [go_sem, ho])) (by simp -dsimp only [go_sem]) (by simp -dsimp only [go_sem]) ?_
    simp -dsimp only [go_sem, hvw]
    refine loop_ruleH [0, 0, 18] (fun (k : {k : Nat // k ≤ 1 + v3}) H => ([(5, str (S k.1)), (21, .v (.int .i64 (k.1 : Nat)))], ⟨h.n, upd H.o l (.cells (rdCE b (Q k.1)))⟩)) (fun k => 1 + v3 - k.1) ⟨0, Nat.zero_le _⟩ ?_ ?_
    · refine weak_objs [l] (by simp -dsimp only [go_sem]) (by simp -dsimp only [go_sem]) (by simp -dsimp only [go_sem, hS0, hl]) ?_ ?_ ?_
      · intro t h1 h2
        have a0 : ¬ t = l := by simpa using h2
        simp -dsimp only [go_sem, a0]
      · intro x h1 h2; have h1 : x < h.n := h1; simp at h2 ⊢; omega
      · simp -dsimp only [go_sem, rdCE, hQ0]
    · rintro ⟨k, hk⟩
      have hk : k ≤ 1 + v3 := hk
      have hk1 : k + 1 ≤ 9223372036854775807 := by omega
      by_cases hlt : k < 1 + v3
      · obtain ⟨⟨c, c1, c2⟩, e2, hDk⟩ := hstep k (by omega)
        have hkc : (((k : Nat) : Int) < ((1 + v3 : Nat) : Int)) = True := eq_true (by omega)
        have hk2 : k + 1 ≤ 2 := by omega
        have hkk : k ≤ k + 1 := by omega
        have hd1 := drop1 c1
        have eL1 : (S k).length + 1 ≤ 9223372036854775807 := by omega
        have eL2 : (S k).length + 1 + (x k).length ≤ 9223372036854775807 := by omega
        have eL3 : (S k).length + (1 + (x k).length) ≤ 9223372036854775807 := by omega
        simp -dsimp only [go_sem, hkc, hlt, hk1, hk2, hkk, hd1, eL1, hdw, hl, List.length_append, List.length_cons, List.length_nil]
        refine call_one (hDk l _ (by simp -dsimp only [go_sem, hl]) (by simp -dsimp only [go_sem, ho, hl, rdCE])) (by simp -dsimp only [go_sem]) (by simp -dsimp only [go_sem]) ?_
        simp -dsimp only [go_sem, hk1, eL1, eL2, eL3, List.length_append, List.length_cons, List.length_nil]
        refine round_to ⟨k + 1, hlt⟩ (by show 1 + v3 - (k + 1) < 1 + v3 - k; omega) ?_
        refine weak_objs [l] (by simp -dsimp only [go_sem]) (by simp -dsimp only [go_sem]) (by simp -dsimp only [go_sem, c2, hl]) ?_ ?_ ?_
        · intro t h1 h2
          have a0 : ¬ t = l := by simpa using h2
          simp -dsimp only [go_sem, a0]
        · intro x h1 h2; have h1 : x < h.n := h1; simp at h2 ⊢; omega
        · simp -dsimp only [go_sem, rdCE]
      · have hkc : (((k : Nat) : Int) < ((1 + v3 : Nat) : Int)) = False := eq_false (by omega)
        have hke : k = 1 + v3 := by omega
        subst hke
        have hSm' : (S (1 + v3)).length + 1 ≤ 9223372036854775807 := by omega
        simp -dsimp only [go_sem, hkc, hSm', List.length_append, List.length_cons, List.length_nil]
        refine fin_one (by simp -dsimp only [go_sem]) ?_ ?_ <;> simp -dsimp only [go_sem, rdCE]
/-- a text that is mostly a dictionary -/
theorem s_l6Any (hdr : ∀ d, d ≤ 3 → DdOk d) (b : L8) (p : Nat) (hb : b.length ≤ 2000) (hp : p + 100 ≤ 1000000000) : ∃ (t : L8) (q : Nat), t.length ≤ 60 ∧ p ≤ q ∧ q ≤ p + 100 ∧ ∀ (l : Nat) (h : AH), l < h.n → h.o l = .cells (rdCE b p) →
    Isea.Good Tryz.prog 161 [.ptr l 0] h [l] (str t) (h.set l (.cells (rdCE b q))) := by
  obtain ⟨v1, hv1, hG1⟩ := s_rpick b p 4 hb (by omega)
  have hv1 := hv1 (by decide)
  rw [show ((4 : Nat) : Int) = 4 from rfl] at hG1
  have hpw : 2 ^ v1 ≤ 8 := by
    have : v1 = 0 ∨ v1 = 1 ∨ v1 = 2 ∨ v1 = 3 := by omega
    rcases this with rfl | rfl | rfl | rfl <;> decide
  obtain ⟨s1, q1, m1, l1, g1, e1, hD⟩ := hdr v1 (by omega) b (p + 1) hb (by omega)
  obtain ⟨v3, hv3, hG3⟩ := s_rpick b q1 12 hb (by omega)
  rw [show ((12 : Nat) : Int) = 12 from rfl] at hG3
  by_cases h3 : 0 < v3
  · have h3' : (0 : Int) < ((v3 : Nat) : Int) := by omega
    refine ⟨s1, q1 + 1, by omega, by omega, by omega, fun l h hl ho => ?_⟩
    refine good [] [(5, OT.o 0 (OT.o 1 (OT.o 2 (OT.o 3 (OT.o 7 (OT.o 8 (OT.o 9 (OT.o 4 (OT.o 5 (OT.o 6 (OT.o 10 (OT.o 11 (OT.o 12 (OT.o 13 (OT.o 14 OT.e)))))))))))))))] Tryz.func161 rfl rfl Tryz.ntmps161 (by kernel_rfl) mixed (by kernel_rfl) ?_
    simp -dsimp only [go_sem]
    refine call_one (hG1 l _ (by simp -dsimp only [go_sem, hl]) (by simp -dsimp only [go_sem, ho])) (by simp -dsimp only [go_sem]) (by simp -dsimp only [go_sem]) ?_
    simp -dsimp only [go_sem]
    refine call_one (hD l _ (by simp -dsimp only [go_sem, hl]) (by simp -dsimp only [go_sem, ho])) (by simp -dsimp only [go_sem]) (by simp -dsimp only [go_sem]) ?_
    simp -dsimp only [go_sem]
    refine call_one (hG3 l _ (by simp -dsimp only [go_sem, hl]) (by simp -dsimp only [go_sem, ho])) (by simp -dsimp only [go_sem]) (by simp -dsimp only [go_sem]) ?_
    simp -dsimp only [go_sem, h3']
    refine fin_one (by simp -dsimp only [go_sem]) ?_ ?_ <;> simp -dsimp only [go_sem, rdCE]
  · have h3' : ¬ (0 : Int) < ((v3 : Nat) : Int) := by omega
    obtain ⟨k, hk, hG4⟩ := s_rpick b (q1 + 1) s1.length hb (by omega)
    have hk := hk m1
    obtain ⟨x, hx, hG5⟩ := s_of b (q1 + 1 + 1) [[], [40], [41], [44], [48], [120]] hb (by omega) (by decide)
    have hxl : x.length ≤ 1 := by
      simp at hx
      rcases hx with rfl | rfl | rfl | rfl | rfl | rfl <;> simp
    simp only [List.map_cons, List.map_nil, sRow] at hG5
    obtain ⟨v6, hv6, hG6⟩ := s_rpick b (q1 + 1 + 1 + 1) 2 hb (by omega)
    have hv6 := hv6 (by decide)
    rw [show ((2 : Nat) : Int) = 2 from rfl] at hG6
    have hkl : k ≤ s1.length := by omega
    have hkv : k + v6 ≤ 9223372036854775807 := by omega
    have hkv2 : k + v6 ≤ s1.length := by omega
    have htl : (s1.take k).length + x.length ≤ 9223372036854775807 := by rw [List.length_take]; omega
    have htl2 : (s1.take k).length + x.length + (s1.drop (k + v6)).length ≤ 9223372036854775807 := by rw [List.length_take, List.length_drop]; omega
    have htd : (s1.drop (k + v6)).take (s1.length - (k + v6)) = s1.drop (k + v6) := List.take_of_length_le (by rw [List.length_drop]; omega)
    refine ⟨s1.take k ++ x ++ s1.drop (k + v6), q1 + 1 + 1 + 1 + 1, by simp; omega, by omega, by omega, fun l h hl ho => ?_⟩
    have n0 : ¬ l = h.n := by omega
    refine good [] [(5, OT.o 0 (OT.o 1 (OT.o 2 (OT.o 3 (OT.o 7 (OT.o 8 (OT.o 9 (OT.o 4 (OT.o 5 (OT.o 6 (OT.o 10 (OT.o 11 (OT.o 12 (OT.o 13 (OT.o 14 OT.e)))))))))))))))] Tryz.func161 rfl rfl Tryz.ntmps161 (by kernel_rfl) mixed (by kernel_rfl) ?_
    simp -dsimp only [go_sem]
    refine call_one (hG1 l _ (by simp -dsimp only [go_sem, hl]) (by simp -dsimp only [go_sem, ho])) (by simp -dsimp only [go_sem]) (by simp -dsimp only [go_sem]) ?_
    simp -dsimp only [go_sem]
    refine call_one (hD l _ (by simp -dsimp only [go_sem, hl]) (by simp -dsimp only [go_sem, ho])) (by simp -dsimp only [go_sem]) (by simp -dsimp only [go_sem]) ?_
    simp -dsimp only [go_sem]
    refine call_one (hG3 l _ (by simp -dsimp only [go_sem, hl]) (by simp -dsimp only [go_sem, ho])) (by simp -dsimp only [go_sem]) (by simp -dsimp only [go_sem]) ?_
    simp -dsimp only [go_sem, h3']
    refine call_one (hG4 l _ (by simp -dsimp only [go_sem, hl]) (by simp -dsimp only [go_sem, ho])) (by simp -dsimp only [go_sem]) (by simp -dsimp only [go_sem]) ?_
    simp -dsimp only [go_sem, hkl]
    refine call_one (hG5 l _ (by simp -dsimp only [go_sem, hl]) (by simp -dsimp only [go_sem, ho])) (by simp -dsimp only [go_sem]) (by simp -dsimp only [go_sem]) ?_
    simp -dsimp only [go_sem, hkl, htl]
    refine call_one (hG6 l _ (by simp -dsimp only [go_sem, hl]) (by simp -dsimp only [go_sem, ho])) (by simp -dsimp only [go_sem]) (by simp -dsimp only [go_sem]) ?_
    simp -dsimp only [go_sem, hkl, hkv, hkv2, htl, htl2, htd]
    refine fin_one (by simp -dsimp only [go_sem]) ?_ ?_ <;> simp -dsimp only [go_sem, rdCE]
theorem s_l6Some (hdr : ∀ d, d ≤ 3 → DdOk d) (b : L8) (p : Nat) (hb : b.length ≤ 2000) (hp : p + 20000 ≤ 1000000000) : ∃ (w : Wld) (n : Need) (s : L8) (q : Nat), smW w = true ∧ w.cs.length ≤ 6 ∧ w.is.length ≤ 30 ∧ smNd n = true ∧ s.length ≤ 1200 ∧ p ≤ q ∧ q ≤ p + 3000 ∧ ∀ (l : Nat) (h : AH), l < h.n → h.o l = .cells (rdCE b p) →
    Isea.Good Tryz.prog 98 [.ptr l 0] h [l] (.tup [.agg w.row, .agg n.row, str s]) (h.set l (.cells (rdCE b q))) := by
  obtain ⟨w, n, q1, w1, w2, w3, w4, g1, e1, hS⟩ := s_l4Some b p hb (by omega)
  have hw := smW_Sm w1
  have hnn := smNd_iff.1 w4
  have hn : n.Sm := ⟨by omega, by omega⟩
  have hF := fun H => s_SpecialDict w n H hw hn
  unfold findD at hF
  have hfd := found0 (sp := true) (n := n) hw
  obtain ⟨X, hX⟩ : ∃ x, (ask0 w true n).1 = x := ⟨_, rfl⟩
  obtain ⟨Y, hY⟩ : ∃ x, (ask0 w true n).2.2 = x := ⟨_, rfl⟩
  rw [hY, hX] at hfd
  simp only [hX, hY] at hF
  obtain ⟨cs, is⟩ := w
  have hW : (⟨cs, is⟩ : Wld).row = [.sl (cs.map Cls.row), .sl (is.map Inst.row)] := rfl
  have hN : n.row = [str n.c, str n.t] := rfl
  by_cases hy : Y = []
  · obtain ⟨D, d1, _, _, _, _, _, d2⟩ := hfd hy
    have hXl : X.length ≤ 1200 := by rw [d1]; exact (dictOf_some d2).2.2
    have hX0 : 0 < X.length := by rw [d1]; exact text_pos D
    clear d1 d2 hfd hX hY
    obtain ⟨v1, hv1, hG1⟩ := s_rpick b q1 3 hb (by omega)
    rw [show ((3 : Nat) : Int) = 3 from rfl] at hG1
    by_cases h1 : 0 < v1
    · have h1' : ((0 : Int) < ((v1 : Nat) : Int)) = True := eq_true (by omega)
      refine ⟨⟨cs, is⟩, n, X, q1 + 1, w1, w2, w3, w4, hXl, by omega, by omega, fun l h hl ho => ?_⟩
      rw [hW, hN] at hS hF ⊢
      have n0 : ¬ l = h.n := by omega
      have n1 : ¬ l = h.n + 1 := by omega
      have n2 : ¬ l = h.n + 2 := by omega
      refine good [] [(7, OT.o 0 (OT.o 1 (OT.o 2 (OT.o 3 (OT.o 4 (OT.o 5 (OT.o 9 (OT.o 10 (OT.o 11 (OT.o 12 (OT.o 6 (OT.o 7 (OT.o 8 (OT.o 13 (OT.o 14 (OT.o 15 (OT.o 16 OT.e)))))))))))))))))] Tryz.func98 rfl rfl Tryz.ntmps98 (by kernel_rfl) mixed (by kernel_rfl) ?_
      simp -dsimp only [go_sem, hl]
      refine call_one (hS l _ (by simp -dsimp only [go_sem, hl]) (by simp -dsimp only [go_sem, ho, hl, rdCE])) (by simp -dsimp only [go_sem]) (by simp -dsimp only [go_sem, hl, not_false_eq_true]) ?_
      simp -dsimp only [go_sem, hl, n0, n1, n2]
      refine call_pure (hF _) ?_
      simp -dsimp only [go_sem, hl, n0, n1, n2, hy]
      refine call_one (hG1 l _ (by simp -dsimp only [go_sem, hl]) (by simp -dsimp only [go_sem, ho, hl, rdCE])) (by simp -dsimp only [go_sem]) (by simp -dsimp only [go_sem, hl, not_false_eq_true]) ?_
      simp -dsimp only [go_sem, hl, n0, n1, n2, hy, h1']
      refine fin_one (by simp -dsimp only [go_sem]) ?_ ?_
      · simp -dsimp only [go_sem, hl]
      · simp -dsimp only [go_sem, hl, rdCE]
    · have h1' : ((0 : Int) < ((v1 : Nat) : Int)) = False := eq_false (by omega)
      obtain ⟨k, hk, hG2⟩ := s_rpick b (q1 + 1) X.length hb (by omega)
      have hk := hk hX0
      obtain ⟨x, hx, hG3⟩ := s_of b (q1 + 1 + 1) [[], [48], [49], [50]] hb (by omega) (by decide)
      have hxl : x.length ≤ 1 := by
        simp at hx
        rcases hx with rfl | rfl | rfl | rfl <;> simp
      simp only [List.map_cons, List.map_nil, sRow] at hG3
      have hkl : k ≤ X.length := by omega
      have hkv : k + 1 ≤ 9223372036854775807 := by omega
      have hkv2 : k + 1 ≤ X.length := by omega
      have htl : (X.take k).length + x.length ≤ 9223372036854775807 := by rw [List.length_take]; omega
      have htl2 : (X.take k).length + x.length + (X.drop (k + 1)).length ≤ 9223372036854775807 := by rw [List.length_take, List.length_drop]; omega
      have htd : (X.drop (k + 1)).take (X.length - (k + 1)) = X.drop (k + 1) := List.take_of_length_le (by rw [List.length_drop]; omega)
      refine ⟨⟨cs, is⟩, n, X.take k ++ x ++ X.drop (k + 1), q1 + 1 + 1 + 1, w1, w2, w3, w4, by simp; omega, by omega, by omega, fun l h hl ho => ?_⟩
      rw [hW, hN] at hS hF ⊢
      have n0 : ¬ l = h.n := by omega
      have n1 : ¬ l = h.n + 1 := by omega
      have n2 : ¬ l = h.n + 2 := by omega
      refine good [] [(7, OT.o 0 (OT.o 1 (OT.o 2 (OT.o 3 (OT.o 4 (OT.o 5 (OT.o 9 (OT.o 10 (OT.o 11 (OT.o 12 (OT.o 6 (OT.o 7 (OT.o 8 (OT.o 13 (OT.o 14 (OT.o 15 (OT.o 16 OT.e)))))))))))))))))] Tryz.func98 rfl rfl Tryz.ntmps98 (by kernel_rfl) mixed (by kernel_rfl) ?_
      simp -dsimp only [go_sem, hl]
      refine call_one (hS l _ (by simp -dsimp only [go_sem, hl]) (by simp -dsimp only [go_sem, ho, hl, rdCE])) (by simp -dsimp only [go_sem]) (by simp -dsimp only [go_sem, hl, not_false_eq_true]) ?_
      simp -dsimp only [go_sem, hl, n0, n1, n2]
      refine call_pure (hF _) ?_
      simp -dsimp only [go_sem, hl, n0, n1, n2, hy]
      refine call_one (hG1 l _ (by simp -dsimp only [go_sem, hl]) (by simp -dsimp only [go_sem, ho, hl, rdCE])) (by simp -dsimp only [go_sem]) (by simp -dsimp only [go_sem, hl, not_false_eq_true]) ?_
      simp -dsimp only [go_sem, hl, n0, n1, n2, hy, h1']
      refine call_one (hG2 l _ (by simp -dsimp only [go_sem, hl]) (by simp -dsimp only [go_sem, ho, hl, rdCE])) (by simp -dsimp only [go_sem]) (by simp -dsimp only [go_sem, hl, not_false_eq_true]) ?_
      simp -dsimp only [go_sem, hl, n0, n1, n2, hkl, hkv, hkv2, htd]
      refine call_one (hG3 l _ (by simp -dsimp only [go_sem, hl]) (by simp -dsimp only [go_sem, ho, hl, rdCE])) (by simp -dsimp only [go_sem]) (by simp -dsimp only [go_sem, hl, not_false_eq_true]) ?_
      simp -dsimp only [go_sem, hl, n0, n1, n2, hkl, hkv, hkv2, htl, htl2, htd]
      refine fin_one (by simp -dsimp only [go_sem]) ?_ ?_
      · simp -dsimp only [go_sem, hl]
      · simp -dsimp only [go_sem, hl, rdCE]
  · clear hfd hX hY
    obtain ⟨t, q2, lt, g2, e2, hA⟩ := s_l6Any hdr b q1 hb (by omega)
    refine ⟨⟨cs, is⟩, n, t, q2, w1, w2, w3, w4, by omega, by omega, by omega, fun l h hl ho => ?_⟩
    rw [hW, hN] at hS hF ⊢
    have n0 : ¬ l = h.n := by omega
    have n1 : ¬ l = h.n + 1 := by omega
    have n2 : ¬ l = h.n + 2 := by omega
    refine good [] [(7, OT.o 0 (OT.o 1 (OT.o 2 (OT.o 3 (OT.o 4 (OT.o 5 (OT.o 9 (OT.o 10 (OT.o 11 (OT.o 12 (OT.o 6 (OT.o 7 (OT.o 8 (OT.o 13 (OT.o 14 (OT.o 15 (OT.o 16 OT.e)))))))))))))))))] Tryz.func98 rfl rfl Tryz.ntmps98 (by kernel_rfl) mixed (by kernel_rfl) ?_
    simp -dsimp only [go_sem, hl]
    refine call_one (hS l _ (by simp -dsimp only [go_sem, hl]) (by simp -dsimp only [go_sem, ho, hl, rdCE])) (by simp -dsimp only [go_sem]) (by simp -dsimp only [go_sem, hl, not_false_eq_true]) ?_
    simp -dsimp only [go_sem, hl, n0, n1, n2]
    refine call_pure (hF _) ?_
    simp -dsimp only [go_sem, hl, n0, n1, n2, hy]
    refine call_one (hA l _ (by simp -dsimp only [go_sem, hl]) (by simp -dsimp only [go_sem, ho, hl, rdCE])) (by simp -dsimp only [go_sem]) (by simp -dsimp only [go_sem, hl, not_false_eq_true]) ?_
    simp -dsimp only [go_sem, hl, n0, n1, n2]
    refine fin_one (by simp -dsimp only [go_sem]) ?_ ?_
    · simp -dsimp only [go_sem, hl]
    · simp -dsimp only [go_sem, hl, rdCE]
theorem s_l6Draw : ∀ d, d ≤ 3 → DdOk d
  | 0, _ => s_l6Draw_0
  | d + 1, h => s_l6Draw_step (s_l6Draw d (by omega)) (by omega)
theorem s_DrawCheckDict (b : L8) : ∃ (w : Wld) (n : Need) (s : L8), smW w = true ∧ w.cs.length ≤ 6 ∧ w.is.length ≤ 30 ∧ smNd n = true ∧ s.length ≤ 1200 ∧ ∀ h : AH, Isea.Good Tryz.prog 38 [.sl (b.map byR)] h [] (.tup [.agg w.row, .agg n.row, str s]) h := by
  obtain ⟨w, n, s, q, w1, w2, w3, w4, w5, _, _, hS⟩ := s_l6Some s_l6Draw (b.take 2000) 0 (by rw [List.length_take]; omega) (by decide)
  refine ⟨w, n, s, w1, w2, w3, w4, w5, fun h => ?_⟩
  obtain ⟨cs, is⟩ := w
  have hW : (⟨cs, is⟩ : Wld).row = [.sl (cs.map Cls.row), .sl (is.map Inst.row)] := rfl
  have hN : n.row = [str n.c, str n.t] := rfl
  rw [hW, hN] at hS ⊢
  refine good [] [] Tryz.func38 rfl rfl Tryz.ntmps38 (by kernel_rfl) mixed (by kernel_rfl) ?_
  simp -dsimp only [go_sem]
  refine call_pure (s_l13Open b _) ?_
  simp -dsimp only [go_sem]
  refine call_one (hS _ _ (by simp -dsimp only [go_sem]) (by simp -dsimp only [go_sem])) (by simp -dsimp only [go_sem]) (by simp -dsimp only [go_sem, not_false_eq_true]) ?_
  simp -dsimp only [go_sem]
  exact fin_pure (by simp -dsimp only [go_sem]) (by simp -dsimp only [go_sem])
end Go.Proofs.YtiphcdmjlkngfaaGreatDoor
