/- Contracts of functions of this program, for all arguments that satisfy what each lemma asks for. -/
import Derived.Test.YtnocdggngfiebaaGreatDoorMC
import Derived.Test.YtnocdggngfiebaaGreatDoorMJ
set_option linter.all false
namespace Go.Isea
open Go
section
variable {P : Program} {h : AH}
@[go_sem] theorem ab_max {ts : Array TypeId} {ty : TypeId} {k : IntKind} {x y : Int} : abuiltin P .max ts ty [.v (.int k x), .v (.int k y)] h = some (.v (.int k (if x < y then y else x))) := (rfl)
end
theorem ite_max (x y : Int) : (if x < y then y else x) = max x y := by
  split <;> omega
end Go.Isea
namespace Go.Proofs.YtnocdggngfiebaaGreatDoor
open Go Go.Isea
set_option maxRecDepth 100000
set_option maxHeartbeats 8000000
theorem i_depth (s : L8) (h : AH) (hs : s.length ≤ 1000000) : Isea.Good Tryz.prog 123 [str s] h [] (.v (.int .i64 (dpS s (0, 0)).1)) h := by
  obtain ⟨X, hX⟩ : ∃ X : Nat → Int × Int, X = fun k => dpS (s.take k) (0, 0) := ⟨_, rfl⟩
  have hX0 : X 0 = (0, 0) := by rw [hX]; rfl
  have hXe : X s.length = dpS s (0, 0) := by rw [hX]; simp
  have hX1 : ∀ k c, s[k]? = some c → X (k + 1) = (if c = 40 then (max (X k).1 ((X k).2 + 1), (X k).2 + 1) else if c = 41 then ((X k).1, (X k).2 - 1) else X k) := fun k c hc => by
    rw [hX]
    exact dp_take hc (0, 0)
  have hXb : ∀ k, k ≤ s.length → -1000000 ≤ (X k).2 ∧ (X k).2 ≤ 1000000 := fun k hk => by
    have := dp_rng (s.take k) 0 0 0 (by simp) (by simp) (by simp) (by simp)
    rw [List.length_take] at this
    rw [hX]
    show -1000000 ≤ (dpS (s.take k) (0, 0)).2 ∧ (dpS (s.take k) (0, 0)).2 ≤ 1000000
    omega
  rw [← hXe]
  clear hX hXe
  refine good [] [] Tryz.func123 rfl rfl Tryz.ntmps123 (by kernel_rfl) mixed (by kernel_rfl) ?_
  simp -dsimp only [go_sem]
  refine loop_ruleH [0, 6] (fun (k : {k : Nat // k ≤ s.length}) H => ([(3, .v (.int .i64 (X k.1).1)), (4, .v (.int .i64 (X k.1).2)), (8, .v (.int .i64 (k.1 : Nat)))], H)) (fun k => s.length - k.1) ⟨0, Nat.zero_le _⟩ ?_ ?_
  · exact weak_at rfl (by simp -dsimp only [go_sem]) (fun x hx => by simp -dsimp only [go_sem, hx]) (by simp -dsimp only [go_sem, hX0])
  · rintro ⟨k, hk⟩
    have h1 : k + 1 ≤ 9223372036854775807 := by omega
    by_cases hkl : k < s.length
    · obtain ⟨c, hc⟩ := get_some hkl
      obtain ⟨b1, b2⟩ := hXb k hk
      have enx := hX1 k c hc
      have w1 : IntKind.i64.wrap ((X k).2 + 1) = (X k).2 + 1 := by rw [wrap_i64] <;> omega
      have w2 : IntKind.i64.wrap ((X k).2 - 1) = (X k).2 - 1 := by rw [wrap_i64] <;> omega
      by_cases h4 : c = 40
      · have h4' : (((c.toNat : Nat) : Int) = 40) = True := by rw [u8_lit (by decide)]; exact eq_true h4
        rw [if_pos h4] at enx
        simp -dsimp only [go_sem, hkl, hc, h4', w1, h1, ite_max]
        exact round_to ⟨k + 1, hkl⟩ (by simp; omega) (weak_at rfl (by simp -dsimp only [go_sem]) (fun x hx => by simp -dsimp only [go_sem, hx]) (by simp -dsimp only [go_sem, enx]))
      · have h4' : (((c.toNat : Nat) : Int) = 40) = False := by rw [u8_lit (by decide)]; exact eq_false h4
        rw [if_neg h4] at enx
        by_cases h5 : c = 41
        · have h5' : (((c.toNat : Nat) : Int) = 41) = True := by rw [u8_lit (by decide)]; exact eq_true h5
          rw [if_pos h5] at enx
          simp -dsimp only [go_sem, hkl, hc, h4', h5', w2, h1]
          exact round_to ⟨k + 1, hkl⟩ (by simp; omega) (weak_at rfl (by simp -dsimp only [go_sem]) (fun x hx => by simp -dsimp only [go_sem, hx]) (by simp -dsimp only [go_sem, enx]))
        · have h5' : (((c.toNat : Nat) : Int) = 41) = False := by rw [u8_lit (by decide)]; exact eq_false h5
          rw [if_neg h5] at enx
          simp -dsimp only [go_sem, hkl, hc, h4', h5', h1]
          exact round_to ⟨k + 1, hkl⟩ (by simp; omega) (weak_at rfl (by simp -dsimp only [go_sem]) (fun x hx => by simp -dsimp only [go_sem, hx]) (by simp -dsimp only [go_sem, enx]))
    · have hke : k = s.length := by omega
      subst hke
      simp -dsimp only [go_sem, hkl]
      exact fin_int (by simp -dsimp only [go_sem]) rfl
theorem i_DepthOfDict (s : L8) (h : AH) (hs : s.length ≤ 1000000) : Isea.Good Tryz.prog 47 [str s] h [] (.v (.int .i64 (depthD s))) h := by
  have hV := fun H => i_DictValid s H (by omega)
  have hD := fun H => i_depth s H hs
  unfold depthD
  cases hd : dictOf s with
  | none =>
    rw [hd] at hV
    simp only [Option.isSome_none] at hV
    refine good [] [] Tryz.func47 rfl rfl Tryz.ntmps47 (by kernel_rfl) mixed (by kernel_rfl) ?_
    simp -dsimp only [go_sem]
    refine call_pure (hV _) ?_
    simp -dsimp only [go_sem]
    exact fin_int (by simp -dsimp only [go_sem]) rfl
  | some d =>
    rw [hd] at hV
    simp only [Option.isSome_some] at hV
    obtain ⟨e1, e2, _⟩ := dictOf_some hd
    have e3 := dp_zero e2
    rw [e1] at e3
    rw [e3] at hD
    refine good [] [] Tryz.func47 rfl rfl Tryz.ntmps47 (by kernel_rfl) mixed (by kernel_rfl) ?_
    simp -dsimp only [go_sem]
    refine call_pure (hV _) ?_
    simp -dsimp only [go_sem]
    refine call_pure (hD _) ?_
    simp -dsimp only [go_sem]
    exact fin_int (by simp -dsimp only [go_sem]) rfl
end Go.Proofs.YtnocdggngfiebaaGreatDoor
