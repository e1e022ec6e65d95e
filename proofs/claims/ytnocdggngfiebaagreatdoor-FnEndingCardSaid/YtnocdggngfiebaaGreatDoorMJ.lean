/- Contracts of functions of this program, for all arguments that satisfy what each lemma asks for. -/
import Derived.Test.YtnocdggngfiebaaGreatDoorMq
import Derived.Test.YtnocdggngfiebaaGreatDoorMF
import Derived.Test.YtnocdggngfiebaaGreatDoorMg
set_option linter.all false
namespace Go.Isea
open Go
def failN (w : Wld) (n : Need) : Need := if stB w n = true then (ask0 w false n).2.1.f else ⟨[], []⟩
end Go.Isea
namespace Go.Proofs.YtnocdggngfiebaaGreatDoor
open Go Go.Isea
set_option maxRecDepth 100000
set_option maxHeartbeats 8000000
end Go.Proofs.YtnocdggngfiebaaGreatDoor

namespace Go.Proofs.YtnocdggngfiebaaGreatDoor
open Go Go.Isea
set_option maxRecDepth 100000
set_option maxHeartbeats 8000000
end Go.Proofs.YtnocdggngfiebaaGreatDoor

namespace Go.Isea
open Go
section
variable {P : Program} {h : AH}
@[go_sem] theorem bin_neqSS {t : TypeId} {p q : Operand} {a b c d : L8} (hs : isSS P t = true) : abin P .neq t p q (.agg [str a, str b]) (.agg [str c, str d]) = some (.v (.bool (decide (¬ (a = c ∧ b = d))))) := by
  have h1 : semPure P (do eqGuard .neq t p q (.agg #[.string (bs a), .string (bs b)]) (.agg #[.string (bs c), .string (bs d)]); binOp .neq t (.agg #[.string (bs a), .string (bs b)]) (.agg #[.string (bs c), .string (bs d)])) = some (.bool (!decide (a = c ∧ b = d))) := by
    have h2 := equal_ss hs (k := 9998) (a := a) (b := b) (c := c) (d := d)
    simp only [semPure_bind', eqGuard, semPure_program, isSS_guard hs, Bool.not_true, Bool.false_eq_true, if_false, Bool.not_false, if_true, semPure_pure]
    show semPure P (do let r ← Op.equal t _ _; pure (Value.bool !r)) = _
    rw [semPure_bind']
    have h3 : semPure P (Op.equal t (.agg #[.string (bs a), .string (bs b)]) (.agg #[.string (bs c), .string (bs d)])) = some (decide (a = c ∧ b = d)) := h2
    rw [h3]; rfl
  have r1 : ∀ a b : L8, AV.raw (.agg [str a, str b]) = some (.agg #[.string (bs a), .string (bs b)]) := fun _ _ => rfl
  simp only [abin, r1, h1]
  rw [decide_not]
  rfl
@[go_sem] theorem ab_min {ts : Array TypeId} {ty : TypeId} {k : IntKind} {x y : Int} : abuiltin P .min ts ty [.v (.int k x), .v (.int k y)] h = some (.v (.int k (if y < x then y else x))) := (rfl)
end
end Go.Isea
namespace Go.Proofs.YtnocdggngfiebaaGreatDoor
open Go Go.Isea
set_option maxRecDepth 100000
set_option maxHeartbeats 8000000
end Go.Proofs.YtnocdggngfiebaaGreatDoor

namespace Go.Proofs.YtnocdggngfiebaaGreatDoor
open Go Go.Isea Go.ChangeShapes Go.WideShapes Go.ChangeAt Go.RowKit Go.Deep
set_option maxRecDepth 100000
variable {H : Type} {enc : TypeId × Value → H} {w : World} {sp : Nat → Bool} {held : Bool}
theorem u8_rng {n : Int} (h : (Lit.int .u8 n).wf = true) : 0 ≤ n ∧ n ≤ 255 := by
  simp only [Lit.wf, Bool.and_eq_true, decide_eq_true_eq] at h
  exact h
theorem read_byte {fuel : Nat} {cs : List Value} {x : DataW H × List MemPlace} (h : DataW.trod enc Tryz.prog w 0 sp held fuel 5 cs = some x) : ∃ c : UInt8, RowR w (byR c) cs := by
  obtain ⟨i, e, _, wf⟩ := DataW.trod_int Tryz.underlying5 h
  have hr := u8_rng wf
  subst e
  refine ⟨UInt8.ofNat i.toNat, rfl, fun K o j x y h1 h2 => ?_⟩
  have e2 : (((UInt8.ofNat i.toNat).toNat : Nat) : Int) = i := by
    have : (UInt8.ofNat i.toNat).toNat = i.toNat := by
      rw [UInt8.toNat_ofNat']; omega
    rw [this]; omega
  rcases j with _ | j
  · simp only [byR, List.getElem?_cons_zero, Option.some.injEq] at h1 h2
    subst h1; subst h2
    rw [e2]
    exact .v _
  · simp [byR] at h1
theorem read_bytes {fuel : Nat} {v : Value} {x : DataW H × List MemPlace} (h : DataW.trod enc Tryz.prog w 0 sp held fuel 22 [v] = some x) : ∃ l : L8, (∀ (K : KM) (o : Nat → AObj), Rep K ⟨0, o⟩ w (.sl (l.map byR)) v) ∧ l.length ≤ 9223372036854775807 := by
  obtain ⟨l, h1, h2, _⟩ := rep_slice (f := byR) (Q := fun _ => True) (sz := 1) Tryz.underlying22 (by kernel_rfl) (fun _ => rfl) (by decide) (fun _ _ _ _ h => by obtain ⟨c, hc⟩ := read_byte h; exact ⟨c, hc, trivial⟩) h
  exact ⟨l, h1, h2⟩
end Go.Proofs.YtnocdggngfiebaaGreatDoor
