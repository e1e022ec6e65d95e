/- Contracts of functions of this program, for all arguments that satisfy what each lemma asks for. -/
import Derived.Test.YtnocdggngfiebaaGreatDoorMi
import Derived.Test.YtnocdggngfiebaaGreatDoorMb
import Derived.Test.YtnocdggngfiebaaGreatDoorMc
import Derived.Test.YtnocdggngfiebaaGreatDoorMe
import Derived.Test.YtnocdggngfiebaaGreatDoorMd
set_option linter.all false
namespace Go.Isea
open Go
section
variable {P : Program} {t : TypeId} {p q : Operand} {k : IntKind} {a b : Int}
@[go_sem] theorem bin_rem (hb : (b = 0) = False) : abin P .rem t p q (.v (.int k a)) (.v (.int k b)) = some (.v (.int k (a.tmod b))) := by
  have hb : ¬ b = 0 := fun h => hb.mp h
  simp [abin, AV.raw, eqGuard, binOp, Op.intDiv, semPure, bind, Sem.bind, pure, ofVo, ofV, hb]
@[go_sem] theorem bin_quo (hb : (b = 0) = False) : abin P .quo t p q (.v (.int k a)) (.v (.int k b)) = some (.v (.int k (k.wrap (a.tdiv b)))) := by
  have hb : ¬ b = 0 := fun h => hb.mp h
  simp [abin, AV.raw, eqGuard, binOp, Op.intDiv, semPure, bind, Sem.bind, pure, ofVo, ofV, hb]
def xorI (k : IntKind) (a b : Int) : Int := k.wrap ((BitVec.ofInt k.bits a ^^^ BitVec.ofInt k.bits b).toNat)
@[go_sem] theorem bin_xor : abin P .xor t p q (.v (.int k a)) (.v (.int k b)) = some (.v (.int k (xorI k a b))) := by
  simp [abin, AV.raw, eqGuard, binOp, Op.intBits, semPure, bind, Sem.bind, pure, ofVo, ofV, xorI]
theorem xorI_nat {m n : Nat} (hm : m < 4611686018427387904) (hn : n < 4611686018427387904) : ∃ r : Nat, xorI .i64 (m : Int) (n : Int) = (r : Int) := by
  refine ⟨m ^^^ n, ?_⟩
  have e1 : (BitVec.ofInt 64 (m : Int)).toNat = m := by
    rw [BitVec.toNat_ofInt]
    omega
  have e2 : (BitVec.ofInt 64 (n : Int)).toNat = n := by
    rw [BitVec.toNat_ofInt]
    omega
  have hx : m ^^^ n < 2 ^ 62 := Nat.xor_lt_two_pow (by omega) (by omega)
  show IntKind.i64.wrap (((BitVec.ofInt 64 (m : Int) ^^^ BitVec.ofInt 64 (n : Int)).toNat : Nat) : Int) = _
  rw [BitVec.toNat_xor, e1, e2, wrap_i64 (by omega) (by omega)]
theorem tmod_nat (m n : Nat) : ((m : Int)).tmod (n : Int) = ((m % n : Nat) : Int) := by
  rw [Int.tmod_eq_emod_of_nonneg (Int.natCast_nonneg m)]; rfl
theorem tdiv_nat (m n : Nat) : ((m : Int)).tdiv (n : Int) = ((m / n : Nat) : Int) := by
  rw [Int.tdiv_eq_ediv_of_nonneg (Int.natCast_nonneg m)]; rfl
/-- a byte, as a row -/
def byR (c : UInt8) : List AV := [.v (.int .u8 c.toNat)]
@[go_sem] theorem puR_bytes {l : L8} : PuR (l.map byR) = True := puR_map fun n => by simp -dsimp only [byR, go_sem]
@[go_sem] theorem al_bytes {l : L8} : AllLen 1 (l.map byR) = True := allLen_map fun _ => rfl
end
end Go.Isea

namespace Go.Isea
open Go
set_option maxRecDepth 100000
/-- a source's cells -/
def rdCE (b : L8) (p : Nat) : List AV := [.sl (b.map byR), .v (.int .i64 (p : Nat))]
theorem tdiv_64 (m : Nat) : ((m : Int)).tdiv 64 = ((m / 64 : Nat) : Int) := tdiv_nat m 64
theorem wrap_le {m : Nat} (h : m ≤ 9223372036854775807) : IntKind.i64.wrap ((m : Nat) : Int) = ((m : Nat) : Int) := by rw [wrap_i64] <;> omega
theorem wrap_mul {a b : Nat} {c : Int} (hc : c = (b : Int)) (h : a * b ≤ 9223372036854775807) : IntKind.i64.wrap (((a : Nat) : Int) * c) = ((a * b : Nat) : Int) := by
  subst hc
  rw [← Int.natCast_mul, wrap_le h]
theorem wrap_plus {a b : Nat} {c : Int} (hc : c = (b : Int)) (h : a + b ≤ 9223372036854775807) : IntKind.i64.wrap (((a : Nat) : Int) + c) = ((a + b : Nat) : Int) := by
  subst hc
  rw [← Int.natCast_add, wrap_le h]
end Go.Isea
namespace Go.Proofs.YtnocdggngfiebaaGreatDoor
open Go Go.Isea
set_option maxRecDepth 100000
set_option maxHeartbeats 8000000
theorem s_rpick (b : L8) (p n : Nat) (hb : b.length ≤ 2000) (hp : p ≤ 1000000000) : ∃ v : Nat, (0 < n → v < n) ∧ ∀ (l : Nat) (h : AH), l < h.n → h.o l = .cells (rdCE b p) →
    Isea.Good Tryz.prog 110 [.ptr l 0, .v (.int .i64 (n : Nat))] h [l] (.v (.int .i64 (v : Nat))) (h.set l (.cells (rdCE b (p + 1)))) := by
  have hp1 : p + 1 ≤ 9223372036854775807 := by omega
  by_cases hn : n = 0
  · subst hn
    refine ⟨0, fun h => absurd h (by omega), fun l h hl ho => ?_⟩
    refine good [] [] Tryz.func110 rfl rfl Tryz.ntmps110 (by kernel_rfl) mixed (by kernel_rfl) ?_
    simp -dsimp only [go_sem, ho, rdCE, hl, hp1]
    refine fin_one (by simp -dsimp only [go_sem]) ?_ ?_ <;> simp -dsimp only [go_sem]
  · have hn1 : ¬ ((n : Nat) : Int) < 1 := by omega
    have hn0 : (((n : Nat) : Int) = 0) = False := eq_false (by omega)
    by_cases hb0 : b.length = 0
    · refine ⟨0, fun h => h, fun l h hl ho => ?_⟩
      have hb0' : ((b.length : Nat) : Int) = 0 := by omega
      refine good [] [] Tryz.func110 rfl rfl Tryz.ntmps110 (by kernel_rfl) mixed (by kernel_rfl) ?_
      simp -dsimp only [go_sem, ho, rdCE, hl, hp1, hn1, hb0', List.length_map]
      refine fin_one (by simp -dsimp only [go_sem]) ?_ ?_ <;> simp -dsimp only [go_sem]
    · have hb0' : ¬ ((b.length : Nat) : Int) = 0 := by omega
      have hw1 : IntKind.i64.wrap (((p + 1 : Nat) : Int) - 1) = ((p : Nat) : Int) := by rw [wrap_i64] <;> omega
      by_cases hlt : p < b.length
      · obtain ⟨c, hc⟩ := get_some hlt
        refine ⟨c.toNat % n, fun h => Nat.mod_lt _ h, fun l h hl ho => ?_⟩
        refine good [] [] Tryz.func110 rfl rfl Tryz.ntmps110 (by kernel_rfl) mixed (by kernel_rfl) ?_
        simp -dsimp only [go_sem, ho, rdCE, hl, hp1, hn1, hb0', hw1, hlt, hc, byR, hn0, tmod_nat, List.length_map]
        refine fin_one (by simp -dsimp only [go_sem]) ?_ ?_ <;> simp -dsimp only [go_sem]
      · obtain ⟨c1, hc1⟩ := get_some (l := b) (k := p % b.length) (Nat.mod_lt _ (by omega))
        obtain ⟨c2, hc2⟩ := get_some (l := b) (k := (p * 7 + 3) % b.length) (Nat.mod_lt _ (by omega))
        have d1 := UInt8.toNat_lt c1
        have d2 := UInt8.toNat_lt c2
        have dq : p / b.length ≤ p := Nat.div_le_self _ _
        have w1 : IntKind.i64.wrap (((c1.toNat : Nat) : Int) * 131) = ((c1.toNat * 131 : Nat) : Int) := wrap_mul rfl (by omega)
        have w2 : IntKind.i64.wrap (((p : Nat) : Int) * 7) = ((p * 7 : Nat) : Int) := wrap_mul rfl (by omega)
        have w3 : IntKind.i64.wrap (((p * 7 : Nat) : Int) + 3) = ((p * 7 + 3 : Nat) : Int) := wrap_plus rfl (by omega)
        have w4 : IntKind.i64.wrap (((c2.toNat : Nat) : Int) * 1117) = ((c2.toNat * 1117 : Nat) : Int) := wrap_mul rfl (by omega)
        have w5 : c1.toNat * 131 + c2.toNat * 1117 ≤ 9223372036854775807 := by omega
        have w6 : IntKind.i64.wrap (((p : Nat) : Int) * 29) = ((p * 29 : Nat) : Int) := wrap_mul rfl (by omega)
        have w7 : c1.toNat * 131 + c2.toNat * 1117 + p * 29 ≤ 9223372036854775807 := by omega
        have hbl0 : (((b.length : Nat) : Int) = 0) = False := eq_false hb0'
        have w8 : IntKind.i64.wrap ((p / b.length : Nat) : Int) = ((p / b.length : Nat) : Int) := wrap_le (by omega)
        have w9 : IntKind.i64.wrap (((p / b.length : Nat) : Int) * 53) = ((p / b.length * 53 : Nat) : Int) := wrap_mul rfl (by omega)
        have w10 : c1.toNat * 131 + c2.toNat * 1117 + p * 29 + p / b.length * 53 ≤ 9223372036854775807 := by omega
        have hX : c1.toNat * 131 + c2.toNat * 1117 + p * 29 + p / b.length * 53 < 4611686018427387904 := by omega
        obtain ⟨X, hXe⟩ : ∃ X, c1.toNat * 131 + c2.toNat * 1117 + p * 29 + p / b.length * 53 = X := ⟨_, rfl⟩
        rw [hXe] at hX
        have w12 : X ≤ 9223372036854775807 := by omega
        have w11 : IntKind.i64.wrap ((X / 64 : Nat) : Int) = ((X / 64 : Nat) : Int) := wrap_le (by omega)
        obtain ⟨r, hr⟩ := xorI_nat (m := X) (n := X / 64) hX (by omega)
        refine ⟨r % n, fun h => Nat.mod_lt _ h, fun l h hl ho => ?_⟩
        refine good [] [] Tryz.func110 rfl rfl Tryz.ntmps110 (by kernel_rfl) mixed (by kernel_rfl) ?_
        simp -dsimp only [go_sem, ho, rdCE, hl, hp1, hn1, hb0', hw1, hlt, hc1, hc2, byR, hn0, hbl0, tmod_nat, tdiv_nat, w1, w2, w3, w4, w5, w6, w7, w8, w9, w10, w12, hXe, tdiv_64, w11, hr, List.length_map]
        refine fin_one (by simp -dsimp only [go_sem]) ?_ ?_ <;> simp -dsimp only [go_sem]
theorem s_of (b : L8) (p : Nat) (xs : List L8) (hb : b.length ≤ 2000) (hp : p ≤ 1000000000) (hx : 0 < xs.length) : ∃ x, x ∈ xs ∧ ∀ (l : Nat) (h : AH), l < h.n → h.o l = .cells (rdCE b p) →
    Isea.Good Tryz.prog 112 [.ptr l 0, .sl (xs.map sRow)] h [l] (str x) (h.set l (.cells (rdCE b (p + 1)))) := by
  obtain ⟨v, hv, hG⟩ := s_rpick b p xs.length hb hp
  obtain ⟨x, hxv⟩ := get_some (hv hx)
  refine ⟨x, List.mem_of_getElem? hxv, fun l h hl ho => ?_⟩
  refine good [] [] Tryz.func112 rfl rfl Tryz.ntmps112 (by kernel_rfl) mixed (by kernel_rfl) ?_
  simp -dsimp only [go_sem, List.length_map]
  refine call_one (hG l _ (by simp -dsimp only [go_sem, hl]) (by simp -dsimp only [go_sem, ho])) (by simp -dsimp only [go_sem]) (by simp -dsimp only [go_sem]) ?_
  simp -dsimp only [go_sem, hxv, sRow]
  refine fin_one (by simp -dsimp only [go_sem]) ?_ ?_ <;> simp -dsimp only [go_sem, rdCE]
theorem s_num (b : L8) (p : Nat) (xs : List Int) (hb : b.length ≤ 2000) (hp : p ≤ 1000000000) (hx : 0 < xs.length) : ∃ x, x ∈ xs ∧ ∀ (l : Nat) (h : AH), l < h.n → h.o l = .cells (rdCE b p) →
    Isea.Good Tryz.prog 111 [.ptr l 0, .sl (xs.map fun x => [.v (.int .i64 x)])] h [l] (.v (.int .i64 x)) (h.set l (.cells (rdCE b (p + 1)))) := by
  obtain ⟨v, hv, hG⟩ := s_rpick b p xs.length hb hp
  obtain ⟨x, hxv⟩ := get_some (hv hx)
  refine ⟨x, List.mem_of_getElem? hxv, fun l h hl ho => ?_⟩
  refine good [] [] Tryz.func111 rfl rfl Tryz.ntmps111 (by kernel_rfl) mixed (by kernel_rfl) ?_
  simp -dsimp only [go_sem, List.length_map]
  refine call_one (hG l _ (by simp -dsimp only [go_sem, hl]) (by simp -dsimp only [go_sem, ho])) (by simp -dsimp only [go_sem]) (by simp -dsimp only [go_sem]) ?_
  simp -dsimp only [go_sem, hxv]
  refine fin_one (by simp -dsimp only [go_sem]) ?_ ?_ <;> simp -dsimp only [go_sem, rdCE]
end Go.Proofs.YtnocdggngfiebaaGreatDoor

namespace Go.Isea
open Go
set_option maxRecDepth 100000
theorem leaf_of {xs : List L8} (h : ∀ x ∈ xs, ∃ c, x = [c] ∧ ar c = 0) {x : L8} (hx : x ∈ xs) : ∃ t : Ty, t.wf ∧ t.text = x := by
  obtain ⟨c, rfl, hc⟩ := h x hx
  exact ⟨.leaf c, hc, rfl⟩
/-- a state of a source behind another one -/
structure Fw (b : L8) (p q c : Nat) : Prop where
  ge : p ≤ q
  le : q ≤ p + c
end Go.Isea
namespace Go.Proofs.YtnocdggngfiebaaGreatDoor
open Go Go.Isea
set_option maxRecDepth 100000
set_option maxHeartbeats 8000000
theorem s_l13Open (b : L8) (h : AH) : Isea.Good Tryz.prog 85 [.sl (b.map byR)] h [] (.ptr h.n 0) (h.push (.cells (rdCE (b.take 2000) 0))) := by
  refine good [10] [] Tryz.func85 rfl rfl Tryz.ntmps85 (by kernel_rfl) mixed (by kernel_rfl) ?_
  by_cases hl : 2000 < b.length
  · have hl' : (2000 : Int) < ((b.length : Nat) : Int) := by omega
    have h2 : 2000 ≤ b.length := by omega
    have hbd : bound b.length (some (.v (.int .i64 2000))) = some 2000 := bound_k (k := 2000)
    simp -dsimp only [go_sem, hl', h2, hbd, List.length_map]
    refine fin_push (by first | exact Nat.le_refl _ | simp -dsimp only [go_sem]) ?_ ?_ <;> simp -dsimp only [go_sem, rdCE]
  · have hl' : ¬ (2000 : Int) < ((b.length : Nat) : Int) := by omega
    have ht : b.take 2000 = b := List.take_of_length_le (by omega)
    simp -dsimp only [go_sem, hl', List.length_map]
    rw [ht]
    refine fin_push (by first | exact Nat.le_refl _ | simp -dsimp only [go_sem]) ?_ ?_ <;> simp -dsimp only [go_sem, rdCE]
def DrOk (d : Nat) : Prop := ∀ (b : L8) (p : Nat) (g : Bool), b.length ≤ 2000 → p + 3 * 2 ^ d ≤ 1000000000 → ∃ (t : Ty) (q : Nat), t.wf ∧ t.text.length + 4 ≤ 5 * 2 ^ d ∧ p ≤ q ∧ q + 2 ≤ p + 3 * 2 ^ d ∧ ∀ (l : Nat) (h : AH), l < h.n → h.o l = .cells (rdCE b p) →
    Isea.Good Tryz.prog 163 [.ptr l 0, .v (.int .i64 (d : Nat)), .v (.bool g)] h [l] (str t.text) (h.set l (.cells (rdCE b q)))
theorem s_leaf (b : L8) (p : Nat) (g : Bool) (hb : b.length ≤ 2000) (hp : p ≤ 1000000000) : ∃ t : Ty, t.wf ∧ t.text.length ≤ 1 ∧ ∀ (l : Nat) (h : AH), l < h.n → h.o l = .cells (rdCE b p) →
    Isea.Good Tryz.prog 112 [.ptr l 0, .sl (if g = true then [[str [105]], [str [98]], [str [105]], [str [117]]] else [[str [120]], [str [105]], [str [121]], [str [98]], [str [120]], [str [122]], [str [117]]])] h [l] (str t.text) (h.set l (.cells (rdCE b (p + 1)))) := by
  cases g with
  | true =>
    obtain ⟨x, hx, hG⟩ := s_of b p [[105], [98], [105], [117]] hb hp (by decide)
    have h1 : ∀ x ∈ ([[105], [98], [105], [117]] : List L8), ∃ c, x = [c] ∧ ar c = 0 := by
      intro x hx
      simp at hx
      rcases hx with rfl | rfl | rfl | rfl <;> exact ⟨_, rfl, by decide⟩
    obtain ⟨t, ht, e⟩ := leaf_of h1 hx
    have hxl : x.length ≤ 1 := by obtain ⟨c, rfl, _⟩ := h1 x hx; simp
    exact ⟨t, ht, by rw [e]; exact hxl, fun l h hl ho => by rw [e]; exact hG l h hl ho⟩
  | false =>
    obtain ⟨x, hx, hG⟩ := s_of b p [[120], [105], [121], [98], [120], [122], [117]] hb hp (by decide)
    have h1 : ∀ x ∈ ([[120], [105], [121], [98], [120], [122], [117]] : List L8), ∃ c, x = [c] ∧ ar c = 0 := by
      intro x hx
      simp at hx
      rcases hx with rfl | rfl | rfl | rfl | rfl | rfl | rfl <;> exact ⟨_, rfl, by decide⟩
    obtain ⟨t, ht, e⟩ := leaf_of h1 hx
    have hxl : x.length ≤ 1 := by obtain ⟨c, rfl, _⟩ := h1 x hx; simp
    exact ⟨t, ht, by rw [e]; exact hxl, fun l h hl ho => by rw [e]; exact hG l h hl ho⟩
theorem s_l1Draw_0 : DrOk 0 := by
  intro b p g hb hp
  obtain ⟨t, ht, htl, hG⟩ := s_leaf b p g hb (by omega)
  refine ⟨t, p + 1, ht, by omega, by omega, by omega, fun l h hl ho => ?_⟩
  refine good [] [] Tryz.func163 rfl rfl Tryz.ntmps163 (by kernel_rfl) mixed (by kernel_rfl) ?_
  cases g with
  | true =>
    simp only [if_true] at hG
    simp -dsimp only [go_sem]
    refine call_one (hG l _ (by simp -dsimp only [go_sem, hl]) (by simp -dsimp only [go_sem, ho])) (by simp -dsimp only [go_sem]) (by simp -dsimp only [go_sem]) ?_
    simp -dsimp only [go_sem]
    refine fin_one (by simp -dsimp only [go_sem]) ?_ ?_ <;> simp -dsimp only [go_sem, rdCE]
  | false =>
    simp only [Bool.false_eq_true, if_false] at hG
    simp -dsimp only [go_sem]
    refine call_one (hG l _ (by simp -dsimp only [go_sem, hl]) (by simp -dsimp only [go_sem, ho])) (by simp -dsimp only [go_sem]) (by simp -dsimp only [go_sem]) ?_
    simp -dsimp only [go_sem]
    refine fin_one (by simp -dsimp only [go_sem]) ?_ ?_ <;> simp -dsimp only [go_sem, rdCE]
theorem s_l1Draw_step {d : Nat} (ih : DrOk d) : DrOk (d + 1) := by
  intro b p g hb hp
  have hpw : 2 ^ (d + 1) = 2 * 2 ^ d := by rw [Nat.pow_succ]; omega
  have hpp : 1 ≤ 2 ^ d := Nat.one_le_pow _ _ (by decide)
  have hd0 : ¬ ((d + 1 : Nat) : Int) = 0 := by omega
  have hd1 : d ≤ 9223372036854775807 := by have := Nat.lt_two_pow_self (n := d); omega
  obtain ⟨v1, hv1, hG1⟩ := s_rpick b p 3 hb (by omega)
  have hv1 := hv1 (by decide)
  rw [show ((3 : Nat) : Int) = 3 from rfl] at hG1
  by_cases h0 : v1 = 0
  · subst h0
    obtain ⟨t, ht, htl, hG⟩ := s_leaf b (p + 1) g hb (by omega)
    refine ⟨t, p + 1 + 1, ht, by omega, by omega, by omega, fun l h hl ho => ?_⟩
    refine good [] [] Tryz.func163 rfl rfl Tryz.ntmps163 (by kernel_rfl) mixed (by kernel_rfl) ?_
    cases g with
    | true =>
      simp only [if_true] at hG
      simp -dsimp only [go_sem, hd0]
      refine call_one (hG1 l _ (by simp -dsimp only [go_sem, hl]) (by simp -dsimp only [go_sem, ho])) (by simp -dsimp only [go_sem]) (by simp -dsimp only [go_sem]) ?_
      simp -dsimp only [go_sem, hd0]
      refine call_one (hG l _ (by simp -dsimp only [go_sem, hl]) (by simp -dsimp only [go_sem, ho])) (by simp -dsimp only [go_sem]) (by simp -dsimp only [go_sem]) ?_
      simp -dsimp only [go_sem]
      refine fin_one (by simp -dsimp only [go_sem]) ?_ ?_ <;> simp -dsimp only [go_sem, rdCE]
    | false =>
      simp only [Bool.false_eq_true, if_false] at hG
      simp -dsimp only [go_sem, hd0]
      refine call_one (hG1 l _ (by simp -dsimp only [go_sem, hl]) (by simp -dsimp only [go_sem, ho])) (by simp -dsimp only [go_sem]) (by simp -dsimp only [go_sem]) ?_
      simp -dsimp only [go_sem, hd0]
      refine call_one (hG l _ (by simp -dsimp only [go_sem, hl]) (by simp -dsimp only [go_sem, ho])) (by simp -dsimp only [go_sem]) (by simp -dsimp only [go_sem]) ?_
      simp -dsimp only [go_sem]
      refine fin_one (by simp -dsimp only [go_sem]) ?_ ?_ <;> simp -dsimp only [go_sem, rdCE]
  · have h0' : ¬ ((v1 : Nat) : Int) = 0 := by omega
    obtain ⟨v2, hv2, hG2⟩ := s_rpick b (p + 1) 4 hb (by omega)
    have hv2 := hv2 (by decide)
    rw [show ((4 : Nat) : Int) = 4 from rfl] at hG2
    obtain ⟨t1, q1, w1, l1, g1, e1, hD1⟩ := ih b (p + 1 + 1) g hb (by omega)
    by_cases h20 : v2 = 0
    · subst h20
      obtain ⟨t2, q2, w2, l2, g2, e2, hD2⟩ := ih b q1 g hb (by omega)
      have a1 : 1 + 1 + t1.text.length ≤ 9223372036854775807 := by omega
      have a2 : t1.text.length + 1 + 1 + 1 ≤ 9223372036854775807 := by omega
      refine ⟨.bin 112 t1 t2, q2, ⟨by decide, w1, w2⟩, by simp [Ty.text]; omega, by omega, by omega, fun l h hl ho => ?_⟩
      refine good [] [] Tryz.func163 rfl rfl Tryz.ntmps163 (by kernel_rfl) mixed (by kernel_rfl) ?_
      simp -dsimp only [go_sem, hd0]
      refine call_one (hG1 l _ (by simp -dsimp only [go_sem, hl]) (by simp -dsimp only [go_sem, ho])) (by simp -dsimp only [go_sem]) (by simp -dsimp only [go_sem]) ?_
      simp -dsimp only [go_sem, hd0, h0']
      refine call_one (hG2 l _ (by simp -dsimp only [go_sem, hl]) (by simp -dsimp only [go_sem, ho])) (by simp -dsimp only [go_sem]) (by simp -dsimp only [go_sem]) ?_
      simp -dsimp only [go_sem, hd1]
      refine call_one (hD1 l _ (by simp -dsimp only [go_sem, hl]) (by simp -dsimp only [go_sem, ho])) (by simp -dsimp only [go_sem]) (by simp -dsimp only [go_sem]) ?_
      have b1 : ([112, 40] : L8).length + t1.text.length ≤ 9223372036854775807 := by simp; omega
      simp -dsimp only [go_sem, hd1, List.length_append, List.length_cons, List.length_nil, a1, a2]
      have c2 : 0 + 1 + 1 + t1.text.length ≤ 9223372036854775807 := by omega
      refine call_one (hD2 l _ (by simp -dsimp only [go_sem, hl]) (by simp -dsimp only [go_sem, ho])) (by simp -dsimp only [go_sem]) (by simp -dsimp only [go_sem]) ?_
      have a3 : t1.text.length + 1 + 1 + 1 + t2.text.length ≤ 9223372036854775807 := by omega
      have a4 : t1.text.length + 1 + 1 + (t2.text.length + 1) ≤ 9223372036854775807 := by omega
      have a5 : t1.text.length + 1 + t2.text.length + 1 + 1 + 1 ≤ 9223372036854775807 := by omega
      simp -dsimp only [go_sem, List.length_append, List.length_cons, List.length_nil, a1, a2, a3, a4, a5]
      refine fin_one (by simp -dsimp only [go_sem]) ?_ ?_
      · simp -dsimp only [go_sem, Ty.text]
        simp
      · simp -dsimp only [go_sem, rdCE]
    · have h20' : ¬ ((v2 : Nat) : Int) = 0 := by omega
      have a1 : 1 + 1 + t1.text.length ≤ 9223372036854775807 := by omega
      have a2 : t1.text.length + 1 + 1 + 1 ≤ 9223372036854775807 := by omega
      by_cases h21 : v2 = 1
      · subst h21
        refine ⟨.un 109 t1, q1, ⟨by decide, w1⟩, by simp [Ty.text]; omega, by omega, by omega, fun l h hl ho => ?_⟩
        refine good [] [] Tryz.func163 rfl rfl Tryz.ntmps163 (by kernel_rfl) mixed (by kernel_rfl) ?_
        simp -dsimp only [go_sem, hd0]
        refine call_one (hG1 l _ (by simp -dsimp only [go_sem, hl]) (by simp -dsimp only [go_sem, ho])) (by simp -dsimp only [go_sem]) (by simp -dsimp only [go_sem]) ?_
        simp -dsimp only [go_sem, hd0, h0']
        refine call_one (hG2 l _ (by simp -dsimp only [go_sem, hl]) (by simp -dsimp only [go_sem, ho])) (by simp -dsimp only [go_sem]) (by simp -dsimp only [go_sem]) ?_
        simp -dsimp only [go_sem, hd1]
        refine call_one (hD1 l _ (by simp -dsimp only [go_sem, hl]) (by simp -dsimp only [go_sem, ho])) (by simp -dsimp only [go_sem]) (by simp -dsimp only [go_sem]) ?_
        simp -dsimp only [go_sem, List.length_append, List.length_cons, List.length_nil, a1, a2]
        refine fin_one (by simp -dsimp only [go_sem]) ?_ ?_
        · simp -dsimp only [go_sem, Ty.text]
        · simp -dsimp only [go_sem, rdCE]
      · have h21' : ¬ ((v2 : Nat) : Int) = 1 := by omega
        refine ⟨.un 108 t1, q1, ⟨by decide, w1⟩, by simp [Ty.text]; omega, by omega, by omega, fun l h hl ho => ?_⟩
        refine good [] [] Tryz.func163 rfl rfl Tryz.ntmps163 (by kernel_rfl) mixed (by kernel_rfl) ?_
        simp -dsimp only [go_sem, hd0]
        refine call_one (hG1 l _ (by simp -dsimp only [go_sem, hl]) (by simp -dsimp only [go_sem, ho])) (by simp -dsimp only [go_sem]) (by simp -dsimp only [go_sem]) ?_
        simp -dsimp only [go_sem, hd0, h0']
        refine call_one (hG2 l _ (by simp -dsimp only [go_sem, hl]) (by simp -dsimp only [go_sem, ho])) (by simp -dsimp only [go_sem]) (by simp -dsimp only [go_sem]) ?_
        simp -dsimp only [go_sem, hd1, h20', h21']
        refine call_one (hD1 l _ (by simp -dsimp only [go_sem, hl]) (by simp -dsimp only [go_sem, ho])) (by simp -dsimp only [go_sem]) (by simp -dsimp only [go_sem]) ?_
        simp -dsimp only [go_sem, List.length_append, List.length_cons, List.length_nil, a1, a2]
        refine fin_one (by simp -dsimp only [go_sem]) ?_ ?_
        · simp -dsimp only [go_sem, Ty.text]
        · simp -dsimp only [go_sem, rdCE]
theorem s_l1Draw : ∀ d, DrOk d
  | 0 => s_l1Draw_0
  | d + 1 => s_l1Draw_step (s_l1Draw d)
/-- a text that is mostly a type -/
theorem s_l1Any (b : L8) (p : Nat) (hb : b.length ≤ 2000) (hp : p + 100 ≤ 1000000000) : ∃ (t : L8) (q : Nat), t.length ≤ 60 ∧ p ≤ q ∧ q ≤ p + 100 ∧ ∀ (l : Nat) (h : AH), l < h.n → h.o l = .cells (rdCE b p) →
    Isea.Good Tryz.prog 208 [.ptr l 0] h [l] (str t) (h.set l (.cells (rdCE b q))) := by
  obtain ⟨v1, hv1, hG1⟩ := s_rpick b p 4 hb (by omega)
  have hv1 := hv1 (by decide)
  rw [show ((4 : Nat) : Int) = 4 from rfl] at hG1
  obtain ⟨v2, hv2, hG2⟩ := s_rpick b (p + 1) 2 hb (by omega)
  have hv2 := hv2 (by decide)
  rw [show ((2 : Nat) : Int) = 2 from rfl] at hG2
  have hpw : 2 ^ v1 ≤ 8 := by
    have : v1 = 0 ∨ v1 = 1 ∨ v1 = 2 ∨ v1 = 3 := by omega
    rcases this with rfl | rfl | rfl | rfl <;> decide
  obtain ⟨t1, q1, w1, l1, g1, e1, hD⟩ := s_l1Draw v1 b (p + 1 + 1) (decide (((v2 : Nat) : Int) = 0)) hb (by omega)
  have htp := t1.text_pos
  obtain ⟨v3, hv3, hG3⟩ := s_rpick b q1 16 hb (by omega)
  rw [show ((16 : Nat) : Int) = 16 from rfl] at hG3
  by_cases h3 : 0 < v3
  · have h3' : (0 : Int) < ((v3 : Nat) : Int) := by omega
    refine ⟨t1.text, q1 + 1, by omega, by omega, by omega, fun l h hl ho => ?_⟩
    refine good [] [(5, OT.o 0 (OT.o 1 (OT.o 2 (OT.o 3 (OT.o 7 (OT.o 8 (OT.o 9 (OT.o 4 (OT.o 5 (OT.o 6 (OT.o 10 (OT.o 11 (OT.o 12 (OT.o 13 (OT.o 14 OT.e)))))))))))))))] Tryz.func208 rfl rfl Tryz.ntmps208 (by kernel_rfl) mixed (by kernel_rfl) ?_
    simp -dsimp only [go_sem]
    refine call_one (hG1 l _ (by simp -dsimp only [go_sem, hl]) (by simp -dsimp only [go_sem, ho])) (by simp -dsimp only [go_sem]) (by simp -dsimp only [go_sem]) ?_
    simp -dsimp only [go_sem]
    refine call_one (hG2 l _ (by simp -dsimp only [go_sem, hl]) (by simp -dsimp only [go_sem, ho])) (by simp -dsimp only [go_sem]) (by simp -dsimp only [go_sem]) ?_
    simp -dsimp only [go_sem]
    refine call_one (hD l _ (by simp -dsimp only [go_sem, hl]) (by simp -dsimp only [go_sem, ho])) (by simp -dsimp only [go_sem]) (by simp -dsimp only [go_sem]) ?_
    simp -dsimp only [go_sem]
    refine call_one (hG3 l _ (by simp -dsimp only [go_sem, hl]) (by simp -dsimp only [go_sem, ho])) (by simp -dsimp only [go_sem]) (by simp -dsimp only [go_sem]) ?_
    simp -dsimp only [go_sem, h3']
    refine fin_one (by simp -dsimp only [go_sem]) ?_ ?_ <;> simp -dsimp only [go_sem, rdCE]
  · have h3' : ¬ (0 : Int) < ((v3 : Nat) : Int) := by omega
    obtain ⟨k, hk, hG4⟩ := s_rpick b (q1 + 1) t1.text.length hb (by omega)
    have hk := hk htp
    obtain ⟨x, hx, hG5⟩ := s_of b (q1 + 1 + 1) [[], [40], [41], [44], [105], [113], [88]] hb (by omega) (by decide)
    have hxl : x.length ≤ 1 := by
      simp at hx
      rcases hx with rfl | rfl | rfl | rfl | rfl | rfl | rfl <;> simp
    simp only [List.map_cons, List.map_nil, sRow] at hG5
    obtain ⟨v6, hv6, hG6⟩ := s_rpick b (q1 + 1 + 1 + 1) 2 hb (by omega)
    have hv6 := hv6 (by decide)
    rw [show ((2 : Nat) : Int) = 2 from rfl] at hG6
    have hkl : k ≤ t1.text.length := by omega
    have hkv : k + v6 ≤ 9223372036854775807 := by omega
    have hkv2 : k + v6 ≤ t1.text.length := by omega
    have htl : (t1.text.take k).length + x.length ≤ 9223372036854775807 := by rw [List.length_take]; omega
    have htl2 : (t1.text.take k).length + x.length + (t1.text.drop (k + v6)).length ≤ 9223372036854775807 := by rw [List.length_take, List.length_drop]; omega
    have htd : (t1.text.drop (k + v6)).take (t1.text.length - (k + v6)) = t1.text.drop (k + v6) := List.take_of_length_le (by rw [List.length_drop]; omega)
    refine ⟨t1.text.take k ++ x ++ t1.text.drop (k + v6), q1 + 1 + 1 + 1 + 1, by simp; omega, by omega, by omega, fun l h hl ho => ?_⟩
    have n0 : ¬ l = h.n := by omega
    refine good [] [(5, OT.o 0 (OT.o 1 (OT.o 2 (OT.o 3 (OT.o 7 (OT.o 8 (OT.o 9 (OT.o 4 (OT.o 5 (OT.o 6 (OT.o 10 (OT.o 11 (OT.o 12 (OT.o 13 (OT.o 14 OT.e)))))))))))))))] Tryz.func208 rfl rfl Tryz.ntmps208 (by kernel_rfl) mixed (by kernel_rfl) ?_
    simp -dsimp only [go_sem]
    refine call_one (hG1 l _ (by simp -dsimp only [go_sem, hl]) (by simp -dsimp only [go_sem, ho])) (by simp -dsimp only [go_sem]) (by simp -dsimp only [go_sem]) ?_
    simp -dsimp only [go_sem]
    refine call_one (hG2 l _ (by simp -dsimp only [go_sem, hl]) (by simp -dsimp only [go_sem, ho])) (by simp -dsimp only [go_sem]) (by simp -dsimp only [go_sem]) ?_
    simp -dsimp only [go_sem]
    refine call_one (hD l _ (by simp -dsimp only [go_sem, hl]) (by simp -dsimp only [go_sem, ho])) (by simp -dsimp only [go_sem]) (by simp -dsimp only [go_sem]) ?_
    simp -dsimp only [go_sem]
    refine call_one (hG3 l _ (by simp -dsimp only [go_sem, hl]) (by simp -dsimp only [go_sem, ho])) (by simp -dsimp only [go_sem]) (by simp -dsimp only [go_sem]) ?_
    simp -dsimp only [go_sem, h3']
    refine call_one (hG4 l _ (by simp -dsimp only [go_sem, hl]) (by simp -dsimp only [go_sem, ho])) (by simp -dsimp only [go_sem]) (by simp -dsimp only [go_sem]) ?_
    simp -dsimp only [go_sem, hkl]
    refine call_one (hG5 l _ (by simp -dsimp only [go_sem, hl]) (by simp -dsimp only [go_sem, ho])) (by simp -dsimp only [go_sem]) (by simp -dsimp only [go_sem]) ?_
    simp -dsimp only [go_sem, hkl, htl]
    refine call_one (hG6 l _ (by simp -dsimp only [go_sem, hl]) (by simp -dsimp only [go_sem, ho])) (by simp -dsimp only [go_sem]) (by simp -dsimp only [go_sem]) ?_
    simp -dsimp only [go_sem, hkl, hkv, hkv2, htl, htl2, htd]
    refine fin_one (by simp -dsimp only [go_sem]) ?_ ?_ <;> simp -dsimp only [go_sem, rdCE]
end Go.Proofs.YtnocdggngfiebaaGreatDoor
