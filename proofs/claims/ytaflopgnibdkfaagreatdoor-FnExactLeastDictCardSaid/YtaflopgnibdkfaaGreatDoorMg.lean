/- Contracts of functions of this program, for all arguments that satisfy what each lemma asks for. -/
import Derived.Test.YtaflopgnibdkfaaGreatDoorMf
import Derived.Test.YtaflopgnibdkfaaGreatDoorMd
import Derived.ProofKit
import Derived.Deep.Slices
set_option linter.all false
namespace Go.Proofs.YtaflopgnibdkfaaGreatDoor
open Go Go.Isea
set_option maxRecDepth 100000
set_option maxHeartbeats 8000000
def aCells (w : Wld) (gs : List Need) (ta a : Nat) : List AV := [.sl (w.cs.map Cls.row), .sl (w.is.map Inst.row), .v (.bool false), .fn 283 [.ref w.row 0, .ref [.sl (gs.map Need.row)] 0], .so ta a a, .junk, .junk, .junk]
end Go.Proofs.YtaflopgnibdkfaaGreatDoor

namespace Go.Isea
open Go
theorem opt_cases {α : Type} (o : Option α) : o = none ∨ ∃ a, o = some a := by
  cases o with
  | none => exact .inl rfl
  | some a => exact .inr ⟨a, rfl⟩
end Go.Isea
namespace Go.Proofs.YtaflopgnibdkfaaGreatDoor
open Go Go.Isea
set_option maxRecDepth 100000
set_option maxHeartbeats 16000000
def AskOk (w : Wld) (gs : List Need) (f : Nat) : Prop := ∀ (l ta : Nat) (n : Need) (a : Nat) (st : List Need) (h : AH), l < h.n → ta < h.n → ¬ l = ta → h.o l = .cells (aCells w gs ta a) → h.o ta = .rows 38 2 (aRows a) → NOk w n → a ≤ 300 → f ≤ 31 → st.length = 31 - f →
    Isea.Good Tryz.prog 146 [.ptr l 0, .agg n.row, stA st] h [l, ta] (.tup [str (askS w gs f n a).1, str (askS w gs f n a).2.2])
      ⟨h.n, upd (upd h.o l (.cells (aCells w gs ta (askS w gs f n a).2.1))) ta (.rows 38 2 (aRows (askS w gs f n a).2.1))⟩
end Go.Proofs.YtaflopgnibdkfaaGreatDoor

namespace Go.Proofs.YtaflopgnibdkfaaGreatDoor
open Go Go.Isea
set_option maxRecDepth 100000
set_option maxHeartbeats 8000000
def bCells (w : Wld) (gs : List Need) : List AV := [.sl (w.cs.map Cls.row), .sl (w.is.map Inst.row), .v (.bool false), .fn 283 [.ref w.row 0, .ref [.sl (gs.map Need.row)] 0], .v (.slice none 0 0), str [], str [], .v (.slice none 0 0)]
end Go.Proofs.YtaflopgnibdkfaaGreatDoor

namespace Go.Isea
open Go
/-- as long as a length may be -/
def Need.Mx (n : Need) : Prop := n.c.length ≤ 9223372036854775807 ∧ n.t.length ≤ 9223372036854775807
def Cls.Mx (n : Cls) : Prop := n.n.length ≤ 9223372036854775807 ∧ n.s.length ≤ 9223372036854775807
def Inst.Mx (i : Inst) : Prop := i.c.length ≤ 9223372036854775807 ∧ i.t.length ≤ 9223372036854775807 ∧ i.ns.length ≤ 9223372036854775807 ∧ ∀ n ∈ i.ns, n.Mx
structure Wld.Mx (w : Wld) : Prop where
  cl : w.cs.length ≤ 9223372036854775807
  c : ∀ c ∈ w.cs, c.Mx
  il : w.is.length ≤ 9223372036854775807
  i : ∀ i ∈ w.is, i.Mx
def cutN (L s : Nat) : Int := if s ≤ L then ((L - s : Nat) : Int) else -1
theorem wrap_sub_le {L s : Nat} (h : s ≤ L) (hL : L ≤ 1048576) : IntKind.i64.wrap ((L : Int) - (s : Int)) = ((L - s : Nat) : Int) := by rw [wrap_i64] <;> omega
theorem wrap_sub_gt {L s : Nat} (h : ¬ s ≤ L) (hL : L ≤ 1048576) (hs : s ≤ 9223372036854775807) : IntKind.i64.wrap ((L : Int) - (s : Int)) = (L : Int) - (s : Int) := by rw [wrap_i64] <;> omega
def Need.sz (n : Need) : Nat := n.c.length + n.t.length
def Cls.sz (n : Cls) : Nat := n.n.length + n.s.length
def szL {α : Type} (f : α → Nat) : List α → Nat
  | [] => 0
  | a :: l => f a + szL f l
def szS {α : Type} (f : α → Nat) (l : List α) : Nat := l.length + szL f l
def Inst.sz (i : Inst) : Nat := i.c.length + i.t.length + szS Need.sz i.ns
def Wld.sz (w : Wld) : Nat := szS Cls.sz w.cs + szS Inst.sz w.is
theorem cutN_yes {L s : Nat} (h : s ≤ L) : cutN L s = ((L - s : Nat) : Int) := if_pos h
theorem cutN_no {L s : Nat} (h : ¬ s ≤ L) : cutN L s = -1 := if_neg h
theorem szL_drop {α : Type} (f : α → Nat) {l : List α} {k : Nat} {a : α} (h : l[k]? = some a) : szL f (l.drop k) = f a + szL f (l.drop (k + 1)) := by
  rw [drop_get h]; rfl
end Go.Isea
namespace Go.Proofs.YtaflopgnibdkfaaGreatDoor
open Go Go.Isea
set_option maxRecDepth 100000
set_option maxHeartbeats 8000000
theorem w_szNeed (n : Need) (L : Nat) (h : AH) (hL : L ≤ 1048576) (hn : n.Mx) : Isea.Good Tryz.prog 12 [.agg n.row, .v (.int .i64 (L : Nat))] h [] (.v (.int .i64 (cutN L n.sz))) h := by
  have hn1 := hn.1
  have hn2 := hn.2
  refine good [] [] Tryz.func12 rfl rfl Tryz.ntmps12 (by kernel_rfl) mixed (by kernel_rfl) ?_
  by_cases h1 : n.c.length ≤ L
  · have w1 := wrap_sub_le h1 hL
    by_cases h2 : n.t.length ≤ L - n.c.length
    · have w2 := wrap_sub_le h2 (by omega)
      have e : cutN L n.sz = ((L - n.c.length - n.t.length : Nat) : Int) := by rw [cutN_yes (by unfold Need.sz; omega)]; unfold Need.sz; omega
      rw [e]
      have g1 : ¬ ((L - n.c.length : Nat) : Int) < 0 := by omega
      have g2 : ¬ ((L - n.c.length - n.t.length : Nat) : Int) < 0 := by omega
      simp -dsimp only [go_sem, Need.row, w1, w2, g1, g2]
      exact fin_int (by simp -dsimp only [go_sem]) rfl
    · have w2 := wrap_sub_gt h2 (by omega) hn2
      have g1 : ¬ ((L - n.c.length : Nat) : Int) < 0 := by omega
      have g2 : ((L - n.c.length : Nat) : Int) - (n.t.length : Nat) < 0 := by omega
      rw [cutN_no (by unfold Need.sz; omega)]
      simp -dsimp only [go_sem, Need.row, w1, w2, g1, g2]
      exact fin_int (by simp -dsimp only [go_sem]) rfl
  · have w1 := wrap_sub_gt h1 hL hn1
    have g1 : ((L : Nat) : Int) - (n.c.length : Nat) < 0 := by omega
    rw [cutN_no (by unfold Need.sz; omega)]
    simp -dsimp only [go_sem, Need.row, w1, g1]
    exact fin_int (by simp -dsimp only [go_sem]) rfl
theorem w_szClass (n : Cls) (L : Nat) (h : AH) (hL : L ≤ 1048576) (hn : n.Mx) : Isea.Good Tryz.prog 105 [.agg n.row, .v (.int .i64 (L : Nat))] h [] (.v (.int .i64 (cutN L n.sz))) h := by
  have hn1 := hn.1
  have hn2 := hn.2
  refine good [] [] Tryz.func105 rfl rfl Tryz.ntmps105 (by kernel_rfl) mixed (by kernel_rfl) ?_
  by_cases h1 : n.n.length ≤ L
  · have w1 := wrap_sub_le h1 hL
    by_cases h2 : n.s.length ≤ L - n.n.length
    · have w2 := wrap_sub_le h2 (by omega)
      have e : cutN L n.sz = ((L - n.n.length - n.s.length : Nat) : Int) := by rw [cutN_yes (by unfold Cls.sz; omega)]; unfold Cls.sz; omega
      rw [e]
      have g1 : ¬ ((L - n.n.length : Nat) : Int) < 0 := by omega
      have g2 : ¬ ((L - n.n.length - n.s.length : Nat) : Int) < 0 := by omega
      simp -dsimp only [go_sem, Cls.row, w1, w2, g1, g2]
      exact fin_int (by simp -dsimp only [go_sem]) rfl
    · have w2 := wrap_sub_gt h2 (by omega) hn2
      have g1 : ¬ ((L - n.n.length : Nat) : Int) < 0 := by omega
      have g2 : ((L - n.n.length : Nat) : Int) - (n.s.length : Nat) < 0 := by omega
      rw [cutN_no (by unfold Cls.sz; omega)]
      simp -dsimp only [go_sem, Cls.row, w1, w2, g1, g2]
      exact fin_int (by simp -dsimp only [go_sem]) rfl
  · have w1 := wrap_sub_gt h1 hL hn1
    have g1 : ((L : Nat) : Int) - (n.n.length : Nat) < 0 := by omega
    rw [cutN_no (by unfold Cls.sz; omega)]
    simp -dsimp only [go_sem, Cls.row, w1, g1]
    exact fin_int (by simp -dsimp only [go_sem]) rfl
theorem w_szNeedS (l : List Need) (L : Nat) (h : AH) (hL : L ≤ 1048576) (hl : l.length ≤ 9223372036854775807) (hn : ∀ n ∈ l, n.Mx) : Isea.Good Tryz.prog 162 [.sl (l.map Need.row), .v (.int .i64 (L : Nat))] h [] (.v (.int .i64 (cutN L (szS Need.sz l)))) h := by
  refine good [] [] Tryz.func162 rfl rfl Tryz.ntmps162 (by kernel_rfl) mixed (by kernel_rfl) ?_
  by_cases h1 : l.length ≤ L
  · have w1 := wrap_sub_le h1 hL
    have g1 : ¬ ((L - l.length : Nat) : Int) < 0 := by omega
    simp -dsimp only [go_sem, w1, g1]
    refine loop_ruleH [0] (fun (x : {x : Nat × Nat // x.1 ≤ l.length ∧ x.2 ≤ 1048576 ∧ ∀ s, s = szL Need.sz (l.drop x.1) → cutN L (szS Need.sz l) = cutN x.2 s}) H => ([(1, .v (.int .i64 (x.1.2 : Nat))), (5, .v (.int .i64 (x.1.1 : Nat)))], H)) (fun x => l.length - x.1.1) ⟨(0, L - l.length), Nat.zero_le _, by show L - l.length ≤ _; omega, fun s hs => ?_⟩ ?_ ?_
    · have hs : s = szL Need.sz l := hs
      subst hs
      unfold cutN szS
      by_cases g : l.length + szL Need.sz l ≤ L
      · rw [if_pos g, if_pos (show szL Need.sz l ≤ L - l.length by omega)]; omega
      · rw [if_neg g, if_neg (show ¬ szL Need.sz l ≤ L - l.length by omega)]
    · exact weak_at rfl (by simp -dsimp only [go_sem]) (fun x hx => by simp -dsimp only [go_sem, hx]) (by simp -dsimp only [go_sem])
    · rintro ⟨⟨k, M⟩, hk, hM, hinv⟩
      have hk : k ≤ l.length := hk
      have hM : M ≤ 1048576 := hM
      have hinv : ∀ s, s = szL Need.sz (l.drop k) → cutN L (szS Need.sz l) = cutN M s := hinv
      have hk1 : k + 1 ≤ 9223372036854775807 := by omega
      by_cases hlt : k < l.length
      · obtain ⟨n, hb⟩ := get_some hlt
        have hns := hn n (List.mem_of_getElem? hb)
        have hstep := hinv _ rfl
        rw [szL_drop Need.sz hb] at hstep
        have hg := w_szNeed n M
        simp -dsimp only [go_sem, hlt, hb, Need.row] at hg ⊢
        refine call_pure (hg _ hM hns) ?_
        by_cases g : n.sz ≤ M
        · rw [cutN_yes g]
          have g0 : ¬ ((M - n.sz : Nat) : Int) < 0 := by omega
          simp -dsimp only [go_sem, g0, hk1]
          refine round_to ⟨(k + 1, M - n.sz), hlt, by show M - n.sz ≤ _; omega, fun s hs => ?_⟩ (by simp; omega) (weak_at rfl (by simp -dsimp only [go_sem]) (fun x hx => by simp -dsimp only [go_sem, hx]) (by simp -dsimp only [go_sem]))
          have hs : s = szL Need.sz (l.drop (k + 1)) := hs
          subst hs
          rw [hstep]
          show cutN M _ = cutN (M - n.sz) _
          unfold cutN
          by_cases g3 : n.sz + szL Need.sz (l.drop (k + 1)) ≤ M
          · rw [if_pos g3, if_pos (show szL Need.sz (l.drop (k + 1)) ≤ M - n.sz by omega)]; omega
          · rw [if_neg g3, if_neg (show ¬ szL Need.sz (l.drop (k + 1)) ≤ M - n.sz by omega)]
        · rw [cutN_no g]
          have e3 : cutN M (n.sz + szL Need.sz (l.drop (k + 1))) = -1 := cutN_no (by omega)
          rw [e3] at hstep
          simp -dsimp only [go_sem]
          exact fin_int (by simp -dsimp only [go_sem]) hstep.symm
      · have e : szL Need.sz (l.drop k) = 0 := by rw [List.drop_of_length_le (by omega)]; rfl
        have e1 := hinv 0 e.symm
        rw [cutN_yes (Nat.zero_le _), Nat.sub_zero] at e1
        simp -dsimp only [go_sem, hlt]
        exact fin_int (by simp -dsimp only [go_sem]) e1.symm
  · have w1 := wrap_sub_gt h1 hL hl
    have g1 : ((L : Nat) : Int) - (l.length : Nat) < 0 := by omega
    rw [cutN_no (by unfold szS; omega)]
    simp -dsimp only [go_sem, w1, g1]
    exact fin_int (by simp -dsimp only [go_sem]) rfl
theorem w_szClassS (l : List Cls) (L : Nat) (h : AH) (hL : L ≤ 1048576) (hl : l.length ≤ 9223372036854775807) (hn : ∀ n ∈ l, n.Mx) : Isea.Good Tryz.prog 58 [.sl (l.map Cls.row), .v (.int .i64 (L : Nat))] h [] (.v (.int .i64 (cutN L (szS Cls.sz l)))) h := by
  refine good [] [] Tryz.func58 rfl rfl Tryz.ntmps58 (by kernel_rfl) mixed (by kernel_rfl) ?_
  by_cases h1 : l.length ≤ L
  · have w1 := wrap_sub_le h1 hL
    have g1 : ¬ ((L - l.length : Nat) : Int) < 0 := by omega
    simp -dsimp only [go_sem, w1, g1]
    refine loop_ruleH [0] (fun (x : {x : Nat × Nat // x.1 ≤ l.length ∧ x.2 ≤ 1048576 ∧ ∀ s, s = szL Cls.sz (l.drop x.1) → cutN L (szS Cls.sz l) = cutN x.2 s}) H => ([(1, .v (.int .i64 (x.1.2 : Nat))), (5, .v (.int .i64 (x.1.1 : Nat)))], H)) (fun x => l.length - x.1.1) ⟨(0, L - l.length), Nat.zero_le _, by show L - l.length ≤ _; omega, fun s hs => ?_⟩ ?_ ?_
    · have hs : s = szL Cls.sz l := hs
      subst hs
      unfold cutN szS
      by_cases g : l.length + szL Cls.sz l ≤ L
      · rw [if_pos g, if_pos (show szL Cls.sz l ≤ L - l.length by omega)]; omega
      · rw [if_neg g, if_neg (show ¬ szL Cls.sz l ≤ L - l.length by omega)]
    · exact weak_at rfl (by simp -dsimp only [go_sem]) (fun x hx => by simp -dsimp only [go_sem, hx]) (by simp -dsimp only [go_sem])
    · rintro ⟨⟨k, M⟩, hk, hM, hinv⟩
      have hk : k ≤ l.length := hk
      have hM : M ≤ 1048576 := hM
      have hinv : ∀ s, s = szL Cls.sz (l.drop k) → cutN L (szS Cls.sz l) = cutN M s := hinv
      have hk1 : k + 1 ≤ 9223372036854775807 := by omega
      by_cases hlt : k < l.length
      · obtain ⟨n, hb⟩ := get_some hlt
        have hns := hn n (List.mem_of_getElem? hb)
        have hstep := hinv _ rfl
        rw [szL_drop Cls.sz hb] at hstep
        have hg := w_szClass n M
        simp -dsimp only [go_sem, hlt, hb, Cls.row] at hg ⊢
        refine call_pure (hg _ hM hns) ?_
        by_cases g : n.sz ≤ M
        · rw [cutN_yes g]
          have g0 : ¬ ((M - n.sz : Nat) : Int) < 0 := by omega
          simp -dsimp only [go_sem, g0, hk1]
          refine round_to ⟨(k + 1, M - n.sz), hlt, by show M - n.sz ≤ _; omega, fun s hs => ?_⟩ (by simp; omega) (weak_at rfl (by simp -dsimp only [go_sem]) (fun x hx => by simp -dsimp only [go_sem, hx]) (by simp -dsimp only [go_sem]))
          have hs : s = szL Cls.sz (l.drop (k + 1)) := hs
          subst hs
          rw [hstep]
          show cutN M _ = cutN (M - n.sz) _
          unfold cutN
          by_cases g3 : n.sz + szL Cls.sz (l.drop (k + 1)) ≤ M
          · rw [if_pos g3, if_pos (show szL Cls.sz (l.drop (k + 1)) ≤ M - n.sz by omega)]; omega
          · rw [if_neg g3, if_neg (show ¬ szL Cls.sz (l.drop (k + 1)) ≤ M - n.sz by omega)]
        · rw [cutN_no g]
          have e3 : cutN M (n.sz + szL Cls.sz (l.drop (k + 1))) = -1 := cutN_no (by omega)
          rw [e3] at hstep
          simp -dsimp only [go_sem]
          exact fin_int (by simp -dsimp only [go_sem]) hstep.symm
      · have e : szL Cls.sz (l.drop k) = 0 := by rw [List.drop_of_length_le (by omega)]; rfl
        have e1 := hinv 0 e.symm
        rw [cutN_yes (Nat.zero_le _), Nat.sub_zero] at e1
        simp -dsimp only [go_sem, hlt]
        exact fin_int (by simp -dsimp only [go_sem]) e1.symm
  · have w1 := wrap_sub_gt h1 hL hl
    have g1 : ((L : Nat) : Int) - (l.length : Nat) < 0 := by omega
    rw [cutN_no (by unfold szS; omega)]
    simp -dsimp only [go_sem, w1, g1]
    exact fin_int (by simp -dsimp only [go_sem]) rfl
theorem w_szInstance (n : Inst) (L : Nat) (h : AH) (hL : L ≤ 1048576) (hn : n.Mx) : Isea.Good Tryz.prog 106 [.agg n.row, .v (.int .i64 (L : Nat))] h [] (.v (.int .i64 (cutN L n.sz))) h := by
  have hg := w_szNeed ⟨n.c, n.t⟩ L
  have hs := w_szNeedS n.ns
  refine good [] [] Tryz.func106 rfl rfl Tryz.ntmps106 (by kernel_rfl) mixed (by kernel_rfl) ?_
  simp -dsimp only [go_sem, Inst.row, Need.row] at hg ⊢
  refine call_pure (hg _ hL ⟨hn.1, hn.2.1⟩) ?_
  by_cases h1 : (Need.mk n.c n.t).sz ≤ L
  · have h1' : n.c.length + n.t.length ≤ L := h1
    rw [cutN_yes h1]
    have g1 : ¬ ((L - (Need.mk n.c n.t).sz : Nat) : Int) < 0 := by omega
    simp -dsimp only [go_sem, g1]
    refine call_pure (hs (L - (Need.mk n.c n.t).sz) _ (by omega) hn.2.2.1 hn.2.2.2) ?_
    have e0 : (Need.mk n.c n.t).sz = n.c.length + n.t.length := rfl
    by_cases h2 : szS Need.sz n.ns ≤ L - (Need.mk n.c n.t).sz
    · rw [cutN_yes h2, cutN_yes (by unfold Inst.sz; omega)]
      have g2 : ¬ ((L - (Need.mk n.c n.t).sz - szS Need.sz n.ns : Nat) : Int) < 0 := by omega
      simp -dsimp only [go_sem, g2]
      exact fin_int (by simp -dsimp only [go_sem]) (by unfold Inst.sz; omega)
    · rw [cutN_no h2, cutN_no (by unfold Inst.sz; omega)]
      simp -dsimp only [go_sem]
      exact fin_int (by simp -dsimp only [go_sem]) rfl
  · have h1' : ¬ n.c.length + n.t.length ≤ L := h1
    rw [cutN_no h1, cutN_no (by unfold Inst.sz; omega)]
    simp -dsimp only [go_sem]
    exact fin_int (by simp -dsimp only [go_sem]) rfl
theorem w_szInstanceS (l : List Inst) (L : Nat) (h : AH) (hL : L ≤ 1048576) (hl : l.length ≤ 9223372036854775807) (hn : ∀ n ∈ l, n.Mx) : Isea.Good Tryz.prog 59 [.sl (l.map Inst.row), .v (.int .i64 (L : Nat))] h [] (.v (.int .i64 (cutN L (szS Inst.sz l)))) h := by
  refine good [] [] Tryz.func59 rfl rfl Tryz.ntmps59 (by kernel_rfl) mixed (by kernel_rfl) ?_
  by_cases h1 : l.length ≤ L
  · have w1 := wrap_sub_le h1 hL
    have g1 : ¬ ((L - l.length : Nat) : Int) < 0 := by omega
    simp -dsimp only [go_sem, w1, g1]
    refine loop_ruleH [0] (fun (x : {x : Nat × Nat // x.1 ≤ l.length ∧ x.2 ≤ 1048576 ∧ ∀ s, s = szL Inst.sz (l.drop x.1) → cutN L (szS Inst.sz l) = cutN x.2 s}) H => ([(1, .v (.int .i64 (x.1.2 : Nat))), (5, .v (.int .i64 (x.1.1 : Nat)))], H)) (fun x => l.length - x.1.1) ⟨(0, L - l.length), Nat.zero_le _, by show L - l.length ≤ _; omega, fun s hs => ?_⟩ ?_ ?_
    · have hs : s = szL Inst.sz l := hs
      subst hs
      unfold cutN szS
      by_cases g : l.length + szL Inst.sz l ≤ L
      · rw [if_pos g, if_pos (show szL Inst.sz l ≤ L - l.length by omega)]; omega
      · rw [if_neg g, if_neg (show ¬ szL Inst.sz l ≤ L - l.length by omega)]
    · exact weak_at rfl (by simp -dsimp only [go_sem]) (fun x hx => by simp -dsimp only [go_sem, hx]) (by simp -dsimp only [go_sem])
    · rintro ⟨⟨k, M⟩, hk, hM, hinv⟩
      have hk : k ≤ l.length := hk
      have hM : M ≤ 1048576 := hM
      have hinv : ∀ s, s = szL Inst.sz (l.drop k) → cutN L (szS Inst.sz l) = cutN M s := hinv
      have hk1 : k + 1 ≤ 9223372036854775807 := by omega
      by_cases hlt : k < l.length
      · obtain ⟨n, hb⟩ := get_some hlt
        have hns := hn n (List.mem_of_getElem? hb)
        have hstep := hinv _ rfl
        rw [szL_drop Inst.sz hb] at hstep
        have hg := w_szInstance n M
        simp -dsimp only [go_sem, hlt, hb, Inst.row] at hg ⊢
        refine call_pure (hg _ hM hns) ?_
        by_cases g : n.sz ≤ M
        · rw [cutN_yes g]
          have g0 : ¬ ((M - n.sz : Nat) : Int) < 0 := by omega
          simp -dsimp only [go_sem, g0, hk1]
          refine round_to ⟨(k + 1, M - n.sz), hlt, by show M - n.sz ≤ _; omega, fun s hs => ?_⟩ (by simp; omega) (weak_at rfl (by simp -dsimp only [go_sem]) (fun x hx => by simp -dsimp only [go_sem, hx]) (by simp -dsimp only [go_sem]))
          have hs : s = szL Inst.sz (l.drop (k + 1)) := hs
          subst hs
          rw [hstep]
          show cutN M _ = cutN (M - n.sz) _
          unfold cutN
          by_cases g3 : n.sz + szL Inst.sz (l.drop (k + 1)) ≤ M
          · rw [if_pos g3, if_pos (show szL Inst.sz (l.drop (k + 1)) ≤ M - n.sz by omega)]; omega
          · rw [if_neg g3, if_neg (show ¬ szL Inst.sz (l.drop (k + 1)) ≤ M - n.sz by omega)]
        · rw [cutN_no g]
          have e3 : cutN M (n.sz + szL Inst.sz (l.drop (k + 1))) = -1 := cutN_no (by omega)
          rw [e3] at hstep
          simp -dsimp only [go_sem]
          exact fin_int (by simp -dsimp only [go_sem]) hstep.symm
      · have e : szL Inst.sz (l.drop k) = 0 := by rw [List.drop_of_length_le (by omega)]; rfl
        have e1 := hinv 0 e.symm
        rw [cutN_yes (Nat.zero_le _), Nat.sub_zero] at e1
        simp -dsimp only [go_sem, hlt]
        exact fin_int (by simp -dsimp only [go_sem]) e1.symm
  · have w1 := wrap_sub_gt h1 hL hl
    have g1 : ((L : Nat) : Int) - (l.length : Nat) < 0 := by omega
    rw [cutN_no (by unfold szS; omega)]
    simp -dsimp only [go_sem, w1, g1]
    exact fin_int (by simp -dsimp only [go_sem]) rfl
theorem w_szWorld (w : Wld) (L : Nat) (h : AH) (hL : L ≤ 1048576) (hw : w.Mx) : Isea.Good Tryz.prog 11 [.agg w.row, .v (.int .i64 (L : Nat))] h [] (.v (.int .i64 (cutN L w.sz))) h := by
  have hg := w_szClassS w.cs L
  have hs := w_szInstanceS w.is
  refine good [] [] Tryz.func11 rfl rfl Tryz.ntmps11 (by kernel_rfl) mixed (by kernel_rfl) ?_
  simp -dsimp only [go_sem, Wld.row] at hg ⊢
  refine call_pure (hg _ hL hw.cl hw.c) ?_
  by_cases h1 : szS Cls.sz w.cs ≤ L
  · rw [cutN_yes h1]
    have g1 : ¬ ((L - szS Cls.sz w.cs : Nat) : Int) < 0 := by omega
    simp -dsimp only [go_sem, g1]
    refine call_pure (hs (L - szS Cls.sz w.cs) _ (by omega) hw.il hw.i) ?_
    by_cases h2 : szS Inst.sz w.is ≤ L - szS Cls.sz w.cs
    · rw [cutN_yes h2, cutN_yes (by unfold Wld.sz; omega)]
      have g2 : ¬ ((L - szS Cls.sz w.cs - szS Inst.sz w.is : Nat) : Int) < 0 := by omega
      simp -dsimp only [go_sem, g2]
      exact fin_int (by simp -dsimp only [go_sem]) (by unfold Wld.sz; omega)
    · rw [cutN_no h2, cutN_no (by unfold Wld.sz; omega)]
      simp -dsimp only [go_sem]
      exact fin_int (by simp -dsimp only [go_sem]) rfl
  · rw [cutN_no h1, cutN_no (by unfold Wld.sz; omega)]
    simp -dsimp only [go_sem]
    exact fin_int (by simp -dsimp only [go_sem]) rfl
end Go.Proofs.YtaflopgnibdkfaaGreatDoor

namespace Go.Isea
open Go
def Need.Ok (_ : Need) : Prop := True
def Cls.Ok (_ : Cls) : Prop := True
def Inst.Ok (i : Inst) : Prop := i.ns.length ≤ 1048576
def fillR {α : Type} (f : α → List AV) (sz : Nat) (l : List α) (k : Nat) : List (List AV) := (l.take k).map f ++ List.replicate (l.length - k) (List.replicate sz .junk)
theorem fillR_len {α : Type} {f : α → List AV} {sz : Nat} {l : List α} {k : Nat} (hk : k ≤ l.length) : (fillR f sz l k).length = l.length := by
  unfold fillR
  rw [List.length_append, List.length_map, List.length_take, List.length_replicate]
  omega
theorem fillR_get {α : Type} {f : α → List AV} {sz : Nat} {l : List α} {k : Nat} (hk : k < l.length) : (fillR f sz l k)[k]? = some (List.replicate sz .junk) := by
  unfold fillR
  have e : ((l.take k).map f).length = k := by rw [List.length_map, List.length_take]; omega
  rw [List.getElem?_append_right (by omega), e, Nat.sub_self, List.getElem?_replicate, if_pos (by omega)]
theorem fillR_set {α : Type} {f : α → List AV} {sz : Nat} {l : List α} {k : Nat} {a : α} (ha : l[k]? = some a) : (fillR f sz l k).set k (f a) = fillR f sz l (k + 1) := by
  obtain ⟨hk, e⟩ := List.getElem?_eq_some_iff.1 ha
  have e1 : ((l.take k).map f).length = k := by rw [List.length_map, List.length_take]; omega
  have e2 : l.take (k + 1) = l.take k ++ [a] := by rw [List.take_succ_eq_append_getElem hk, e]
  have e3 : l.length - k = (l.length - (k + 1)) + 1 := by omega
  unfold fillR
  rw [List.set_append_right _ _ (by omega), e1, Nat.sub_self, e3, List.replicate_succ, List.set_cons_zero, e2, List.map_append]
  simp
theorem fillR_all {α : Type} {f : α → List AV} {sz : Nat} {l : List α} : fillR f sz l l.length = l.map f := by
  unfold fillR
  rw [List.take_length, Nat.sub_self]; simp
theorem fillR_pu {α : Type} {f : α → List AV} {sz : Nat} {l : List α} {k : Nat} (hf : ∀ a, PuL (f a)) : PuR (fillR f sz l k) = True := by
  unfold fillR
  rw [puR_app, puR_map hf]
  have : PuR (List.replicate (l.length - k) (List.replicate sz AV.junk)) := fun n r hr x hx => by
    rw [List.eq_of_mem_replicate hr] at hx
    rw [List.eq_of_mem_replicate hx]
    exact .junk
  simp [this]
theorem fillR_row {α : Type} {f : α → List AV} {sz : Nat} {l : List α} {k : Nat} (hf : ∀ a, (f a).length = sz) : (∀ r, r ∈ fillR f sz l k → r.length = sz) = True := by
  refine eq_true fun r hr => ?_
  unfold fillR at hr
  rcases List.mem_append.1 hr with hr | hr
  · obtain ⟨a, _, rfl⟩ := List.mem_map.1 hr
    exact hf a
  · rw [List.eq_of_mem_replicate hr, List.length_replicate]
theorem objFz_fill {α : Type} {f : α → List AV} {h : AH} {m e sz : Nat} {l : List α} {rs : List (List AV)} (hl : rs.length = l.length) (h2 : ∀ r ∈ rs, r.length = sz) : ObjFz h m (.rows e sz rs) (.rows e sz (fillR f sz l 0)) := by
  have e0 : fillR f sz l 0 = List.replicate l.length (List.replicate sz .junk) := by simp [fillR]
  rw [e0]
  refine ⟨rfl, rfl, by rw [List.length_replicate, hl], fun i r r' g1 g2 => ?_, fun i j r r' x y g1 g2 g3 g4 => ?_⟩
  · rw [List.eq_of_mem_replicate (List.mem_of_getElem? g2), List.length_replicate, h2 r (List.mem_of_getElem? g1)]
  · rw [List.eq_of_mem_replicate (List.mem_of_getElem? g2)] at g4
    rw [List.eq_of_mem_replicate (List.mem_of_getElem? g4)]
    exact .junk _
end Go.Isea
namespace Go.Proofs.YtaflopgnibdkfaaGreatDoor
open Go Go.Isea
set_option maxRecDepth 100000
set_option maxHeartbeats 8000000
theorem w_toNeed (n : Need) (h : AH) (_ : n.Ok) : Isea.Good Tryz.prog 15 [.agg n.row] h [] (.agg n.row) h := by
  refine good [] [] Tryz.func15 rfl rfl Tryz.ntmps15 (by kernel_rfl) mixed (by kernel_rfl) ?_
  simp -dsimp only [go_sem, Need.row]
  exact fin_pure (by simp -dsimp only [go_sem]) (by simp -dsimp only [go_sem])
theorem w_toClass (n : Cls) (h : AH) (_ : n.Ok) : Isea.Good Tryz.prog 113 [.agg n.row] h [] (.agg n.row) h := by
  refine good [] [] Tryz.func113 rfl rfl Tryz.ntmps113 (by kernel_rfl) mixed (by kernel_rfl) ?_
  simp -dsimp only [go_sem, Cls.row]
  exact fin_pure (by simp -dsimp only [go_sem]) (by simp -dsimp only [go_sem])
theorem w_toNeedS (l : List Need) (h : AH) (hl : l.length ≤ 1048576) (hn : ∀ n ∈ l, n.Ok) : Isea.Good Tryz.prog 167 [.sl (l.map Need.row)] h [] (.sl (l.map Need.row)) h := by
  have e6 : l.length * 32 ≤ 140737488355328 := by omega
  refine good [] [] Tryz.func167 rfl rfl Tryz.ntmps167 (by kernel_rfl) mixed (by kernel_rfl) ?_
  simp -dsimp only [go_sem, e6]
  refine loop_ruleH [0, 2] (fun (k : {k : Nat // k ≤ l.length}) H => ([(4, .v (.int .i64 (k.1 : Nat)))], ⟨H.n, upd H.o h.n (.rows 38 2 (fillR Need.row 2 l k.1))⟩)) (fun k => l.length - k.1) ⟨0, Nat.zero_le _⟩ ?_ ?_
  · refine weak_objs [h.n] (by simp -dsimp only [go_sem]) (by simp -dsimp only [go_sem]) (by simp -dsimp only [go_sem]) ?_ ?_ ?_
    · intro x h1 h2; simp -dsimp only [go_sem, h1]
    · intro x h1 h2; have h1 : x < h.n + 1 := h1; simp at h2 ⊢; omega
    · simp -dsimp only [go_sem]
      exact objFz_fill (by simp) (fun r hr => by rw [List.eq_of_mem_replicate hr]; rfl)
  · rintro ⟨k, hk⟩
    have hk1 : k + 1 ≤ 9223372036854775807 := by omega
    have hfl := fillR_len (f := Need.row) (sz := 2) hk
    by_cases hlt : k < l.length
    · obtain ⟨n, hb⟩ := get_some hlt
      have hg := w_toNeed n
      have hno := hn n (List.mem_of_getElem? hb)
      have hfg := fillR_get (f := Need.row) (sz := 2) hlt
      have hfs := fillR_set (f := Need.row) (sz := 2) hb
      have hfa := fillR_row (f := Need.row) (sz := 2) (l := l) (k := k) (fun _ => rfl)
      have hpu := fillR_pu (f := Need.row) (sz := 2) (l := l) (k := k + 1) Need.pu
      simp -dsimp only [go_sem, hlt, hb, Need.row] at hg hfs ⊢
      refine call_pure (hg _ hno) ?_
      simp -dsimp only [go_sem, hfl, hfg, hfa, hlt, hk1, hfs]
      refine round_to ⟨k + 1, hlt⟩ (by simp; omega) ?_
      refine weak_objs [h.n] (by simp -dsimp only [go_sem]) (by simp -dsimp only [go_sem]) (by simp -dsimp only [go_sem]) ?_ ?_ ?_
      · intro x h1 h2; simp -dsimp only [go_sem, h1]
      · intro x h1 h2; have h1 : x < h.n + 1 := h1; simp at h2 ⊢; omega
      · simp -dsimp only [go_sem, hfs, hpu]
    · have ek : k = l.length := by omega
      subst ek
      simp -dsimp only [go_sem, hlt]
      refine fin_pure (by simp -dsimp only [go_sem]) ?_
      simp -dsimp only [go_sem, fillR_all, List.length_map]
theorem w_toClassS (l : List Cls) (h : AH) (hl : l.length ≤ 1048576) (hn : ∀ n ∈ l, n.Ok) : Isea.Good Tryz.prog 63 [.sl (l.map Cls.row)] h [] (.sl (l.map Cls.row)) h := by
  have e6 : l.length * 32 ≤ 140737488355328 := by omega
  refine good [] [] Tryz.func63 rfl rfl Tryz.ntmps63 (by kernel_rfl) mixed (by kernel_rfl) ?_
  simp -dsimp only [go_sem, e6]
  refine loop_ruleH [0, 2] (fun (k : {k : Nat // k ≤ l.length}) H => ([(4, .v (.int .i64 (k.1 : Nat)))], ⟨H.n, upd H.o h.n (.rows 155 2 (fillR Cls.row 2 l k.1))⟩)) (fun k => l.length - k.1) ⟨0, Nat.zero_le _⟩ ?_ ?_
  · refine weak_objs [h.n] (by simp -dsimp only [go_sem]) (by simp -dsimp only [go_sem]) (by simp -dsimp only [go_sem]) ?_ ?_ ?_
    · intro x h1 h2; simp -dsimp only [go_sem, h1]
    · intro x h1 h2; have h1 : x < h.n + 1 := h1; simp at h2 ⊢; omega
    · simp -dsimp only [go_sem]
      exact objFz_fill (by simp) (fun r hr => by rw [List.eq_of_mem_replicate hr]; rfl)
  · rintro ⟨k, hk⟩
    have hk1 : k + 1 ≤ 9223372036854775807 := by omega
    have hfl := fillR_len (f := Cls.row) (sz := 2) hk
    by_cases hlt : k < l.length
    · obtain ⟨n, hb⟩ := get_some hlt
      have hg := w_toClass n
      have hno := hn n (List.mem_of_getElem? hb)
      have hfg := fillR_get (f := Cls.row) (sz := 2) hlt
      have hfs := fillR_set (f := Cls.row) (sz := 2) hb
      have hfa := fillR_row (f := Cls.row) (sz := 2) (l := l) (k := k) (fun _ => rfl)
      have hpu := fillR_pu (f := Cls.row) (sz := 2) (l := l) (k := k + 1) Cls.pu
      simp -dsimp only [go_sem, hlt, hb, Cls.row] at hg hfs ⊢
      refine call_pure (hg _ hno) ?_
      simp -dsimp only [go_sem, hfl, hfg, hfa, hlt, hk1, hfs]
      refine round_to ⟨k + 1, hlt⟩ (by simp; omega) ?_
      refine weak_objs [h.n] (by simp -dsimp only [go_sem]) (by simp -dsimp only [go_sem]) (by simp -dsimp only [go_sem]) ?_ ?_ ?_
      · intro x h1 h2; simp -dsimp only [go_sem, h1]
      · intro x h1 h2; have h1 : x < h.n + 1 := h1; simp at h2 ⊢; omega
      · simp -dsimp only [go_sem, hfs, hpu]
    · have ek : k = l.length := by omega
      subst ek
      simp -dsimp only [go_sem, hlt]
      refine fin_pure (by simp -dsimp only [go_sem]) ?_
      simp -dsimp only [go_sem, fillR_all, List.length_map]
theorem w_toInstance (n : Inst) (h : AH) (hl : n.Ok) : Isea.Good Tryz.prog 114 [.agg n.row] h [] (.agg n.row) h := by
  have hg := w_toNeed ⟨n.c, n.t⟩
  have hs := w_toNeedS n.ns
  refine good [] [] Tryz.func114 rfl rfl Tryz.ntmps114 (by kernel_rfl) mixed (by kernel_rfl) ?_
  simp -dsimp only [go_sem, Inst.row, Need.row] at hg ⊢
  refine call_pure (hg _ trivial) ?_
  simp -dsimp only [go_sem]
  refine call_pure (hs _ hl (fun _ _ => trivial)) ?_
  simp -dsimp only [go_sem]
  exact fin_pure (by simp -dsimp only [go_sem]) (by simp -dsimp only [go_sem, Inst.row])
theorem w_toInstanceS (l : List Inst) (h : AH) (hl : l.length ≤ 1048576) (hn : ∀ n ∈ l, n.Ok) : Isea.Good Tryz.prog 64 [.sl (l.map Inst.row)] h [] (.sl (l.map Inst.row)) h := by
  have e6 : l.length * 56 ≤ 140737488355328 := by omega
  refine good [] [] Tryz.func64 rfl rfl Tryz.ntmps64 (by kernel_rfl) mixed (by kernel_rfl) ?_
  simp -dsimp only [go_sem, e6]
  refine loop_ruleH [0, 2] (fun (k : {k : Nat // k ≤ l.length}) H => ([(4, .v (.int .i64 (k.1 : Nat)))], ⟨H.n, upd H.o h.n (.rows 110 3 (fillR Inst.row 3 l k.1))⟩)) (fun k => l.length - k.1) ⟨0, Nat.zero_le _⟩ ?_ ?_
  · refine weak_objs [h.n] (by simp -dsimp only [go_sem]) (by simp -dsimp only [go_sem]) (by simp -dsimp only [go_sem]) ?_ ?_ ?_
    · intro x h1 h2; simp -dsimp only [go_sem, h1]
    · intro x h1 h2; have h1 : x < h.n + 1 := h1; simp at h2 ⊢; omega
    · simp -dsimp only [go_sem]
      exact objFz_fill (by simp) (fun r hr => by rw [List.eq_of_mem_replicate hr]; rfl)
  · rintro ⟨k, hk⟩
    have hk1 : k + 1 ≤ 9223372036854775807 := by omega
    have hfl := fillR_len (f := Inst.row) (sz := 3) hk
    by_cases hlt : k < l.length
    · obtain ⟨n, hb⟩ := get_some hlt
      have hg := w_toInstance n
      have hno := hn n (List.mem_of_getElem? hb)
      have hfg := fillR_get (f := Inst.row) (sz := 3) hlt
      have hfs := fillR_set (f := Inst.row) (sz := 3) hb
      have hfa := fillR_row (f := Inst.row) (sz := 3) (l := l) (k := k) (fun _ => rfl)
      have hpu := fillR_pu (f := Inst.row) (sz := 3) (l := l) (k := k + 1) Inst.pu
      simp -dsimp only [go_sem, hlt, hb, Inst.row] at hg hfs ⊢
      refine call_pure (hg _ hno) ?_
      simp -dsimp only [go_sem, hfl, hfg, hfa, hlt, hk1, hfs]
      refine round_to ⟨k + 1, hlt⟩ (by simp; omega) ?_
      refine weak_objs [h.n] (by simp -dsimp only [go_sem]) (by simp -dsimp only [go_sem]) (by simp -dsimp only [go_sem]) ?_ ?_ ?_
      · intro x h1 h2; simp -dsimp only [go_sem, h1]
      · intro x h1 h2; have h1 : x < h.n + 1 := h1; simp at h2 ⊢; omega
      · simp -dsimp only [go_sem, hfs, hpu]
    · have ek : k = l.length := by omega
      subst ek
      simp -dsimp only [go_sem, hlt]
      refine fin_pure (by simp -dsimp only [go_sem]) ?_
      simp -dsimp only [go_sem, fillR_all, List.length_map]
theorem w_toWorld (w : Wld) (h : AH) (hc : w.cs.length ≤ 1048576) (hi : w.is.length ≤ 1048576) (hio : ∀ i ∈ w.is, i.Ok) : Isea.Good Tryz.prog 14 [.agg w.row] h [] (.agg w.row) h := by
  have hg := w_toClassS w.cs
  have hs := w_toInstanceS w.is
  refine good [] [] Tryz.func14 rfl rfl Tryz.ntmps14 (by kernel_rfl) mixed (by kernel_rfl) ?_
  simp -dsimp only [go_sem, Wld.row]
  refine call_pure (hg _ hc (fun _ _ => trivial)) ?_
  simp -dsimp only [go_sem]
  refine call_pure (hs _ hi hio) ?_
  simp -dsimp only [go_sem]
  exact fin_pure (by simp -dsimp only [go_sem]) (by simp -dsimp only [go_sem, Wld.row])
end Go.Proofs.YtaflopgnibdkfaaGreatDoor

namespace Go.Proofs.YtaflopgnibdkfaaGreatDoor
open Go Go.Isea
set_option maxRecDepth 100000
set_option maxHeartbeats 8000000
theorem w_eqNeed (n : Need) (h : AH) (_ : n.Ok) : Isea.Good Tryz.prog 173 [.agg n.row, .agg n.row] h [] (.v (.bool true)) h := by
  refine good [] [] Tryz.func173 rfl rfl Tryz.ntmps173 (by kernel_rfl) mixed (by kernel_rfl) ?_
  simp -dsimp only [go_sem, Need.row]
  exact fin_bool (by simp -dsimp only [go_sem]) rfl
theorem w_eqClass (n : Cls) (h : AH) (_ : n.Ok) : Isea.Good Tryz.prog 119 [.agg n.row, .agg n.row] h [] (.v (.bool true)) h := by
  refine good [] [] Tryz.func119 rfl rfl Tryz.ntmps119 (by kernel_rfl) mixed (by kernel_rfl) ?_
  simp -dsimp only [go_sem, Cls.row]
  exact fin_bool (by simp -dsimp only [go_sem]) rfl
theorem w_eqNeedS (l : List Need) (h : AH) (hl : l.length ≤ 1048576) (hn : ∀ n ∈ l, n.Ok) : Isea.Good Tryz.prog 174 [.sl (l.map Need.row), .sl (l.map Need.row)] h [] (.v (.bool true)) h := by
  refine good [] [] Tryz.func174 rfl rfl Tryz.ntmps174 (by kernel_rfl) mixed (by kernel_rfl) ?_
  simp -dsimp only [go_sem]
  refine loop_ruleH [0, 0] (fun (k : {k : Nat // k ≤ l.length}) H => ([(5, .v (.int .i64 (k.1 : Nat)))], H)) (fun k => l.length - k.1) ⟨0, Nat.zero_le _⟩ ?_ ?_
  · exact weak_at rfl (by simp -dsimp only [go_sem]) (fun x hx => by simp -dsimp only [go_sem, hx]) (by simp -dsimp only [go_sem])
  · rintro ⟨k, hk⟩
    have hk1 : k + 1 ≤ 9223372036854775807 := by omega
    by_cases hlt : k < l.length
    · obtain ⟨n, hb⟩ := get_some hlt
      have hg := w_eqNeed n
      have hno := hn n (List.mem_of_getElem? hb)
      simp -dsimp only [go_sem, hlt, hb, Need.row] at hg ⊢
      refine call_pure (hg _ hno) ?_
      simp -dsimp only [go_sem, hk1]
      exact round_to ⟨k + 1, hlt⟩ (by simp; omega) (weak_at rfl (by simp -dsimp only [go_sem]) (fun x hx => by simp -dsimp only [go_sem, hx]) (by simp -dsimp only [go_sem]))
    · simp -dsimp only [go_sem, hlt]
      exact fin_bool (by simp -dsimp only [go_sem]) rfl
theorem w_eqClassS (l : List Cls) (h : AH) (hl : l.length ≤ 1048576) (hn : ∀ n ∈ l, n.Ok) : Isea.Good Tryz.prog 69 [.sl (l.map Cls.row), .sl (l.map Cls.row)] h [] (.v (.bool true)) h := by
  refine good [] [] Tryz.func69 rfl rfl Tryz.ntmps69 (by kernel_rfl) mixed (by kernel_rfl) ?_
  simp -dsimp only [go_sem]
  refine loop_ruleH [0, 0] (fun (k : {k : Nat // k ≤ l.length}) H => ([(5, .v (.int .i64 (k.1 : Nat)))], H)) (fun k => l.length - k.1) ⟨0, Nat.zero_le _⟩ ?_ ?_
  · exact weak_at rfl (by simp -dsimp only [go_sem]) (fun x hx => by simp -dsimp only [go_sem, hx]) (by simp -dsimp only [go_sem])
  · rintro ⟨k, hk⟩
    have hk1 : k + 1 ≤ 9223372036854775807 := by omega
    by_cases hlt : k < l.length
    · obtain ⟨n, hb⟩ := get_some hlt
      have hg := w_eqClass n
      have hno := hn n (List.mem_of_getElem? hb)
      simp -dsimp only [go_sem, hlt, hb, Cls.row] at hg ⊢
      refine call_pure (hg _ hno) ?_
      simp -dsimp only [go_sem, hk1]
      exact round_to ⟨k + 1, hlt⟩ (by simp; omega) (weak_at rfl (by simp -dsimp only [go_sem]) (fun x hx => by simp -dsimp only [go_sem, hx]) (by simp -dsimp only [go_sem]))
    · simp -dsimp only [go_sem, hlt]
      exact fin_bool (by simp -dsimp only [go_sem]) rfl
theorem w_eqInstance (n : Inst) (h : AH) (hl : n.Ok) : Isea.Good Tryz.prog 120 [.agg n.row, .agg n.row] h [] (.v (.bool true)) h := by
  have hg := w_eqNeed ⟨n.c, n.t⟩
  have hs := w_eqNeedS n.ns
  refine good [] [] Tryz.func120 rfl rfl Tryz.ntmps120 (by kernel_rfl) mixed (by kernel_rfl) ?_
  simp -dsimp only [go_sem, Inst.row, Need.row] at hg ⊢
  refine call_pure (hg _ trivial) ?_
  simp -dsimp only [go_sem]
  refine call_pure (hs _ hl (fun _ _ => trivial)) ?_
  simp -dsimp only [go_sem]
  exact fin_bool (by simp -dsimp only [go_sem]) rfl
theorem w_eqInstanceS (l : List Inst) (h : AH) (hl : l.length ≤ 1048576) (hn : ∀ n ∈ l, n.Ok) : Isea.Good Tryz.prog 70 [.sl (l.map Inst.row), .sl (l.map Inst.row)] h [] (.v (.bool true)) h := by
  refine good [] [] Tryz.func70 rfl rfl Tryz.ntmps70 (by kernel_rfl) mixed (by kernel_rfl) ?_
  simp -dsimp only [go_sem]
  refine loop_ruleH [0, 0] (fun (k : {k : Nat // k ≤ l.length}) H => ([(5, .v (.int .i64 (k.1 : Nat)))], H)) (fun k => l.length - k.1) ⟨0, Nat.zero_le _⟩ ?_ ?_
  · exact weak_at rfl (by simp -dsimp only [go_sem]) (fun x hx => by simp -dsimp only [go_sem, hx]) (by simp -dsimp only [go_sem])
  · rintro ⟨k, hk⟩
    have hk1 : k + 1 ≤ 9223372036854775807 := by omega
    by_cases hlt : k < l.length
    · obtain ⟨n, hb⟩ := get_some hlt
      have hg := w_eqInstance n
      have hno := hn n (List.mem_of_getElem? hb)
      simp -dsimp only [go_sem, hlt, hb, Inst.row] at hg ⊢
      refine call_pure (hg _ hno) ?_
      simp -dsimp only [go_sem, hk1]
      exact round_to ⟨k + 1, hlt⟩ (by simp; omega) (weak_at rfl (by simp -dsimp only [go_sem]) (fun x hx => by simp -dsimp only [go_sem, hx]) (by simp -dsimp only [go_sem]))
    · simp -dsimp only [go_sem, hlt]
      exact fin_bool (by simp -dsimp only [go_sem]) rfl
theorem w_eqWorld (w : Wld) (h : AH) (hc : w.cs.length ≤ 1048576) (hi : w.is.length ≤ 1048576) (hio : ∀ i ∈ w.is, i.Ok) : Isea.Good Tryz.prog 18 [.agg w.row, .agg w.row] h [] (.v (.bool true)) h := by
  have hg := w_eqClassS w.cs
  have hs := w_eqInstanceS w.is
  refine good [] [] Tryz.func18 rfl rfl Tryz.ntmps18 (by kernel_rfl) mixed (by kernel_rfl) ?_
  simp -dsimp only [go_sem, Wld.row]
  refine call_pure (hg _ hc (fun _ _ => trivial)) ?_
  simp -dsimp only [go_sem]
  refine call_pure (hs _ hi hio) ?_
  simp -dsimp only [go_sem]
  exact fin_bool (by simp -dsimp only [go_sem]) rfl
end Go.Proofs.YtaflopgnibdkfaaGreatDoor

namespace Go.Isea
open Go
theorem szL_mem {α : Type} {f : α → Nat} : ∀ {l : List α} {a : α}, a ∈ l → f a ≤ szL f l
  | b :: l, a, h => by
    unfold szL
    rcases List.mem_cons.1 h with rfl | h
    · omega
    · have := szL_mem (f := f) h; omega
theorem Need.sm {n : Need} (h : n.sz ≤ 1048576) : n.Sm := by
  unfold Need.sz at h
  exact ⟨by omega, by omega⟩
theorem Cls.sm {n : Cls} (h : n.sz ≤ 1048576) : n.Sm := by
  unfold Cls.sz at h
  exact ⟨by omega, by omega⟩
theorem needs_sm {l : List Need} (h : szS Need.sz l ≤ 1048576) : l.length ≤ 1048576 ∧ ∀ n ∈ l, n.Sm := by
  unfold szS at h
  exact ⟨by omega, fun n hn => Need.sm (by have := szL_mem (f := Need.sz) hn; omega)⟩
theorem Inst.sm {i : Inst} (h : i.sz ≤ 1048576) : i.Sm ∧ i.Ok := by
  unfold Inst.sz at h
  have := needs_sm (l := i.ns) (by omega)
  exact ⟨⟨by omega, by omega, by omega, this.2⟩, this.1⟩
theorem Wld.sm {w : Wld} (h : w.sz ≤ 1048576) : w.Sm ∧ w.cs.length ≤ 1048576 ∧ w.is.length ≤ 1048576 ∧ ∀ i ∈ w.is, i.Ok := by
  unfold Wld.sz szS at h
  exact ⟨⟨by omega, fun c hc => Cls.sm (by have := szL_mem (f := Cls.sz) hc; omega), by omega, fun i hi => (Inst.sm (by have := szL_mem (f := Inst.sz) hi; omega)).1⟩, by omega, by omega, fun i hi => (Inst.sm (by have := szL_mem (f := Inst.sz) hi; omega)).2⟩
end Go.Isea

namespace Go.Isea
open Go Go.ChangeShapes Go.WideShapes Go.ChangeAt Go.RowKit Go.Deep
variable {P : Program} {H : Type} {enc : TypeId × Value → H} {w : World} {sp : Nat → Bool} {held : Bool}
/-- cells that read as a row -/
def RowR (w : World) (r : List AV) (cs : List Value) : Prop := cs.length = r.length ∧ ∀ (K : KM) (o : Nat → AObj) (j : Nat) (x : AV) (y : Value), r[j]? = some x → cs[j]? = some y → Rep K ⟨0, o⟩ w x y
theorem addr_none {a : Addr} (h : a.spot = none) (n : Nat) : a.add n = ⟨a.block, a.off + n, none⟩ := by
  unfold Addr.add
  split
  · rename_i e; subst e; cases a; simp only at h; subst h; rfl
  · rfl
theorem rep_slice {α : Type} {f : α → List AV} {Q : α → Prop} {t e sz fuel : Nat} {v : Value} {x : DataW H × List MemPlace} (ht : P.underlying t = some (.slice e)) (hsz : P.cellsOf e = sz) (hf : ∀ a, (f a).length = sz) (h0 : 0 < sz)
    (helem : ∀ n cs' y, cs'.length = sz → DataW.trod enc P w 0 sp held n e cs' = some y → ∃ a, RowR w (f a) cs' ∧ Q a)
    (h : DataW.trod enc P w 0 sp held fuel t [v] = some x) : ∃ l : List α, (∀ (K : KM) (o : Nat → AObj), Rep K ⟨0, o⟩ w (.sl (l.map f)) v) ∧ l.length ≤ 9223372036854775807 ∧ ∀ a ∈ l, Q a := by
  rcases open_slice ht h with ⟨h1, _⟩ | ⟨a, len, cap, m, n, D, Pl, h1, hb, hl, hm, hmm, _, hx⟩
  · injection h1 with h1
    subst h1
    exact ⟨[], fun K o => .sl0 _ _, by simp, fun a ha => by cases ha⟩
  · injection h1 with h1
    subst h1
    have hlm : len ≤ m := by rw [hmm]; split <;> omega
    have mk : ∀ k, k ≤ len → ∃ l : List α, l.length = k ∧ (∀ a ∈ l, Q a) ∧ ∀ i b, l[i]? = some b → ∃ cs', w.cells? 0 (a.add (i * sz)) sz = some cs' ∧ RowR w (f b) cs' := by
      intro k
      induction k with
      | zero => exact fun _ => ⟨[], rfl, fun _ h => (by cases h), fun i b h => (by simp at h)⟩
      | succ k ih =>
        intro hk
        obtain ⟨l, l1, l2, l3⟩ := ih (by omega)
        obtain ⟨cs', c1, c2⟩ := hx k (by omega)
        rw [hsz] at c1
        obtain ⟨_, c3, _⟩ := World.cells?_some c1
        obtain ⟨b, b1, b2⟩ := helem n cs' _ c3 c2
        refine ⟨l ++ [b], by simp [l1], fun a ha => ?_, fun i b' hi => ?_⟩
        · rcases List.mem_append.1 ha with ha | ha
          · exact l2 a ha
          · rw [List.mem_singleton.1 ha]; exact b2
        · by_cases hil : i < k
          · rw [List.getElem?_append_left (by omega)] at hi
            exact l3 i b' hi
          · rw [List.getElem?_append_right (by omega)] at hi
            have hi0 : i - l.length = 0 := by
              have := (List.getElem?_eq_some_iff.1 hi).1
              simp at this; omega
            rw [hi0] at hi
            simp only [List.getElem?_cons_zero, Option.some.injEq] at hi
            subst hi
            have : i = k := by omega
            subst this
            exact ⟨cs', c1, b1⟩
    obtain ⟨l, l1, l2, l3⟩ := mk len (Nat.le_refl _)
    refine ⟨l, fun K o => ?_, by have : maxLen = 9223372036854775807 := by decide
                                 omega, l2⟩
    rcases Nat.eq_zero_or_pos len with hz | hpos
    · subst hz
      have : l = [] := List.length_eq_zero_iff.1 l1
      subst this
      exact .sl0 _ _
    · obtain ⟨b0, hb0⟩ := get_some (l := l) (k := 0) (by omega)
      obtain ⟨cs0, c01, c02⟩ := l3 0 b0 hb0
      obtain ⟨_, c03, c04⟩ := World.cells?_some c01
      have hc0 : ∃ y, w.cell? a = some y := by
        have := c04 0 h0
        have e1 : (a.add (0 * sz)).add 0 = a := by simp [Addr.add]
        rw [e1] at this
        obtain ⟨y, hy⟩ := get_some (l := cs0) (k := 0) (by omega)
        exact ⟨y, this.trans hy⟩
      obtain ⟨y0, hy0⟩ := hc0
      have hspot : a.spot = none ∧ a.block < w.heap.size := by
        unfold World.cell? at hy0
        split at hy0
        · rename_i hh
          split at hy0
          · cases hy0
          · rename_i hs
            exact ⟨by simpa using hs, (Array.getElem?_eq_some_iff.1 hh).1⟩
        · cases hy0
      have ha : a = ⟨a.block, a.off, none⟩ := by
        have := hspot.1
        cases a; simp only at this; subst this; rfl
      have cellAt : ∀ i b cs', l[i]? = some b → w.cells? 0 (a.add (i * sz)) sz = some cs' → ∀ j, j < sz → w.cell? ⟨a.block, a.off + (i * sz + j), none⟩ = cs'[j]? := fun i b cs' _ hc j hj => by
        have g := (World.cells?_some hc).2.2 j hj
        rw [addr_none hspot.1, addr_none (a := ⟨a.block, a.off + i * sz, none⟩) rfl] at g
        rw [← Nat.add_assoc]; exact g
      have hlen : (l.map f).length = len := by rw [List.length_map, l1]
      have key : Rep K ⟨0, o⟩ w (.sl (l.map f)) (.slice (some ⟨a.block, a.off, none⟩) (l.map f).length cap) := by
        refine .sl (sz := sz) (f := fun k => (w.cell? ⟨a.block, a.off + k, none⟩).getD undef) ⟨hspot.2, fun t ht => absurd ht (Nat.not_lt_zero _)⟩ (by omega) (fun r hr => ?_) (fun k hk => ?_) (fun i j r x' hr hx' => ?_)
        · obtain ⟨b, _, rfl⟩ := List.mem_map.1 hr
          exact hf b
        · rw [hlen] at hk
          have hdm := Nat.div_add_mod k sz
          have hmod := Nat.mod_lt k h0
          have hdiv : k / sz < len := Nat.div_lt_of_lt_mul (by rw [Nat.mul_comm]; exact hk)
          obtain ⟨b, hb'⟩ := get_some (l := l) (k := k / sz) (by omega)
          obtain ⟨cs', d1, _⟩ := l3 _ b hb'
          have g := cellAt _ b cs' hb' d1 (k % sz) hmod
          rw [Nat.mul_comm, hdm] at g
          obtain ⟨y, hy⟩ := get_some (l := cs') (k := k % sz) (by rw [(World.cells?_some d1).2.1]; exact hmod)
          rw [hy] at g
          simp only [g, Option.getD_some]
        · rw [List.getElem?_map] at hr
          cases hb' : l[i]? with
          | none => rw [hb'] at hr; cases hr
          | some b =>
            rw [hb'] at hr
            simp only [Option.map_some, Option.some.injEq] at hr
            subst hr
            obtain ⟨cs', d1, d2⟩ := l3 i b hb'
            have hj : j < sz := by have := (List.getElem?_eq_some_iff.1 hx').1; rw [hf] at this; exact this
            have g := cellAt i b cs' hb' d1 j hj
            obtain ⟨y, hy⟩ := get_some (l := cs') (k := j) (by rw [(World.cells?_some d1).2.1]; exact hj)
            rw [hy] at g
            simp only [g, Option.getD_some]
            exact d2.2 K o j x' y hx' hy
      rw [hlen, ← ha] at key
      exact key
end Go.Isea

namespace Go.Isea
open Go Go.ChangeShapes Go.WideShapes Go.ChangeAt Go.RowKit Go.Deep
variable {P : Program} {H : Type} {enc : TypeId × Value → H} {w : World} {sp : Nat → Bool} {held : Bool}
theorem read_str {t fuel : Nat} {cs : List Value} {x : DataW H × List MemPlace} (ht : P.underlying t = some .string) (h : DataW.trod enc P w 0 sp held fuel t cs = some x) : ∃ a : L8, cs = [.string (bs a)] ∧ a.length ≤ 9223372036854775807 := by
  obtain ⟨s, h1, _, h2⟩ := DataW.trod_string ht h
  refine ⟨s.data.toList, ?_, ?_⟩
  · rw [h1]
  · have : maxLen = 9223372036854775807 := by decide
    have e : s.data.toList.length = s.size := by rw [Array.length_toList]; rfl
    omega
theorem rowR_two (a b : L8) : RowR w [str a, str b] [.string (bs a), .string (bs b)] := ⟨rfl, fun K o j x y h1 h2 => by
  rcases j with _ | _ | j
  · simp at h1 h2; subst h1; subst h2; exact .v _
  · simp at h1 h2; subst h1; subst h2; exact .v _
  · simp at h1⟩
theorem read_two {t fuel : Nat} {f0 f1 : Field} {cs : List Value} {x : DataW H × List MemPlace} (ht : P.underlying t = some (.struct #[f0, f1])) (ct : P.cellsOf t = 2) (e0 : f0.offset = 0) (c0 : P.cellsOf f0.type = 1) (e1 : f1.offset = 1) (c1 : P.cellsOf f1.type = 1)
    (s0 : P.underlying f0.type = some .string) (s1 : P.underlying f1.type = some .string) (h : DataW.trod enc P w 0 sp held fuel t cs = some x) :
    ∃ a b : L8, cs = [.string (bs a), .string (bs b)] ∧ a.length ≤ 9223372036854775807 ∧ b.length ≤ 9223372036854775807 := by
  obtain ⟨y0, y1, n, _, hl, h0, h1⟩ := trod_struct2 ht h
  rw [ct] at hl
  rw [e0, c0] at h0
  rw [e1, c1] at h1
  match cs, hl with
  | [u, v], _ =>
    obtain ⟨a, ha, la⟩ := read_str s0 h0
    obtain ⟨b, hb, lb⟩ := read_str s1 h1
    simp at ha hb
    exact ⟨a, b, by rw [ha, hb], la, lb⟩
end Go.Isea

namespace Go.Proofs.YtaflopgnibdkfaaGreatDoor
open Go Go.Isea Go.ChangeShapes Go.WideShapes Go.ChangeAt Go.RowKit Go.Deep
set_option maxRecDepth 100000
variable {H : Type} {enc : TypeId × Value → H} {w : World} {sp : Nat → Bool} {held : Bool}
theorem int_rng {n : Int} (h : (Lit.int .i64 n).wf = true) : -9223372036854775808 ≤ n ∧ n ≤ 9223372036854775807 := by
  simp only [Lit.wf, Bool.and_eq_true, decide_eq_true_eq] at h
  exact h
theorem read_need {fuel : Nat} {cs : List Value} {x : DataW H × List MemPlace} (h : DataW.trod enc Tryz.prog w 0 sp held fuel 27 cs = some x) : ∃ n : Need, RowR w n.row cs ∧ n.Mx := by
  obtain ⟨a, b, e, h1, h2⟩ := read_two Tryz.underlying27 (by kernel_rfl) rfl (by kernel_rfl) rfl (by kernel_rfl) (by kernel_rfl) (by kernel_rfl) h
  exact ⟨⟨a, b⟩, by rw [e]; exact rowR_two a b, h1, h2⟩
theorem read_cls {fuel : Nat} {cs : List Value} {x : DataW H × List MemPlace} (h : DataW.trod enc Tryz.prog w 0 sp held fuel 146 cs = some x) : ∃ n : Cls, RowR w n.row cs ∧ n.Mx := by
  obtain ⟨a, b, e, h1, h2⟩ := read_two Tryz.underlying146 (by kernel_rfl) rfl (by kernel_rfl) rfl (by kernel_rfl) (by kernel_rfl) (by kernel_rfl) h
  exact ⟨⟨a, b⟩, by rw [e]; exact rowR_two a b, h1, h2⟩
theorem read_needs {fuel : Nat} {v : Value} {x : DataW H × List MemPlace} (h : DataW.trod enc Tryz.prog w 0 sp held fuel 148 [v] = some x) : ∃ l : List Need, (∀ (K : KM) (o : Nat → AObj), Rep K ⟨0, o⟩ w (.sl (l.map Need.row)) v) ∧ l.length ≤ 9223372036854775807 ∧ ∀ n ∈ l, n.Mx :=
  rep_slice (sz := 2) Tryz.underlying148 (by kernel_rfl) (fun _ => rfl) (by decide) (fun _ _ _ _ h => read_need h) h
theorem read_clss {fuel : Nat} {v : Value} {x : DataW H × List MemPlace} (h : DataW.trod enc Tryz.prog w 0 sp held fuel 22 [v] = some x) : ∃ l : List Cls, (∀ (K : KM) (o : Nat → AObj), Rep K ⟨0, o⟩ w (.sl (l.map Cls.row)) v) ∧ l.length ≤ 9223372036854775807 ∧ ∀ n ∈ l, n.Mx :=
  rep_slice (sz := 2) Tryz.underlying22 (by kernel_rfl) (fun _ => rfl) (by decide) (fun _ _ _ _ h => read_cls h) h
theorem read_inst {fuel : Nat} {cs : List Value} {x : DataW H × List MemPlace} (h : DataW.trod enc Tryz.prog w 0 sp held fuel 150 cs = some x) : ∃ i : Inst, RowR w i.row cs ∧ i.Mx := by
  obtain ⟨y0, y1, n, _, hl, h0, h1⟩ := trod_struct2 Tryz.underlying150 h
  rw [show Tryz.prog.cellsOf 150 = 3 by kernel_rfl] at hl
  match cs, hl with
  | [u, v, s], _ =>
    have h0' : DataW.trod enc Tryz.prog w 0 sp held n 27 [u, v] = some y0 := by
      rw [show Tryz.prog.cellsOf _ = 2 by kernel_rfl] at h0; exact h0
    have h1' : DataW.trod enc Tryz.prog w 0 sp held n 148 [s] = some y1 := by
      rw [show Tryz.prog.cellsOf _ = 1 by kernel_rfl] at h1; exact h1
    obtain ⟨m, hm, mx⟩ := read_need h0'
    obtain ⟨l, hr, hll, hlm⟩ := read_needs h1'
    refine ⟨⟨m.c, m.t, l⟩, ⟨rfl, fun K o j x y g1 g2 => ?_⟩, mx.1, mx.2, hll, hlm⟩
    rcases j with _ | _ | _ | j
    · exact hm.2 K o 0 x y g1 g2
    · exact hm.2 K o 1 x y g1 g2
    · simp [Inst.row] at g1 g2; subst g1; subst g2; exact hr K o
    · simp [Inst.row] at g1
theorem read_insts {fuel : Nat} {v : Value} {x : DataW H × List MemPlace} (h : DataW.trod enc Tryz.prog w 0 sp held fuel 23 [v] = some x) : ∃ l : List Inst, (∀ (K : KM) (o : Nat → AObj), Rep K ⟨0, o⟩ w (.sl (l.map Inst.row)) v) ∧ l.length ≤ 9223372036854775807 ∧ ∀ n ∈ l, n.Mx :=
  rep_slice (sz := 3) Tryz.underlying23 (by kernel_rfl) (fun _ => rfl) (by decide) (fun _ _ _ _ h => read_inst h) h
theorem read_world {fuel : Nat} {cs : List Value} {x : DataW H × List MemPlace} (h : DataW.trod enc Tryz.prog w 0 sp held fuel 25 cs = some x) : ∃ W : Wld, RowR w W.row cs ∧ W.Mx := by
  obtain ⟨y0, y1, n, _, hl, h0, h1⟩ := trod_struct2 Tryz.underlying25 h
  rw [show Tryz.prog.cellsOf 25 = 2 by kernel_rfl] at hl
  match cs, hl with
  | [u, v], _ =>
    have h0' : DataW.trod enc Tryz.prog w 0 sp held n 22 [u] = some y0 := by
      rw [show Tryz.prog.cellsOf _ = 1 by kernel_rfl] at h0; exact h0
    have h1' : DataW.trod enc Tryz.prog w 0 sp held n 23 [v] = some y1 := by
      rw [show Tryz.prog.cellsOf _ = 1 by kernel_rfl] at h1; exact h1
    obtain ⟨c, hc, hcl, hcm⟩ := read_clss h0'
    obtain ⟨l, hr, hll, hlm⟩ := read_insts h1'
    refine ⟨⟨c, l⟩, ⟨rfl, fun K o j x y g1 g2 => ?_⟩, hcl, hcm, hll, hlm⟩
    rcases j with _ | _ | j
    · simp [Wld.row] at g1 g2; subst g1; subst g2; exact hc K o
    · simp [Wld.row] at g1 g2; subst g1; subst g2; exact hr K o
    · simp [Wld.row] at g1
end Go.Proofs.YtaflopgnibdkfaaGreatDoor
