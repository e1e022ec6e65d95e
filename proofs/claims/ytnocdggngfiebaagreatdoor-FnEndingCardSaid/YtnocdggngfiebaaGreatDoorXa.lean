/- Contracts of functions of this program, for all arguments that satisfy what each lemma asks for. -/
import Derived.Test.YtnocdggngfiebaaGreatDoorMY
import Derived.Test.YtnocdggngfiebaaGreatDoorMJ
import Derived.Lib.SplitLaws
import Derived.Test.YtnocdggngfiebaaGreatDoorMZ
import Derived.Test.YtnocdggngfiebaaGreatDoorMX
import Derived.Test.YtnocdggngfiebaaGreatDoorMv
import Derived.Test.YtnocdggngfiebaaGreatDoorMa
import Derived.Lib.LaidU8
import Derived.Lib.ItoaNum
import Derived.MakeChecks
import Derived.Test.YtnocdggngfiebaaGreatDoorProg
import Derived.KernelRfl
set_option linter.all false
namespace Go.Isea
open Go
theorem arC {c : UInt8} (h : 0 ≤ ar c) : c ≠ 40 ∧ c ≠ 41 ∧ c ≠ 44 := forall_u8 (p := fun c => 0 ≤ ar c → c ≠ 40 ∧ c ≠ 41 ∧ c ≠ 44) (by decide +kernel) c h
theorem sz_count : ∀ {t : Ty}, t.wf → t.text.length = t.sz + t.text.count 40 + t.text.count 41 + t.text.count 44
  | .leaf c, hw => by
    obtain ⟨h1, h2, h3⟩ := arC (show 0 ≤ ar c by have : ar c = 0 := hw; omega)
    simp [Ty.text, Ty.sz, h1, h2, h3]
  | .un c t, hw => by
    have h0 : ar c = 1 := hw.1
    obtain ⟨h1, h2, h3⟩ := arC (show 0 ≤ ar c by omega)
    have := sz_count hw.2
    simp [Ty.text, Ty.sz, List.count_cons, h1, h2, h3]
    omega
  | .bin c t u, hw => by
    have h0 : ar c = 2 := hw.1
    obtain ⟨h1, h2, h3⟩ := arC (show 0 ≤ ar c by omega)
    have := sz_count hw.2.1
    have := sz_count hw.2.2
    simp [Ty.text, Ty.sz, List.count_cons, h1, h2, h3]
    omega
theorem sizeT_count {s : L8} (h : tv s = true) : sizeT s = (s.length : Nat) - (s.count 40 : Nat) - (s.count 41 : Nat) - (s.count 44 : Nat) := by
  obtain ⟨a, ha⟩ := tv_some h
  obtain ⟨e, hw, _⟩ := typeOf_some ha
  have := sz_count hw
  unfold sizeT
  rw [ha, e]
  simp only
  omega
theorem sizeT_bad {s : L8} (h : tv s = false) : sizeT s = -1 := by
  unfold tv at h
  unfold sizeT
  cases ha : typeOf s with
  | none => rfl
  | some a => rw [ha] at h; cases h
end Go.Isea
namespace Go.Proofs.YtnocdggngfiebaaGreatDoor
open Go Go.Isea Go.Shelf
set_option maxRecDepth 100000
set_option maxHeartbeats 8000000
theorem l_Count (s : L8) (c : UInt8) (h : AH) : Isea.Good Tryz.prog 92 [str s, str [c]] h [] (.v (.int .i64 (s.count c : Nat))) h := by
  refine good_below Tryz.func92 (by kernel_rfl) (by kernel_rfl) fun K w vs hK hr => ?_
  obtain ⟨u, v, rfl, hu, hv⟩ := repL_two hr
  rw [rep_str hu, rep_str hv]
  refine (Any.strings_Count_one (ρ := Tryz.lays138_ren) { Tryz.lays138 with } (bs s) c w).mono ?_
  rintro e w' ⟨rfl, rfl⟩
  refine ⟨?_, RowKit.Below.refl _ _⟩
  have h1 : Lib.count (bs s).data.toList [c] = Lib.countByte (bs s).data.toList c := Lib.count_one _ _
  rw [← h1]
  have : (bs s).data.toList = s := by simp
  rw [this, Lib.count_one]
theorem i_SizeOf (s : L8) (h : AH) (hs : s.length ≤ 4611686018427387904) : Isea.Good Tryz.prog 17 [str s] h [] (.v (.int .i64 (sizeT s))) h := by
  have hT := fun H => i_TypeValid s H hs
  cases hv : tv s with
  | false =>
    rw [hv] at hT
    rw [sizeT_bad hv]
    refine good [] [] Tryz.func17 rfl rfl Tryz.ntmps17 (by kernel_rfl) mixed (by kernel_rfl) ?_
    simp -dsimp only [go_sem]
    refine call_pure (hT _) ?_
    simp -dsimp only [go_sem]
    exact fin_pure (by simp -dsimp only [go_sem]) (by simp -dsimp only [go_sem])
  | true =>
    rw [hv] at hT
    rw [sizeT_count hv]
    have c1 := List.count_le_length (a := (40 : UInt8)) (l := s)
    have c2 := List.count_le_length (a := (41 : UInt8)) (l := s)
    have c3 := List.count_le_length (a := (44 : UInt8)) (l := s)
    have k1 := fun H => l_Count s 40 H
    have k2 := fun H => l_Count s 41 H
    have k3 := fun H => l_Count s 44 H
    generalize s.count 40 = n1 at *
    generalize s.count 41 = n2 at *
    generalize s.count 44 = n3 at *
    have w1 : IntKind.i64.wrap (((s.length : Nat) : Int) - ((n1 : Nat) : Int)) = ((s.length : Nat) : Int) - ((n1 : Nat) : Int) := by rw [wrap_i64] <;> omega
    have w2 : IntKind.i64.wrap (((s.length : Nat) : Int) - ((n1 : Nat) : Int) - ((n2 : Nat) : Int)) = ((s.length : Nat) : Int) - ((n1 : Nat) : Int) - ((n2 : Nat) : Int) := by rw [wrap_i64] <;> omega
    have w3 : IntKind.i64.wrap (((s.length : Nat) : Int) - ((n1 : Nat) : Int) - ((n2 : Nat) : Int) - ((n3 : Nat) : Int)) = ((s.length : Nat) : Int) - ((n1 : Nat) : Int) - ((n2 : Nat) : Int) - ((n3 : Nat) : Int) := by rw [wrap_i64] <;> omega
    refine good [] [] Tryz.func17 rfl rfl Tryz.ntmps17 (by kernel_rfl) mixed (by kernel_rfl) ?_
    simp -dsimp only [go_sem]
    refine call_pure (hT _) ?_
    simp -dsimp only [go_sem]
    refine call_pure (k1 _) ?_
    simp -dsimp only [go_sem, w1]
    refine call_pure (k2 _) ?_
    simp -dsimp only [go_sem, w2]
    refine call_pure (k3 _) ?_
    simp -dsimp only [go_sem, w3]
    exact fin_pure (by simp -dsimp only [go_sem]) (by simp -dsimp only [go_sem])
theorem countVar_one (s : L8) (c : UInt8) : countVar s [c] = if (tv s && isV c) = true then (s.count c : Int) else -1 := rfl
theorem i_CountVar (s : L8) (c : UInt8) (h : AH) (hs : s.length ≤ 4611686018427387904) : Isea.Good Tryz.prog 211 [str s, str [c]] h [] (.v (.int .i64 (countVar s [c]))) h := by
  have hT := fun H => i_TypeValid s H hs
  have hV := fun H => i_isVar [c] H
  have eV : isVL [c] = isV c := rfl
  rw [eV] at hV
  rw [countVar_one]
  cases hv : tv s with
  | false =>
    rw [hv] at hT
    rw [Bool.false_and, if_neg (by simp)]
    refine good [] [] Tryz.func211 rfl rfl Tryz.ntmps211 (by kernel_rfl) mixed (by kernel_rfl) ?_
    simp -dsimp only [go_sem]
    refine call_pure (hT _) ?_
    simp -dsimp only [go_sem]
    exact fin_pure (by simp -dsimp only [go_sem]) (by simp -dsimp only [go_sem])
  | true =>
    rw [hv] at hT
    cases hc : isV c with
    | false =>
      rw [hc] at hV
      rw [Bool.and_false, if_neg (by simp)]
      refine good [] [] Tryz.func211 rfl rfl Tryz.ntmps211 (by kernel_rfl) mixed (by kernel_rfl) ?_
      simp -dsimp only [go_sem]
      refine call_pure (hT _) ?_
      simp -dsimp only [go_sem]
      refine call_pure (hV _) ?_
      simp -dsimp only [go_sem]
      exact fin_pure (by simp -dsimp only [go_sem]) (by simp -dsimp only [go_sem])
    | true =>
      rw [hc] at hV
      rw [Bool.and_true, if_pos rfl]
      refine good [] [] Tryz.func211 rfl rfl Tryz.ntmps211 (by kernel_rfl) mixed (by kernel_rfl) ?_
      simp -dsimp only [go_sem]
      refine call_pure (hT _) ?_
      simp -dsimp only [go_sem]
      refine call_pure (hV _) ?_
      simp -dsimp only [go_sem]
      refine call_pure (l_Count s c _) ?_
      simp -dsimp only [go_sem]
      exact fin_pure (by simp -dsimp only [go_sem]) (by simp -dsimp only [go_sem])
end Go.Proofs.YtnocdggngfiebaaGreatDoor

namespace Go.Proofs.YtnocdggngfiebaaGreatDoor
open Go Go.Isea
set_option maxRecDepth 100000
set_option maxHeartbeats 16000000
theorem s_DrawGrowingOf (b : L8) : ∃ (w : Wld), smW w = true ∧ w.cs.length ≤ 6 ∧ w.is.length ≤ 30 ∧ ∀ h : AH, Isea.Good Tryz.prog 48 [.sl (b.map byR)] h [] (.agg w.row) h := by
  have hbl : (b.take 2000).length ≤ 2000 := by rw [List.length_take]; omega
  obtain ⟨w, q, w1, w2, w3, g1, e1, hS⟩ := s_l3Some (b.take 2000) 0 hbl (by decide)
  refine ⟨w, w1, w2, w3, fun h => ?_⟩
  obtain ⟨cs, is⟩ := w
  have hW : (⟨cs, is⟩ : Wld).row = [.sl (cs.map Cls.row), .sl (is.map Inst.row)] := rfl
  have hNr : ∀ n : Need, n.row = [str n.c, str n.t] := fun _ => rfl
  simp only [hW, hNr] at *
  refine good [] [] Tryz.func48 rfl rfl Tryz.ntmps48 (by kernel_rfl) mixed (by kernel_rfl) ?_
  simp -dsimp only [go_sem]
  refine call_pure (s_l13Open b _) ?_
  simp -dsimp only [go_sem]
  refine call_one (hS _ _ (by simp -dsimp only [go_sem]) (by simp -dsimp only [go_sem, rdCE])) (by simp -dsimp only [go_sem]) (by simp -dsimp only [go_sem, not_false_eq_true]) ?_
  simp -dsimp only [go_sem]
  exact fin_pure (by simp -dsimp only [go_sem]) (by simp -dsimp only [go_sem])

end Go.Proofs.YtnocdggngfiebaaGreatDoor

namespace Go.Proofs.YtnocdggngfiebaaGreatDoor
open Go Go.Isea
set_option maxRecDepth 100000
/-- the table stands on a row's list -/
def pinB : List (String × DataW Unit) → Bool
  | [] => false
  | (n, .agg l) :: r => (decide (n = "internal/strconv.uint64pow10") && l.map (fun d => match d with | .lit (.int .u64 z) => z | _ => 0) == Lib.pow10Tab && l.all (fun d => match d with | .lit (.int .u64 _) => true | _ => false)) || pinB r
  | _ :: r => pinB r
theorem pin_in : ∀ {l : List (String × DataW Unit)}, pinB l = true → ("internal/strconv.uint64pow10", Lib.tabData .u64 Lib.pow10Tab) ∈ l
  | [], h => by cases h
  | (n, .agg ds) :: r, h => by
    unfold pinB at h
    rw [Bool.or_eq_true] at h
    rcases h with h | h
    · simp only [Bool.and_eq_true, decide_eq_true_eq, beq_iff_eq] at h
      obtain ⟨⟨rfl, h2⟩, h3⟩ := h
      have : ds = Lib.pow10Tab.map fun z => .lit (.int .u64 z) := by
        rw [← h2, List.map_map]
        clear h2
        induction ds with
        | nil => rfl
        | cons d ds ih =>
          rw [List.all_cons, Bool.and_eq_true] at h3
          rw [List.map_cons, ← ih h3.2]
          congr 1
          have := h3.1
          split at this
          · rfl
          · cases this
      rw [this]
      exact List.mem_cons_self ..
    · exact List.mem_cons_of_mem _ (pin_in h)
  | (_, .lit _) :: r, h => List.mem_cons_of_mem _ (pin_in (l := r) h)
  | (_, .nil) :: r, h => List.mem_cons_of_mem _ (pin_in (l := r) h)
  | (_, .ptr _) :: r, h => List.mem_cons_of_mem _ (pin_in (l := r) h)
  | (_, .slice ..) :: r, h => List.mem_cons_of_mem _ (pin_in (l := r) h)
  | (_, .map _) :: r, h => List.mem_cons_of_mem _ (pin_in (l := r) h)
  | (_, .iface ..) :: r, h => List.mem_cons_of_mem _ (pin_in (l := r) h)
  | (_, .held _) :: r, h => List.mem_cons_of_mem _ (pin_in (l := r) h)
theorem pin_laid {W : World} {l : List (String × DataW Unit)} (hp : (l.all fun x => x.2.handleName?.isNone) = true) (hm : ("internal/strconv.uint64pow10", Lib.tabData .u64 Lib.pow10Tab) ∈ l) (h : laidMetH Tryz.prog l W) (K : KM) (o : Nat → AObj) : Pin K ⟨0, o⟩ W := by
  rw [MakeChecks.laidMetH_plain _ _ _ hp] at h
  obtain ⟨g, t, cs, fuel, p, h1, h2, h3, h4⟩ := Lib.laidMet.reads h hm
  have g1 : Tryz.prog.globalNamed "internal/strconv.uint64pow10" = some 1 := by kernel_rfl
  have g2 : (Tryz.prog.globals[1]?).map (·.type) = some 331 := by kernel_rfl
  obtain rfl := Option.some.inj (g1.symm.trans h1)
  obtain rfl := Option.some.inj (g2.symm.trans h2)
  have e := Lib.cells_of_tab (n := 20) Tryz.underlying331 Tryz.underlying308 (by kernel_rfl) (by kernel_rfl) h4
  intro q hq
  have hq : q = (1, Lib.pow10Tab.map fun z => Value.int .u64 z) := by
    have : pins = [(1, Lib.pow10Tab.map fun z => Value.int .u64 z)] := by kernel_rfl
    rw [this] at hq
    simpa using hq
  subst hq
  unfold World.var? at h3
  rw [g1] at h3
  simp only [Option.bind_some] at h3
  split at h3
  · rename_i cs' ty x hx
    injection h3 with h3
    subst h3
    refine ⟨⟨(Array.getElem?_eq_some_iff.1 hx).1, fun t ht => absurd ht (Nat.not_lt_zero _)⟩, ty, x, ?_⟩
    rw [hx]
    have : cs' = (Lib.pow10Tab.map fun z => Value.int .u64 z).toArray := by rw [← e]
    rw [this]
  · cases h3
end Go.Proofs.YtnocdggngfiebaaGreatDoor
