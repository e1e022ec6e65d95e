/- Contracts of functions of this program, for all arguments that satisfy what each lemma asks for. -/
import Derived.Test.YtnocdggngfiebaaGreatDoorMf
import Derived.Test.YtnocdggngfiebaaGreatDoorMd
import Derived.ProofKit
import Derived.Deep.Slices
set_option linter.all false
namespace Go.Proofs.YtnocdggngfiebaaGreatDoor
open Go Go.Isea
set_option maxRecDepth 100000
set_option maxHeartbeats 8000000
def aCells (w : Wld) (gs : List Need) (ta a : Nat) : List AV := [.sl (w.cs.map Cls.row), .sl (w.is.map Inst.row), .v (.bool false), .fn 192 [.ref w.row 0, .ref [.sl (gs.map Need.row)] 0], .so ta a a, .junk, .junk, .junk]
theorem l_Clone_st (st : List Need) (h : AH) (hl : st.length ≤ 1000) : Isea.Good Tryz.prog 97 [stA st] h [] (.so h.n st.length st.length) (h.push (.rows 28 2 (st.map Need.row))) := by
  cases st with
  | nil => exact Good.ghostR (by decide) (l_Clone_nil h)
  | cons x xs => exact l_Clone_Need x xs h (by simp at hl; omega)
end Go.Proofs.YtnocdggngfiebaaGreatDoor

namespace Go.Isea
open Go
theorem list_cases {α : Type} (l : List α) : l = [] ∨ (∃ a, l = [a]) ∨ ∃ a b r, l = a :: b :: r := by
  rcases l with _ | ⟨a, _ | ⟨b, r⟩⟩
  · exact .inl rfl
  · exact .inr (.inl ⟨a, rfl⟩)
  · exact .inr (.inr ⟨a, b, r, rfl⟩)
theorem opt_cases {α : Type} (o : Option α) : o = none ∨ ∃ a, o = some a := by
  cases o with
  | none => exact .inl rfl
  | some a => exact .inr ⟨a, rfl⟩
theorem many_ok {w : Wld} {n : Need} {l : List Nat} (hcl : candIx w n = l) (hwl : w.is.length ≤ 10) : l.length ≤ 1000 ∧ ∀ i ∈ l, i < w.is.length := by
  subst hcl
  refine ⟨Nat.le_trans (candTake_len w n w.is.length) (by omega), fun i hi => ?_⟩
  obtain ⟨x, hx, _⟩ := cand_mem hi
  exact (List.getElem?_eq_some_iff.1 hx).1
end Go.Isea
namespace Go.Proofs.YtnocdggngfiebaaGreatDoor
open Go Go.Isea
set_option maxRecDepth 100000
set_option maxHeartbeats 16000000
def AskOk (w : Wld) (gs : List Need) (f : Nat) : Prop := ∀ (l ta : Nat) (n : Need) (a : Nat) (st : List Need) (h : AH), l < h.n → ta < h.n → ¬ l = ta → h.o l = .cells (aCells w gs ta a) → h.o ta = .rows 28 2 (aRows a) → NOk w n → a ≤ 300 → f ≤ 31 → st.length = 31 - f →
    Isea.Good Tryz.prog 194 [.ptr l 0, .agg n.row, stA st] h [l, ta] (.tup [str (askS w gs f n a).1, str (askS w gs f n a).2.2])
      ⟨h.n, upd (upd h.o l (.cells (aCells w gs ta (askS w gs f n a).2.1))) ta (.rows 28 2 (aRows (askS w gs f n a).2.1))⟩
end Go.Proofs.YtnocdggngfiebaaGreatDoor

namespace Go.Proofs.YtnocdggngfiebaaGreatDoor
open Go Go.Isea
set_option maxRecDepth 100000
set_option maxHeartbeats 8000000
def bCells (w : Wld) (gs : List Need) : List AV := [.sl (w.cs.map Cls.row), .sl (w.is.map Inst.row), .v (.bool false), .fn 192 [.ref w.row 0, .ref [.sl (gs.map Need.row)] 0], .v (.slice none 0 0), str [], str [], .v (.slice none 0 0)]
end Go.Proofs.YtnocdggngfiebaaGreatDoor

namespace Go.Isea
open Go
/-- as long as a length may be -/
def Need.Mx (n : Need) : Prop := n.c.length ≤ 9223372036854775807 ∧ n.t.length ≤ 9223372036854775807
def Cls.Mx (n : Cls) : Prop := n.n.length ≤ 9223372036854775807 ∧ n.s.length ≤ 9223372036854775807
def Inst.Mx (i : Inst) : Prop := i.c.length ≤ 9223372036854775807 ∧ i.t.length ≤ 9223372036854775807 ∧ i.ns.length ≤ 9223372036854775807 ∧ ∀ n ∈ i.ns, n.Mx
structure Wld.Mx (w : Wld) : Prop where
  cl : w.cs.length ≤ 9223372036854775807
  c : ∀ c ∈ w.cs, c.Mx
  il : w.is.length ≤ 9223372036854775807
  i : ∀ i ∈ w.is, i.Mx
def cutN (L s : Nat) : Int := if s ≤ L then ((L - s : Nat) : Int) else -1
def Need.sz (n : Need) : Nat := n.c.length + n.t.length
def Cls.sz (n : Cls) : Nat := n.n.length + n.s.length
def szL {α : Type} (f : α → Nat) : List α → Nat
  | [] => 0
  | a :: l => f a + szL f l
def szS {α : Type} (f : α → Nat) (l : List α) : Nat := l.length + szL f l
def Inst.sz (i : Inst) : Nat := i.c.length + i.t.length + szS Need.sz i.ns
def Wld.sz (w : Wld) : Nat := szS Cls.sz w.cs + szS Inst.sz w.is
end Go.Isea
namespace Go.Proofs.YtnocdggngfiebaaGreatDoor
open Go Go.Isea
set_option maxRecDepth 100000
set_option maxHeartbeats 8000000
end Go.Proofs.YtnocdggngfiebaaGreatDoor

namespace Go.Isea
open Go
def Need.Ok (_ : Need) : Prop := True
def Cls.Ok (_ : Cls) : Prop := True
def Inst.Ok (i : Inst) : Prop := i.ns.length ≤ 1048576
def fillR {α : Type} (f : α → List AV) (sz : Nat) (l : List α) (k : Nat) : List (List AV) := (l.take k).map f ++ List.replicate (l.length - k) (List.replicate sz .junk)
end Go.Isea
namespace Go.Proofs.YtnocdggngfiebaaGreatDoor
open Go Go.Isea
set_option maxRecDepth 100000
set_option maxHeartbeats 8000000
end Go.Proofs.YtnocdggngfiebaaGreatDoor

namespace Go.Proofs.YtnocdggngfiebaaGreatDoor
open Go Go.Isea
set_option maxRecDepth 100000
set_option maxHeartbeats 8000000
end Go.Proofs.YtnocdggngfiebaaGreatDoor

namespace Go.Isea
open Go
end Go.Isea

namespace Go.Isea
open Go Go.ChangeShapes Go.WideShapes Go.ChangeAt Go.RowKit Go.Deep
variable {P : Program} {H : Type} {enc : TypeId × Value → H} {w : World} {sp : Nat → Bool} {held : Bool}
/-- cells that read as a row -/
def RowR (w : World) (r : List AV) (cs : List Value) : Prop := cs.length = r.length ∧ ∀ (K : KM) (o : Nat → AObj) (j : Nat) (x : AV) (y : Value), r[j]? = some x → cs[j]? = some y → Rep K ⟨0, o⟩ w x y
theorem addr_none {a : Addr} (h : a.spot = none) (n : Nat) : a.add n = ⟨a.block, a.off + n, none⟩ := by
  unfold Addr.add
  split
  · rename_i e; subst e; cases a; simp only at h; subst h; rfl
  · rfl
theorem rep_slice {α : Type} {f : α → List AV} {Q : α → Prop} {t e sz fuel : Nat} {v : Value} {x : DataW H × List MemPlace} (ht : P.underlying t = some (.slice e)) (hsz : P.cellsOf e = sz) (hf : ∀ a, (f a).length = sz) (h0 : 0 < sz)
    (helem : ∀ n cs' y, cs'.length = sz → DataW.trod enc P w 0 sp held n e cs' = some y → ∃ a, RowR w (f a) cs' ∧ Q a)
    (h : DataW.trod enc P w 0 sp held fuel t [v] = some x) : ∃ l : List α, (∀ (K : KM) (o : Nat → AObj), Rep K ⟨0, o⟩ w (.sl (l.map f)) v) ∧ l.length ≤ 9223372036854775807 ∧ ∀ a ∈ l, Q a := by
  rcases open_slice ht h with ⟨h1, _⟩ | ⟨a, len, cap, m, n, D, Pl, h1, hb, hl, hm, hmm, _, hx⟩
  · injection h1 with h1
    subst h1
    exact ⟨[], fun K o => .sl0 _ _, by simp, fun a ha => by cases ha⟩
  · injection h1 with h1
    subst h1
    have hlm : len ≤ m := by rw [hmm]; split <;> omega
    have mk : ∀ k, k ≤ len → ∃ l : List α, l.length = k ∧ (∀ a ∈ l, Q a) ∧ ∀ i b, l[i]? = some b → ∃ cs', w.cells? 0 (a.add (i * sz)) sz = some cs' ∧ RowR w (f b) cs' := by
      intro k
      induction k with
      | zero => exact fun _ => ⟨[], rfl, fun _ h => (by cases h), fun i b h => (by simp at h)⟩
      | succ k ih =>
        intro hk
        obtain ⟨l, l1, l2, l3⟩ := ih (by omega)
        obtain ⟨cs', c1, c2⟩ := hx k (by omega)
        rw [hsz] at c1
        obtain ⟨_, c3, _⟩ := World.cells?_some c1
        obtain ⟨b, b1, b2⟩ := helem n cs' _ c3 c2
        refine ⟨l ++ [b], by simp [l1], fun a ha => ?_, fun i b' hi => ?_⟩
        · rcases List.mem_append.1 ha with ha | ha
          · exact l2 a ha
          · rw [List.mem_singleton.1 ha]; exact b2
        · by_cases hil : i < k
          · rw [List.getElem?_append_left (by omega)] at hi
            exact l3 i b' hi
          · rw [List.getElem?_append_right (by omega)] at hi
            have hi0 : i - l.length = 0 := by
              have := (List.getElem?_eq_some_iff.1 hi).1
              simp at this; omega
            rw [hi0] at hi
            simp only [List.getElem?_cons_zero, Option.some.injEq] at hi
            subst hi
            have : i = k := by omega
            subst this
            exact ⟨cs', c1, b1⟩
    obtain ⟨l, l1, l2, l3⟩ := mk len (Nat.le_refl _)
    refine ⟨l, fun K o => ?_, by have : maxLen = 9223372036854775807 := by decide
                                 omega, l2⟩
    rcases Nat.eq_zero_or_pos len with hz | hpos
    · subst hz
      have : l = [] := List.length_eq_zero_iff.1 l1
      subst this
      exact .sl0 _ _
    · obtain ⟨b0, hb0⟩ := get_some (l := l) (k := 0) (by omega)
      obtain ⟨cs0, c01, c02⟩ := l3 0 b0 hb0
      obtain ⟨_, c03, c04⟩ := World.cells?_some c01
      have hc0 : ∃ y, w.cell? a = some y := by
        have := c04 0 h0
        have e1 : (a.add (0 * sz)).add 0 = a := by simp [Addr.add]
        rw [e1] at this
        obtain ⟨y, hy⟩ := get_some (l := cs0) (k := 0) (by omega)
        exact ⟨y, this.trans hy⟩
      obtain ⟨y0, hy0⟩ := hc0
      have hspot : a.spot = none ∧ a.block < w.heap.size := by
        unfold World.cell? at hy0
        split at hy0
        · rename_i hh
          split at hy0
          · cases hy0
          · rename_i hs
            exact ⟨by simpa using hs, (Array.getElem?_eq_some_iff.1 hh).1⟩
        · cases hy0
      have ha : a = ⟨a.block, a.off, none⟩ := by
        have := hspot.1
        cases a; simp only at this; subst this; rfl
      have cellAt : ∀ i b cs', l[i]? = some b → w.cells? 0 (a.add (i * sz)) sz = some cs' → ∀ j, j < sz → w.cell? ⟨a.block, a.off + (i * sz + j), none⟩ = cs'[j]? := fun i b cs' _ hc j hj => by
        have g := (World.cells?_some hc).2.2 j hj
        rw [addr_none hspot.1, addr_none (a := ⟨a.block, a.off + i * sz, none⟩) rfl] at g
        rw [← Nat.add_assoc]; exact g
      have hlen : (l.map f).length = len := by rw [List.length_map, l1]
      have key : Rep K ⟨0, o⟩ w (.sl (l.map f)) (.slice (some ⟨a.block, a.off, none⟩) (l.map f).length cap) := by
        refine .sl (sz := sz) (f := fun k => (w.cell? ⟨a.block, a.off + k, none⟩).getD undef) ⟨hspot.2, fun t ht => absurd ht (Nat.not_lt_zero _)⟩ (by omega) (fun r hr => ?_) (fun k hk => ?_) (fun i j r x' hr hx' => ?_)
        · obtain ⟨b, _, rfl⟩ := List.mem_map.1 hr
          exact hf b
        · rw [hlen] at hk
          have hdm := Nat.div_add_mod k sz
          have hmod := Nat.mod_lt k h0
          have hdiv : k / sz < len := Nat.div_lt_of_lt_mul (by rw [Nat.mul_comm]; exact hk)
          obtain ⟨b, hb'⟩ := get_some (l := l) (k := k / sz) (by omega)
          obtain ⟨cs', d1, _⟩ := l3 _ b hb'
          have g := cellAt _ b cs' hb' d1 (k % sz) hmod
          rw [Nat.mul_comm, hdm] at g
          obtain ⟨y, hy⟩ := get_some (l := cs') (k := k % sz) (by rw [(World.cells?_some d1).2.1]; exact hmod)
          rw [hy] at g
          simp only [g, Option.getD_some]
        · rw [List.getElem?_map] at hr
          cases hb' : l[i]? with
          | none => rw [hb'] at hr; cases hr
          | some b =>
            rw [hb'] at hr
            simp only [Option.map_some, Option.some.injEq] at hr
            subst hr
            obtain ⟨cs', d1, d2⟩ := l3 i b hb'
            have hj : j < sz := by have := (List.getElem?_eq_some_iff.1 hx').1; rw [hf] at this; exact this
            have g := cellAt i b cs' hb' d1 j hj
            obtain ⟨y, hy⟩ := get_some (l := cs') (k := j) (by rw [(World.cells?_some d1).2.1]; exact hj)
            rw [hy] at g
            simp only [g, Option.getD_some]
            exact d2.2 K o j x' y hx' hy
      rw [hlen, ← ha] at key
      exact key
end Go.Isea

namespace Go.Isea
open Go Go.ChangeShapes Go.WideShapes Go.ChangeAt Go.RowKit Go.Deep
variable {P : Program} {H : Type} {enc : TypeId × Value → H} {w : World} {sp : Nat → Bool} {held : Bool}
end Go.Isea

namespace Go.Proofs.YtnocdggngfiebaaGreatDoor
open Go Go.Isea Go.ChangeShapes Go.WideShapes Go.ChangeAt Go.RowKit Go.Deep
set_option maxRecDepth 100000
variable {H : Type} {enc : TypeId × Value → H} {w : World} {sp : Nat → Bool} {held : Bool}
end Go.Proofs.YtnocdggngfiebaaGreatDoor
