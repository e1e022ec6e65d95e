/- Contracts of functions of this program, for all arguments that satisfy what each lemma asks for. -/
import Derived.Test.YtnocdggngfiebaaGreatDoorMx
import Derived.Test.YtnocdggngfiebaaGreatDoorMe
set_option linter.all false
namespace Go.Isea
set_option maxRecDepth 100000
inductive Dct where
  | mk (i : Nat) (ps : List Dct)
def Dct.i : Dct → Nat
  | .mk i _ => i
def Dct.ps : Dct → List Dct
  | .mk _ ps => ps
mutual
def Dct.text : Dct → L8
  | .mk i ps => digitL i ++ textB 0 ps ++ (match ps with | [] => [] | _ :: _ => [41])
def textB : Nat → List Dct → L8
  | _, [] => []
  | k, p :: ps => [sep k] ++ p.text ++ textB (k + 1) ps
end
mutual
def Dct.size : Dct → Nat
  | .mk _ ps => 1 + sizeB ps
def sizeB : List Dct → Nat
  | [] => 0
  | p :: ps => p.size + sizeB ps
end
mutual
def Dct.depth : Dct → Nat
  | .mk _ ps => depthB ps
def depthB : List Dct → Nat
  | [] => 0
  | p :: ps => max (1 + p.depth) (depthB ps)
end
mutual
/-- a number of one digit, three parts at most -/
def Dct.wf : Dct → Prop
  | .mk i ps => i ≤ 9 ∧ ps.length ≤ 3 ∧ wfB ps
def wfB : List Dct → Prop
  | [] => True
  | p :: ps => p.wf ∧ wfB ps
end
theorem wfB_iff : ∀ {ps : List Dct}, wfB ps ↔ ∀ p ∈ ps, p.wf
  | [] => by simp [wfB]
  | p :: ps => by simp [wfB, wfB_iff (ps := ps)]
theorem text_pos (d : Dct) : 0 < d.text.length := by
  cases d with
  | mk i ps => simp [Dct.text, digitL]
def isDig (c : UInt8) : Bool := decide (48 ≤ c.toNat) && decide (c.toNat ≤ 57)
mutual
/-- a dictionary from the beginning of a text, and what is behind it -/
def pD : Nat → L8 → Option (Dct × L8)
  | 0, _ => none
  | _ + 1, [] => none
  | f + 1, c :: r => if isDig c = true then (match r with
      | 40 :: r1 => (match pL f (44 :: r1) with
        | some (ps, 41 :: r3) => if ps.length ≤ 3 then some (.mk (c.toNat - 48) ps, r3) else none
        | _ => none)
      | _ => some (.mk (c.toNat - 48) [], r)) else none
/-- parts, each behind a comma -/
def pL : Nat → L8 → Option (List Dct × L8)
  | 0, _ => none
  | f + 1, s => match s with
    | 44 :: r => (match pD f r with
      | some (p, r2) => (match pL f r2 with
        | some (ps, r3) => some (p :: ps, r3)
        | none => none)
      | none => none)
    | s => some ([], s)
end
def dictOf (s : L8) : Option Dct := if 1200 < s.length then none else match pD (2 * s.length + 2) s with
  | some (d, []) => some d
  | _ => none
theorem digit_dig : ∀ k, k ≤ 9 → isDig (UInt8.ofNat (48 + k)) = true ∧ (UInt8.ofNat (48 + k)).toNat - 48 = k := by
  intro k hk
  have : ∀ k : _root_.Fin 10, isDig (UInt8.ofNat (48 + k.val)) = true ∧ (UInt8.ofNat (48 + k.val)).toNat - 48 = k.val := by decide
  exact this ⟨k, by omega⟩
/-- what stands behind a dictionary does not go on with it -/
def NoOpen : L8 → Prop
  | 40 :: _ => False
  | _ => True
def NoComma : L8 → Prop
  | 44 :: _ => False
  | _ => True
theorem pL_nil {f : Nat} {r : L8} (h : NoComma r) : pL (f + 1) r = some ([], r) := by
  unfold pL
  split
  · exact h.elim
  · rfl
theorem textB_same : ∀ (ps : List Dct) (k j : Nat), k ≠ 0 → j ≠ 0 → textB k ps = textB j ps
  | [], _, _, _, _ => by simp [textB]
  | p :: ps, k, j, hk, hj => by simp [textB, sep, hk, hj, textB_same ps (k + 1) (j + 1) (by omega) (by omega)]
def PD (f : Nat) : Prop := ∀ (d : Dct) (r : L8), d.wf → 2 * d.text.length ≤ f → NoOpen r → pD f (d.text ++ r) = some (d, r)
def PL (f : Nat) : Prop := ∀ (ps : List Dct) (r : L8), wfB ps → 2 * (textB 1 ps).length + 1 ≤ f → NoOpen r → NoComma r → pL f (textB 1 ps ++ r) = some (ps, r)
theorem pD_step {f : Nat} (ih : PL f) : PD (f + 1) := by
  intro d r hw hf hr
  cases d with
  | mk i ps =>
    have hw0 : i ≤ 9 ∧ ps.length ≤ 3 ∧ wfB ps := by rwa [Dct.wf] at hw
    have hd := digit_dig i hw0.1
    cases ps with
    | nil =>
      have e : (Dct.mk i []).text ++ r = UInt8.ofNat (48 + i) :: r := by simp [Dct.text, textB, digitL]
      rw [e, pD, if_pos hd.1, hd.2]
      intro r1 hr1
      rw [hr1] at hr
      exact hr
    | cons p ps =>
      have h2 : textB 2 ps = textB 1 ps := textB_same ps 2 1 (by decide) (by decide)
      have e : (Dct.mk i (p :: ps)).text ++ r = UInt8.ofNat (48 + i) :: 40 :: (p.text ++ (textB 1 ps ++ 41 :: r)) := by simp [Dct.text, textB, digitL, sep]
      have hl : (Dct.mk i (p :: ps)).text.length = p.text.length + (textB 1 ps).length + 3 := by simp [Dct.text, textB, digitL] <;> omega
      have hl1 : (textB 1 (p :: ps)).length = p.text.length + (textB 1 ps).length + 1 := by simp [textB, h2] <;> omega
      have h1 := ih (p :: ps) (41 :: r) hw0.2.2 (by omega) trivial trivial
      have e1 : textB 1 (p :: ps) ++ 41 :: r = 44 :: (p.text ++ (textB 1 ps ++ 41 :: r)) := by simp [textB, sep, h2]
      rw [e1] at h1
      rw [e, pD, if_pos hd.1, hd.2, h1]
      show (if (p :: ps).length ≤ 3 then _ else _) = _
      rw [if_pos hw0.2.1]
theorem pL_step {f : Nat} (ih1 : PD f) (ih2 : PL f) : PL (f + 1) := by
  intro ps r hw hf ho hc
  cases ps with
  | nil =>
    rw [textB, List.nil_append]
    exact pL_nil hc
  | cons p ps =>
    have hw' : p.wf ∧ wfB ps := by rwa [wfB] at hw
    have h2 : textB 2 ps = textB 1 ps := textB_same ps 2 1 (by decide) (by decide)
    have hl : (textB 1 (p :: ps)).length = p.text.length + (textB 1 ps).length + 1 := by simp [textB, h2] <;> omega
    have e1 : textB 1 (p :: ps) ++ r = 44 :: (p.text ++ (textB 1 ps ++ r)) := by simp [textB, sep, h2]
    have hop : NoOpen (textB 1 ps ++ r) := by
      cases ps with
      | nil => rw [textB, List.nil_append]; exact ho
      | cons q qs => simp [textB, sep, NoOpen]
    have g1 := ih1 p (textB 1 ps ++ r) hw'.1 (by omega) hop
    have g2 := ih2 ps r hw'.2 (by omega) ho hc
    rw [e1, pL, g1]
    show (match pL f (textB 1 ps ++ r) with | some (ps, r3) => some (p :: ps, r3) | none => none) = _
    rw [g2]
theorem pDL : ∀ f, PD f ∧ PL f
  | 0 => ⟨fun d r _ hf _ => by have := text_pos d; omega, fun ps r _ hf _ _ => by omega⟩
  | f + 1 => ⟨pD_step (pDL f).2, pL_step (pDL f).1 (pDL f).2⟩
theorem dictOf_text {d : Dct} (hw : d.wf) (hl : d.text.length ≤ 1200) : dictOf d.text = some d := by
  unfold dictOf
  rw [if_neg (by omega)]
  have := (pDL (2 * d.text.length + 2)).1 d [] hw (by omega) trivial
  rw [List.append_nil] at this
  rw [this]
end Go.Isea

namespace Go.Isea
set_option maxRecDepth 100000
mutual
/-- instances below a number, three parts at most -/
def Dct.okN (N : Nat) : Dct → Prop
  | .mk i ps => i < N ∧ ps.length ≤ 3 ∧ okB N ps
def okB (N : Nat) : List Dct → Prop
  | [] => True
  | p :: ps => p.okN N ∧ okB N ps
end
mutual
theorem okN_wf {N : Nat} (hN : N ≤ 10) : ∀ d : Dct, d.okN N → d.wf
  | .mk i ps, h => by
    rw [Dct.okN] at h
    rw [Dct.wf]
    exact ⟨by omega, h.2.1, okB_wf hN ps h.2.2⟩
theorem okB_wf {N : Nat} (hN : N ≤ 10) : ∀ ps : List Dct, okB N ps → wfB ps
  | [], _ => by rw [wfB]; trivial
  | p :: ps, h => by
    rw [okB] at h
    rw [wfB]
    exact ⟨okN_wf hN p h.1, okB_wf hN ps h.2⟩
end
def TxtN (N : Nat) (x : L8) : Prop := ∃ d : Dct, d.okN N ∧ x = d.text
def RowN (N k : Nat) (row : List L8) : Prop := row.length = k ∧ ∀ x ∈ row, TxtN N x
/-! digits -/
def digB (c : UInt8) : Bool := decide (48 ≤ c.toNat) && decide (c.toNat ≤ 57)
theorem digitsL_append (a b : L8) : digitsL (a ++ b) = digitsL a + digitsL b := List.countP_append ..
theorem digitsL_digit (i : Nat) (hi : i ≤ 9) : digitsL (digitL i) = 1 := by
  have : ∀ k : _root_.Fin 10, digitsL (digitL k.val) = 1 := by decide
  exact this ⟨i, by omega⟩
mutual
theorem digits_text : ∀ d : Dct, d.wf → digitsL d.text = d.size
  | .mk i ps, h => by
    rw [Dct.wf] at h
    have e : (Dct.mk i ps).text = digitL i ++ textB 0 ps ++ (match ps with | [] => [] | _ :: _ => [41]) := by cases ps <;> simp [Dct.text]
    rw [e, Dct.size, digitsL_append, digitsL_append, digitsL_digit i h.1, digits_B ps 0 h.2.2]
    cases ps <;> rfl
theorem digits_B : ∀ (ps : List Dct) (k : Nat), wfB ps → digitsL (textB k ps) = sizeB ps
  | [], _, _ => by rw [textB, sizeB]; rfl
  | p :: ps, k, h => by
    rw [wfB] at h
    rw [textB, sizeB, digitsL_append, digitsL_append, digits_text p h.1, digits_B ps (k + 1) h.2]
    have : digitsL [sep k] = 0 := by unfold sep; split <;> decide
    omega
end
mutual
/-- a digit that stands in a text is that of an instance -/
theorem dig_text {N : Nat} (hN : N ≤ 10) : ∀ (d : Dct), d.okN N → ∀ c ∈ d.text, isDig c = true → c.toNat - 48 < N
  | .mk i ps, h, c, hc, hd => by
    rw [Dct.okN] at h
    have e : (Dct.mk i ps).text = digitL i ++ textB 0 ps ++ (match ps with | [] => [] | _ :: _ => [41]) := by cases ps <;> simp [Dct.text]
    rw [e] at hc
    rcases List.mem_append.1 hc with hc | hc
    · rcases List.mem_append.1 hc with hc | hc
      · rw [digitL, List.mem_singleton] at hc
        rw [hc, (digit_dig i (by omega)).2]; exact h.1
      · exact dig_B hN ps 0 h.2.2 c hc hd
    · cases ps with
      | nil => cases hc
      | cons p ps =>
        rw [List.mem_singleton.1 hc] at hd; exact absurd hd (by decide)
theorem dig_B {N : Nat} (hN : N ≤ 10) : ∀ (ps : List Dct) (k : Nat), okB N ps → ∀ c ∈ textB k ps, isDig c = true → c.toNat - 48 < N
  | [], k, _, c, hc, _ => by rw [textB] at hc; cases hc
  | p :: ps, k, h, c, hc, hd => by
    rw [okB] at h
    rw [textB] at hc
    rcases List.mem_append.1 hc with hc | hc
    · rcases List.mem_append.1 hc with hc | hc
      · rw [List.mem_singleton.1 hc] at hd
        unfold sep at hd
        split at hd <;> exact absurd hd (by decide)
      · exact dig_text hN p h.1 c hc hd
    · exact dig_B hN ps (k + 1) h.2 c hc hd
end
end Go.Isea

namespace Go.Isea
open Go
set_option maxRecDepth 100000
/-! the program's reader -/
def lpDI (rd : L8 → Option Dct × L8) : Nat → List Dct → L8 → Option (List Dct) × L8
  | 0, _, s => (none, s)
  | m + 1, ps, s => if ((pfx s 40 && decide (ps.length = 0)) || pfx s 44) = true then (match rd s.tail with
      | (some p, r) => lpDI rd m (ps ++ [p]) r
      | (none, _) => (none, s)) else (some ps, s)
def endDI (i : Nat) (ps : List Dct) (s : L8) : Option Dct × L8 := if pfx s 41 = true ∧ ps.length ≤ 3 then (some (.mk i ps), s.tail) else (none, s)
def finDI (i : Nat) (x : Option (List Dct) × L8) : Option Dct × L8 := match x with
  | (none, s) => (none, s)
  | (some ps, s) => endDI i ps s
def readDI : Nat → L8 → Option Dct × L8
  | 0, s => (none, s)
  | _ + 1, [] => (none, [])
  | f + 1, c :: r => if isDig c = true then (if pfx r 40 = true then finDI (c.toNat - 48) (lpDI (readDI f) f [] r) else (some (.mk (c.toNat - 48) []), r)) else (none, c :: r)
/-- what a reader is to tell -/
def RD (rd : L8 → Option Dct × L8) (s : L8) (F : Nat) : Prop := match pD F s with
  | some (d, r) => rd s = (some d, r) ∧ r.length < s.length
  | none => (rd s).1 = none
def RL (rd : L8 → Option Dct × L8) (m : Nat) (ps : List Dct) (s : L8) (F : Nat) : Prop := match pL F s with
  | some (qs, r) => lpDI rd m ps s = (some (ps ++ qs), r) ∧ r.length ≤ s.length
  | none => (lpDI rd m ps s).1 = none
theorem pL_e (f : Nat) : pL (f + 1) [] = some ([], []) := pL_nil trivial
theorem pD_e (f : Nat) : pD (f + 1) [] = none := by rw [pD]
theorem pair_eq {α β : Type} {x : α × β} {a : α} (h : x.1 = a) : x = (a, x.2) := by rw [← h]
theorem lp_pL {rd : L8 → Option Dct × L8} : ∀ (m : Nat) (ps : List Dct) (s : L8) (F : Nat), s.length < m → 2 * s.length + 1 ≤ F → ps ≠ [] → (∀ s' F', s'.length < s.length → 2 * s'.length + 2 ≤ F' → RD rd s' F') → RL rd m ps s F
  | 0, _, _, _, h, _, _, _ => by omega
  | m + 1, ps, s, 0, _, h, _, _ => by omega
  | m + 1, ps, s, F + 1, hm, hF, hp, hr => by
    have hp0 : ¬ ps.length = 0 := fun e => hp (List.eq_nil_of_length_eq_zero e)
    cases s with
    | nil => simp [RL, pL_e, lpDI, pfx]
    | cons c r =>
      by_cases hc : c = 44
      · subst hc
        simp only [List.length_cons] at hm hF hr
        have h1 := hr r F (by omega) (by omega)
        unfold RD at h1
        unfold RL
        rw [pL]
        cases hd : pD F r with
        | none =>
          rw [hd] at h1
          simp only at h1
          cases hy : rd r with
          | mk o s2 =>
            rw [hy] at h1
            simp only at h1
            subst h1
            simp [lpDI, pfx, hy]
        | some x =>
          obtain ⟨p, r2⟩ := x
          rw [hd] at h1
          simp only at h1
          obtain ⟨h1, h2⟩ := h1
          have g := lp_pL m (ps ++ [p]) r2 F (by omega) (by omega) (by simp) (fun s' F' a b => hr s' F' (by omega) b)
          unfold RL at g
          have e : lpDI rd (m + 1) ps (44 :: r) = lpDI rd m (ps ++ [p]) r2 := by simp [lpDI, pfx, h1]
          rw [e]
          simp only
          cases hl : pL F r2 with
          | none => rw [hl] at g; simpa using g
          | some y =>
            obtain ⟨qs, r3⟩ := y
            rw [hl] at g
            simp only at g ⊢
            refine ⟨by rw [g.1]; simp, by simp only [List.length_cons]; omega⟩
      · have e : pL (F + 1) (c :: r) = some ([], c :: r) := pL_nil (by
          unfold NoComma
          split
          · rename_i heq; simp at heq; exact hc heq.1
          · trivial)
        unfold RL
        rw [e]
        simp [lpDI, pfx, hc, hp0]
theorem pfx_t {s : L8} {d : UInt8} (h : pfx s d = true) : ∃ l, s = d :: l := by
  cases s with
  | nil => cases h
  | cons c l => exact ⟨l, by simp only [pfx, decide_eq_true_eq] at h; rw [h]⟩
def closeP (i : Nat) : Option (List Dct × L8) → Option (Dct × L8)
  | some (ps, 41 :: r3) => if ps.length ≤ 3 then some (.mk i ps, r3) else none
  | _ => none
theorem closeP_none (i : Nat) : closeP i none = none := rfl
theorem closeP_nil (i : Nat) (ps : List Dct) : closeP i (some (ps, [])) = none := rfl
theorem closeP_41 (i : Nat) (ps : List Dct) (r : L8) : closeP i (some (ps, 41 :: r)) = if ps.length ≤ 3 then some (.mk i ps, r) else none := rfl
theorem closeP_ne (i : Nat) (ps : List Dct) (r : L8) {e : UInt8} (h : ¬ e = 41) : closeP i (some (ps, e :: r)) = none := by
  unfold closeP
  split
  · rename_i heq; simp at heq; exact absurd heq.2.1 h
  · rfl
theorem pD_none {f : Nat} {c : UInt8} {r : L8} (h : ¬ isDig c = true) : pD (f + 1) (c :: r) = none := by
  cases hr : pfx r 40 with
  | true => obtain ⟨l, rfl⟩ := pfx_t hr; rw [pD, if_neg h]
  | false =>
    rw [pD, if_neg h]
    intro r1 e
    rw [e] at hr
    simp [pfx] at hr
theorem pD_flat {f : Nat} {c : UInt8} {r : L8} (h : isDig c = true) (hr : pfx r 40 = false) : pD (f + 1) (c :: r) = some (.mk (c.toNat - 48) [], r) := by
  rw [pD, if_pos h]
  intro r1 e
  rw [e] at hr
  simp [pfx] at hr
theorem pD_open {f : Nat} {c : UInt8} {r : L8} (h : isDig c = true) : pD (f + 1) (c :: 40 :: r) = closeP (c.toNat - 48) (pL f (44 :: r)) := by
  rw [pD, if_pos h]
  first
  | rfl
  | (unfold closeP; split <;> rfl)
  | (unfold closeP
     split
     · rename_i ps r3 e; rw [e]; rfl
     · rename_i hne
       split
       · rename_i ps r3 e; exact absurd e (hne ps r3)
       · rfl)
theorem readDI_pD : ∀ (f : Nat) (s : L8) (F : Nat), s.length < f → 2 * s.length + 2 ≤ F → RD (readDI f) s F
  | 0, _, _, h, _ => by omega
  | f + 1, s, 0, _, h => by omega
  | f + 1, [], F + 1, _, _ => by unfold RD; rw [pD_e]; rfl
  | f + 1, c :: r, F + 1, hf, hF => by
    simp only [List.length_cons] at hf hF
    have ih := readDI_pD f
    unfold RD
    by_cases hd : isDig c = true
    · cases hr : pfx r 40 with
      | false =>
        rw [pD_flat hd hr]
        simp [readDI, hd, hr]
      | true =>
        obtain ⟨r1, rfl⟩ := pfx_t hr
        simp only [List.length_cons] at hf hF
        obtain ⟨F, rfl⟩ : ∃ F', F = F' + 1 := ⟨F - 1, by omega⟩
        obtain ⟨f, rfl⟩ : ∃ f', f = f' + 1 := ⟨f - 1, by omega⟩
        have h1 := ih r1 F (by omega) (by omega)
        unfold RD at h1
        rw [pD_open hd, pL]
        have e0 : readDI (f + 1 + 1) (c :: 40 :: r1) = finDI (c.toNat - 48) (lpDI (readDI (f + 1)) (f + 1) [] (40 :: r1)) := by
          rw [readDI, if_pos hd, if_pos hr]
        rw [e0]
        cases hx : pD F r1 with
        | none =>
          rw [hx] at h1
          simp only at h1 ⊢
          cases hy : readDI (f + 1) r1 with
          | mk o s2 =>
            rw [hy] at h1
            simp only at h1
            subst h1
            rw [closeP_none]
            simp [lpDI, pfx, hy, finDI]
        | some x =>
          obtain ⟨p, r2⟩ := x
          rw [hx] at h1
          simp only at h1 ⊢
          obtain ⟨h1, h2⟩ := h1
          have e : lpDI (readDI (f + 1)) (f + 1) [] (40 :: r1) = lpDI (readDI (f + 1)) f [p] r2 := by simp [lpDI, pfx, h1]
          rw [e]
          have g := lp_pL (rd := readDI (f + 1)) f [p] r2 F (by omega) (by omega) (by simp) (fun s' F' a b => ih s' F' (by omega) b)
          unfold RL at g
          cases hl : pL F r2 with
          | none =>
            rw [hl] at g
            simp only at g ⊢
            rw [pair_eq g]
            rfl
          | some y =>
            obtain ⟨qs, r3⟩ := y
            rw [hl] at g
            simp only at g
            rw [g.1]
            show (match closeP (c.toNat - 48) (some (p :: qs, r3)) with
              | some (d, r) => endDI (c.toNat - 48) (p :: qs) r3 = (some d, r) ∧ r.length < (c :: 40 :: r1).length
              | none => (endDI (c.toNat - 48) (p :: qs) r3).1 = none)
            cases r3 with
            | nil => rw [closeP_nil]; simp [endDI, pfx]
            | cons e r4 =>
              by_cases he : e = 41
              · subst he
                rw [closeP_41]
                by_cases h3 : (p :: qs).length ≤ 3
                · have hlen := g.2
                  simp only [List.length_cons] at hlen
                  rw [if_pos h3]
                  refine ⟨by unfold endDI; rw [if_pos ⟨rfl, h3⟩]; rfl, by simp only [List.length_cons]; omega⟩
                · rw [if_neg h3]
                  unfold endDI
                  rw [if_neg (fun x => h3 x.2)]
              · rw [closeP_ne _ _ _ he]
                simp [endDI, pfx, he]
    · rw [pD_none hd]
      simp [readDI, hd]
theorem dictOf_readDI (s : L8) : dictOf s = if 1200 < s.length then none else if (readDI (s.length + 1) s).2 = [] then (readDI (s.length + 1) s).1 else none := by
  unfold dictOf
  split
  · rfl
  · have h := readDI_pD (s.length + 1) s (2 * s.length + 2) (Nat.lt_succ_self _) (Nat.le_refl _)
    unfold RD at h
    split
    · rename_i d hd
      rw [hd] at h
      rw [h.1]; simp
    · rename_i hd
      cases hx : pD (2 * s.length + 2) s with
      | none =>
        rw [hx] at h
        simp only at h
        rw [h]; simp
      | some x =>
        obtain ⟨d, r⟩ := x
        rw [hx] at h
        simp only at h
        have : ¬ r = [] := fun e => hd d (by rw [hx, e])
        rw [h.1, if_neg this]
theorem lpDI_len {rd : L8 → Option Dct × L8} {n : Nat} (hr : ∀ s, (rd s).2.length ≤ s.length) : ∀ (m : Nat) (ps : List Dct) (s : L8), (lpDI rd m ps s).2.length ≤ s.length
  | 0, _, _ => Nat.le_refl _
  | m + 1, ps, s => by
    unfold lpDI
    split
    · have h1 := hr s.tail
      have h2 : s.tail.length ≤ s.length := by simp
      split
      · rename_i p r e
        rw [e] at h1
        have := lpDI_len (n := n) hr m (ps ++ [p]) r
        simp only at h1
        omega
      · exact Nat.le_refl _
    · exact Nat.le_refl _
theorem readDI_len : ∀ (f : Nat) (s : L8), (readDI f s).2.length ≤ s.length
  | 0, _ => Nat.le_refl _
  | _ + 1, [] => Nat.le_refl _
  | f + 1, c :: r => by
    unfold readDI
    split
    · split
      · have h := lpDI_len (n := 0) (readDI_len f) f [] r
        cases hx : lpDI (readDI f) f [] r with
        | mk o s =>
          rw [hx] at h
          simp only at h
          cases o with
          | none => simp only [finDI, List.length_cons]; omega
          | some ps =>
            simp only [finDI, endDI, List.length_cons]
            split
            · simp; omega
            · simp only; omega
      · simp
    · exact Nat.le_refl _
/-! the specification's reader: also what it tells where nothing can be read -/
abbrev RS3 := Dct × L8 × Bool
def lpDS (rd : L8 → RS3) : Nat → List Dct → L8 → Bool → List Dct × L8 × Bool
  | 0, ps, s, _ => (ps, s, true)
  | m + 1, ps, s, b => if b = false ∧ pfx s 44 = true then lpDS rd m (ps ++ [(rd s.tail).1]) (rd s.tail).2.1 (rd s.tail).2.2 else (ps, s, b)
def endDS (i : Nat) (x : List Dct × L8 × Bool) : RS3 := (.mk i x.1, (if x.2.2 = false ∧ pfx x.2.1 41 = true then x.2.1.tail else x.2.1), x.2.2 || !(pfx x.2.1 41) || decide (3 < x.1.length))
def readDS : Nat → L8 → RS3
  | 0, s => (.mk 0 [], s, true)
  | _ + 1, [] => (.mk 0 [], [], true)
  | f + 1, c :: r => if isDig c = true then (if pfx r 40 = true then endDS (c.toNat - 48) (lpDS (readDS f) f [(readDS f r.tail).1] (readDS f r.tail).2.1 (readDS f r.tail).2.2) else (.mk (c.toNat - 48) [], r, false)) else (.mk 0 [], c :: r, true)
def SD (rd : L8 → RS3) (s : L8) (F : Nat) : Prop := match pD F s with
  | some (d, r) => rd s = (d, r, false) ∧ r.length < s.length
  | none => (rd s).2.2 = true
def SL (rd : L8 → RS3) (m : Nat) (ps : List Dct) (s : L8) (F : Nat) : Prop := match pL F s with
  | some (qs, r) => lpDS rd m ps s false = (ps ++ qs, r, false) ∧ r.length ≤ s.length
  | none => (lpDS rd m ps s false).2.2 = true
end Go.Isea

namespace Go.Isea
open Go
set_option maxRecDepth 100000
def instanceW : L8 := [105, 110, 115, 116, 97, 110, 99, 101]
def classW : L8 := [99, 108, 97, 115, 115]
def formW : L8 := [102, 111, 114, 109]
def partsW : L8 := [112, 97, 114, 116, 115]
def okW : L8 := [111, 107]
mutual
/-- what is wrong with a dictionary for a need -/
def chkD (w : Wld) : Dct → Need → L8
  | .mk i ps, n => match w.is[i]? with
    | none => instanceW
    | some x => if x.c = n.c then (if isInst x.t n.t = true then (match needsOf x n.t with
        | none => bigL
        | some ms => if ms.length = ps.length then chkB w ps ms else partsW) else formW) else classW
def chkB (w : Wld) : List Dct → List Need → L8
  | [], _ => okW
  | _ :: _, [] => okW
  | p :: ps, m :: ms => if chkD w p m = okW then chkB w ps ms else chkD w p m
end
def checkDict (w : Wld) (n : Need) (s : L8) : L8 := match dictOf s with
  | none => wrongL
  | some d => if (worldOk w && needOk w n) = true then chkD w d n else wrongL
theorem instanceW_ne : ¬ instanceW = okW := by decide
theorem classW_ne : ¬ classW = okW := by decide
theorem formW_ne : ¬ formW = okW := by decide
theorem partsW_ne : ¬ partsW = okW := by decide
theorem bigL_ne : ¬ bigL = okW := by decide
theorem chkB_ok {w : Wld} : ∀ {ps : List Dct} {ms : List Need}, ms.length = ps.length → (chkB w ps ms = okW ↔ ∀ (k : Nat) p m, ps[k]? = some p → ms[k]? = some m → chkD w p m = okW)
  | [], ms, _ => by rw [chkB]; simp
  | p :: ps, [], h => by simp at h
  | p :: ps, m :: ms, h => by
    have ih := chkB_ok (w := w) (ps := ps) (ms := ms) (by simpa using h)
    rw [chkB]
    by_cases e : chkD w p m = okW
    · rw [if_pos e, ih]
      constructor
      · intro h k p' m' h1 h2
        cases k with
        | zero => simp at h1 h2; rw [← h1, ← h2]; exact e
        | succ k => simp at h1 h2; exact h k p' m' h1 h2
      · intro h k p' m' h1 h2
        exact h (k + 1) p' m' (by simpa using h1) (by simpa using h2)
    · rw [if_neg e]
      exact ⟨fun h => absurd h e, fun h => absurd (h 0 p m rfl rfl) e⟩
/-- a right dictionary: its instance is a candidate, and each part is right -/
theorem chkD_ok {w : Wld} {i : Nat} {ps : List Dct} {n : Need} : chkD w (.mk i ps) n = okW ↔ ∃ x ms, w.is[i]? = some x ∧ x.c = n.c ∧ isInst x.t n.t = true ∧ needsOf x n.t = some ms ∧ ms.length = ps.length ∧ ∀ (k : Nat) p m, ps[k]? = some p → ms[k]? = some m → chkD w p m = okW := by
  rw [chkD]
  constructor
  · intro h
    split at h
    · exact absurd h instanceW_ne
    · rename_i x hx
      split at h
      · rename_i hc
        split at h
        · rename_i hi
          split at h
          · exact absurd h bigL_ne
          · rename_i ms hm
            split at h
            · rename_i hl
              exact ⟨x, ms, hx, hc, hi, hm, hl, (chkB_ok hl).1 h⟩
            · exact absurd h partsW_ne
        · exact absurd h formW_ne
      · exact absurd h classW_ne
  · rintro ⟨x, ms, hx, hc, hi, hm, hl, hk⟩
    rw [hx]
    simp only [hc, hi, hm, hl, if_true]
    exact (chkB_ok hl).2 hk
theorem cand_inst {w : Wld} {n : Need} {k : Nat} (h : k ∈ candIx w n) : ∃ i, w.is[k]? = some i ∧ i.c = n.c ∧ isInst i.t n.t = true := by
  obtain ⟨i, h1, h2, h3⟩ := cand_mem h
  exact ⟨i, h1, h2, by rw [isInst_S]; exact h3⟩
/-! what a search finds -/
theorem text_len : ∀ d : Dct, d.text.length + 1 ≤ 3 * d.size
  | .mk i ps => by
    have hB : ∀ (ps : List Dct) (k : Nat), (∀ p ∈ ps, p.text.length + 1 ≤ 3 * p.size) → (textB k ps).length ≤ 3 * sizeB ps := by
      intro ps
      induction ps with
      | nil => intro k _; simp [textB]
      | cons p ps ih =>
        intro k h
        have h1 := h p (List.mem_cons_self ..)
        have h2 := ih (k + 1) (fun q hq => h q (List.mem_cons_of_mem _ hq))
        simp only [textB, sizeB, List.length_append, List.length_cons, List.length_nil]
        omega
    have h := hB ps 0 (fun p hp => text_len p)
    cases ps with
    | nil => simp [Dct.text, Dct.size, textB, sizeB, digitL]
    | cons p ps =>
      simp only [Dct.text, Dct.size, List.length_append, digitL, List.length_cons, List.length_nil]
      omega
/-- what a search is to find: a dictionary that is right, with as many instances as were asked for -/
def FoundOk (w : Wld) (d : Nat) (n : Need) (a : Nat) (x : AskR) : Prop := x.2.2 = [] → ∃ D : Dct, x.1 = D.text ∧ D.okN w.is.length ∧ D.depth ≤ d ∧ chkD w D n = okW ∧ x.2.1.a.length = a + D.size
theorem found_L {w : Wld} {d : Nat} {fd : Need → SS → AskR} : ∀ (ms : List Need) (k : Nat) (out : L8) (s : SS), (∀ m ∈ ms, ∀ s, FoundOk w d m s.a.length (fd m s)) →
    (askGL fd ms k out s).2.2 = [] → ∃ Ds : List Dct, Ds.length = ms.length ∧ (askGL fd ms k out s).1 = out ++ textB k Ds ∧ okB w.is.length Ds ∧ (∀ D ∈ Ds, D.depth ≤ d) ∧ (∀ (j : Nat) D m, Ds[j]? = some D → ms[j]? = some m → chkD w D m = okW) ∧ (askGL fd ms k out s).2.1.a.length = s.a.length + sizeB Ds
  | [], k, out, s, _, _ => ⟨[], rfl, by simp [askGL, textB], by rw [okB]; trivial, by simp, by simp, by simp [askGL, sizeB]⟩
  | m :: ms, k, out, s, h, e => by
    rw [askGL_cons] at e ⊢
    by_cases hf : (fd m s).2.2 = []
    · rw [if_pos hf] at e ⊢
      obtain ⟨D, h1, h2, h3, h4, h5⟩ := h m (List.mem_cons_self ..) s hf
      obtain ⟨Ds, g1, g2, g3, g4, g5, g6⟩ := found_L ms (k + 1) (out ++ [sep k] ++ (fd m s).1) (fd m s).2.1 (fun m' hm' => h m' (List.mem_cons_of_mem _ hm')) e
      refine ⟨D :: Ds, by simp [g1], by rw [g2, h1]; simp [textB], by rw [okB]; exact ⟨h2, g3⟩, ?_, ?_, by rw [g6, h5, sizeB]; omega⟩
      · intro D' hD'
        rcases List.mem_cons.1 hD' with rfl | hD'
        · exact h3
        · exact g4 D' hD'
      · intro j D' m' q1 q2
        cases j with
        | zero => simp at q1 q2; rw [← q1, ← q2]; exact h4
        | succ j => simp at q1 q2; exact g5 j D' m' q1 q2
    · rw [if_neg hf] at e
      exact absurd e hf
theorem depthB_le {d : Nat} : ∀ {Ds : List Dct}, (∀ D ∈ Ds, D.depth ≤ d) → depthB Ds ≤ d + 1
  | [], _ => by rw [depthB]; omega
  | D :: Ds, h => by
    have h1 := h D (List.mem_cons_self ..)
    have h2 := depthB_le (Ds := Ds) fun D' hD' => h D' (List.mem_cons_of_mem _ hD')
    rw [depthB]; omega
/-- **what a search finds is right** -/
theorem found_ok {w : Wld} {sp : Bool} (hok : worldOk w = true) (hw : w.Sm) : ∀ (f : Nat) (st : List Need) (n : Need) (s : SS), FoundOk w (f - 1) n s.a.length (askG w sp (fun _ => []) f st n s)
  | 0, st, n, s => by
    intro e
    unfold askG at e
    split at e
    · rename_i h; exact absurd rfl h
    · split at e
      · exact absurd e (by simp [longL])
      · exact absurd e (by simp [deepL])
  | f + 1, st, n, s => by
    intro e
    unfold askG at e ⊢
    split at e
    · rename_i h; exact absurd rfl h
    · rename_i hg
      rw [if_neg hg]
      split at e
      · exact absurd e (by simp [longL])
      · rename_i hl
        rw [if_neg hl]
        unfold askGB at e ⊢
        split at e
        · exact absurd e (whyG_ne _)
        · rename_i k hp
          show ∃ D : Dct, (askGI _ w st n (s.ask n) k).1 = D.text ∧ _
          obtain ⟨x, hx, hc, hi⟩ := cand_inst (pickG_mem hp)
          unfold askGI at e ⊢
          rw [hx] at e ⊢
          simp only at e ⊢
          cases hm : needsOf x n.t with
          | none => rw [hm] at e; exact absurd e (by simp [bigL])
          | some ms =>
            rw [hm] at e
            simp only at e ⊢
            unfold closeG at e ⊢
            split at e
            · rename_i hL
              rw [if_pos hL]
              obtain ⟨Ds, g1, g2, g3, g4, g5, g6⟩ := found_L (w := w) (d := f - 1) ms 0 (digitL k) (s.ask n) (fun m _ s' => found_ok hok hw f (st ++ [n]) m s') hL
              have h3 := (needs_ok hok hw hx hm).1
              have hsa : (s.ask n).a.length = s.a.length + 1 := by simp [SS.ask]
              refine ⟨.mk k Ds, ?_, ?_, ?_, ?_, ?_⟩
              · show (askGL _ ms 0 (digitL k) (s.ask n)).1 ++ _ = _
                rw [g2]
                cases Ds with
                | nil => simp at g1; simp [← g1, Dct.text, textB]
                | cons D Ds => simp [← g1, Dct.text]
              · rw [Dct.okN]
                exact ⟨(List.getElem?_eq_some_iff.1 hx).1, by omega, g3⟩
              · rw [Dct.depth]
                cases Ds with
                | nil => rw [depthB]; omega
                | cons D Ds =>
                  have := depthB_le g4
                  by_cases hf : f = 0
                  · subst hf
                    -- no part is found at no depth
                    exfalso
                    cases ms with
                    | nil => simp at g1
                    | cons m ms =>
                      rw [askGL_cons] at hL
                      have hF : (askG w sp (fun _ => []) 0 (st ++ [n]) m (s.ask n)).2.2 ≠ [] := by
                        unfold askG
                        rw [if_neg (by simp)]
                        split
                        · simp [longL]
                        · simp [deepL]
                      rw [if_neg hF] at hL
                      exact hF hL
                  · omega
              · exact chkD_ok.2 ⟨x, ms, hx, hc, hi, hm, g1.symm, g5⟩
              · show (askGL _ ms 0 (digitL k) (s.ask n)).2.1.a.length = _
                rw [g6, Dct.size]; omega
            · rename_i hL
              exact absurd e hL
theorem found0 {w : Wld} {sp : Bool} {n : Need} (hw : w.Sm) (h : (ask0 w sp n).2.2 = []) : ∃ D : Dct, (ask0 w sp n).1 = D.text ∧ D.okN w.is.length ∧ D.depth ≤ 30 ∧ checkDict w n D.text = okW ∧ (ask0 w sp n).2.1.a.length = D.size ∧ D.size ≤ 300 ∧ dictOf D.text = some D := by
  have hv : (worldOk w && needOk w n) = true := by
    cases hv : (worldOk w && needOk w n) with
    | true => rfl
    | false => unfold ask0 at h; rw [if_neg (by rw [hv]; simp)] at h; exact absurd h (by simp [wrongL])
  have hb := hv
  rw [Bool.and_eq_true] at hb
  have e : ask0 w sp n = askG w sp (fun _ => []) 31 [] n ⟨[], ⟨[], []⟩, []⟩ := by unfold ask0; rw [if_pos hv]
  rw [e] at h ⊢
  obtain ⟨D, h1, h2, h3, h4, h5⟩ := found_ok hb.1 hw 31 [] n ⟨[], ⟨[], []⟩, []⟩ h
  have hk := (askG_keeps (w := w) (sp := sp) (g := fun _ => []) 31 [] n ⟨[], ⟨[], []⟩, []⟩).2.2 (by simp)
  have h5 : (askG w sp (fun _ => []) 31 [] n ⟨[], ⟨[], []⟩, []⟩).2.1.a.length = D.size := by rw [h5]; simp
  have hl := text_len D
  have hd : dictOf D.text = some D := dictOf_text (okN_wf (world_len hb.1) D h2) (by omega)
  refine ⟨D, h1, h2, h3, ?_, h5, by omega, hd⟩
  unfold checkDict
  rw [hd, hv]
  exact h4
/-! who asked for what failed -/
def Step (w : Wld) (a b : Need) : Prop := ∃ k x ms, candIx w a = [k] ∧ w.is[k]? = some x ∧ needsOf x a.t = some ms ∧ b ∈ ms
def Chain (w : Wld) (l : List Need) : Prop := ∀ (i : Nat) a b, l[i]? = some a → l[i + 1]? = some b → Step w a b
def StackOk (w : Wld) (d : Nat) (n : Need) (st : List Need) (x : AskR) : Prop := x.2.2 ≠ [] → Chain w (st ++ [n]) → Chain w (x.2.1.st ++ [x.2.1.f]) ∧ (st ++ [n]) <+: (x.2.1.st ++ [x.2.1.f]) ∧ x.2.1.st.length ≤ st.length + d
end Go.Isea

namespace Go.Isea
open Go
set_option maxRecDepth 100000
/-! what is read is the text -/
theorem digitL_back {c : UInt8} (h : isDig c = true) : digitL (c.toNat - 48) = [c] ∧ c.toNat - 48 ≤ 9 := by
  unfold isDig at h
  rw [Bool.and_eq_true, decide_eq_true_eq, decide_eq_true_eq] at h
  refine ⟨?_, by omega⟩
  unfold digitL
  rw [show 48 + (c.toNat - 48) = c.toNat by omega]
  simp
def TD (f : Nat) : Prop := ∀ (s : L8) (d : Dct) (r : L8), pD f s = some (d, r) → d.wf ∧ s = d.text ++ r
def TL (f : Nat) : Prop := ∀ (s : L8) (ps : List Dct) (r : L8), pL f s = some (ps, r) → wfB ps ∧ s = textB 1 ps ++ r
theorem tD_step {f : Nat} (ih : TL f) : TD (f + 1) := by
  intro s d r h
  cases s with
  | nil => rw [pD_e] at h; cases h
  | cons c s =>
    by_cases hd : isDig c = true
    · obtain ⟨e1, e2⟩ := digitL_back hd
      cases hr : pfx s 40 with
      | false =>
        rw [pD_flat hd hr] at h
        injection h with h
        injection h with h4 h5
        subst h4; subst h5
        exact ⟨by rw [Dct.wf, wfB]; exact ⟨e2, by simp, trivial⟩, by simp [Dct.text, textB, e1]⟩
      | true =>
        obtain ⟨r1, rfl⟩ := pfx_t hr
        rw [pD_open hd] at h
        cases hl : pL f (44 :: r1) with
        | none => rw [hl, closeP_none] at h; cases h
        | some x =>
          obtain ⟨ps, s2⟩ := x
          rw [hl] at h
          cases s2 with
          | nil => rw [closeP_nil] at h; cases h
          | cons e r3 =>
            by_cases he : e = 41
            · subst he
              rw [closeP_41] at h
              split at h
              · rename_i h3
                injection h with h
                injection h with h4 h5
                subst h4; subst h5
                obtain ⟨g1, g2⟩ := ih _ _ _ hl
                cases ps with
                | nil =>
                  rw [textB, List.nil_append] at g2
                  injection g2 with g2 _
                  exact absurd g2 (by decide)
                | cons p ps =>
                  refine ⟨by rw [Dct.wf]; exact ⟨e2, h3, g1⟩, ?_⟩
                  have h2 : textB 2 ps = textB 1 ps := textB_same ps 2 1 (by decide) (by decide)
                  have g3 : r1 = p.text ++ (textB 1 ps ++ 41 :: r3) := by
                    simp [textB, sep, h2] at g2
                    exact g2
                  rw [g3]
                  simp [Dct.text, textB, e1, sep]
              · cases h
            · rw [closeP_ne _ _ _ he] at h; cases h
    · rw [pD_none hd] at h; cases h
theorem tL_step {f : Nat} (ih1 : TD f) (ih2 : TL f) : TL (f + 1) := by
  intro s ps r h
  unfold pL at h
  split at h
  · rename_i r1
    split at h
    · rename_i p r2 hp
      split at h
      · rename_i qs r3 hq
        injection h with h
        injection h with h4 h5
        subst h4; subst h5
        obtain ⟨g1, g2⟩ := ih1 _ _ _ hp
        obtain ⟨k1, k2⟩ := ih2 _ _ _ hq
        have h2 : textB 2 qs = textB 1 qs := textB_same qs 2 1 (by decide) (by decide)
        exact ⟨by rw [wfB]; exact ⟨g1, k1⟩, by rw [g2, k2]; simp [textB, sep, h2]⟩
      · cases h
    · cases h
  · injection h with h
    injection h with h4 h5
    subst h4; subst h5
    exact ⟨by rw [wfB]; trivial, by simp [textB]⟩
theorem tDL : ∀ f, TD f ∧ TL f
  | 0 => ⟨fun s d r h => (by cases h), fun s ps r h => (by cases h)⟩
  | f + 1 => ⟨tD_step (tDL f).2, tL_step (tDL f).1 (tDL f).2⟩
theorem dictOf_some {s : L8} {d : Dct} (h : dictOf s = some d) : d.text = s ∧ d.wf ∧ s.length ≤ 1200 := by
  unfold dictOf at h
  split at h
  · cases h
  · split at h
    · rename_i d' hd
      injection h with h
      subst h
      obtain ⟨h1, h2⟩ := (tDL _).1 _ _ _ hd
      exact ⟨by rw [h2]; simp, h1, by omega⟩
    · cases h
theorem dpart_wf {i : Nat} {ps : List Dct} (h : (Dct.mk i ps).wf) : i ≤ 9 ∧ ps.length ≤ 3 ∧ ∀ p ∈ ps, p.wf := by
  rw [Dct.wf] at h
  exact ⟨h.1, h.2.1, wfB_iff.1 h.2.2⟩
/-! sound -/
/-- a dictionary of a need, not too deep -/
def DOk (w : Wld) (d : Nat) (n : Need) (D : Dct) : Prop := D.okN w.is.length ∧ D.depth ≤ d ∧ chkD w D n = okW
def DLOk (w : Wld) (d : Nat) (n : Need) (l : List L8) : Prop := ∀ x ∈ l, ∃ D : Dct, x = D.text ∧ DOk w d n D ∧ x.length ≤ 1200
def DFdOk (w : Wld) (d : Nat) (fd : Need → Option (List L8)) : Prop := ∀ m l, fd m = some l → DLOk w d m l
/-- a row of parts for needs -/
def ROk (w : Wld) (d : Nat) (ms : List Need) (row : List L8) : Prop := ∃ Ds : List Dct, row = Ds.map Dct.text ∧ Ds.length = ms.length ∧ ∀ (j : Nat) D m, Ds[j]? = some D → ms[j]? = some m → DOk w d m D
/-! in order and different -/
/-! complete -/
end Go.Isea

namespace Go.Isea
open Go
set_option maxRecDepth 100000
/-- has a candidate a dictionary of at most a depth, if its needs have some? -/
def someI (w : Wld) (fd : Need → Bool) (d : Nat) (n : Need) (i : Nat) : Bool := match w.is[i]? with
  | some x => (match needsOf x n.t with
    | some ms => if 0 < ms.length ∧ d = 0 then false else ms.all fd
    | none => false)
  | none => false
def someD (w : Wld) : Nat → Need → Bool
  | 0, n => (candIx w n).any (someI w (fun _ => false) 0 n)
  | d + 1, n => (candIx w n).any (someI w (someD w d) (d + 1) n)
/-- the least level of the first ones from a depth on -/
def lvF (w : Wld) (n : Need) : Nat → Nat → Int
  | 0, _ => -1
  | m + 1, d => if someD w d n = true then (d : Int) else lvF w n m (d + 1)
def levelN (w : Wld) (n : Need) : Int := if (worldOk w && needOk w n) = true then lvF w n 7 0 else -1
/-! what a search finds is the only dictionary that is right -/
end Go.Isea
