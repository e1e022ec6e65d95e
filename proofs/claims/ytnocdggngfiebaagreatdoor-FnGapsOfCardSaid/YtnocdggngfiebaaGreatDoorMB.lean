/- Contracts of functions of this program, for all arguments that satisfy what each lemma asks for. -/
import Derived.Test.YtnocdggngfiebaaGreatDoorMx
import Derived.Test.YtnocdggngfiebaaGreatDoorMe
set_option linter.all false
namespace Go.Isea
set_option maxRecDepth 100000
inductive Dct where
  | mk (i : Nat) (ps : List Dct)
def Dct.i : Dct → Nat
  | .mk i _ => i
def Dct.ps : Dct → List Dct
  | .mk _ ps => ps
mutual
def Dct.text : Dct → L8
  | .mk i ps => digitL i ++ textB 0 ps ++ (match ps with | [] => [] | _ :: _ => [41])
def textB : Nat → List Dct → L8
  | _, [] => []
  | k, p :: ps => [sep k] ++ p.text ++ textB (k + 1) ps
end
mutual
def Dct.size : Dct → Nat
  | .mk _ ps => 1 + sizeB ps
def sizeB : List Dct → Nat
  | [] => 0
  | p :: ps => p.size + sizeB ps
end
mutual
def Dct.depth : Dct → Nat
  | .mk _ ps => depthB ps
def depthB : List Dct → Nat
  | [] => 0
  | p :: ps => max (1 + p.depth) (depthB ps)
end
mutual
/-- a number of one digit, three parts at most -/
def Dct.wf : Dct → Prop
  | .mk i ps => i ≤ 9 ∧ ps.length ≤ 3 ∧ wfB ps
def wfB : List Dct → Prop
  | [] => True
  | p :: ps => p.wf ∧ wfB ps
end
theorem text_pos (d : Dct) : 0 < d.text.length := by
  cases d with
  | mk i ps => simp [Dct.text, digitL]
def isDig (c : UInt8) : Bool := decide (48 ≤ c.toNat) && decide (c.toNat ≤ 57)
mutual
/-- a dictionary from the beginning of a text, and what is behind it -/
def pD : Nat → L8 → Option (Dct × L8)
  | 0, _ => none
  | _ + 1, [] => none
  | f + 1, c :: r => if isDig c = true then (match r with
      | 40 :: r1 => (match pL f (44 :: r1) with
        | some (ps, 41 :: r3) => if ps.length ≤ 3 then some (.mk (c.toNat - 48) ps, r3) else none
        | _ => none)
      | _ => some (.mk (c.toNat - 48) [], r)) else none
/-- parts, each behind a comma -/
def pL : Nat → L8 → Option (List Dct × L8)
  | 0, _ => none
  | f + 1, s => match s with
    | 44 :: r => (match pD f r with
      | some (p, r2) => (match pL f r2 with
        | some (ps, r3) => some (p :: ps, r3)
        | none => none)
      | none => none)
    | s => some ([], s)
end
def dictOf (s : L8) : Option Dct := if 1200 < s.length then none else match pD (2 * s.length + 2) s with
  | some (d, []) => some d
  | _ => none
theorem digit_dig : ∀ k, k ≤ 9 → isDig (UInt8.ofNat (48 + k)) = true ∧ (UInt8.ofNat (48 + k)).toNat - 48 = k := by
  intro k hk
  have : ∀ k : _root_.Fin 10, isDig (UInt8.ofNat (48 + k.val)) = true ∧ (UInt8.ofNat (48 + k.val)).toNat - 48 = k.val := by decide
  exact this ⟨k, by omega⟩
/-- what stands behind a dictionary does not go on with it -/
def NoOpen : L8 → Prop
  | 40 :: _ => False
  | _ => True
def NoComma : L8 → Prop
  | 44 :: _ => False
  | _ => True
def PD (f : Nat) : Prop := ∀ (d : Dct) (r : L8), d.wf → 2 * d.text.length ≤ f → NoOpen r → pD f (d.text ++ r) = some (d, r)
def PL (f : Nat) : Prop := ∀ (ps : List Dct) (r : L8), wfB ps → 2 * (textB 1 ps).length + 1 ≤ f → NoOpen r → NoComma r → pL f (textB 1 ps ++ r) = some (ps, r)
end Go.Isea

namespace Go.Isea
set_option maxRecDepth 100000
mutual
/-- instances below a number, three parts at most -/
def Dct.okN (N : Nat) : Dct → Prop
  | .mk i ps => i < N ∧ ps.length ≤ 3 ∧ okB N ps
def okB (N : Nat) : List Dct → Prop
  | [] => True
  | p :: ps => p.okN N ∧ okB N ps
end
mutual
theorem okN_wf {N : Nat} (hN : N ≤ 10) : ∀ d : Dct, d.okN N → d.wf
  | .mk i ps, h => by
    rw [Dct.okN] at h
    rw [Dct.wf]
    exact ⟨by omega, h.2.1, okB_wf hN ps h.2.2⟩
theorem okB_wf {N : Nat} (hN : N ≤ 10) : ∀ ps : List Dct, okB N ps → wfB ps
  | [], _ => by rw [wfB]; trivial
  | p :: ps, h => by
    rw [okB] at h
    rw [wfB]
    exact ⟨okN_wf hN p h.1, okB_wf hN ps h.2⟩
end
def TxtN (N : Nat) (x : L8) : Prop := ∃ d : Dct, d.okN N ∧ x = d.text
def RowN (N k : Nat) (row : List L8) : Prop := row.length = k ∧ ∀ x ∈ row, TxtN N x
/-! digits -/
def digB (c : UInt8) : Bool := decide (48 ≤ c.toNat) && decide (c.toNat ≤ 57)
theorem digitsL_append (a b : L8) : digitsL (a ++ b) = digitsL a + digitsL b := List.countP_append ..
theorem digitsL_digit (i : Nat) (hi : i ≤ 9) : digitsL (digitL i) = 1 := by
  have : ∀ k : _root_.Fin 10, digitsL (digitL k.val) = 1 := by decide
  exact this ⟨i, by omega⟩
mutual
theorem digits_text : ∀ d : Dct, d.wf → digitsL d.text = d.size
  | .mk i ps, h => by
    rw [Dct.wf] at h
    have e : (Dct.mk i ps).text = digitL i ++ textB 0 ps ++ (match ps with | [] => [] | _ :: _ => [41]) := by cases ps <;> simp [Dct.text]
    rw [e, Dct.size, digitsL_append, digitsL_append, digitsL_digit i h.1, digits_B ps 0 h.2.2]
    cases ps <;> rfl
theorem digits_B : ∀ (ps : List Dct) (k : Nat), wfB ps → digitsL (textB k ps) = sizeB ps
  | [], _, _ => by rw [textB, sizeB]; rfl
  | p :: ps, k, h => by
    rw [wfB] at h
    rw [textB, sizeB, digitsL_append, digitsL_append, digits_text p h.1, digits_B ps (k + 1) h.2]
    have : digitsL [sep k] = 0 := by unfold sep; split <;> decide
    omega
end
mutual
/-- a digit that stands in a text is that of an instance -/
theorem dig_text {N : Nat} (hN : N ≤ 10) : ∀ (d : Dct), d.okN N → ∀ c ∈ d.text, isDig c = true → c.toNat - 48 < N
  | .mk i ps, h, c, hc, hd => by
    rw [Dct.okN] at h
    have e : (Dct.mk i ps).text = digitL i ++ textB 0 ps ++ (match ps with | [] => [] | _ :: _ => [41]) := by cases ps <;> simp [Dct.text]
    rw [e] at hc
    rcases List.mem_append.1 hc with hc | hc
    · rcases List.mem_append.1 hc with hc | hc
      · rw [digitL, List.mem_singleton] at hc
        rw [hc, (digit_dig i (by omega)).2]; exact h.1
      · exact dig_B hN ps 0 h.2.2 c hc hd
    · cases ps with
      | nil => cases hc
      | cons p ps =>
        rw [List.mem_singleton.1 hc] at hd; exact absurd hd (by decide)
theorem dig_B {N : Nat} (hN : N ≤ 10) : ∀ (ps : List Dct) (k : Nat), okB N ps → ∀ c ∈ textB k ps, isDig c = true → c.toNat - 48 < N
  | [], k, _, c, hc, _ => by rw [textB] at hc; cases hc
  | p :: ps, k, h, c, hc, hd => by
    rw [okB] at h
    rw [textB] at hc
    rcases List.mem_append.1 hc with hc | hc
    · rcases List.mem_append.1 hc with hc | hc
      · rw [List.mem_singleton.1 hc] at hd
        unfold sep at hd
        split at hd <;> exact absurd hd (by decide)
      · exact dig_text hN p h.1 c hc hd
    · exact dig_B hN ps (k + 1) h.2 c hc hd
end
end Go.Isea

namespace Go.Isea
open Go
set_option maxRecDepth 100000
/-! the program's reader -/
def lpDI (rd : L8 → Option Dct × L8) : Nat → List Dct → L8 → Option (List Dct) × L8
  | 0, _, s => (none, s)
  | m + 1, ps, s => if ((pfx s 40 && decide (ps.length = 0)) || pfx s 44) = true then (match rd s.tail with
      | (some p, r) => lpDI rd m (ps ++ [p]) r
      | (none, _) => (none, s)) else (some ps, s)
def endDI (i : Nat) (ps : List Dct) (s : L8) : Option Dct × L8 := if pfx s 41 = true ∧ ps.length ≤ 3 then (some (.mk i ps), s.tail) else (none, s)
def finDI (i : Nat) (x : Option (List Dct) × L8) : Option Dct × L8 := match x with
  | (none, s) => (none, s)
  | (some ps, s) => endDI i ps s
def readDI : Nat → L8 → Option Dct × L8
  | 0, s => (none, s)
  | _ + 1, [] => (none, [])
  | f + 1, c :: r => if isDig c = true then (if pfx r 40 = true then finDI (c.toNat - 48) (lpDI (readDI f) f [] r) else (some (.mk (c.toNat - 48) []), r)) else (none, c :: r)
/-- what a reader is to tell -/
def RD (rd : L8 → Option Dct × L8) (s : L8) (F : Nat) : Prop := match pD F s with
  | some (d, r) => rd s = (some d, r) ∧ r.length < s.length
  | none => (rd s).1 = none
def RL (rd : L8 → Option Dct × L8) (m : Nat) (ps : List Dct) (s : L8) (F : Nat) : Prop := match pL F s with
  | some (qs, r) => lpDI rd m ps s = (some (ps ++ qs), r) ∧ r.length ≤ s.length
  | none => (lpDI rd m ps s).1 = none
def closeP (i : Nat) : Option (List Dct × L8) → Option (Dct × L8)
  | some (ps, 41 :: r3) => if ps.length ≤ 3 then some (.mk i ps, r3) else none
  | _ => none
/-! the specification's reader: also what it tells where nothing can be read -/
abbrev RS3 := Dct × L8 × Bool
def lpDS (rd : L8 → RS3) : Nat → List Dct → L8 → Bool → List Dct × L8 × Bool
  | 0, ps, s, _ => (ps, s, true)
  | m + 1, ps, s, b => if b = false ∧ pfx s 44 = true then lpDS rd m (ps ++ [(rd s.tail).1]) (rd s.tail).2.1 (rd s.tail).2.2 else (ps, s, b)
def endDS (i : Nat) (x : List Dct × L8 × Bool) : RS3 := (.mk i x.1, (if x.2.2 = false ∧ pfx x.2.1 41 = true then x.2.1.tail else x.2.1), x.2.2 || !(pfx x.2.1 41) || decide (3 < x.1.length))
def readDS : Nat → L8 → RS3
  | 0, s => (.mk 0 [], s, true)
  | _ + 1, [] => (.mk 0 [], [], true)
  | f + 1, c :: r => if isDig c = true then (if pfx r 40 = true then endDS (c.toNat - 48) (lpDS (readDS f) f [(readDS f r.tail).1] (readDS f r.tail).2.1 (readDS f r.tail).2.2) else (.mk (c.toNat - 48) [], r, false)) else (.mk 0 [], c :: r, true)
def SD (rd : L8 → RS3) (s : L8) (F : Nat) : Prop := match pD F s with
  | some (d, r) => rd s = (d, r, false) ∧ r.length < s.length
  | none => (rd s).2.2 = true
def SL (rd : L8 → RS3) (m : Nat) (ps : List Dct) (s : L8) (F : Nat) : Prop := match pL F s with
  | some (qs, r) => lpDS rd m ps s false = (ps ++ qs, r, false) ∧ r.length ≤ s.length
  | none => (lpDS rd m ps s false).2.2 = true
end Go.Isea

namespace Go.Isea
open Go
set_option maxRecDepth 100000
def instanceW : L8 := [105, 110, 115, 116, 97, 110, 99, 101]
def classW : L8 := [99, 108, 97, 115, 115]
def formW : L8 := [102, 111, 114, 109]
def partsW : L8 := [112, 97, 114, 116, 115]
def okW : L8 := [111, 107]
mutual
/-- what is wrong with a dictionary for a need -/
def chkD (w : Wld) : Dct → Need → L8
  | .mk i ps, n => match w.is[i]? with
    | none => instanceW
    | some x => if x.c = n.c then (if isInst x.t n.t = true then (match needsOf x n.t with
        | none => bigL
        | some ms => if ms.length = ps.length then chkB w ps ms else partsW) else formW) else classW
def chkB (w : Wld) : List Dct → List Need → L8
  | [], _ => okW
  | _ :: _, [] => okW
  | p :: ps, m :: ms => if chkD w p m = okW then chkB w ps ms else chkD w p m
end
def checkDict (w : Wld) (n : Need) (s : L8) : L8 := match dictOf s with
  | none => wrongL
  | some d => if (worldOk w && needOk w n) = true then chkD w d n else wrongL
theorem cand_inst {w : Wld} {n : Need} {k : Nat} (h : k ∈ candIx w n) : ∃ i, w.is[k]? = some i ∧ i.c = n.c ∧ isInst i.t n.t = true := by
  obtain ⟨i, h1, h2, h3⟩ := cand_mem h
  exact ⟨i, h1, h2, by rw [isInst_S]; exact h3⟩
/-! what a search finds -/
/-- what a search is to find: a dictionary that is right, with as many instances as were asked for -/
def FoundOk (w : Wld) (d : Nat) (n : Need) (a : Nat) (x : AskR) : Prop := x.2.2 = [] → ∃ D : Dct, x.1 = D.text ∧ D.okN w.is.length ∧ D.depth ≤ d ∧ chkD w D n = okW ∧ x.2.1.a.length = a + D.size
/-! who asked for what failed -/
def Step (w : Wld) (a b : Need) : Prop := ∃ k x ms, candIx w a = [k] ∧ w.is[k]? = some x ∧ needsOf x a.t = some ms ∧ b ∈ ms
def Chain (w : Wld) (l : List Need) : Prop := ∀ (i : Nat) a b, l[i]? = some a → l[i + 1]? = some b → Step w a b
def StackOk (w : Wld) (d : Nat) (n : Need) (st : List Need) (x : AskR) : Prop := x.2.2 ≠ [] → Chain w (st ++ [n]) → Chain w (x.2.1.st ++ [x.2.1.f]) ∧ (st ++ [n]) <+: (x.2.1.st ++ [x.2.1.f]) ∧ x.2.1.st.length ≤ st.length + d
end Go.Isea

namespace Go.Isea
open Go
set_option maxRecDepth 100000
/-! what is read is the text -/
def TD (f : Nat) : Prop := ∀ (s : L8) (d : Dct) (r : L8), pD f s = some (d, r) → d.wf ∧ s = d.text ++ r
def TL (f : Nat) : Prop := ∀ (s : L8) (ps : List Dct) (r : L8), pL f s = some (ps, r) → wfB ps ∧ s = textB 1 ps ++ r
/-! sound -/
/-- a dictionary of a need, not too deep -/
def DOk (w : Wld) (d : Nat) (n : Need) (D : Dct) : Prop := D.okN w.is.length ∧ D.depth ≤ d ∧ chkD w D n = okW
def DLOk (w : Wld) (d : Nat) (n : Need) (l : List L8) : Prop := ∀ x ∈ l, ∃ D : Dct, x = D.text ∧ DOk w d n D ∧ x.length ≤ 1200
def DFdOk (w : Wld) (d : Nat) (fd : Need → Option (List L8)) : Prop := ∀ m l, fd m = some l → DLOk w d m l
/-- a row of parts for needs -/
def ROk (w : Wld) (d : Nat) (ms : List Need) (row : List L8) : Prop := ∃ Ds : List Dct, row = Ds.map Dct.text ∧ Ds.length = ms.length ∧ ∀ (j : Nat) D m, Ds[j]? = some D → ms[j]? = some m → DOk w d m D
/-! in order and different -/
/-! complete -/
end Go.Isea

namespace Go.Isea
open Go
set_option maxRecDepth 100000
/-- has a candidate a dictionary of at most a depth, if its needs have some? -/
def someI (w : Wld) (fd : Need → Bool) (d : Nat) (n : Need) (i : Nat) : Bool := match w.is[i]? with
  | some x => (match needsOf x n.t with
    | some ms => if 0 < ms.length ∧ d = 0 then false else ms.all fd
    | none => false)
  | none => false
def someD (w : Wld) : Nat → Need → Bool
  | 0, n => (candIx w n).any (someI w (fun _ => false) 0 n)
  | d + 1, n => (candIx w n).any (someI w (someD w d) (d + 1) n)
/-- the least level of the first ones from a depth on -/
def lvF (w : Wld) (n : Need) : Nat → Nat → Int
  | 0, _ => -1
  | m + 1, d => if someD w d n = true then (d : Int) else lvF w n m (d + 1)
def levelN (w : Wld) (n : Need) : Int := if (worldOk w && needOk w n) = true then lvF w n 7 0 else -1
/-! what a search finds is the only dictionary that is right -/
end Go.Isea
