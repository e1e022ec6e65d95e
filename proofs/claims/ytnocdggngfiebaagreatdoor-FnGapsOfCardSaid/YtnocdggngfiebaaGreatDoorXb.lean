/- Contracts of functions of this program, for all arguments that satisfy what each lemma asks for. -/
import Derived.Test.YtnocdggngfiebaaGreatDoorMZ
import Derived.Test.YtnocdggngfiebaaGreatDoorMJ
set_option linter.all false
namespace Go.Isea
open Go
/-- a checker's cells -/
def ckE (w : Wld) (gs : List Need) (s : L8) (p : Nat) : List AV := [.sl (w.cs.map Cls.row), .sl (w.is.map Inst.row), .sl (gs.map Need.row), str s, .v (.int .i64 (p : Nat))]
def nextC (s : L8) (p : Nat) : UInt8 := (s[p]?).getD 0
/-- where the checker stands behind a given -/
def gvQ (gs : List Need) (s : L8) (c : UInt8) (p : Nat) : Nat := match gs[c.toNat - 97]? with
  | none => p
  | some _ => if isCap (nextC s p) = true then p + 1 else p
def lpQ (Q : Need → Nat → Nat) (rd : Need → L8 → L8 × L8) (s : L8) : List Need → Nat → Nat → Nat
  | [], _, p => p
  | m :: ms, k, p => if pfx (s.drop p) (sep k) = true then (if (rd m (s.drop (p + 1))).2 = okW then lpQ Q rd s ms (k + 1) (Q m (p + 1)) else Q m (p + 1)) else p
def enQ (ms : List Need) (s : L8) (ok : Bool) (p : Nat) : Nat := if ok = true then (if ms.length = 0 then p else if pfx (s.drop p) 41 = true then p + 1 else p) else p
def ckQ (w : Wld) (gs : List Need) (s : L8) : Nat → Need → Nat → Nat
  | 0, _, p => p
  | F + 1, n, p => match s[p]? with
    | none => p + 1
    | some c => if isAf c = true then gvQ gs s c (p + 1)
      else if isDig c = true ∧ (c.toNat - 48) ∈ candIx w n then (match w.is[c.toNat - 48]? with
        | some i => (match needsOf i n.t with
          | some ms => enQ ms s (decide ((lpE (rdE w gs F) ms 0 (s.drop (p + 1))).2 = okW)) (lpQ (ckQ w gs s F) (rdE w gs F) s ms 0 (p + 1))
          | none => p + 1)
        | none => p + 1)
      else p + 1
/-- what is told of the checker's place: behind what is right stands the rest -/
def QOk (s : L8) (x : L8 × L8) (q : Nat) : Prop := q ≤ s.length + 1 ∧ (x.2 = okW → q ≤ s.length ∧ s.drop q = x.1)
theorem isAf_ix (c : UInt8) : (isAf c = true → ix abc c = ((c.toNat - 97 : Nat) : Int) ∧ c.toNat - 97 < 6) ∧ (isAf c = false → ix abc c = -1) := forall_u8 (p := fun c => (isAf c = true → ix abc c = ((c.toNat - 97 : Nat) : Int) ∧ c.toNat - 97 < 6) ∧ (isAf c = false → ix abc c = -1)) (by decide +kernel) c
theorem isDig_iff (c : UInt8) : isDig c = true ↔ 48 ≤ c.toNat ∧ c.toNat ≤ 57 := forall_u8 (p := fun c => isDig c = true ↔ 48 ≤ c.toNat ∧ c.toNat ≤ 57) (by decide +kernel) c
end Go.Isea
namespace Go.Proofs.YtnocdggngfiebaaGreatDoor
open Go Go.Isea
set_option maxRecDepth 100000
set_option maxHeartbeats 8000000
end Go.Proofs.YtnocdggngfiebaaGreatDoor

namespace Go.Proofs.YtnocdggngfiebaaGreatDoor
open Go Go.Isea
set_option maxRecDepth 100000
set_option maxHeartbeats 16000000
def gvR (w : Wld) (gs : List Need) (s : L8) (n : Need) (c : UInt8) (p : Nat) : L8 × L8 := match gs[c.toNat - 97]? with
  | some g => givE w n g (s.drop p)
  | none => (s.drop p, givenW)
end Go.Proofs.YtnocdggngfiebaaGreatDoor

namespace Go.Isea
open Go
theorem rdE_nil {w : Wld} {gs : List Need} {F : Nat} {n : Need} : rdE w gs (F + 1) n [] = ([], instanceW) := rfl
theorem rdE_cons {w : Wld} {gs : List Need} {F : Nat} {n : Need} {c : UInt8} {r : L8} : rdE w gs (F + 1) n (c :: r) =
    if isAf c = true then (match gs[c.toNat - 97]? with
      | some g => givE w n g r
      | none => (r, givenW))
    else if isDig c = true ∧ (c.toNat - 48) ∈ candIx w n then (match w.is[c.toNat - 48]? with
      | some i => (match needsOf i n.t with
        | some ms => endE ms (lpE (rdE w gs F) ms 0 r)
        | none => (c :: r, bigL))
      | none => (c :: r, instanceW))
    else (c :: r, instanceW) := rfl
theorem lpE_nil {rd : Need → L8 → L8 × L8} {k : Nat} {s : L8} : lpE rd [] k s = (s, okW) := rfl
theorem lpE_cons {rd : Need → L8 → L8 × L8} {m : Need} {ms : List Need} {k : Nat} {s : L8} : lpE rd (m :: ms) k s = if pfx s (sep k) = true then (if (rd m s.tail).2 = okW then lpE rd ms (k + 1) (rd m s.tail).1 else rd m s.tail) else (s, partsW) := rfl
end Go.Isea
namespace Go.Proofs.YtnocdggngfiebaaGreatDoor
open Go Go.Isea
set_option maxRecDepth 100000
set_option maxHeartbeats 16000000
def CkOkS (w : Wld) (gs : List Need) (s : L8) (F : Nat) : Prop := ∀ (n : Need) (p l : Nat) (h : AH), NOk w n → p ≤ s.length → s.length - p < F → l < h.n → h.o l = .cells (ckE w gs s p) →
    Isea.Good Tryz.prog 118 [.ptr l 0, .agg n.row] h [l] (str (rdE w gs F n (s.drop p)).2) (h.set l (.cells (ckE w gs s (ckQ w gs s F n p))))
end Go.Proofs.YtnocdggngfiebaaGreatDoor
