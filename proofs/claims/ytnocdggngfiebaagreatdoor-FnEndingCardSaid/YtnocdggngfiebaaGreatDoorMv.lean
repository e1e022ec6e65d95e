/- Contracts of functions of this program, for all arguments that satisfy what each lemma asks for. -/
import Derived.Test.YtnocdggngfiebaaGreatDoorMq
import Derived.Test.YtnocdggngfiebaaGreatDoorMr
import Derived.Test.YtnocdggngfiebaaGreatDoorMl
import Derived.Test.YtnocdggngfiebaaGreatDoorMj
set_option linter.all false
namespace Go.Isea
open Go
def rdC (w : Wld) (ta : Nat) (s : RdS) : List AV := [.sl (w.cs.map Cls.row), .sl (w.is.map Inst.row), .so ta s.1.length s.1.length, .v (.int .i64 (s.2 : Nat))]
end Go.Isea
namespace Go.Proofs.YtnocdggngfiebaaGreatDoor
open Go Go.Isea
set_option maxRecDepth 100000
set_option maxHeartbeats 8000000
def RedOkS (w : Wld) (f : Nat) : Prop := ∀ (l ta : Nat) (n : Need) (s : RdS) (h : AH), l < h.n → ta < h.n → ¬ l = ta → h.o l = .cells (rdC w ta s) → h.o ta = .rows 28 2 (s.1.map Need.row) → NOk w n → tv n.t = true → s.1.length ≤ 2 * s.2 + 1000 → s.2 ≤ 300 → f ≤ 31 →
    Isea.Good Tryz.prog 88 [.ptr l 0, .agg n.row, .v (.int .i64 ((31 - f : Nat) : Int))] h [l, ta] (.v (.bool (redF w f n s).1))
      ⟨h.n, upd (upd h.o l (.cells (rdC w ta (redF w f n s).2))) ta (.rows 28 2 ((redF w f n s).2.1.map Need.row))⟩
end Go.Proofs.YtnocdggngfiebaaGreatDoor

namespace Go.Isea
open Go
/-- the first need for which it fails -/
def ixR (fd : Need → RdS → Bool × RdS) : List Need → RdS → Nat → Int
  | [], _, _ => -1
  | m :: ms, s, j => if (fd m s).1 = true then ixR fd ms (fd m s).2 (j + 1) else (j : Nat)
/-- the classes of the gaps of one instance -/
def gapAt (k : Nat) (l : List (Nat × UInt8)) : L8 := l.filterMap fun p => if p.1 = k then some p.2 else none
end Go.Isea
namespace Go.Proofs.YtnocdggngfiebaaGreatDoor
open Go Go.Isea
set_option maxRecDepth 100000
set_option maxHeartbeats 8000000
/-- what a closure is to do with each need -/
def CloOk (w : Wld) (l ta : Nat) (k : FuncId) (cap : List AV) (fd : Need → RdS → Bool × RdS) (ms : List Need) : Prop := ∀ m ∈ ms, ∀ (s : RdS) (H : AH), s.1.length ≤ 2 * s.2 + 1000 → s.2 ≤ 300 → l < H.n → ta < H.n → H.o l = .cells (rdC w ta s) → H.o ta = .rows 28 2 (s.1.map Need.row) →
  Isea.Good Tryz.prog k (.agg m.row :: cap) H [l, ta] (.v (.bool (!(fd m s).1))) ⟨H.n, upd (upd H.o l (.cells (rdC w ta (fd m s).2))) ta (.rows 28 2 ((fd m s).2.1.map Need.row))⟩
def RedOkI (w : Wld) (f : Nat) : Prop := ∀ (l ta : Nat) (n : Need) (s : RdS) (h : AH), l < h.n → ta < h.n → ¬ l = ta → h.o l = .cells (rdC w ta s) → h.o ta = .rows 28 2 (s.1.map Need.row) → NOk w n → tv n.t = true → s.1.length ≤ 2 * s.2 + 1000 → s.2 ≤ 300 → f ≤ 31 →
    Isea.Good Tryz.prog 86 [.ptr l 0, .agg n.row, .v (.int .i64 ((31 - f : Nat) : Int))] h [l, ta] (.v (.bool (redF w f n s).1))
      ⟨h.n, upd (upd h.o l (.cells (rdC w ta (redF w f n s).2))) ta (.rows 28 2 ((redF w f n s).2.1.map Need.row))⟩
end Go.Proofs.YtnocdggngfiebaaGreatDoor

namespace Go.Proofs.YtnocdggngfiebaaGreatDoor
open Go Go.Isea
set_option maxRecDepth 100000
set_option maxHeartbeats 8000000
/-- what FullNeeds leaves behind -/
def fnM (h : AH) : Option (List Need) → AH
  | none => h
  | some l => ⟨h.n + 2, upd (upd h.o h.n (.cells [.junk, .junk, .junk])) (h.n + 1) (.rows 28 2 (l.map Need.row))⟩
def fnV (h : AH) : Option (List Need) → AV
  | none => .tup [.v (.slice none 0 0), .v (.bool false)]
  | some l => .tup [.so (h.n + 1) l.length l.length, .v (.bool true)]
end Go.Proofs.YtnocdggngfiebaaGreatDoor

namespace Go.Proofs.YtnocdggngfiebaaGreatDoor
open Go Go.Isea
set_option maxRecDepth 100000
set_option maxHeartbeats 8000000
end Go.Proofs.YtnocdggngfiebaaGreatDoor
