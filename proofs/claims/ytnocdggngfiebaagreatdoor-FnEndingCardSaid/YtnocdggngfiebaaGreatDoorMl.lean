/- Contracts of functions of this program, for all arguments that satisfy what each lemma asks for. -/
import Derived.Test.YtnocdggngfiebaaGreatDoorMk
import Derived.Test.YtnocdggngfiebaaGreatDoorMi
import Derived.Test.YtnocdggngfiebaaGreatDoorMj
set_option linter.all false
namespace Go.Isea
open Go
theorem mod_i (k : Nat) : ((k : Nat) : Int).tmod 10 = ((k % 10 : Nat) : Int) := by rw [Int.tmod_eq_emod_of_nonneg (by omega)]; omega
theorem div_i (k : Nat) : ((k : Nat) : Int).tdiv 10 = ((k / 10 : Nat) : Int) := by rw [Int.tdiv_eq_ediv_of_nonneg (by omega)]; omega
section
variable {P : Program} {t : TypeId} {p q : Operand} {k : Nat}
@[go_sem] theorem bin_rem10 (hk : k ≤ 4611686018427387904) : abin P .rem t p q (.v (.int .i64 (k : Nat))) (.v (.int .i64 10)) = some (.v (.int .i64 ((k % 10 : Nat) : Int))) := by
  have h1 : IntKind.i64.wrap ((k % 10 : Nat) : Int) = ((k % 10 : Nat) : Int) := wrap_i64 (by omega) (by omega)
  simp [abin, AV.raw, eqGuard, binOp, Op.intArith, Op.intDiv, semPure, bind, Sem.bind, pure, ofVo, ofV, mod_i]
@[go_sem] theorem bin_quo10 (hk : k ≤ 4611686018427387904) : abin P .quo t p q (.v (.int .i64 (k : Nat))) (.v (.int .i64 10)) = some (.v (.int .i64 ((k / 10 : Nat) : Int))) := by
  have h1 : IntKind.i64.wrap ((k / 10 : Nat) : Int) = ((k / 10 : Nat) : Int) := wrap_i64 (by omega) (by omega)
  simp [abin, AV.raw, eqGuard, binOp, Op.intArith, Op.intDiv, semPure, bind, Sem.bind, pure, ofVo, ofV, div_i, h1]
  exact h1
end
end Go.Isea
namespace Go.Proofs.YtnocdggngfiebaaGreatDoor
open Go Go.Isea
set_option maxRecDepth 100000
set_option maxHeartbeats 8000000
-- marks
end Go.Proofs.YtnocdggngfiebaaGreatDoor

namespace Go.Isea
open Go
/-- an instance's row of which the needs' slice alone is told -/
def jkR (p : Inst × Nat) : List AV := [.junk, .junk, .so p.2 p.1.ns.length p.1.ns.length]
def jkN (i : Inst) : List (List AV) := List.replicate i.ns.length [.junk, .junk]
def jkI (ty tn : Nat) (o : Nat → AObj) (t b : Nat) (l : List Inst) : Nat → AObj := fun x => if x = t then .rows ty 3 ((l.zipIdx b).map jkR) else if b ≤ x then (match l[x - b]? with
  | some i => .rows tn 2 (jkN i)
  | none => o x) else o x
def jkT (t b : Nat) (l : List Inst) : List Nat := t :: (List.range l.length).map (b + ·)
section
variable {ty tn : Nat} {o : Nat → AObj} {t b : Nat} {l : List Inst}
end
/-- how many marks the instances take -/
def imk (l : List Inst) : Nat := (l.map fun i => 2 + 2 * i.ns.length).sum
end Go.Isea
namespace Go.Proofs.YtnocdggngfiebaaGreatDoor
open Go Go.Isea
set_option maxRecDepth 100000
set_option maxHeartbeats 8000000
end Go.Proofs.YtnocdggngfiebaaGreatDoor
