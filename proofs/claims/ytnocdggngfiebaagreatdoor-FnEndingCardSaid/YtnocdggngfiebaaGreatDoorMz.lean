/- Contracts of functions of this program, for all arguments that satisfy what each lemma asks for. -/
import Derived.Test.YtnocdggngfiebaaGreatDoorMv
import Derived.Test.YtnocdggngfiebaaGreatDoorMx
import Derived.Test.YtnocdggngfiebaaGreatDoorMe
import Derived.Lib.Join
set_option linter.all false
namespace Go.Isea
open Go
/-- the entries that tell something, as the program keeps them -/
def mapI (S : TbL) : List (AV × AV) := S.filterMap fun e => e.2.map fun l => (str (Isea.keyL e.1.1 e.1.2), .sl (l.map sRow))
/-- all entries tell something -/
def AllS (S : TbL) : Prop := ∀ e ∈ S, e.2.isSome = true
theorem AllS.nil : AllS [] := fun e h => by cases h
/-- a table all of whose entries tell something stays so where a list is told -/
def FdS (fd : FdT) : Prop := ∀ n S, AllS S → (fd n S).1.isSome = true → AllS (fd n S).2
section
variable {w : Wld} {fd : FdT}
end
/-- what is added is of less depth -/
def FdLow (fd : FdT) (d : Nat) : Prop := ∀ n S, ∃ R, (fd n S).2 = S ++ R ∧ ∀ e ∈ R, e.1.2 < d
section
variable {w : Wld} {fd : FdT} {b : Nat}
end
end Go.Isea
namespace Go.Proofs.YtnocdggngfiebaaGreatDoor
open Go Go.Isea
set_option maxRecDepth 100000
set_option maxHeartbeats 8000000
end Go.Proofs.YtnocdggngfiebaaGreatDoor
