/- Contracts of functions of this program, for all arguments that satisfy what each lemma asks for. -/
import Derived.Test.YtiphcdmjlkngfaaGreatDoorMc
import Derived.Test.YtiphcdmjlkngfaaGreatDoorMB
import Derived.Test.YtiphcdmjlkngfaaGreatDoorMd
import Derived.Test.YtiphcdmjlkngfaaGreatDoorMC
set_option linter.all false
namespace Go.Isea
open Go
mutual
/-- a dictionary, as cells -/
def Dct.cells : Dct → List AV
  | .mk i ps => [.v (.int .i64 (i : Nat)), .sl (cellsB ps)]
def cellsB : List Dct → List (List AV)
  | [] => []
  | p :: ps => p.cells :: cellsB ps
end
theorem cellsB_map : ∀ ps : List Dct, cellsB ps = ps.map Dct.cells
  | [] => by rw [cellsB]; rfl
  | p :: ps => by rw [cellsB, cellsB_map ps]; rfl
theorem Dct.cells_mk (i : Nat) (ps : List Dct) : (Dct.mk i ps).cells = [.v (.int .i64 (i : Nat)), .sl (ps.map Dct.cells)] := by rw [Dct.cells, cellsB_map]
theorem Dct.cells_eq (d : Dct) : d.cells = [.v (.int .i64 (d.i : Nat)), .sl (d.ps.map Dct.cells)] := by cases d; exact Dct.cells_mk _ _
mutual
theorem Dct.cells_pu : ∀ d : Dct, PuL d.cells
  | .mk i ps => by
    have := cellsB_pu ps
    simp -dsimp only [Dct.cells, go_sem, this]
theorem cellsB_pu : ∀ ps : List Dct, PuR (cellsB ps)
  | [] => by simp -dsimp only [cellsB, go_sem]
  | p :: ps => by
    have := p.cells_pu
    have := cellsB_pu ps
    simp -dsimp only [cellsB, go_sem, *]
end
@[go_sem] theorem puR_dct {ps : List Dct} : PuR (ps.map Dct.cells) = True := puR_map Dct.cells_pu
@[go_sem] theorem puL_dct {d : Dct} : PuL d.cells = True := by simp [d.cells_pu]
@[go_sem] theorem Dct.cells_0 {d : Dct} : d.cells[0]? = some (.v (.int .i64 (d.i : Nat))) := by rw [d.cells_eq]; rfl
@[go_sem] theorem Dct.cells_1 {d : Dct} : d.cells[1]? = some (.sl (d.ps.map Dct.cells)) := by rw [d.cells_eq]; rfl
@[go_sem] theorem paste_dct {d : Dct} {a b : AV} : paste [a, b] 0 d.cells = d.cells := by rw [d.cells_eq]; rfl
@[go_sem] theorem take_dct {d : Dct} : List.take 2 d.cells = d.cells := by rw [d.cells_eq]; rfl
@[go_sem] theorem Dct.cells_len (d : Dct) : d.cells.length = 2 := by rw [d.cells_eq]; rfl
@[go_sem] theorem Dct.cells_one {h : AH} (d : Dct) : d.cells.all (AV.one h) = true := by rw [d.cells_eq]; rfl
@[go_sem] theorem al_dct {l : List Dct} : AllLen 2 (l.map Dct.cells) = True := allLen_map fun d => d.cells_len
theorem Dct.cells_ref {h : AH} {m : Nat} (d : Dct) : FzL h m d.cells d.cells := by
  have := Fz.of_lo (h := h) (m := m) (x := .agg d.cells) (.agg fun x hx => d.cells_pu m x hx)
  cases this with
  | agg hl hc => exact ⟨hl, hc⟩
end Go.Isea
namespace Go.Proofs.YtiphcdmjlkngfaaGreatDoor
open Go Go.Isea
set_option maxRecDepth 100000
set_option maxHeartbeats 8000000
def DNodeOk (f : Nat) : Prop := ∀ {l : Nat} {t s : L8} {k : Nat} (h : AH), l < h.n → h.o l = .cells (rd t k false) → k ≤ t.length → t.drop k = s → t.length ≤ 1200 → s.length < f →
    Isea.Good Tryz.prog 162 [.ptr l 0] h [l] (.agg (readDS f s).1.cells) (h.set l (.cells (rd t (t.length - (readDS f s).2.1.length) (readDS f s).2.2)))
end Go.Proofs.YtiphcdmjlkngfaaGreatDoor

namespace Go.Isea
open Go
def zDct : List AV := [.v (.int .i64 0), .v (.slice none 0 0)]
def readDV (s : L8) : AV := match dictOf s with
  | some d => .tup [.agg d.cells, .v (.bool true)]
  | none => .tup [.agg zDct, .v (.bool false)]
end Go.Isea
namespace Go.Proofs.YtiphcdmjlkngfaaGreatDoor
open Go Go.Isea
set_option maxRecDepth 100000
set_option maxHeartbeats 8000000
end Go.Proofs.YtiphcdmjlkngfaaGreatDoor

namespace Go.Proofs.YtiphcdmjlkngfaaGreatDoor
open Go Go.Isea
set_option maxRecDepth 100000
set_option maxHeartbeats 8000000
end Go.Proofs.YtiphcdmjlkngfaaGreatDoor
