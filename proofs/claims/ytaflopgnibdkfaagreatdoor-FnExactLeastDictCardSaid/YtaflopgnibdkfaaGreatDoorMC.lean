/- Contracts of functions of this program, for all arguments that satisfy what each lemma asks for. -/
import Derived.Test.YtaflopgnibdkfaaGreatDoorMe
import Derived.Test.YtaflopgnibdkfaaGreatDoorMB
import Derived.Test.YtaflopgnibdkfaaGreatDoorMz
import Derived.Test.YtaflopgnibdkfaaGreatDoorMf
import Derived.Test.YtaflopgnibdkfaaGreatDoorMj
set_option linter.all false
namespace Go.Isea
open Go
mutual
/-- a dictionary, as the cells that its pointer leads to -/
def Dct.pc : Dct → List AV
  | .mk i ps => [.v (.int .i64 (i : Nat)), .sl (pcB ps)]
def pcB : List Dct → List (List AV)
  | [] => []
  | p :: ps => [.ref p.pc 0] :: pcB ps
end
def pcRow (d : Dct) : List AV := [.ref d.pc 0]
theorem pcB_map : ∀ ps : List Dct, pcB ps = ps.map pcRow
  | [] => by rw [pcB]; rfl
  | p :: ps => by rw [pcB, pcB_map ps]; rfl
theorem Dct.pc_mk (i : Nat) (ps : List Dct) : (Dct.mk i ps).pc = [.v (.int .i64 (i : Nat)), .sl (ps.map pcRow)] := by rw [Dct.pc, pcB_map]
theorem Dct.pc_eq (d : Dct) : d.pc = [.v (.int .i64 (d.i : Nat)), .sl (d.ps.map pcRow)] := by cases d; exact Dct.pc_mk _ _
mutual
theorem Dct.pc_pu : ∀ d : Dct, PuL d.pc
  | .mk i ps => by
    have := pcB_pu ps
    simp -dsimp only [Dct.pc, go_sem, this]
theorem pcB_pu : ∀ ps : List Dct, PuR (pcB ps)
  | [] => by simp -dsimp only [pcB, go_sem]
  | p :: ps => by
    have := p.pc_pu
    have := pcB_pu ps
    simp -dsimp only [pcB, go_sem, *]
end
theorem pcRow_pu (d : Dct) : PuL (pcRow d) := by
  have := d.pc_pu
  simp -dsimp only [pcRow, go_sem, this]
@[go_sem] theorem puR_pc {ps : List Dct} : PuR (ps.map pcRow) = True := puR_map pcRow_pu
@[go_sem] theorem puL_pc {d : Dct} : PuL d.pc = True := by simp [d.pc_pu]
@[go_sem] theorem al_pc {l : List Dct} : AllLen 1 (l.map pcRow) = True := allLen_map fun _ => rfl
@[go_sem] theorem Dct.pc_len (d : Dct) : d.pc.length = 2 := by rw [d.pc_eq]; rfl
def dcO : Option Dct → AV
  | none => .v (.pointer none)
  | some d => .ref d.pc 0
def dSt (i n : Nat) (T : TypeId) (ps : List Dct) (s : L8) (H : AH) : List (Nat × AV) × AH := match ps with
  | [] => ([(0, str s)], ⟨H.n, upd H.o n (.cells [.v (.int .i64 (i : Nat)), .v (.slice none 0 0)])⟩)
  | p :: q => ([(0, str s)], ⟨H.n + 1, upd (upd H.o n (.cells [.v (.int .i64 (i : Nat)), .so (n + 1) (p :: q).length (p :: q).length])) (n + 1) (.rows T 1 ((p :: q).map pcRow))⟩)
end Go.Isea
namespace Go.Proofs.YtaflopgnibdkfaaGreatDoor
open Go Go.Isea
set_option maxRecDepth 100000
set_option maxHeartbeats 8000000
def DReadOk (f : Nat) : Prop := ∀ (s : L8) (h : AH), s.length < f → s.length ≤ 1200 → Isea.Good Tryz.prog 156 [str s] h [] (.tup [dcO (readDI f s).1, str (readDI f s).2]) h
def instD (s : L8) : Int := match dictOf s with
  | some d => (d.i : Nat)
  | none => -1
end Go.Proofs.YtaflopgnibdkfaaGreatDoor

namespace Go.Isea
open Go
set_option maxRecDepth 100000
def partsD (s : L8) : List L8 := match dictOf s with
  | some d => d.ps.map Dct.text
  | none => []
/-- how many brackets lie within each other at most: what was most, what is open -/
def dpS : L8 → Int × Int → Int × Int
  | [], s => s
  | c :: r, s => dpS r (if c = 40 then (max s.1 (s.2 + 1), s.2 + 1) else if c = 41 then (s.1, s.2 - 1) else s)
theorem dpS_app (a b : L8) (s : Int × Int) : dpS (a ++ b) s = dpS b (dpS a s) := by
  induction a generalizing s with
  | nil => rfl
  | cons c a ih => exact ih _
theorem dig_par : ∀ k, k ≤ 9 → ¬ UInt8.ofNat (48 + k) = 40 ∧ ¬ UInt8.ofNat (48 + k) = 41 := by
  intro k hk
  have : ∀ k : _root_.Fin 10, ¬ UInt8.ofNat (48 + k.val) = 40 ∧ ¬ UInt8.ofNat (48 + k.val) = 41 := by decide
  exact this ⟨k, by omega⟩
theorem dp_dig {c : UInt8} (h1 : ¬ c = 40) (h2 : ¬ c = 41) (s : Int × Int) : dpS [c] s = s := by simp [dpS, h1, h2]
mutual
theorem dp_text : ∀ (d : Dct) (m o : Int), d.wf → dpS d.text (m, o) = (max m (if d.depth = 0 then m else o + (d.depth : Nat)), o)
  | .mk i ps, m, o, h => by
    have hp := dpart_wf h
    obtain ⟨d1, d2⟩ := dig_par i hp.1
    rw [Dct.depth]
    cases ps with
    | nil =>
      have e : (Dct.mk i []).text = [UInt8.ofNat (48 + i)] := by simp [Dct.text, textB, digitL]
      rw [e, dp_dig d1 d2, depthB, if_pos rfl]
      simp only [Prod.mk.injEq, and_true]
      omega
    | cons p ps =>
      have hB := dp_B (p :: ps) m (o + 1) (wfB_iff.2 hp.2.2)
      have e : (Dct.mk i (p :: ps)).text = [UInt8.ofNat (48 + i)] ++ (textB 0 (p :: ps) ++ [41]) := by simp [Dct.text, digitL]
      have e0 : textB 0 (p :: ps) = [40] ++ (p.text ++ textB 1 ps) := by simp [textB, sep]
      have e1 : textB 1 (p :: ps) = [44] ++ (p.text ++ textB 1 ps) := by
        have : textB 2 ps = textB 1 ps := textB_same ps 2 1 (by decide) (by decide)
        simp [textB, sep, this]
      have h40 : dpS [40] (m, o) = (max m (o + 1), o + 1) := by simp [dpS]
      have h44 : ∀ s, dpS [44] s = s := fun s => by simp [dpS]
      have hdig : dpS [UInt8.ofNat (48 + i)] (m, o) = (m, o) := dp_dig d1 d2 _
      rw [e1, dpS_app, h44] at hB
      rw [e, dpS_app, hdig, dpS_app, e0, dpS_app, h40, hB]
      have hpos : 1 ≤ depthB (p :: ps) := by rw [depthB]; omega
      rw [if_neg (by omega)]
      show dpS [41] _ = _
      simp only [dpS]
      rw [if_neg (by decide), if_pos trivial]
      simp only [Prod.mk.injEq]
      constructor
      · omega
      · omega
theorem dp_B : ∀ (ps : List Dct) (m o : Int), wfB ps → dpS (textB 1 ps) (max m o, o) = (max (max m o) (o + (depthB ps : Nat) - 1), o)
  | [], m, o, _ => by
    rw [textB, depthB]
    show (max m o, o) = _
    simp only [Prod.mk.injEq, and_true]
    omega
  | p :: ps, m, o, h => by
    rw [wfB] at h
    have h1 := dp_text p (max m o) o h.1
    have h2 : textB 2 ps = textB 1 ps := textB_same ps 2 1 (by decide) (by decide)
    have e : textB 1 (p :: ps) = [44] ++ (p.text ++ textB 1 ps) := by simp [textB, sep, h2]
    have h44 : ∀ s, dpS [44] s = s := fun s => by simp [dpS]
    rw [e, dpS_app, h44, dpS_app, h1, depthB]
    have e3 : (max (max m o) (if p.depth = 0 then max m o else o + (p.depth : Nat))) = max (max m (o + (p.depth : Nat))) o := by
      by_cases hz : p.depth = 0
      · rw [if_pos hz, hz]; omega
      · rw [if_neg hz]; omega
    rw [e3, dp_B ps (max m (o + (p.depth : Nat))) o h.2]
    simp only [Prod.mk.injEq, and_true]
    omega
end
def sizeD (s : L8) : Int := match dictOf s with
  | some d => (d.size : Nat)
  | none => -1
def depthD (s : L8) : Int := match dictOf s with
  | some d => (d.depth : Nat)
  | none => -1
theorem dg_take {s : L8} {k : Nat} {c : UInt8} (h : s[k]? = some c) : digitsL (s.take (k + 1)) = digitsL (s.take k) + if isDig c = true then 1 else 0 := by
  obtain ⟨hl, e⟩ := List.getElem?_eq_some_iff.1 h
  rw [List.take_succ_eq_append_getElem hl, e, digitsL_append]
  congr 1
  unfold digitsL isDig
  rw [List.countP_singleton]
theorem dg_le (s : L8) : digitsL s ≤ s.length := List.countP_le_length
end Go.Isea

namespace Go.Proofs.YtaflopgnibdkfaaGreatDoor
open Go Go.Isea
set_option maxRecDepth 100000
set_option maxHeartbeats 8000000
theorem i_digits (s : L8) (h : AH) (hs : s.length ≤ 4611686018427387904) : Isea.Good Tryz.prog 75 [str s] h [] (.v (.int .i64 ((digitsL s : Nat) : Int))) h := by
  refine good [] [] Tryz.func75 rfl rfl Tryz.ntmps75 (by kernel_rfl) mixed (by kernel_rfl) ?_
  simp -dsimp only [go_sem]
  refine loop_ruleH [0, 5] (fun (k : {k : Nat // k ≤ s.length}) H => ([(3, .v (.int .i64 ((digitsL (s.take k.1) : Nat) : Int))), (7, .v (.int .i64 (k.1 : Nat)))], H)) (fun k => s.length - k.1) ⟨0, Nat.zero_le _⟩ ?_ ?_
  · exact weak_at rfl (by simp -dsimp only [go_sem]) (fun x hx => by simp -dsimp only [go_sem, hx]) (by simp -dsimp only [go_sem, List.take_zero, digitsL, List.countP_nil])
  · rintro ⟨k, hk⟩
    have h1 : k + 1 ≤ 9223372036854775807 := by omega
    by_cases hkl : k < s.length
    · obtain ⟨c, hc⟩ := get_some hkl
      have hle := dg_le (s.take k)
      rw [List.length_take] at hle
      have h2 : digitsL (s.take k) + 1 ≤ 9223372036854775807 := by omega
      have enx := dg_take hc
      by_cases h4 : 48 ≤ c.toNat
      · have h4' : (48 : Int) ≤ ((c.toNat : Nat) : Int) := by omega
        by_cases h5 : c.toNat ≤ 57
        · have h5' : ((c.toNat : Nat) : Int) ≤ 57 := by omega
          have hd : isDig c = true := by unfold isDig; simp [h4, h5]
          rw [if_pos hd] at enx
          simp -dsimp only [go_sem, hkl, hc, h4', h5', h1, h2]
          exact round_to ⟨k + 1, hkl⟩ (by simp; omega) (weak_at rfl (by simp -dsimp only [go_sem]) (fun x hx => by simp -dsimp only [go_sem, hx]) (by simp -dsimp only [go_sem, enx]))
        · have h5' : ¬ ((c.toNat : Nat) : Int) ≤ 57 := by omega
          have hd : ¬ isDig c = true := by unfold isDig; simp [h5]
          rw [if_neg hd, Nat.add_zero] at enx
          simp -dsimp only [go_sem, hkl, hc, h4', h5', h1, h2]
          exact round_to ⟨k + 1, hkl⟩ (by simp; omega) (weak_at rfl (by simp -dsimp only [go_sem]) (fun x hx => by simp -dsimp only [go_sem, hx]) (by simp -dsimp only [go_sem, enx]))
      · have h4' : ¬ (48 : Int) ≤ ((c.toNat : Nat) : Int) := by omega
        have hd : ¬ isDig c = true := by unfold isDig; simp [h4]
        rw [if_neg hd, Nat.add_zero] at enx
        simp -dsimp only [go_sem, hkl, hc, h4', h1, h2]
        exact round_to ⟨k + 1, hkl⟩ (by simp; omega) (weak_at rfl (by simp -dsimp only [go_sem]) (fun x hx => by simp -dsimp only [go_sem, hx]) (by simp -dsimp only [go_sem, enx]))
    · have hke : k = s.length := by omega
      subst hke
      simp -dsimp only [go_sem, hkl, List.take_length]
      exact fin_int (by simp -dsimp only [go_sem]) rfl
end Go.Proofs.YtaflopgnibdkfaaGreatDoor

namespace Go.Proofs.YtaflopgnibdkfaaGreatDoor
open Go Go.Isea
set_option maxRecDepth 100000
set_option maxHeartbeats 8000000
end Go.Proofs.YtaflopgnibdkfaaGreatDoor
