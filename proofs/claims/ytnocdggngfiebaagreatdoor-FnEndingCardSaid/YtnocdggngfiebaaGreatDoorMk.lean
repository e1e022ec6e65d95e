/- Contracts of functions of this program, for all arguments that satisfy what each lemma asks for. -/
import Derived.Test.YtnocdggngfiebaaGreatDoorMi
import Derived.Test.YtnocdggngfiebaaGreatDoorMe
import Derived.Test.YtnocdggngfiebaaGreatDoorMg
import Derived.Test.YtnocdggngfiebaaGreatDoorMb
import Derived.Test.YtnocdggngfiebaaGreatDoorMj
set_option linter.all false
namespace Go.Isea
open Go
def headsL : List L8 := [[108], [109]]
def wrapT (h t : L8) : L8 := h ++ [40] ++ t ++ [41]
def pairT (a b : L8) : L8 := [112, 40] ++ a ++ [44] ++ b ++ [41]
/-- all types of a size, without variables -/
def szF : Nat → Nat → List L8
  | 0, _ => []
  | f + 1, n => if n = 1 then [[105], [98], [117]] else headsL.flatMap (fun h => (szF f (n - 1)).map (wrapT h)) ++ (List.range (n - 2)).flatMap fun k => (szF f (k + 1)).flatMap fun a => (szF f (n - 2 - k)).map (pairT a)
def lenB : Nat → Nat
  | 0 => 0
  | f + 1 => 3 + 2 * lenB f + 2 * (lenB f * lenB f)
def txtB : Nat → Nat
  | 0 => 0
  | f + 1 => 2 * txtB f + 6
/-- the types of the first sizes -/
def smallT (n : Nat) : List L8 := (List.range n).flatMap fun k => szF 4 (k + 1)
def smallOk (n : Int) : Bool := decide (1 ≤ n) && decide (n ≤ 4)
def havL (w : Wld) (c : L8) (l : List L8) : List L8 := l.filter fun t => hasI w ⟨c, t⟩
def whyAt (w : Wld) (c : L8) (t : L8) : L8 := (findD w false ⟨c, t⟩).2
def changedL (w v : Wld) (c : L8) (l : List L8) : List L8 := l.filter fun t => decide (hasI w ⟨c, t⟩ ≠ hasI v ⟨c, t⟩)
def dictsL (w : Wld) (c : L8) (l : List L8) : List L8 := l.map fun t => (findD w false ⟨c, t⟩).1
end Go.Isea

namespace Go.Isea
open Go
/-- an instance whose needs are an object -/
def ownI (p : Inst × Nat) : List AV := [str p.1.c, str p.1.t, .so p.2 p.1.ns.length p.1.ns.length]
/-- memory with the instances' needs from a number on -/
def ownN (ty : Nat) (o : Nat → AObj) (b : Nat) (l : List Inst) : Nat → AObj := fun t => if b ≤ t then (match l[t - b]? with
  | some i => .rows ty 2 (i.ns.map Need.row)
  | none => o t) else o t
theorem ownN_lo {ty : Nat} {o : Nat → AObj} {b : Nat} {l : List Inst} {t : Nat} (h : t < b) : ownN ty o b l t = o t := if_neg (by omega)
/-- memory with instances, and their needs behind -/
def ownM (ty tn : Nat) (h : AH) (l : List Inst) : AH := ⟨h.n + 1 + l.length, upd (ownN tn h.o (h.n + 1) l) h.n (.rows ty 3 ((l.zipIdx (h.n + 1)).map ownI))⟩
@[go_sem] theorem ownM_n {ty tn : Nat} {h : AH} {l : List Inst} : (ownM ty tn h l).n = h.n + 1 + l.length := (rfl)
@[go_sem] theorem ownM_lo {ty tn : Nat} {h : AH} {l : List Inst} {t : Nat} (ht : t < h.n) : (ownM ty tn h l).o t = h.o t := by
  show upd (ownN tn h.o (h.n + 1) l) h.n _ t = _
  rw [upd_ne _ _ (by omega), ownN_lo (by omega)]
theorem ownM_at {ty tn : Nat} {h : AH} {l : List Inst} : (ownM ty tn h l).o h.n = .rows ty 3 ((l.zipIdx (h.n + 1)).map ownI) := upd_same _ _ _
theorem ownI_lt {l : List Inst} {b k : Nat} {p : Inst × Nat} (h : (l.zipIdx b)[k]? = some p) : p.2 = b + k ∧ l[k]? = some p.1 := by
  rw [List.getElem?_zipIdx] at h
  cases e : l[k]? with
  | none => rw [e] at h; cases h
  | some i => rw [e] at h; cases h; exact ⟨rfl, rfl⟩
/-- a world whose slices are objects -/
def ownRow (b : Nat) (w : Wld) : List AV := [.so b w.cs.length w.cs.length, .so (b + 1) w.is.length w.is.length]
structure OwnW (tc ty tn : Nat) (h : AH) (b : Nat) (w : Wld) : Prop where
  c : h.o b = .rows tc 2 (w.cs.map Cls.row)
  i : h.o (b + 1) = .rows ty 3 ((w.is.zipIdx (b + 2)).map ownI)
  n : ∀ j i, w.is[j]? = some i → h.o (b + 2 + j) = .rows tn 2 (i.ns.map Need.row)
  lt : b + 2 + w.is.length ≤ h.n
theorem fz_rowsF {h : AH} {t e sz : Nat} {rs : List (List AV)} (ho : h.o t = .rows e sz rs) (hp : PuR rs) : Fz h 0 (.so t rs.length rs.length) (.sl rs) := Fz.so_lo (Nat.zero_le _) ho rfl (hp 0)
/-- a world of one's own, frozen -/
theorem OwnW.fz {tc ty tn : Nat} {h : AH} {b : Nat} {w : Wld} (hw : OwnW tc ty tn h b w) : Fz h 0 (.agg (ownRow b w)) (.agg w.row) := by
  refine .agg rfl fun k x y h1 h2 => ?_
  rcases k with _ | _ | k
  · simp [ownRow, Wld.row] at h1 h2; subst h1; subst h2
    have := fz_rowsF hw.c (of_eq_true puR_clss)
    rwa [List.length_map] at this
  · simp [ownRow, Wld.row] at h1 h2; subst h1; subst h2
    refine .soF (Nat.zero_le _) hw.i (by simp) (by simp) (fun i r r' g1 g2 => ?_) fun i j r r' x y g1 g2 g3 g4 => ?_
    · rw [List.getElem?_map] at g1 g2
      cases e1 : (w.is.zipIdx (b + 2))[i]? with
      | none => rw [e1] at g1; cases g1
      | some p =>
        cases e2 : w.is[i]? with
        | none => rw [e2] at g2; cases g2
        | some x => rw [e1] at g1; rw [e2] at g2; cases g1; cases g2; rfl
    · rw [List.getElem?_map] at g1 g2
      cases e1 : (w.is.zipIdx (b + 2))[i]? with
      | none => rw [e1] at g1; cases g1
      | some p =>
        obtain ⟨p1, p2⟩ := ownI_lt e1
        rw [p2] at g2
        rw [e1] at g1
        cases g1; cases g2
        rcases j with _ | _ | _ | j
        · simp [ownI, Inst.row] at g3 g4; subst g3; subst g4; exact .v _
        · simp [ownI, Inst.row] at g3 g4; subst g3; subst g4; exact .v _
        · simp [ownI, Inst.row] at g3 g4; subst g3; subst g4
          have := fz_rowsF (h := h) (t := p.2) (by rw [p1]; exact hw.n i _ p2) (of_eq_true (puR_needs (l := p.1.ns)))
          rwa [List.length_map] at this
        · simp [ownI] at g3
  · simp [ownRow] at h1
/-- new objects moved down over others that are forgotten -/
def dn (m a t : Nat) : Nat := if t < m then t else t + a
theorem dn_lo {m a t : Nat} (h : t < m) : dn m a t = t := if_pos h
theorem dn_hi {m a t : Nat} (h : m ≤ t) : dn m a t = t + a := if_neg (by omega)
theorem Good.shift {P : Program} {k : FuncId} {args : List AV} {h h' h1 : AH} {r r1 : AV} (a : Nat) (hg : Isea.Good P k args h [] r1 h1) (hn : h'.n + a = h1.n) (hle : h.n ≤ h'.n) (hold : ∀ t, t < h.n → h'.o t = h.o t)
    (ho : ∀ t, h.n ≤ t → t < h'.n → RenO True (dn h.n a) (fun s => s < h'.n) (h1.o (t + a)) (h'.o t)) (hr : Ren True (dn h.n a) (fun s => s < h'.n) r1 r) : Isea.Good P k args h [] r h' := by
  refine hg.ren (dn h.n a) hle (fun t ht => ?_) (fun s t hs ht e => ?_) (fun t ht _ => dn_lo ht) (fun t ht hlt => ?_) (fun t _ ht => by cases ht) (fun t ht _ => hold t ht) (fun t ht hc => ?_) hr
  · unfold dn; split <;> omega
  · unfold dn at e; split at e <;> split at e <;> omega
  · unfold dn at hlt ⊢; split <;> first | rfl | (split at hlt <;> omega)
  · have hge : h.n ≤ t := by
      rcases hc with hc | hc
      · cases hc
      · exact hc
    rw [dn_hi hge]
    exact ho t hge ht
theorem OwnW.keep {tc ty tn : Nat} {h h' : AH} {b : Nat} {w : Wld} (hw : OwnW tc ty tn h b w) (hn : h.n ≤ h'.n) (ho : ∀ t, t < h.n → h'.o t = h.o t) : OwnW tc ty tn h' b w := by
  have := hw.lt
  refine ⟨by rw [ho b (by omega)]; exact hw.c, by rw [ho _ (by omega)]; exact hw.i, fun j i hj => ?_, by omega⟩
  have := (List.getElem?_eq_some_iff.1 hj).1
  rw [ho _ (by omega)]; exact hw.n j i hj
end Go.Isea
namespace Go.Proofs.YtnocdggngfiebaaGreatDoor
open Go Go.Isea
set_option maxRecDepth 100000
set_option maxHeartbeats 8000000
@[go_sem] theorem isCur_ownM {ty tn : Nat} {h : AH} {l : List Inst} {m : Nat} (hm : m = h.n) : isCur l.length ((ownM ty tn h l).o m) = true := by
  subst hm
  rw [ownM_at]; simp [isCur]
end Go.Proofs.YtnocdggngfiebaaGreatDoor

namespace Go.Isea
open Go
def decTo (k : Nat) (out : L8) : L8 := if h : k = 0 then out else decTo (k / 10) (UInt8.ofNat (48 + k % 10) :: out)
termination_by k
decreasing_by exact Nat.div_lt_self (Nat.pos_of_ne_zero h) (by decide)
/-- the mark of a number -/
def markT (k : Nat) : L8 := if k = 0 then [109, 48] else 109 :: decTo k []
/-- rows of which the first ones are laid, by their numbers -/
def mixR (f : Nat → List AV) (rs : List (List AV)) (i : Nat) : List (List AV) := (List.range i).map f ++ rs.drop i
def mk2 (k j : Nat) : List AV := [str (markT (k + 2 * j)), str (markT (k + 2 * j + 1))]
def mk1 (k j : Nat) : List AV := [str (markT (k + j))]
def mkI (k j : Nat) : List AV := [.v (.int .i64 ((k + j : Nat) : Int))]
def mkG (k j : Nat) : List AV := [.v (.int .i64 ((k + 2 * j : Nat) : Int)), str (markT (k + 2 * j + 1))]
end Go.Isea

namespace Go.Isea
open Go
def VR (rs : List (List AV)) : Prop := ∀ r ∈ rs, ∀ x ∈ r, ∃ v, x = .v v
theorem VR.map {α : Type} {f : α → List AV} {l : List α} (hf : ∀ a, ∀ x ∈ f a, ∃ v, x = AV.v v) : VR (l.map f) := by
  intro r hr
  obtain ⟨a, _, rfl⟩ := List.mem_map.1 hr
  exact hf a
section
variable {P : Program} {k : FuncId} {args args' : List AV} {h : AH} {e sz n : Nat} {rs : List (List AV)}
end
end Go.Isea

namespace Go.Isea
open Go
@[go_sem] theorem good_strs {h : AH} {l : List L8} : goodRows h 1 (l.map sRow) = True := good_map fun _ => ⟨rfl, rfl⟩
/-- the types with one part -/
def wrapW (T : List L8) (k : Nat) : List L8 := (headsL.take k).flatMap fun h => T.map (wrapT h)
/-- the types of two parts whose first one is at most of a size -/
def pairW (f n m : Nat) : List L8 := (List.range m).flatMap fun k => (szF f (k + 1)).flatMap fun a => (szF f (n - 2 - k)).map (pairT a)
end Go.Isea
namespace Go.Proofs.YtnocdggngfiebaaGreatDoor
open Go Go.Isea
set_option maxRecDepth 100000
set_option maxHeartbeats 8000000
def i_sizedOk (f : Nat) : Prop := ∀ (n : Nat) (h : AH), 1 ≤ n → n ≤ f → n ≤ 4 → Isea.Good Tryz.prog 160 [.v (.int .i64 (n : Nat))] h [] (.sl ((szF f n).map sRow)) h
def s_typesOk (f : Nat) : Prop := ∀ (n : Nat) (h : AH), 1 ≤ n → n ≤ f → n ≤ 4 → Isea.Good Tryz.prog 239 [.v (.int .i64 (n : Nat))] h [] (.sl ((szF f n).map sRow)) h
end Go.Proofs.YtnocdggngfiebaaGreatDoor

namespace Go.Isea
open Go
/-- the small types that have a class -/
def tyH (w : Wld) (c : L8) (n : Int) : List L8 := if (hasClass w c && smallOk n) = true then havL w c (smallT n.toNat) else []
def withinB (w : Wld) (c o : L8) (n : Int) : Bool := (hasClass w c && smallOk n) && (hasClass w o && (havL w c (smallT n.toNat)).all fun t => hasI w ⟨o, t⟩)
end Go.Isea
namespace Go.Proofs.YtnocdggngfiebaaGreatDoor
open Go Go.Isea
set_option maxRecDepth 100000
set_option maxHeartbeats 8000000
end Go.Proofs.YtnocdggngfiebaaGreatDoor
