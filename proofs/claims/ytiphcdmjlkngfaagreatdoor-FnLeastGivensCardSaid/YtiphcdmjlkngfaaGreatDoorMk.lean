/- Contracts of functions of this program, for all arguments that satisfy what each lemma asks for. -/
import Derived.Test.YtiphcdmjlkngfaaGreatDoorMi
import Derived.Test.YtiphcdmjlkngfaaGreatDoorMe
import Derived.Test.YtiphcdmjlkngfaaGreatDoorMg
import Derived.Test.YtiphcdmjlkngfaaGreatDoorMb
import Derived.Test.YtiphcdmjlkngfaaGreatDoorMj
set_option linter.all false
namespace Go.Isea
open Go
def headsL : List L8 := [[108], [109]]
def wrapT (h t : L8) : L8 := h ++ [40] ++ t ++ [41]
def pairT (a b : L8) : L8 := [112, 40] ++ a ++ [44] ++ b ++ [41]
/-- all types of a size, without variables -/
def szF : Nat → Nat → List L8
  | 0, _ => []
  | f + 1, n => if n = 1 then [[105], [98], [117]] else headsL.flatMap (fun h => (szF f (n - 1)).map (wrapT h)) ++ (List.range (n - 2)).flatMap fun k => (szF f (k + 1)).flatMap fun a => (szF f (n - 2 - k)).map (pairT a)
def lenB : Nat → Nat
  | 0 => 0
  | f + 1 => 3 + 2 * lenB f + 2 * (lenB f * lenB f)
def txtB : Nat → Nat
  | 0 => 0
  | f + 1 => 2 * txtB f + 6
/-- the types of the first sizes -/
def smallT (n : Nat) : List L8 := (List.range n).flatMap fun k => szF 4 (k + 1)
def smallOk (n : Int) : Bool := decide (1 ≤ n) && decide (n ≤ 4)
def havL (w : Wld) (c : L8) (l : List L8) : List L8 := l.filter fun t => hasI w ⟨c, t⟩
def whyAt (w : Wld) (c : L8) (t : L8) : L8 := (findD w false ⟨c, t⟩).2
def changedL (w v : Wld) (c : L8) (l : List L8) : List L8 := l.filter fun t => decide (hasI w ⟨c, t⟩ ≠ hasI v ⟨c, t⟩)
def dictsL (w : Wld) (c : L8) (l : List L8) : List L8 := l.map fun t => (findD w false ⟨c, t⟩).1
end Go.Isea

namespace Go.Isea
open Go
/-- an instance whose needs are an object -/
def ownI (p : Inst × Nat) : List AV := [str p.1.c, str p.1.t, .so p.2 p.1.ns.length p.1.ns.length]
/-- memory with the instances' needs from a number on -/
def ownN (ty : Nat) (o : Nat → AObj) (b : Nat) (l : List Inst) : Nat → AObj := fun t => if b ≤ t then (match l[t - b]? with
  | some i => .rows ty 2 (i.ns.map Need.row)
  | none => o t) else o t
theorem ownN_lo {ty : Nat} {o : Nat → AObj} {b : Nat} {l : List Inst} {t : Nat} (h : t < b) : ownN ty o b l t = o t := if_neg (by omega)
theorem ownN_at {ty : Nat} {o : Nat → AObj} {b : Nat} {l : List Inst} {j : Nat} {i : Inst} (h : l[j]? = some i) : ownN ty o b l (b + j) = .rows ty 2 (i.ns.map Need.row) := by
  unfold ownN
  rw [if_pos (by omega), Nat.add_sub_cancel_left, h]
/-- memory with instances, and their needs behind -/
def ownM (ty tn : Nat) (h : AH) (l : List Inst) : AH := ⟨h.n + 1 + l.length, upd (ownN tn h.o (h.n + 1) l) h.n (.rows ty 3 ((l.zipIdx (h.n + 1)).map ownI))⟩
@[go_sem] theorem ownM_n {ty tn : Nat} {h : AH} {l : List Inst} : (ownM ty tn h l).n = h.n + 1 + l.length := (rfl)
@[go_sem] theorem ownM_lo {ty tn : Nat} {h : AH} {l : List Inst} {t : Nat} (ht : t < h.n) : (ownM ty tn h l).o t = h.o t := by
  show upd (ownN tn h.o (h.n + 1) l) h.n _ t = _
  rw [upd_ne _ _ (by omega), ownN_lo (by omega)]
theorem ownM_at {ty tn : Nat} {h : AH} {l : List Inst} : (ownM ty tn h l).o h.n = .rows ty 3 ((l.zipIdx (h.n + 1)).map ownI) := upd_same _ _ _
theorem ownM_hi {ty tn : Nat} {h : AH} {l : List Inst} {j : Nat} {i : Inst} (hj : l[j]? = some i) : (ownM ty tn h l).o (h.n + 1 + j) = .rows tn 2 (i.ns.map Need.row) := by
  show upd (ownN tn h.o (h.n + 1) l) h.n _ _ = _
  rw [upd_ne _ _ (by omega), ownN_at hj]
theorem zip_get {l : List Inst} {b k : Nat} {i : Inst} (h : l[k]? = some i) : (l.zipIdx b)[k]? = some (i, b + k) := by
  rw [List.getElem?_zipIdx, h]; rfl
theorem ownI_lt {l : List Inst} {b k : Nat} {p : Inst × Nat} (h : (l.zipIdx b)[k]? = some p) : p.2 = b + k ∧ l[k]? = some p.1 := by
  rw [List.getElem?_zipIdx] at h
  cases e : l[k]? with
  | none => rw [e] at h; cases h
  | some i => rw [e] at h; cases h; exact ⟨rfl, rfl⟩
theorem fz_ownI {h : AH} {m : Nat} {p : Inst × Nat} (hp : p.2 < m) (j : Nat) (x y : AV) (h1 : (ownI p)[j]? = some x) (h2 : (ownI p)[j]? = some y) : Fz h m x y := by
  rw [h1] at h2; cases h2
  unfold ownI at h1
  rcases j with _ | _ | _ | j
  · simp at h1; subst h1; exact .v _
  · simp at h1; subst h1; exact .v _
  · simp at h1; subst h1; exact .so hp
  · simp at h1
/-- rows of which the first ones are laid and the others are not yet -/
theorem objFz_fillO {h : AH} {m e b k : Nat} {l : List Inst} (hm : b + k ≤ m) (hk : k ≤ l.length) : ObjFz h m (.rows e 3 (fillR ownI 3 (l.zipIdx b) k)) (.rows e 3 (fillR ownI 3 (l.zipIdx b) k)) := by
  refine ⟨rfl, rfl, rfl, fun i r r' h1 h2 => by rw [h1] at h2; cases h2; rfl, fun i j r r' x y h1 h2 h3 h4 => ?_⟩
  rw [h1] at h2; cases h2
  unfold fillR at h1
  rcases Nat.lt_or_ge i k with hi | hi
  · have e1 : (((l.zipIdx b).take k).map ownI).length = k := by rw [List.length_map, List.length_take, List.length_zipIdx]; omega
    rw [List.getElem?_append_left (by omega), List.getElem?_map] at h1
    cases e2 : ((l.zipIdx b).take k)[i]? with
    | none => rw [e2] at h1; cases h1
    | some p =>
      rw [e2] at h1; cases h1
      rw [List.getElem?_take, if_pos hi] at e2
      exact fz_ownI (by have := (ownI_lt e2).1; omega) j x y h3 h4
  · have e1 : (((l.zipIdx b).take k).map ownI).length = k := by rw [List.length_map, List.length_take, List.length_zipIdx]; omega
    rw [List.getElem?_append_right (by omega)] at h1
    rw [List.eq_of_mem_replicate (List.mem_of_getElem? h1)] at h4
    have : y = .junk := by simpa using List.mem_of_getElem? h4
    rw [this]; exact .junk _
/-- a world whose slices are objects -/
def ownRow (b : Nat) (w : Wld) : List AV := [.so b w.cs.length w.cs.length, .so (b + 1) w.is.length w.is.length]
structure OwnW (tc ty tn : Nat) (h : AH) (b : Nat) (w : Wld) : Prop where
  c : h.o b = .rows tc 2 (w.cs.map Cls.row)
  i : h.o (b + 1) = .rows ty 3 ((w.is.zipIdx (b + 2)).map ownI)
  n : ∀ j i, w.is[j]? = some i → h.o (b + 2 + j) = .rows tn 2 (i.ns.map Need.row)
  lt : b + 2 + w.is.length ≤ h.n
theorem fz_rowsF {h : AH} {t e sz : Nat} {rs : List (List AV)} (ho : h.o t = .rows e sz rs) (hp : PuR rs) : Fz h 0 (.so t rs.length rs.length) (.sl rs) := Fz.so_lo (Nat.zero_le _) ho rfl (hp 0)
/-- a world of one's own, frozen -/
theorem OwnW.fz {tc ty tn : Nat} {h : AH} {b : Nat} {w : Wld} (hw : OwnW tc ty tn h b w) : Fz h 0 (.agg (ownRow b w)) (.agg w.row) := by
  refine .agg rfl fun k x y h1 h2 => ?_
  rcases k with _ | _ | k
  · simp [ownRow, Wld.row] at h1 h2; subst h1; subst h2
    have := fz_rowsF hw.c (of_eq_true puR_clss)
    rwa [List.length_map] at this
  · simp [ownRow, Wld.row] at h1 h2; subst h1; subst h2
    refine .soF (Nat.zero_le _) hw.i (by simp) (by simp) (fun i r r' g1 g2 => ?_) fun i j r r' x y g1 g2 g3 g4 => ?_
    · rw [List.getElem?_map] at g1 g2
      cases e1 : (w.is.zipIdx (b + 2))[i]? with
      | none => rw [e1] at g1; cases g1
      | some p =>
        cases e2 : w.is[i]? with
        | none => rw [e2] at g2; cases g2
        | some x => rw [e1] at g1; rw [e2] at g2; cases g1; cases g2; rfl
    · rw [List.getElem?_map] at g1 g2
      cases e1 : (w.is.zipIdx (b + 2))[i]? with
      | none => rw [e1] at g1; cases g1
      | some p =>
        obtain ⟨p1, p2⟩ := ownI_lt e1
        rw [p2] at g2
        rw [e1] at g1
        cases g1; cases g2
        rcases j with _ | _ | _ | j
        · simp [ownI, Inst.row] at g3 g4; subst g3; subst g4; exact .v _
        · simp [ownI, Inst.row] at g3 g4; subst g3; subst g4; exact .v _
        · simp [ownI, Inst.row] at g3 g4; subst g3; subst g4
          have := fz_rowsF (h := h) (t := p.2) (by rw [p1]; exact hw.n i _ p2) (of_eq_true (puR_needs (l := p.1.ns)))
          rwa [List.length_map] at this
        · simp [ownI] at g3
  · simp [ownRow] at h1
/-- new objects moved down over others that are forgotten -/
def dn (m a t : Nat) : Nat := if t < m then t else t + a
theorem dn_lo {m a t : Nat} (h : t < m) : dn m a t = t := if_pos h
theorem dn_hi {m a t : Nat} (h : m ≤ t) : dn m a t = t + a := if_neg (by omega)
theorem Good.shift {P : Program} {k : FuncId} {args : List AV} {h h' h1 : AH} {r r1 : AV} (a : Nat) (hg : Isea.Good P k args h [] r1 h1) (hn : h'.n + a = h1.n) (hle : h.n ≤ h'.n) (hold : ∀ t, t < h.n → h'.o t = h.o t)
    (ho : ∀ t, h.n ≤ t → t < h'.n → RenO True (dn h.n a) (fun s => s < h'.n) (h1.o (t + a)) (h'.o t)) (hr : Ren True (dn h.n a) (fun s => s < h'.n) r1 r) : Isea.Good P k args h [] r h' := by
  refine hg.ren (dn h.n a) hle (fun t ht => ?_) (fun s t hs ht e => ?_) (fun t ht _ => dn_lo ht) (fun t ht hlt => ?_) (fun t _ ht => by cases ht) (fun t ht _ => hold t ht) (fun t ht hc => ?_) hr
  · unfold dn; split <;> omega
  · unfold dn at e; split at e <;> split at e <;> omega
  · unfold dn at hlt ⊢; split <;> first | rfl | (split at hlt <;> omega)
  · have hge : h.n ≤ t := by
      rcases hc with hc | hc
      · cases hc
      · exact hc
    rw [dn_hi hge]
    exact ho t hge ht
theorem OwnW.keep {tc ty tn : Nat} {h h' : AH} {b : Nat} {w : Wld} (hw : OwnW tc ty tn h b w) (hn : h.n ≤ h'.n) (ho : ∀ t, t < h.n → h'.o t = h.o t) : OwnW tc ty tn h' b w := by
  have := hw.lt
  refine ⟨by rw [ho b (by omega)]; exact hw.c, by rw [ho _ (by omega)]; exact hw.i, fun j i hj => ?_, by omega⟩
  have := (List.getElem?_eq_some_iff.1 hj).1
  rw [ho _ (by omega)]; exact hw.n j i hj
end Go.Isea
namespace Go.Proofs.YtiphcdmjlkngfaaGreatDoor
open Go Go.Isea
set_option maxRecDepth 100000
set_option maxHeartbeats 8000000
theorem o_toNeedS (l : List Need) (h : AH) (hl : l.length ≤ 1048576) : Isea.Good Tryz.prog 244 [.sl (l.map Need.row)] h [] (.so h.n l.length l.length) (h.push (.rows 28 2 (l.map Need.row))) := by
  have e6 : l.length * 32 ≤ 140737488355328 := by omega
  refine good [] [] Tryz.func244 rfl rfl Tryz.ntmps244 (by kernel_rfl) mixed (by kernel_rfl) ?_
  simp -dsimp only [go_sem, e6]
  refine loop_ruleH [0, 2] (fun (k : {k : Nat // k ≤ l.length}) H => ([(4, .v (.int .i64 (k.1 : Nat)))], ⟨H.n, upd H.o h.n (.rows 28 2 (fillR Need.row 2 l k.1))⟩)) (fun k => l.length - k.1) ⟨0, Nat.zero_le _⟩ ?_ ?_
  · refine weak_objs [h.n] (by simp -dsimp only [go_sem]) (by simp -dsimp only [go_sem]) (by simp -dsimp only [go_sem]) ?_ ?_ ?_
    · intro x h1 h2; simp -dsimp only [go_sem, h1]
    · intro x h1 h2; have h1 : x < h.n + 1 := h1; simp at h2 ⊢; omega
    · simp -dsimp only [go_sem]
      exact objFz_fill (by simp) (fun r hr => by rw [List.eq_of_mem_replicate hr]; rfl)
  · rintro ⟨k, hk⟩
    have hk1 : k + 1 ≤ 9223372036854775807 := by omega
    have hfl := fillR_len (f := Need.row) (sz := 2) hk
    by_cases hlt : k < l.length
    · obtain ⟨n, hb⟩ := get_some hlt
      have hg := fun H => w_toNeed n H trivial
      have hfg := fillR_get (f := Need.row) (sz := 2) hlt
      have hfs := fillR_set (f := Need.row) (sz := 2) hb
      have hfa := fillR_row (f := Need.row) (sz := 2) (l := l) (k := k) (fun _ => rfl)
      have hpu := fillR_pu (f := Need.row) (sz := 2) (l := l) (k := k + 1) Need.pu
      simp -dsimp only [go_sem, hlt, hb, Need.row] at hg hfs ⊢
      refine call_pure (hg _) ?_
      simp -dsimp only [go_sem, hfl, hfg, hfa, hlt, hk1, hfs]
      refine round_to ⟨k + 1, hlt⟩ (by simp; omega) ?_
      refine weak_objs [h.n] (by simp -dsimp only [go_sem]) (by simp -dsimp only [go_sem]) (by simp -dsimp only [go_sem]) ?_ ?_ ?_
      · intro x h1 h2; simp -dsimp only [go_sem, h1]
      · intro x h1 h2; have h1 : x < h.n + 1 := h1; simp at h2 ⊢; omega
      · simp -dsimp only [go_sem, hfs, hpu]
    · have ek : k = l.length := by omega
      subst ek
      simp -dsimp only [go_sem, hlt]
      refine fin_push (by simp -dsimp only [go_sem]) ?_ ?_
      · simp -dsimp only [go_sem]
      · simp -dsimp only [go_sem, fillR_all]
theorem o_toClassS (l : List Cls) (h : AH) (hl : l.length ≤ 1048576) : Isea.Good Tryz.prog 117 [.sl (l.map Cls.row)] h [] (.so h.n l.length l.length) (h.push (.rows 218 2 (l.map Cls.row))) := by
  have e6 : l.length * 32 ≤ 140737488355328 := by omega
  refine good [] [] Tryz.func117 rfl rfl Tryz.ntmps117 (by kernel_rfl) mixed (by kernel_rfl) ?_
  simp -dsimp only [go_sem, e6]
  refine loop_ruleH [0, 2] (fun (k : {k : Nat // k ≤ l.length}) H => ([(4, .v (.int .i64 (k.1 : Nat)))], ⟨H.n, upd H.o h.n (.rows 218 2 (fillR Cls.row 2 l k.1))⟩)) (fun k => l.length - k.1) ⟨0, Nat.zero_le _⟩ ?_ ?_
  · refine weak_objs [h.n] (by simp -dsimp only [go_sem]) (by simp -dsimp only [go_sem]) (by simp -dsimp only [go_sem]) ?_ ?_ ?_
    · intro x h1 h2; simp -dsimp only [go_sem, h1]
    · intro x h1 h2; have h1 : x < h.n + 1 := h1; simp at h2 ⊢; omega
    · simp -dsimp only [go_sem]
      exact objFz_fill (by simp) (fun r hr => by rw [List.eq_of_mem_replicate hr]; rfl)
  · rintro ⟨k, hk⟩
    have hk1 : k + 1 ≤ 9223372036854775807 := by omega
    have hfl := fillR_len (f := Cls.row) (sz := 2) hk
    by_cases hlt : k < l.length
    · obtain ⟨n, hb⟩ := get_some hlt
      have hg := fun H => w_toClass n H trivial
      have hfg := fillR_get (f := Cls.row) (sz := 2) hlt
      have hfs := fillR_set (f := Cls.row) (sz := 2) hb
      have hfa := fillR_row (f := Cls.row) (sz := 2) (l := l) (k := k) (fun _ => rfl)
      have hpu := fillR_pu (f := Cls.row) (sz := 2) (l := l) (k := k + 1) Cls.pu
      simp -dsimp only [go_sem, hlt, hb, Cls.row] at hg hfs ⊢
      refine call_pure (hg _) ?_
      simp -dsimp only [go_sem, hfl, hfg, hfa, hlt, hk1, hfs]
      refine round_to ⟨k + 1, hlt⟩ (by simp; omega) ?_
      refine weak_objs [h.n] (by simp -dsimp only [go_sem]) (by simp -dsimp only [go_sem]) (by simp -dsimp only [go_sem]) ?_ ?_ ?_
      · intro x h1 h2; simp -dsimp only [go_sem, h1]
      · intro x h1 h2; have h1 : x < h.n + 1 := h1; simp at h2 ⊢; omega
      · simp -dsimp only [go_sem, hfs, hpu]
    · have ek : k = l.length := by omega
      subst ek
      simp -dsimp only [go_sem, hlt]
      refine fin_push (by simp -dsimp only [go_sem]) ?_ ?_
      · simp -dsimp only [go_sem]
      · simp -dsimp only [go_sem, fillR_all]
theorem o_toInstance (n : Inst) (h : AH) (hl : n.ns.length ≤ 1048576) : Isea.Good Tryz.prog 184 [.agg n.row] h [] (.agg (ownI (n, h.n))) (h.push (.rows 28 2 (n.ns.map Need.row))) := by
  have hg := fun H => w_toNeed ⟨n.c, n.t⟩ H trivial
  have hs := o_toNeedS n.ns
  have hfirst : Isea.Good Tryz.prog 184 [.agg n.row] h [] (.agg (ownI (n, h.n + 2))) ⟨h.n + 3, upd (upd (upd h.o h.n (.cells [.junk, .junk, .junk])) (h.n + 1) (.cells [.junk, .junk, .junk])) (h.n + 2) (.rows 28 2 (n.ns.map Need.row))⟩ := by
    refine good [] [] Tryz.func184 rfl rfl Tryz.ntmps184 (by kernel_rfl) mixed (by kernel_rfl) ?_
    simp -dsimp only [go_sem, Inst.row, Need.row] at hg ⊢
    refine call_pure (hg _) ?_
    simp -dsimp only [go_sem]
    refine call_pure (hs _ hl) ?_
    simp -dsimp only [go_sem]
    refine fin_objs [h.n, h.n + 1, h.n + 2] (by simp -dsimp only [go_sem]) (by simp -dsimp only [go_sem]) (by simp -dsimp only [go_sem, ownI]) ?_ ?_ ?_
    · intro t h1 _
      have e0 : ¬ t = h.n := by omega
      have e1 : ¬ t = h.n + 1 := by omega
      have e2 : ¬ t = h.n + 2 := by omega
      simp -dsimp only [go_sem, e0, e1, e2]
    · intro t h1 h2
      have h1 : t < h.n + 3 := h1
      simp at h2 ⊢; omega
    · simp -dsimp only [go_sem]
  refine hfirst.shift 2 rfl (Nat.le_succ _) (fun t ht => upd_ne _ _ (by omega)) (fun t h1 h2 => ?_) ?_
  · have h2 : t < h.n + 1 := h2
    obtain rfl : t = h.n := by omega
    show RenO True _ _ (upd _ (h.n + 2) _ (h.n + 2)) (upd h.o h.n _ h.n)
    rw [upd_same, upd_same]
    exact RenO.of_rows (of_eq_true puR_needs)
  · refine .agg rfl fun i x y h1 h2 => ?_
    rcases i with _ | _ | _ | i
    · simp [ownI] at h1 h2; subst h1; subst h2; exact .v _
    · simp [ownI] at h1 h2; subst h1; subst h2; exact .v _
    · simp [ownI] at h1 h2; subst h1; subst h2
      exact Ren.so' (Nat.lt_succ_self _) (dn_hi (Nat.le_refl _))
    · simp [ownI] at h1
theorem o_toInstanceS (l : List Inst) (h : AH) (hl : l.length ≤ 1048576) (hn : ∀ n ∈ l, n.Ok) : Isea.Good Tryz.prog 118 [.sl (l.map Inst.row)] h [] (.so h.n l.length l.length) (ownM 143 28 h l) := by
  have e6 : l.length * 56 ≤ 140737488355328 := by omega
  refine good [] [] Tryz.func118 rfl rfl Tryz.ntmps118 (by kernel_rfl) mixed (by kernel_rfl) ?_
  simp -dsimp only [go_sem, e6]
  refine loop_ruleH [0, 2] (fun (k : {k : Nat // k ≤ l.length}) H => ([(4, .v (.int .i64 (k.1 : Nat)))], ⟨h.n + 1 + k.1, upd (ownN 28 h.o (h.n + 1) l) h.n (.rows 143 3 (fillR ownI 3 (l.zipIdx (h.n + 1)) k.1))⟩)) (fun k => l.length - k.1) ⟨0, Nat.zero_le _⟩ ?_ ?_
  · refine weak_objs [h.n] (by simp -dsimp only [go_sem]) (by simp -dsimp only [go_sem]) (by simp -dsimp only [go_sem]) ?_ ?_ ?_
    · intro x h1 h2
      have h1 : x < h.n := h1
      show upd _ h.n _ x = upd _ h.n _ x
      rw [upd_ne _ _ (by omega), upd_ne _ _ (by omega), ownN_lo (by omega)]
    · intro x h1 h2; have h1 : x < h.n + 1 + 0 := h1; simp at h2 ⊢; omega
    · simp -dsimp only [go_sem]
      exact objFz_fill (by simp) (fun r hr => by rw [List.eq_of_mem_replicate hr]; rfl)
  · rintro ⟨k, hk⟩
    have hk1 : k + 1 ≤ 9223372036854775807 := by omega
    have hzl : (l.zipIdx (h.n + 1)).length = l.length := List.length_zipIdx
    have hfl : (fillR ownI 3 (l.zipIdx (h.n + 1)) k).length = l.length := by rw [fillR_len (by omega), hzl]
    have hnh : ¬ h.n + 1 + k = h.n := by omega
    have hnh' : ¬ h.n = h.n + 1 + k := by omega
    have hnl : h.n < h.n + 1 + k := by omega
    have hnl2 : h.n < h.n + 1 + k + 1 := by omega
    have hnl3 : h.n + 1 + k < h.n + 1 + k + 1 := by omega
    have hfa := fillR_row (f := ownI) (sz := 3) (l := l.zipIdx (h.n + 1)) (k := k) (fun _ => rfl)
    by_cases hlt : k < l.length
    · obtain ⟨n, hb⟩ := get_some hlt
      have hg := fun H => o_toInstance n H (hn n (List.mem_of_getElem? hb))
      have hfg := fillR_get (f := ownI) (sz := 3) (l := l.zipIdx (h.n + 1)) (k := k) (by omega)
      have hfs := fillR_set (f := ownI) (sz := 3) (zip_get (b := h.n + 1) hb)
      simp -dsimp only [go_sem, hlt, hb, Inst.row] at hg ⊢
      refine call_pure (hg _) ?_
      simp only [ownI] at hfs
      simp -dsimp only [go_sem, ownI, hfl, hfg, hfa, hlt, hk1, hfs, hnh, hnh', hnl, hnl2, hnl3]
      refine round_to ⟨k + 1, hlt⟩ (by simp; omega) ?_
      refine weak_same (by show h.n ≤ h.n + 1 + (k + 1); omega) (by show h.n + 1 + (k + 1) ≤ h.n + 1 + k + 1; omega) ?_ (fun t h1 _ => ?_) (fun t h1 h2 => ?_)
      · have hnl4 : h.n < h.n + 1 + (k + 1) := by omega
        simp -dsimp only [go_sem, hnl4]
      · have h1 : t < h.n := h1
        show upd _ h.n _ t = upd (upd (upd _ h.n _) (h.n + 1 + k) _) h.n _ t
        rw [upd_ne _ _ (by omega), upd_ne _ _ (by omega), upd_ne _ _ (by omega), upd_ne _ _ (by omega)]
      · have h1 : t < h.n + 1 + (k + 1) := h1
        have h2 : h.n ≤ t := by
          rcases h2 with h2 | h2
          · cases h2
          · exact h2
        show ObjFz _ (h.n + 1 + (k + 1)) (upd (upd (upd (ownN _ h.o (h.n + 1) l) h.n _) (h.n + 1 + k) _) h.n _ t) (upd (ownN _ h.o (h.n + 1) l) h.n _ t)
        by_cases e0 : t = h.n
        · subst e0
          rw [upd_same, upd_same]
          exact objFz_fillO (by omega) (by omega)
        · rw [upd_ne _ _ e0, upd_ne _ _ e0]
          obtain ⟨j, rfl⟩ : ∃ j, t = h.n + 1 + j := ⟨t - (h.n + 1), by omega⟩
          by_cases e1 : j = k
          · subst e1
            rw [upd_same, ownN_at hb]
            exact of_eq_true (objFz_r (of_eq_true puR_needs))
          · obtain ⟨i, hi⟩ := get_some (l := l) (k := j) (by omega)
            rw [upd_ne _ _ (by omega), upd_ne _ _ e0, ownN_at hi]
            exact of_eq_true (objFz_r (of_eq_true puR_needs))
    · have ek : k = l.length := by omega
      subst ek
      have hall : fillR ownI 3 (l.zipIdx (h.n + 1)) l.length = (l.zipIdx (h.n + 1)).map ownI := by
        have := fillR_all (f := ownI) (sz := 3) (l := l.zipIdx (h.n + 1))
        rwa [hzl] at this
      simp -dsimp only [go_sem, hlt]
      refine ⟨by show h.n ≤ h.n + 1 + l.length; omega, Nat.le_refl _, .so (by show h.n < h.n + 1 + l.length; omega), fun t h1 _ => ?_, fun t h1 h2 => ?_⟩
      · show upd (ownN _ h.o (h.n + 1) l) h.n _ t = h.o t
        rw [upd_ne _ _ (by omega), ownN_lo (by omega)]
      · have h1 : t < h.n + 1 + l.length := h1
        have h2 : h.n ≤ t := by
          rcases h2 with h2 | h2
          · cases h2
          · exact h2
        show ObjFz _ (h.n + 1 + l.length) (upd (ownN _ h.o (h.n + 1) l) h.n _ t) (upd (ownN _ h.o (h.n + 1) l) h.n _ t)
        by_cases e0 : t = h.n
        · subst e0
          rw [upd_same, upd_same, ← hall]
          exact objFz_fillO (by omega) (by omega)
        · rw [upd_ne _ _ e0, upd_ne _ _ e0]
          obtain ⟨j, rfl⟩ : ∃ j, t = h.n + 1 + j := ⟨t - (h.n + 1), by omega⟩
          obtain ⟨i, hi⟩ := get_some (l := l) (k := j) (by omega)
          rw [ownN_at hi]
          exact of_eq_true (objFz_r (of_eq_true puR_needs))
@[go_sem] theorem isCur_ownM {ty tn : Nat} {h : AH} {l : List Inst} {m : Nat} (hm : m = h.n) : isCur l.length ((ownM ty tn h l).o m) = true := by
  subst hm
  rw [ownM_at]; simp [isCur]
/-- the copy of a world: its slices are objects -/
theorem o_toWorld (w : Wld) (h : AH) (hc : w.cs.length ≤ 1048576) (hi : w.is.length ≤ 1048576) (hio : ∀ i ∈ w.is, i.Ok) :
    ∃ h', Isea.Good Tryz.prog 55 [.agg w.row] h [] (.agg (ownRow h.n w)) h' ∧ h'.n = h.n + 2 + w.is.length ∧ (∀ t, t < h.n → h'.o t = h.o t) ∧ OwnW 218 143 28 h' h.n w := by
  have hg := o_toClassS w.cs
  have hs := o_toInstanceS w.is
  let X : AH := ⟨h.n + 3, upd (upd (upd h.o h.n (.cells [.junk, .junk])) (h.n + 1) (.cells [.junk, .junk])) (h.n + 2) (.rows 218 2 (w.cs.map Cls.row))⟩
  have hfirst : Isea.Good Tryz.prog 55 [.agg w.row] h [] (.agg (ownRow (h.n + 2) w)) (ownM 143 28 X w.is) := by
    refine good [] [] Tryz.func55 rfl rfl Tryz.ntmps55 (by kernel_rfl) mixed (by kernel_rfl) ?_
    simp -dsimp only [go_sem, Wld.row]
    refine call_pure (hg _ hc) ?_
    simp -dsimp only [go_sem]
    refine call_pure (hs _ hi hio) ?_
    simp -dsimp only [go_sem]
    refine ⟨by show h.n ≤ h.n + 3 + 1 + w.is.length; omega, by show h.n + 3 + 1 + w.is.length ≤ h.n + 4 + w.is.length; omega, ?_, fun t h1 _ => ?_, fun t h1 h2 => ?_⟩
    · refine .agg rfl fun i x y g1 g2 => ?_
      rcases i with _ | _ | i
      · simp [ownRow] at g1 g2; subst g1; subst g2
        exact .so (by show h.n + 2 < h.n + 3 + 1 + w.is.length; omega)
      · simp [ownRow] at g1 g2; subst g1; subst g2
        exact .so (by show h.n + 3 < h.n + 3 + 1 + w.is.length; omega)
      · simp at g1
    · have h1 : t < h.n := h1
      rw [ownM_lo (by show t < h.n + 3; omega)]
      show upd (upd (upd h.o h.n _) (h.n + 1) _) (h.n + 2) _ t = _
      rw [upd_ne _ _ (by omega), upd_ne _ _ (by omega), upd_ne _ _ (by omega)]
    · have h1 : t < h.n + 3 + 1 + w.is.length := h1
      have h2 : h.n ≤ t := by
        rcases h2 with h2 | h2
        · cases h2
        · exact h2
      have hm : (ownM 143 28 X w.is).n = h.n + 3 + 1 + w.is.length := rfl
      by_cases e0 : t = h.n
      · subst e0
        rw [ownM_lo (by show h.n < h.n + 3; omega)]
        show ObjFz _ _ (upd _ h.n _ h.n) (upd (upd (upd h.o h.n _) (h.n + 1) _) (h.n + 2) _ h.n)
        rw [upd_same, upd_ne _ _ (by omega), upd_ne _ _ (by omega), upd_same]
        refine ⟨rfl, fun i x y g1 g2 => ?_⟩
        rcases i with _ | _ | i <;> simp at g2 <;> subst g2 <;> exact .junk _
      by_cases e1 : t = h.n + 1
      · subst e1
        rw [ownM_lo (by show h.n + 1 < h.n + 3; omega)]
        show ObjFz _ _ (upd (upd _ (h.n + 1) _) h.n _ (h.n + 1)) (upd (upd (upd h.o h.n _) (h.n + 1) _) (h.n + 2) _ (h.n + 1))
        rw [upd_ne _ _ e0, upd_same, upd_ne _ _ (by omega), upd_same]
        refine ⟨rfl, fun i x y g1 g2 => ?_⟩
        rcases i with _ | _ | i <;> simp at g2 <;> subst g2 <;> exact .junk _
      show ObjFz _ _ (upd (upd _ (h.n + 1) _) h.n _ t) _
      rw [upd_ne _ _ e0, upd_ne _ _ e1]
      by_cases e2 : t = h.n + 2
      · subst e2
        rw [ownM_lo (by show h.n + 2 < h.n + 3; omega), ownM_lo (by show h.n + 2 < h.n + 3; omega)]
        show ObjFz _ _ (upd (upd _ (h.n + 2) _) (h.n + 1) _ (h.n + 2)) (upd _ (h.n + 2) _ (h.n + 2))
        rw [upd_ne _ _ (by omega), upd_same, upd_same]
        exact of_eq_true (objFz_r (of_eq_true puR_clss))
      by_cases e3 : t = h.n + 3
      · subst e3
        have hz : ∀ rs, rs = (w.is.zipIdx (h.n + 3 + 1)).map ownI → ∀ (h' : AH), ObjFz h' (h.n + 3 + 1 + w.is.length) (.rows 143 3 rs) (.rows 143 3 rs) := fun rs e h' => by
          subst e
          have := objFz_fillO (h := h') (m := h.n + 3 + 1 + w.is.length) (e := 143) (b := h.n + 3 + 1) (k := w.is.length) (l := w.is) (Nat.le_refl _) (Nat.le_refl _)
          have hall : fillR ownI 3 (w.is.zipIdx (h.n + 3 + 1)) w.is.length = (w.is.zipIdx (h.n + 3 + 1)).map ownI := by
            have := fillR_all (f := ownI) (sz := 3) (l := w.is.zipIdx (h.n + 3 + 1))
            rwa [List.length_zipIdx] at this
          rwa [hall] at this
        have hq : ∀ (H : AH), H.n = h.n + 3 → (ownM 143 28 H w.is).o (h.n + 3) = .rows 143 3 ((w.is.zipIdx (h.n + 3 + 1)).map ownI) := fun H e => by
          rw [← e]; exact ownM_at
        rw [hq X rfl, hq _ rfl]
        exact hz _ rfl _
      · obtain ⟨j, rfl⟩ : ∃ j, t = h.n + 3 + 1 + j := ⟨t - (h.n + 3 + 1), by omega⟩
        obtain ⟨i, hji⟩ := get_some (l := w.is) (k := j) (by omega)
        have hz : ∀ (H : AH), H.n = h.n + 3 → (ownM 143 28 H w.is).o (h.n + 3 + 1 + j) = .rows 28 2 (i.ns.map Need.row) := fun H e => by
          rw [← e]; exact ownM_hi hji
        rw [hz X rfl, hz _ rfl]
        exact of_eq_true (objFz_r (of_eq_true puR_needs))
  refine ⟨ownM 143 28 (h.push (.rows 218 2 (w.cs.map Cls.row))) w.is, ?_, by show h.n + 1 + 1 + w.is.length = _; omega, fun t ht => ?_, ?_⟩
  · refine hfirst.shift 2 (by show h.n + 1 + 1 + w.is.length + 2 = h.n + 3 + 1 + w.is.length; omega) (by show h.n ≤ h.n + 1 + 1 + w.is.length; omega) (fun t ht => ?_) (fun t h1 h2 => ?_) ?_
    · rw [ownM_lo (by show t < h.n + 1; omega)]
      exact upd_ne _ _ (by omega)
    · have h2 : t < h.n + 1 + 1 + w.is.length := h2
      by_cases e0 : t = h.n
      · subst e0
        rw [ownM_lo (by show h.n + 2 < h.n + 3; omega), ownM_lo (by show h.n < h.n + 1; omega)]
        show RenO True _ _ (upd _ (h.n + 2) _ (h.n + 2)) (upd _ h.n _ h.n)
        rw [upd_same, upd_same]
        exact RenO.of_rows (of_eq_true puR_clss)
      by_cases e1 : t = h.n + 1
      · subst e1
        show RenO True _ _ ((ownM 143 28 X w.is).o X.n) ((ownM 143 28 (h.push (.rows 218 2 (w.cs.map Cls.row))) w.is).o (h.push (.rows 218 2 (w.cs.map Cls.row))).n)
        rw [ownM_at, ownM_at]
        have hx : X.n = h.n + 3 := rfl
        have hy : (h.push (.rows 218 2 (w.cs.map Cls.row))).n = h.n + 1 := rfl
        rw [hx, hy]
        refine ⟨rfl, rfl, by simp, fun i r r' g1 g2 => ?_, fun i j r r' x y g1 g2 g3 g4 => ?_⟩
        · rw [List.getElem?_map] at g1 g2
          cases a1 : (w.is.zipIdx (h.n + 3 + 1))[i]? with
          | none => rw [a1] at g1; cases g1
          | some p =>
            cases a2 : (w.is.zipIdx (h.n + 1 + 1))[i]? with
            | none => rw [a2] at g2; cases g2
            | some q => rw [a1] at g1; rw [a2] at g2; cases g1; cases g2; rfl
        · rw [List.getElem?_map] at g1 g2
          cases a1 : (w.is.zipIdx (h.n + 3 + 1))[i]? with
          | none => rw [a1] at g1; cases g1
          | some p =>
            cases a2 : (w.is.zipIdx (h.n + 1 + 1))[i]? with
            | none => rw [a2] at g2; cases g2
            | some q =>
              obtain ⟨p1, p2⟩ := ownI_lt a1
              obtain ⟨q1, q2⟩ := ownI_lt a2
              have hpq : p.1 = q.1 := by rw [p2] at q2; exact Option.some.inj q2
              have hil := (List.getElem?_eq_some_iff.1 p2).1
              rw [a1] at g1; rw [a2] at g2; cases g1; cases g2
              rcases j with _ | _ | _ | j
              · simp [ownI] at g3 g4; subst g3; subst g4; rw [hpq]; exact .v _
              · simp [ownI] at g3 g4; subst g3; subst g4; rw [hpq]; exact .v _
              · simp [ownI] at g3 g4; subst g3; subst g4
                rw [hpq]
                refine Ren.so' (by show q.2 < h.n + 1 + 1 + w.is.length; omega) ?_
                rw [dn_hi (by omega)]; omega
              · simp [ownI] at g3
      · obtain ⟨j, rfl⟩ : ∃ j, t = h.n + 1 + 1 + j := ⟨t - (h.n + 1 + 1), by omega⟩
        obtain ⟨i, hji⟩ := get_some (l := w.is) (k := j) (by omega)
        have e1 : (ownM 143 28 X w.is).o (h.n + 1 + 1 + j + 2) = .rows 28 2 (i.ns.map Need.row) := by
          have : h.n + 1 + 1 + j + 2 = X.n + 1 + j := by show _ = h.n + 3 + 1 + j; omega
          rw [this]; exact ownM_hi hji
        have e2 : (ownM 143 28 (h.push (.rows 218 2 (w.cs.map Cls.row))) w.is).o (h.n + 1 + 1 + j) = .rows 28 2 (i.ns.map Need.row) := ownM_hi hji
        rw [e1, e2]
        exact RenO.of_rows (of_eq_true puR_needs)
    · refine .agg rfl fun i x y g1 g2 => ?_
      rcases i with _ | _ | i
      · simp [ownRow] at g1 g2; subst g1; subst g2
        exact Ren.so' (by show h.n < h.n + 1 + 1 + w.is.length; omega) (dn_hi (Nat.le_refl _))
      · simp [ownRow] at g1 g2; subst g1; subst g2
        refine Ren.so' (by show h.n + 1 < h.n + 1 + 1 + w.is.length; omega) ?_
        rw [dn_hi (by omega)]
      · simp [ownRow] at g1
  · rw [ownM_lo (by show t < h.n + 1; omega)]
    exact upd_ne _ _ (by omega)
  · refine ⟨?_, ownM_at, fun j i hj => ?_, by show h.n + 2 + w.is.length ≤ h.n + 1 + 1 + w.is.length; omega⟩
    · rw [ownM_lo (by show h.n < h.n + 1; omega)]
      exact upd_same _ _ _
    · exact ownM_hi hj
end Go.Proofs.YtiphcdmjlkngfaaGreatDoor

namespace Go.Isea
open Go
def decTo (k : Nat) (out : L8) : L8 := if h : k = 0 then out else decTo (k / 10) (UInt8.ofNat (48 + k % 10) :: out)
termination_by k
decreasing_by exact Nat.div_lt_self (Nat.pos_of_ne_zero h) (by decide)
theorem decTo_zero (out : L8) : decTo 0 out = out := by unfold decTo; simp
theorem decTo_pos {k : Nat} (h : ¬ k = 0) (out : L8) : decTo k out = decTo (k / 10) (UInt8.ofNat (48 + k % 10) :: out) := by
  rw [decTo]; simp [h]
/-- the mark of a number -/
def markT (k : Nat) : L8 := if k = 0 then [109, 48] else 109 :: decTo k []
/-- rows of which the first ones are laid, by their numbers -/
def mixR (f : Nat → List AV) (rs : List (List AV)) (i : Nat) : List (List AV) := (List.range i).map f ++ rs.drop i
theorem mixR_zero (f : Nat → List AV) (rs : List (List AV)) : mixR f rs 0 = rs := by simp [mixR]
theorem mixR_len {f : Nat → List AV} {rs : List (List AV)} {i : Nat} (h : i ≤ rs.length) : (mixR f rs i).length = rs.length := by
  unfold mixR; rw [List.length_append, List.length_map, List.length_range, List.length_drop]; omega
theorem mixR_get {f : Nat → List AV} {rs : List (List AV)} {i : Nat} : (mixR f rs i)[i]? = rs[i]? := by
  unfold mixR
  rw [List.getElem?_append_right (by simp)]
  simp
theorem mixR_set {f : Nat → List AV} {rs : List (List AV)} {i : Nat} (h : i < rs.length) : (mixR f rs i).set i (f i) = mixR f rs (i + 1) := by
  unfold mixR
  have e1 : ((List.range i).map f).length = i := by simp
  rw [List.set_append_right _ _ (by omega), e1, Nat.sub_self, List.range_succ, List.map_append, List.drop_eq_getElem_cons h, List.set_cons_zero]
  simp
theorem mixR_all {f : Nat → List AV} {rs : List (List AV)} : mixR f rs rs.length = (List.range rs.length).map f := by simp [mixR]
theorem mixR_row {f : Nat → List AV} {rs : List (List AV)} {i sz : Nat} (hf : ∀ j, (f j).length = sz) (hr : ∀ r ∈ rs, r.length = sz) : ∀ r ∈ mixR f rs i, r.length = sz := by
  intro r h
  unfold mixR at h
  rcases List.mem_append.1 h with h | h
  · obtain ⟨j, _, rfl⟩ := List.mem_map.1 h; exact hf j
  · exact hr r (List.mem_of_mem_drop h)
theorem mixR_pu {f : Nat → List AV} {rs : List (List AV)} {i : Nat} (hf : ∀ j, PuL (f j)) (hr : PuR rs) : PuR (mixR f rs i) := by
  intro n r h x hx
  unfold mixR at h
  rcases List.mem_append.1 h with h | h
  · obtain ⟨j, _, rfl⟩ := List.mem_map.1 h; exact hf j n x hx
  · exact hr n r (List.mem_of_mem_drop h) x hx
def mk2 (k j : Nat) : List AV := [str (markT (k + 2 * j)), str (markT (k + 2 * j + 1))]
def mk1 (k j : Nat) : List AV := [str (markT (k + j))]
def mkI (k j : Nat) : List AV := [.v (.int .i64 ((k + j : Nat) : Int))]
def mkG (k j : Nat) : List AV := [.v (.int .i64 ((k + 2 * j : Nat) : Int)), str (markT (k + 2 * j + 1))]
theorem mk2_pu (k j : Nat) : PuL (mk2 k j) := by simp -dsimp only [mk2, go_sem]
theorem mkI_pu (k j : Nat) : PuL (mkI k j) := by simp -dsimp only [mkI, go_sem]
end Go.Isea

namespace Go.Isea
open Go
def VR (rs : List (List AV)) : Prop := ∀ r ∈ rs, ∀ x ∈ r, ∃ v, x = .v v
theorem VR.map {α : Type} {f : α → List AV} {l : List α} (hf : ∀ a, ∀ x ∈ f a, ∃ v, x = AV.v v) : VR (l.map f) := by
  intro r hr
  obtain ⟨a, _, rfl⟩ := List.mem_map.1 hr
  exact hf a
theorem renO_vr {fr : Prop} {g : Nat → Nat} {D : Nat → Prop} {e sz : Nat} {rs : List (List AV)} (h : VR rs) : RenO fr g D (.rows e sz rs) (.rows e sz rs) := by
  refine ⟨rfl, rfl, rfl, fun i r r' h1 h2 => by rw [h1] at h2; cases h2; rfl, fun i j r r' x y h1 h2 h3 h4 => ?_⟩
  rw [h1] at h2; cases h2
  rw [h3] at h4; cases h4
  obtain ⟨v, rfl⟩ := h r (List.mem_of_getElem? h1) x (List.mem_of_getElem? h3)
  exact .v v
section
variable {P : Program} {k : FuncId} {args args' : List AV} {h : AH} {e sz n : Nat} {rs : List (List AV)}
/-- a result that is a new slice -/
theorem Good.liftSo (hg : ∀ o, Isea.Good P k args' ⟨0, o⟩ [] (.so 0 n n) (AH.push ⟨0, o⟩ (.rows e sz rs))) (hf : FzL h 0 args args') (hv : VR rs) : Isea.Good P k args h [] (.so h.n n n) (h.push (.rows e sz rs)) := by
  refine (hg h.o).lift hf (fun t => t - h.n) (Nat.le_succ _) (fun t h1 h2 => ?_) (fun s t h1 h2 h3 h4 h5 => ?_) (fun t ht => upd_ne _ _ (by omega)) (fun t h1 h2 => ?_) ?_
  · have h2 : t < h.n + 1 := h2
    show t - h.n < 0 + 1
    omega
  · have h5 : s - h.n = t - h.n := h5
    omega
  · have h2 : t < h.n + 1 := h2
    have : t = h.n := by omega
    subst this
    show RenO _ _ _ (upd h.o 0 (.rows e sz rs) (h.n - h.n)) (upd h.o h.n (.rows e sz rs) h.n)
    rw [Nat.sub_self, upd_same, upd_same]
    exact renO_vr hv
  · have := Ren.so (fr := False) (g := fun t => t - h.n) (D := fun s => h.n ≤ s ∧ s < (h.push (.rows e sz rs)).n) (n := n) (len := n) (t := h.n) ⟨Nat.le_refl _, Nat.lt_succ_self _⟩
    simpa using this
/-- a new slice and a value -/
theorem Good.liftSo2 {v : Value} (hg : ∀ o, Isea.Good P k args' ⟨0, o⟩ [] (.tup [.so 0 n n, .v v]) (AH.push ⟨0, o⟩ (.rows e sz rs))) (hf : FzL h 0 args args') (hv : VR rs) : Isea.Good P k args h [] (.tup [.so h.n n n, .v v]) (h.push (.rows e sz rs)) := by
  refine (hg h.o).lift hf (fun t => t - h.n) (Nat.le_succ _) (fun t h1 h2 => ?_) (fun s t h1 h2 h3 h4 h5 => ?_) (fun t ht => upd_ne _ _ (by omega)) (fun t h1 h2 => ?_) ?_
  · have h2 : t < h.n + 1 := h2
    show t - h.n < 0 + 1
    omega
  · have h5 : s - h.n = t - h.n := h5
    omega
  · have h2 : t < h.n + 1 := h2
    have : t = h.n := by omega
    subst this
    show RenO _ _ _ (upd h.o 0 (.rows e sz rs) (h.n - h.n)) (upd h.o h.n (.rows e sz rs) h.n)
    rw [Nat.sub_self, upd_same, upd_same]
    exact renO_vr hv
  · have := Ren.so (fr := False) (g := fun t => t - h.n) (D := fun s => h.n ≤ s ∧ s < (h.push (.rows e sz rs)).n) (n := n) (len := n) (t := h.n) ⟨Nat.le_refl _, Nat.lt_succ_self _⟩
    refine .tup rfl fun i x y h1 h2 => ?_
    rcases i with _ | _ | i
    · simp at h1 h2; subst h1; subst h2; simpa using this
    · simp at h1 h2; subst h1; subst h2; exact .v v
    · simp at h1
end
end Go.Isea

namespace Go.Isea
open Go
@[go_sem] theorem good_strs {h : AH} {l : List L8} : goodRows h 1 (l.map sRow) = True := good_map fun _ => ⟨rfl, rfl⟩
/-- the types with one part -/
def wrapW (T : List L8) (k : Nat) : List L8 := (headsL.take k).flatMap fun h => T.map (wrapT h)
/-- the types of two parts whose first one is at most of a size -/
def pairW (f n m : Nat) : List L8 := (List.range m).flatMap fun k => (szF f (k + 1)).flatMap fun a => (szF f (n - 2 - k)).map (pairT a)
end Go.Isea
namespace Go.Proofs.YtiphcdmjlkngfaaGreatDoor
open Go Go.Isea
set_option maxRecDepth 100000
set_option maxHeartbeats 8000000
end Go.Proofs.YtiphcdmjlkngfaaGreatDoor

namespace Go.Isea
open Go
/-- the small types that have a class -/
def tyH (w : Wld) (c : L8) (n : Int) : List L8 := if (hasClass w c && smallOk n) = true then havL w c (smallT n.toNat) else []
def withinB (w : Wld) (c o : L8) (n : Int) : Bool := (hasClass w c && smallOk n) && (hasClass w o && (havL w c (smallT n.toNat)).all fun t => hasI w ⟨o, t⟩)
end Go.Isea
namespace Go.Proofs.YtiphcdmjlkngfaaGreatDoor
open Go Go.Isea
set_option maxRecDepth 100000
set_option maxHeartbeats 8000000
end Go.Proofs.YtiphcdmjlkngfaaGreatDoor
