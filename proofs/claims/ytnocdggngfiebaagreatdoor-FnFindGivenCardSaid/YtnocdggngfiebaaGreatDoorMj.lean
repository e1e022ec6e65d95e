/- Contracts of functions of this program, for all arguments that satisfy what each lemma asks for. -/
import Derived.Test.YtnocdggngfiebaaGreatDoorMi
import Derived.Test.YtnocdggngfiebaaGreatDoorMg
set_option linter.all false
namespace Go.Isea
open Go
end Go.Isea
namespace Go.Proofs.YtnocdggngfiebaaGreatDoor
open Go Go.Isea
set_option maxRecDepth 100000
set_option maxHeartbeats 8000000
theorem i_Follows (w : Wld) (gs : List Need) (n : Need) (h : AH) (hw : w.Sm) (hgl : gs.length ≤ 4611686018427387904) (hgs : ∀ g ∈ gs, g.Sm) (hn : n.Sm) :
    Isea.Good Tryz.prog 20 [.agg w.row, .sl (gs.map Need.row), .agg n.row] h [] (.v (.bool (decide ((findGiven w gs n).2 = [])))) h := by
  have hF := fun H => i_FindGiven w gs n H hw hgl hgs hn
  refine good [] [] Tryz.func20 rfl rfl Tryz.ntmps20 (by kernel_rfl) mixed (by kernel_rfl) ?_
  simp -dsimp only [go_sem, Wld.row, Need.row] at hF ⊢
  refine call_pure (hF _) ?_
  simp -dsimp only [go_sem]
  exact fin_bool (by simp -dsimp only [go_sem]) rfl
end Go.Proofs.YtnocdggngfiebaaGreatDoor

namespace Go.Isea
open Go
theorem gap_pu (p : Nat × UInt8) : PuL (gapRow p) := by simp -dsimp only [gapRow, go_sem]
@[go_sem] theorem puR_gaps {l : List (Nat × UInt8)} : PuR (l.map gapRow) = True := puR_map gap_pu
@[go_sem] theorem al_gaps {l : List (Nat × UInt8)} : AllLen 2 (l.map gapRow) = True := allLen_map fun _ => rfl
def gapP (w : Wld) (x : Inst) (d : UInt8) : Bool := decide ((evIn w x [d]).2 ≠ [])
/-- gaps of the first instances, and the first ones of the next -/
def gapsIn (w : Wld) (k : Nat) (l : L8) : List (Nat × UInt8) := gapsTo w k ++ l.map fun d => (k, d)
@[go_sem] theorem gapsIn_nil {w : Wld} {k : Nat} : gapsIn w k [] = gapsTo w k := by simp [gapsIn]
attribute [go_sem] List.filter_nil List.take_zero
end Go.Isea
namespace Go.Proofs.YtnocdggngfiebaaGreatDoor
open Go Go.Isea
set_option maxRecDepth 100000
set_option maxHeartbeats 8000000
end Go.Proofs.YtnocdggngfiebaaGreatDoor

namespace Go.Proofs.YtnocdggngfiebaaGreatDoor
open Go Go.Isea
set_option maxRecDepth 100000
set_option maxHeartbeats 8000000
end Go.Proofs.YtnocdggngfiebaaGreatDoor

namespace Go.Isea
open Go
def mostOf (w : Wld) (l : List Nat) : AV := mostV (mostSp w l)
/-- the search's cells in the specification -/
def fCV (w : Wld) (sp : Bool) (ta : Nat) (a : List Need) (sv : AV) (why : L8) : List AV := [.sl (w.cs.map Cls.row), .sl (w.is.map Inst.row), .v (.bool sp), .so ta a.length a.length, sv, str why]
abbrev fCells (w : Wld) (sp : Bool) (ta : Nat) (a st : List Need) (why : L8) : List AV := fCV w sp ta a (.sl (st.map Need.row)) why
def whyP (w : Wld) (sp : Bool) (n : Need) : L8 := match pickG w sp (candIx w n) with
  | none => whyG (candIx w n)
  | some _ => []
end Go.Isea
namespace Go.Proofs.YtnocdggngfiebaaGreatDoor
open Go Go.Isea
set_option maxRecDepth 100000
set_option maxHeartbeats 8000000
end Go.Proofs.YtnocdggngfiebaaGreatDoor

namespace Go.Isea
open Go
@[go_sem] theorem good_needs {h : AH} {l : List Need} : goodRows h 2 (l.map Need.row) = True := good_map fun _ => ⟨rfl, rfl⟩
/-- the stack behind a search -/
def stkS (st : List Need) (n : Need) (r : AskR) : List Need := if r.2.2 = [] then st ++ [n] else r.2.1.st ++ [r.2.1.f]
def noG : Need → L8 := fun _ => []
end Go.Isea
namespace Go.Proofs.YtnocdggngfiebaaGreatDoor
open Go Go.Isea
set_option maxRecDepth 100000
set_option maxHeartbeats 16000000
def FindOkG (w : Wld) (sp : Bool) (f : Nat) : Prop := ∀ (l ta : Nat) (n : Need) (st S : List Need) (s : SS) (h : AH), l < h.n → ta < h.n → ¬ l = ta → h.o l = .cells (fCells w sp ta s.a S []) → h.o ta = .rows 28 2 (s.a.map Need.row) →
    st.length ≤ S.length → S.take st.length = st → NOk w n → s.a.length ≤ 300 → f ≤ 31 → st.length = 31 - f →
    Isea.Good Tryz.prog 209 [.ptr l 0, .agg n.row, .v (.int .i64 (st.length : Nat))] h [l, ta] (str (askG w sp noG f st n s).1)
      ⟨h.n, upd (upd h.o l (.cells (fCells w sp ta (askG w sp noG f st n s).2.1.a (stkS st n (askG w sp noG f st n s)) (askG w sp noG f st n s).2.2))) ta (.rows 28 2 ((askG w sp noG f st n s).2.1.a.map Need.row))⟩
end Go.Proofs.YtnocdggngfiebaaGreatDoor

namespace Go.Isea
open Go
theorem noG_len : ∀ (w : Wld) n, NOk w n → (noG n).length ≤ 2 := fun _ _ _ => Nat.zero_le _
theorem ask0_eq {w : Wld} {sp : Bool} {n : Need} (hok : worldOk w = true) (hno : needOk w n = true) : ask0 w sp n = askG w sp noG 31 [] n s0 := by
  unfold ask0
  rw [hok, hno]; rfl
theorem ask0_bad {w : Wld} {sp : Bool} {n : Need} (h : (worldOk w && needOk w n) = false) : ask0 w sp n = ([], s0, wrongL) := by
  unfold ask0
  rw [h]; rfl
theorem nok_of {w : Wld} {n : Need} (hno : needOk w n = true) (hn : n.Sm) : NOk w n := by
  simp only [needOk, Bool.and_eq_true] at hno
  exact ⟨by simpa using hno.1, hn⟩
end Go.Isea
namespace Go.Proofs.YtnocdggngfiebaaGreatDoor
open Go Go.Isea
set_option maxRecDepth 100000
set_option maxHeartbeats 8000000
theorem i_NeedValid (w : Wld) (n : Need) (h : AH) (hw : w.Sm) (hn : n.Sm) : Isea.Good Tryz.prog 19 [.agg w.row, .agg n.row] h [] (.v (.bool (worldOk w && needOk w n))) h := by
  have hv := fun H => i_WorldValid w H hw
  have hno := fun H => i_needOk w n H hw hn
  refine good [] [] Tryz.func19 rfl rfl Tryz.ntmps19 (by kernel_rfl) mixed (by kernel_rfl) ?_
  simp -dsimp only [go_sem, Wld.row, Need.row] at hv hno ⊢
  refine call_pure (hv _) ?_
  cases worldOk w with
  | false =>
    simp -dsimp only [go_sem]
    exact fin_bool (by simp -dsimp only [go_sem]) rfl
  | true =>
    simp -dsimp only [go_sem]
    refine call_pure (hno _) ?_
    simp -dsimp only [go_sem]
    exact fin_bool (by simp -dsimp only [go_sem]) rfl
theorem i_searched1 (n : Need) (h : AH) : Isea.Good Tryz.prog 206 [.agg n.row] h [] (.tup [str (noG n), .v (.bool (gotB (noG n)))]) h := by
  refine good [] [] Tryz.func206 rfl rfl Tryz.ntmps206 (by kernel_rfl) mixed (by kernel_rfl) ?_
  simp -dsimp only [go_sem, Need.row]
  exact fin_pure (by simp -dsimp only [go_sem]) (by simp -dsimp only [go_sem, noG, gotB, List.isEmpty_nil, Bool.not_true])
/-- where the search stands in memory: its record, what was asked, who asked for what failed -/
theorem i_searched_bad (w : Wld) (n : Need) (sp : Bool) (h : AH) (hw : w.Sm) (hn : n.Sm) (hb : (worldOk w && needOk w n) = false) :
    Isea.Good Tryz.prog 119 [.agg w.row, .agg n.row, .v (.bool sp)] h [] (.tup [.ptr h.n 0, str [], str wrongL]) (h.push (.cells (zCells w sp 206 []))) := by
  have hv := fun H => i_NeedValid w n H hw hn
  refine good [15] [] Tryz.func119 rfl rfl Tryz.ntmps119 (by kernel_rfl) mixed (by kernel_rfl) ?_
  simp -dsimp only [go_sem, Wld.row, Need.row] at hv ⊢
  refine call_pure (hv _) ?_
  rw [hb]
  simp -dsimp only [go_sem]
  refine fin_push (by simp -dsimp only [go_sem]) ?_ ?_
  · simp -dsimp only [go_sem, wrongL]
  · simp -dsimp only [go_sem, zCells]
theorem i_searched_ok (w : Wld) (n : Need) (sp : Bool) (h : AH) (hw : w.Sm) (hn : n.Sm) (hok : worldOk w = true) (hno : needOk w n = true) :
    ∃ h', Isea.Good Tryz.prog 119 [.agg w.row, .agg n.row, .v (.bool sp)] h [] (.tup [.ptr h.n 0, str (ask0 w sp n).1, str (ask0 w sp n).2.2]) h' ∧ h'.n = h.n + 3 ∧
      h'.o h.n = .cells (gCells w sp 206 [] (h.n + 1) (h.n + 2) (ask0 w sp n).2.1) ∧ h'.o (h.n + 1) = .rows 28 2 ((ask0 w sp n).2.1.a.map Need.row) ∧ h'.o (h.n + 2) = .rows 28 2 ((ask0 w sp n).2.1.st.map Need.row) ∧
      ∀ t, t < h.n → h'.o t = h.o t := by
  have hv := fun H => i_NeedValid w n H hw hn
  rw [ask0_eq hok hno]
  obtain ⟨o', hg, p1, p2, p3, p4⟩ := i_askG_first (w := w) (sp := sp) (fk := 206) (cap := []) (g := noG) (of_eq_true puL_n) hok hw (noG_len w) (fun n H _ => i_searched1 n H) h.n n ⟨h.n + 1, upd h.o h.n (.cells (zCells w sp 206 []))⟩ (Nat.lt_succ_self _) (upd_same _ _ _) (nok_of hno hn)
  refine ⟨⟨h.n + 3, o'⟩, ?_, rfl, p1, p2, p3, fun t ht => (p4 t (by show t < h.n + 1; omega) (by omega)).trans (upd_ne _ _ (by omega))⟩
  refine good [15] [] Tryz.func119 rfl rfl Tryz.ntmps119 (by kernel_rfl) mixed (by kernel_rfl) ?_
  simp -dsimp only [go_sem, Wld.row, Need.row, zCells] at hv hg ⊢
  refine call_pure (hv _) ?_
  rw [hok, hno]
  simp -dsimp only [go_sem]
  refine call_one hg (by simp -dsimp only [go_sem]) (by simp -dsimp only [go_sem]) ?_
  simp -dsimp only [go_sem]
  refine ⟨by show h.n ≤ h.n + 3; omega, Nat.le_refl _, ?_, fun t ht _ => (p4 t (by show t < h.n + 1; omega) (by omega)).trans (upd_ne _ _ (by omega)), fun t ht hc => ?_⟩
  · simp -dsimp only [go_sem]
  · have ht : t < h.n + 3 := ht
    have hge : h.n ≤ t := by
      rcases hc with hc | hc
      · cases hc
      · exact hc
    have hz : ∀ (H : AH) (m : Nat), FzL H m [] [] := fun H m => of_eq_true (by simp -dsimp only [go_sem])
    have h3 : t = h.n ∨ t = h.n + 1 ∨ t = h.n + 2 := by omega
    rcases h3 with rfl | rfl | rfl
    · show ObjFz _ _ (o' h.n) (o' h.n)
      rw [p1]
      simp -dsimp only [go_sem, gCells, stC_fz]
    · show ObjFz _ _ (o' (h.n + 1)) (o' (h.n + 1))
      have p2 : o' (h.n + 1) = .rows 28 2 ((askG w sp noG 31 [] n s0).2.1.a.map Need.row) := p2
      rw [p2]
      exact of_eq_true (objFz_r (of_eq_true puR_needs))
    · show ObjFz _ _ (o' (h.n + 2)) (o' (h.n + 2))
      have p3 : o' (h.n + 2) = .rows 28 2 ((askG w sp noG 31 [] n s0).2.1.st.map Need.row) := p3
      rw [p3]
      exact of_eq_true (objFz_r (of_eq_true puR_needs))
theorem i_FindDict (w : Wld) (n : Need) (h : AH) (hw : w.Sm) (hn : n.Sm) : Isea.Good Tryz.prog 42 [.agg w.row, .agg n.row] h [] (.tup [str (findD w false n).1, str (findD w false n).2]) h := by
  cases hv : (worldOk w && needOk w n) with
  | false =>
    have hb := fun H => i_searched_bad w n false H hw hn hv
    have e : findD w false n = ([], wrongL) := by unfold findD; rw [ask0_bad hv]
    rw [e]
    refine good [] [] Tryz.func42 rfl rfl Tryz.ntmps42 (by kernel_rfl) mixed (by kernel_rfl) ?_
    simp -dsimp only [go_sem, Wld.row, Need.row] at hb ⊢
    refine call_pure (hb _) ?_
    simp -dsimp only [go_sem]
    exact fin_pure (by simp -dsimp only [go_sem]) (by simp -dsimp only [go_sem])
  | true =>
    simp only [Bool.and_eq_true] at hv
    have hb := fun H => i_searched_ok w n false H hw hn hv.1 hv.2
    unfold findD
    generalize ask0 w false n = R at hb
    refine good [] [] Tryz.func42 rfl rfl Tryz.ntmps42 (by kernel_rfl) mixed (by kernel_rfl) ?_
    simp -dsimp only [go_sem, Wld.row, Need.row] at hb ⊢
    obtain ⟨H1, hg, hn1, _⟩ := hb h
    refine call_pure hg ?_
    simp -dsimp only [go_sem]
    exact fin_pure (by simp -dsimp only [go_sem, hn1]) (by simp -dsimp only [go_sem])
theorem i_HasInstance (w : Wld) (n : Need) (h : AH) (hw : w.Sm) (hn : n.Sm) : Isea.Good Tryz.prog 21 [.agg w.row, .agg n.row] h [] (.v (.bool (hasI w n))) h := by
  have hF := fun H => i_FindDict w n H hw hn
  refine good [] [] Tryz.func21 rfl rfl Tryz.ntmps21 (by kernel_rfl) mixed (by kernel_rfl) ?_
  simp -dsimp only [go_sem, Wld.row, Need.row] at hF ⊢
  refine call_pure (hF _) ?_
  simp -dsimp only [go_sem]
  exact fin_bool (by simp -dsimp only [go_sem]) rfl
end Go.Proofs.YtnocdggngfiebaaGreatDoor

namespace Go.Isea
open Go
/-- less told of a record's cells -/
theorem Good.tell {P : Program} {h h' : AH} {k : FuncId} {args : List AV} {T : List Nat} {l : Nat} {cs cs' : List AV} {r : AV} (hlT : l ∈ T) (hl : l < h.n) (ho : h.o l = .cells cs) (hc : cs'.length = cs.length)
    (hcs : ∀ (i : Nat) (x y : AV), cs[i]? = some x → cs'[i]? = some y → ∀ (K : KM) (w : World) (v : Value), RH K h w → Rep K h w x v → Rep K h w y v)
    (hg : Isea.Good P k args ⟨h.n, upd h.o l (.cells cs')⟩ T r h') : Isea.Good P k args h T r h' := by
  refine ⟨hg.1, fun K w vs hK hvs => ?_⟩
  let h1 : AH := ⟨h.n, upd h.o l (.cells cs')⟩
  have hol : h1.o l = .cells cs' := upd_same _ _ _
  have hot : ∀ t, t ≠ l → h1.o t = h.o t := fun t ht => upd_ne _ _ ht
  have E : Ext T K h w K h1 w := ⟨rfl, rfl, rfl, Nat.le_refl _, Nat.le_refl _, fun _ _ _ => rfl, fun t ht htl => ⟨rfl, hot t fun e => htl (e ▸ hlT)⟩, fun t ht htl => by
      by_cases e : t = l
      · subst e
        rw [ho, hol]; rfl
      · rw [hot t e]; exact Grew.refl _ _, fun t b ht hb => .inr ⟨ht, hb⟩⟩
  have R1 : RH K h1 w := by
    refine ⟨hK.lt, hK.inj, fun t ht => ?_, hK.pin.ext E⟩
    by_cases e : t = l
    · subst e
      rw [hol]
      have := hK.obj t hl
      rw [ho] at this
      obtain ⟨b, vs', ty, e1, e2, e3⟩ := this
      refine ⟨b, vs', ty, e1, e2, e3.1.trans hc.symm, fun i y v g1 g2 => ?_⟩
      have hi : i < cs.length := by
        have := (List.getElem?_eq_some_iff.1 g1).1
        omega
      exact (hcs i _ y (List.getElem?_eq_getElem hi) g1 K w v hK (e3.2 i _ v (List.getElem?_eq_getElem hi) g2)).ext E
    · rw [hot t e]
      exact (hK.obj t ht).ext E fun b hb => rfl
  refine (hg.2 K w vs R1 (hvs.ext E)).mono ?_
  rintro ee w' ⟨K', v, h1', h2', h3', h4'⟩
  exact ⟨K', v, h1', h2', E.trans h3' (fun t ht _ => ht) (fun t ht _ => ht), h4'⟩
end Go.Isea
namespace Go.Proofs.YtnocdggngfiebaaGreatDoor
open Go Go.Isea
set_option maxRecDepth 100000
set_option maxHeartbeats 8000000
/-- what the search's record reads as behind the search -/
def fRec (w : Wld) (sp : Bool) (n : Need) : List AV := [.sl (w.cs.map Cls.row), .sl (w.is.map Inst.row), .v (.bool sp), .sl ((ask0 w sp n).2.1.a.map Need.row), .sl ((if (worldOk w && needOk w n) = true then stkS [] n (ask0 w sp n) else []).map Need.row), str (ask0 w sp n).2.2]
end Go.Proofs.YtnocdggngfiebaaGreatDoor
