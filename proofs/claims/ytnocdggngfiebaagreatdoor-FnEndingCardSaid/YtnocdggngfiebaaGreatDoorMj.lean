/- Contracts of functions of this program, for all arguments that satisfy what each lemma asks for. -/
import Derived.Test.YtnocdggngfiebaaGreatDoorMi
import Derived.Test.YtnocdggngfiebaaGreatDoorMg
set_option linter.all false
namespace Go.Isea
open Go
end Go.Isea
namespace Go.Proofs.YtnocdggngfiebaaGreatDoor
open Go Go.Isea
set_option maxRecDepth 100000
set_option maxHeartbeats 8000000
end Go.Proofs.YtnocdggngfiebaaGreatDoor

namespace Go.Isea
open Go
theorem gap_pu (p : Nat × UInt8) : PuL (gapRow p) := by simp -dsimp only [gapRow, go_sem]
@[go_sem] theorem puR_gaps {l : List (Nat × UInt8)} : PuR (l.map gapRow) = True := puR_map gap_pu
@[go_sem] theorem al_gaps {l : List (Nat × UInt8)} : AllLen 2 (l.map gapRow) = True := allLen_map fun _ => rfl
def gapP (w : Wld) (x : Inst) (d : UInt8) : Bool := decide ((evIn w x [d]).2 ≠ [])
/-- gaps of the first instances, and the first ones of the next -/
def gapsIn (w : Wld) (k : Nat) (l : L8) : List (Nat × UInt8) := gapsTo w k ++ l.map fun d => (k, d)
@[go_sem] theorem gapsIn_nil {w : Wld} {k : Nat} : gapsIn w k [] = gapsTo w k := by simp [gapsIn]
attribute [go_sem] List.filter_nil List.take_zero
end Go.Isea
namespace Go.Proofs.YtnocdggngfiebaaGreatDoor
open Go Go.Isea
set_option maxRecDepth 100000
set_option maxHeartbeats 8000000
end Go.Proofs.YtnocdggngfiebaaGreatDoor

namespace Go.Proofs.YtnocdggngfiebaaGreatDoor
open Go Go.Isea
set_option maxRecDepth 100000
set_option maxHeartbeats 8000000
end Go.Proofs.YtnocdggngfiebaaGreatDoor

namespace Go.Isea
open Go
theorem cand_tv {w : Wld} {n : Need} {k : Nat} (h : k ∈ candIx w n) : tv n.t = true := by
  obtain ⟨i, _, _, hm⟩ := cand_mem h
  unfold matchS at hm
  unfold tv
  cases e : typeOf n.t with
  | none =>
    rw [e] at hm
    cases typeOf i.t <;> simp at hm
  | some t => rfl
theorem any_all (p : Nat → Bool) (l : List Nat) : (!l.any p) = l.all fun k => !p k := by
  induction l with
  | nil => rfl
  | cons a l ih => rw [List.any_cons, List.all_cons, ← ih, Bool.not_or]
def mostOf (w : Wld) (l : List Nat) : AV := mostV (mostSp w l)
/-- the search's cells in the specification -/
def fCV (w : Wld) (sp : Bool) (ta : Nat) (a : List Need) (sv : AV) (why : L8) : List AV := [.sl (w.cs.map Cls.row), .sl (w.is.map Inst.row), .v (.bool sp), .so ta a.length a.length, sv, str why]
abbrev fCells (w : Wld) (sp : Bool) (ta : Nat) (a st : List Need) (why : L8) : List AV := fCV w sp ta a (.sl (st.map Need.row)) why
def whyP (w : Wld) (sp : Bool) (n : Need) : L8 := match pickG w sp (candIx w n) with
  | none => whyG (candIx w n)
  | some _ => []
end Go.Isea
namespace Go.Proofs.YtnocdggngfiebaaGreatDoor
open Go Go.Isea
set_option maxRecDepth 100000
set_option maxHeartbeats 8000000
theorem s_CandidatesOf (w : Wld) (n : Need) (h : AH) (hw : w.Sm) (hn : n.Sm) (hok : worldOk w = true) (hno : needOk w n = true) : Isea.Good Tryz.prog 324 [.agg w.row, .agg n.row] h [] (.tup [.sl ((candIx w n).map iRow), .v (.bool true)]) h := by
  have hv := fun H => s_NeedValid w n H hw hn
  have hl := world_len hok
  have hc := fun H => s_l4Candidates w n H hw hn (by omega)
  refine good [] [] Tryz.func324 rfl rfl Tryz.ntmps324 (by kernel_rfl) mixed (by kernel_rfl) ?_
  simp -dsimp only [go_sem, Wld.row, Need.row] at hv hc ⊢
  refine call_pure (hv _) ?_
  rw [hok, hno]
  simp -dsimp only [go_sem]
  refine call_pure (hc _) ?_
  simp -dsimp only [go_sem]
  exact fin_pure (by simp -dsimp only [go_sem]) (by simp -dsimp only [go_sem])
theorem s_IsSpecial (w : Wld) (i k : Nat) (h : AH) (hw : w.Sm) (hok : worldOk w = true) (hi : i < w.is.length) (hk : k < w.is.length) : Isea.Good Tryz.prog 150 [.agg w.row, .v (.int .i64 (i : Nat)), .v (.int .i64 (k : Nat))] h [] (.v (.bool (!spAt w i k))) h := by
  obtain ⟨a, ha⟩ := get_some hi
  obtain ⟨b, hb⟩ := get_some hk
  have hl := world_len hok
  have hwr : IntKind.i64.wrap (((w.is.length : Nat) : Int) - 1) = ((w.is.length : Nat) : Int) - 1 := by rw [wrap_i64] <;> omega
  have h0i : (0 : Int) ≤ (i : Nat) := by omega
  have h0k : (0 : Int) ≤ (k : Nat) := by omega
  have h1i : ((i : Nat) : Int) ≤ ((w.is.length : Nat) : Int) - 1 := by omega
  have h1k : ((k : Nat) : Int) ≤ ((w.is.length : Nat) : Int) - 1 := by omega
  have hv := fun H => s_WorldValid w H hw
  have hII := fun H => s_IsInstance b.t a.t H (hw.i b (List.mem_of_getElem? hb)).2.1 (hw.i a (List.mem_of_getElem? ha)).2.1
  have e : (!spAt w i k) = (decide (a.c = b.c) && isInst b.t a.t) := by simp [spAt, ha, hb, spB]
  rw [e]
  refine good [] [] Tryz.func150 rfl rfl Tryz.ntmps150 (by kernel_rfl) mixed (by kernel_rfl) ?_
  simp -dsimp only [go_sem, Wld.row] at hv ⊢
  refine call_pure (hv _) ?_
  rw [hok]
  simp -dsimp only [go_sem, List.length_map, hwr]
  refine call_pure (s_l1In _ 0 _ _) ?_
  simp -dsimp only [go_sem, List.length_map, hwr, h0i, h1i]
  refine call_pure (s_l1In _ 0 _ _) ?_
  simp -dsimp only [go_sem, List.length_map, hwr, h0k, h1k, ha, hb, Inst.row]
  by_cases hc : a.c = b.c
  · simp -dsimp only [go_sem, ha, hb, Inst.row, hc]
    refine call_pure (hII _) ?_
    simp -dsimp only [go_sem]
    exact fin_bool (by simp -dsimp only [go_sem]) (by simp [hc])
  · simp -dsimp only [go_sem, ha, hb, Inst.row, hc]
    exact fin_bool (by simp -dsimp only [go_sem]) (by simp [hc])
theorem s_MostSpecial (w : Wld) (n : Need) (h : AH) (hw : w.Sm) (hn : n.Sm) (hok : worldOk w = true) (hno : needOk w n = true) : Isea.Good Tryz.prog 306 [.agg w.row, .agg n.row] h [] (mostOf w (candIx w n)) h := by
  have hc := fun H => s_CandidatesOf w n H hw hn hok hno
  have hwl := world_len hok
  have hml : (candIx w n).length ≤ 10 := Nat.le_trans (candTake_len w n w.is.length) hwl
  have hmi : ∀ i ∈ candIx w n, i < w.is.length := fun i hi => by
    obtain ⟨x, hx, _⟩ := cand_mem hi
    exact (List.getElem?_eq_some_iff.1 hx).1
  have hsp := fun i k H => s_IsSpecial w i k H hw hok
  unfold mostOf
  generalize candIx w n = l at hc hml hmi
  have hM : mostSp w l = l.find? fun i => !l.any (spAt w i) := rfl
  generalize mostSp w l = M at hM
  refine good [] [] Tryz.func306 rfl rfl Tryz.ntmps306 (by kernel_rfl) mixed (by kernel_rfl) ?_
  simp -dsimp only [go_sem, Wld.row, Need.row] at hc hsp ⊢
  refine call_pure (hc _) ?_
  simp -dsimp only [go_sem]
  refine loop_ruleH [2, 2, 12, 0] (fun (k : {k : Nat // k ≤ l.length ∧ M = (l.drop k).find? fun i => !l.any (spAt w i)}) H => ([(20, .v (.int .i64 (k.1 : Nat)))], H)) (fun k => l.length - k.1) ⟨0, Nat.zero_le _, hM⟩ ?_ ?_
  · exact weak_at rfl (by simp -dsimp only [go_sem]) (fun x hx => by simp -dsimp only [go_sem, hx]) (by simp -dsimp only [go_sem])
  · rintro ⟨k, hk, hf⟩
    have h1 : k + 1 ≤ 9223372036854775807 := by omega
    by_cases hlt : k < l.length
    · obtain ⟨c, hb⟩ := get_some hlt
      have hcl := hmi c (List.mem_of_getElem? hb)
      rw [drop_get hb, List.find?_cons] at hf
      simp -dsimp only [go_sem, hlt, hb, iRow]
      refine loop_ruleH [2, 2, 2, 9, 0, 0, 3, 0] (fun (m : {m : Nat // m ≤ l.length}) H => ([(9, .v (.bool ((l.take m.1).all fun x => !spAt w c x))), (26, .v (.int .i64 (m.1 : Nat)))], H)) (fun m => l.length - m.1) ⟨0, Nat.zero_le _⟩ ?_ ?_
      · exact weak_at rfl (by simp -dsimp only [go_sem]) (fun x hx => by simp -dsimp only [go_sem, hx]) (by simp -dsimp only [go_sem, List.take_zero, List.all_nil])
      · rintro ⟨m, hm⟩
        have h2 : m + 1 ≤ 9223372036854775807 := by omega
        by_cases hmt : m < l.length
        · obtain ⟨d, hd⟩ := get_some hmt
          have hdl := hmi d (List.mem_of_getElem? hd)
          have et : (l.take (m + 1)).all (fun x => !spAt w c x) = ((l.take m).all (fun x => !spAt w c x) && !spAt w c d) := by rw [take_next hd, List.all_append]; simp
          cases e : (l.take m).all fun x => !spAt w c x with
          | true =>
            rw [e] at et
            simp -dsimp only [go_sem, hmt, hd, iRow]
            refine call_pure (hsp c d _ hcl hdl) ?_
            simp -dsimp only [go_sem, h2]
            exact round_to ⟨m + 1, hmt⟩ (by simp; omega) (weak_at rfl (by simp -dsimp only [go_sem]) (fun x hx => by simp -dsimp only [go_sem, hx]) (by simp -dsimp only [go_sem, et, Bool.true_and]))
          | false =>
            rw [e] at et
            simp -dsimp only [go_sem, hmt, hd, iRow, h2]
            exact round_to ⟨m + 1, hmt⟩ (by simp; omega) (weak_at rfl (by simp -dsimp only [go_sem]) (fun x hx => by simp -dsimp only [go_sem, hx]) (by simp -dsimp only [go_sem, et, Bool.false_and]))
        · have et : (l.take m).all (fun x => !spAt w c x) = !l.any (spAt w c) := by rw [List.take_of_length_le (by omega), any_all]
          cases e : l.any (spAt w c) with
          | true =>
            rw [e] at et hf
            simp -dsimp only [go_sem, hmt, et, Bool.not_true, h1]
            exact round_to ⟨k + 1, hlt, hf⟩ (by simp; omega) (weak_at rfl (by simp -dsimp only [go_sem]) (fun x hx => by simp -dsimp only [go_sem, hx]) (by simp -dsimp only [go_sem]))
          | false =>
            rw [e] at et hf
            have hf : M = some c := hf
            subst hf
            simp -dsimp only [go_sem, hmt, et, Bool.not_false]
            exact fin_pure (by simp -dsimp only [go_sem]) (.v _)
    · rw [List.drop_of_length_le (by omega)] at hf
      have hf : M = none := hf
      subst hf
      simp -dsimp only [go_sem, hlt]
      exact fin_pure (by simp -dsimp only [go_sem]) (.v _)
theorem s_pick (w : Wld) (sp : Bool) (l ta : Nat) (n : Need) (a : List Need) (sv : AV) (h : AH) (hw : w.Sm) (hok : worldOk w = true) (hn : NOk w n) (hl : l < h.n) (hta : ta < h.n) (hsv : Lo h.n sv) (ho : h.o l = .cells (fCV w sp ta a sv [])) :
    Isea.Good Tryz.prog 271 [.ptr l 0, .agg n.row] h [l] (mostV (pickG w sp (candIx w n))) (h.set l (.cells (fCV w sp ta a sv (whyP w sp n)))) := by
  have hwl := world_len hok
  have hz : ∀ H, Fz H h.n sv sv = True := fun H => eq_true (Fz.of_lo hsv)
  have hc := fun H => s_l4Candidates w n H hw hn.2 (by omega)
  unfold whyP
  rcases pick_four w sp n with hcl | ⟨k, hcl⟩ | ⟨k, k2, rest, hcl⟩
  · rw [hcl] at hc ⊢
    refine good [] [] Tryz.func271 rfl rfl Tryz.ntmps271 (by kernel_rfl) mixed (by kernel_rfl) ?_
    simp -dsimp only [go_sem, Wld.row, Need.row, hl, ho, fCV, List.map_nil] at hc ⊢
    refine call_pure (hc _) ?_
    simp -dsimp only [go_sem, hl, ho, fCV]
    exact fin_one (by simp -dsimp only [go_sem]) (.v _) (by simp -dsimp only [go_sem, fCV, hz, hta, pickG, whyG, noneL])
  · rw [hcl] at hc ⊢
    refine good [] [] Tryz.func271 rfl rfl Tryz.ntmps271 (by kernel_rfl) mixed (by kernel_rfl) ?_
    simp -dsimp only [go_sem, Wld.row, Need.row, hl, ho, fCV, List.map_cons, List.map_nil, iRow] at hc ⊢
    refine call_pure (hc _) ?_
    simp -dsimp only [go_sem, hl, ho, fCV]
    exact fin_one (by simp -dsimp only [go_sem]) (.v _) (by simp -dsimp only [go_sem, ho, fCV, hz, hta, pickG])
  · have hkm : k ∈ candIx w n := by rw [hcl]; simp
    have hno : needOk w n = true := by
      simp only [needOk, Bool.and_eq_true, decide_eq_true_eq]
      exact ⟨hn.1, cand_tv hkm⟩
    have hM := fun H => s_MostSpecial w n H hw hn.2 hok hno
    have hmany : ¬ ((rest.length + 1 + 1 : Nat) : Int) = 0 := by omega
    have hmany1 : ¬ ((rest.length + 1 + 1 : Nat) : Int) = 1 := by omega
    have hmany1' : ¬ rest.length + 1 + 1 = 1 := by omega
    unfold mostOf at hM
    rw [hcl] at hc hM ⊢
    have ep : pickG w sp (k :: k2 :: rest) = if sp = true then mostSp w (k :: k2 :: rest) else none := rfl
    have ew : whyG (k :: k2 :: rest) = manyL := rfl
    rw [ep, ew]
    refine good [] [] Tryz.func271 rfl rfl Tryz.ntmps271 (by kernel_rfl) mixed (by kernel_rfl) ?_
    simp -dsimp only [go_sem, Wld.row, Need.row, hl, ho, fCV, List.map_cons, iRow] at hc hM ⊢
    refine call_pure (hc _) ?_
    cases sp with
    | false =>
      simp -dsimp only [go_sem, hl, ho, fCV, hmany, hmany1, hmany1']
      exact fin_one (by simp -dsimp only [go_sem]) (.v _) (by simp -dsimp only [go_sem, fCV, hz, hta, manyL])
    | true =>
      simp -dsimp only [go_sem, hl, ho, fCV, hmany, hmany1, hmany1']
      refine call_pure (hM _) ?_
      cases mostSp w (k :: k2 :: rest) with
      | none =>
        simp -dsimp only [go_sem, mostV, hl, ho, fCV]
        exact fin_one (by simp -dsimp only [go_sem]) (.v _) (by simp -dsimp only [go_sem, fCV, hz, hta, manyL])
      | some m =>
        have hm0 : (0 : Int) ≤ (m : Nat) := by omega
        simp -dsimp only [go_sem, mostV, hl, ho, fCV, hm0]
        exact fin_one (by simp -dsimp only [go_sem]) (.v _) (by simp -dsimp only [go_sem, ho, fCV, hz, hta])
end Go.Proofs.YtnocdggngfiebaaGreatDoor

namespace Go.Isea
open Go
@[go_sem] theorem good_needs {h : AH} {l : List Need} : goodRows h 2 (l.map Need.row) = True := good_map fun _ => ⟨rfl, rfl⟩
/-- the stack behind a search -/
def stkS (st : List Need) (n : Need) (r : AskR) : List Need := if r.2.2 = [] then st ++ [n] else r.2.1.st ++ [r.2.1.f]
def noG : Need → L8 := fun _ => []
theorem noG_len' : ∀ (w : Wld) n, NOk w n → (noG n).length ≤ 2 := fun _ _ _ => Nat.zero_le _
end Go.Isea
namespace Go.Proofs.YtnocdggngfiebaaGreatDoor
open Go Go.Isea
set_option maxRecDepth 100000
set_option maxHeartbeats 16000000
def FindOkG (w : Wld) (sp : Bool) (f : Nat) : Prop := ∀ (l ta : Nat) (n : Need) (st S : List Need) (s : SS) (h : AH), l < h.n → ta < h.n → ¬ l = ta → h.o l = .cells (fCells w sp ta s.a S []) → h.o ta = .rows 28 2 (s.a.map Need.row) →
    st.length ≤ S.length → S.take st.length = st → NOk w n → s.a.length ≤ 300 → f ≤ 31 → st.length = 31 - f →
    Isea.Good Tryz.prog 209 [.ptr l 0, .agg n.row, .v (.int .i64 (st.length : Nat))] h [l, ta] (str (askG w sp noG f st n s).1)
      ⟨h.n, upd (upd h.o l (.cells (fCells w sp ta (askG w sp noG f st n s).2.1.a (stkS st n (askG w sp noG f st n s)) (askG w sp noG f st n s).2.2))) ta (.rows 28 2 ((askG w sp noG f st n s).2.1.a.map Need.row))⟩
theorem s_findG_step {w : Wld} {sp : Bool} (hok : worldOk w = true) (hw : w.Sm) {f : Nat} (ih : ∀ f', f = f' + 1 → FindOkG w sp f') : FindOkG w sp f := by
  intro l ta n st S s h hl hta hla ho hoa hS1 hS2 hn ha hf hst
  have hal : ¬ ta = l := fun e => hla e.symm
  have hwl := world_len hok
  have hst2 : st.length ≤ 1000 := by omega
  have hs0 : (0 + st.length) * 32 ≤ 140737488355328 := by omega
  have hs0' : st.length * 32 ≤ 140737488355328 := by omega
  have hs6 : (st.length + 1) * 32 ≤ 140737488355328 := by omega
  have ha6 : (s.a.length + 1) * 32 ≤ 140737488355328 := by omega
  have hln : ¬ l = h.n := by omega
  have htn : ¬ ta = h.n := by omega
  have hnl : ¬ h.n = l := by omega
  have hnt : ¬ h.n = ta := by omega
  have hcz : True := trivial
  have hcut : ((S.map Need.row).drop 0).take (st.length - 0) = st.map Need.row := by rw [List.drop_zero, Nat.sub_zero, ← List.map_take, hS2]
  have eS := askG_not (w := w) (sp := sp) (g := noG) (f := f) (st := st) (n := n) (s := s) rfl
  refine good [] [(1, OT.o 0 (OT.o 2 (OT.o 3 (OT.o 4 (OT.o 5 (OT.o 6 (OT.o 7 (OT.o 9 ((OT.o 1 ((OT.o 8 (OT.o 10 (OT.o 11 (OT.o 12 (OT.o 13 (OT.o 14 OT.e)))))).f (OT.o 10 (OT.o 8 (OT.o 11 (OT.o 12 (OT.o 13 (OT.o 14 OT.e)))))))).f (OT.o 10 (OT.o 1 (OT.o 8 (OT.o 11 (OT.o 12 (OT.o 13 (OT.o 14 OT.e))))))))))))))))] Tryz.func209 rfl rfl Tryz.ntmps209 (by kernel_rfl) mixed (by kernel_rfl) ?_
  simp -dsimp only [go_sem, Need.row, Wld.row, hl, hta, ho, hoa, fCV, List.length_map, hal, hla, hS1, hS2, hs0, hs0', hs6, hln, htn, hnl, hnt] 
  refine ⟨out_prS (by kernel_rfl), ?_⟩
  by_cases hlong : 300 ≤ s.a.length
  · have h300 : (300 : Int) ≤ (s.a.length : Nat) := by omega
    rw [eS, if_pos hlong]
    simp -dsimp only [go_sem, h300, hl, hla, hal, hln, hnl]
    exact fin_two hla (by simp -dsimp only [go_sem]) (by simp -dsimp only [go_sem]) (by simp -dsimp only [go_sem, ho, hoa, fCV, hta, hl, hla, hal, hln, htn, hnl, hnt, hcz, Wld.row, SS.no, SS.ask, stkS, List.map_append, List.map_cons, List.map_nil, List.length_append, List.length_cons, List.length_nil, List.length_map, Nat.zero_add, Need.row, longL]) (by simp -dsimp only [go_sem, ho, hoa, fCV, hta, hl, hla, hal, hln, htn, hnl, hnt, hcz, Wld.row, SS.no, SS.ask, stkS, List.map_append, List.map_cons, List.map_nil, List.length_append, List.length_cons, List.length_nil, List.length_map, Nat.zero_add, Need.row, longL])
  · have h300 : ¬ (300 : Int) ≤ (s.a.length : Nat) := by omega
    simp -dsimp only [go_sem, h300, hl, hta, hoa, hla, hal, hln, hnl, htn, hnt, ha6, List.length_map]
    refine ⟨out_prS (by kernel_rfl), ?_⟩
    by_cases hf0 : f = 0
    · have h31 : (30 : Int) < (st.length : Nat) := by omega
      rw [eS, if_neg hlong]
      subst hf0
      simp -dsimp only [go_sem, h31, hl, hla, hal, hln, hnl]
      exact fin_two hla (by simp -dsimp only [go_sem]) (by simp -dsimp only [go_sem]) (by simp -dsimp only [go_sem, ho, hoa, fCV, hta, hl, hla, hal, hln, htn, hnl, hnt, hcz, Wld.row, SS.no, SS.ask, stkS, List.map_append, List.map_cons, List.map_nil, List.length_append, List.length_cons, List.length_nil, List.length_map, Nat.zero_add, Need.row, deepL]) (by simp -dsimp only [go_sem, ho, hoa, fCV, hta, hl, hla, hal, hln, htn, hnl, hnt, hcz, Wld.row, SS.no, SS.ask, stkS, List.map_append, List.map_cons, List.map_nil, List.length_append, List.length_cons, List.length_nil, List.length_map, Nat.zero_add, Need.row, deepL])
    · obtain ⟨f', rfl⟩ : ∃ f', f = f' + 1 := ⟨f - 1, by omega⟩
      have h31 : ¬ (30 : Int) < (st.length : Nat) := by omega
      have ihg := ih f' rfl
      unfold FindOkG at ihg
      have eB : askG w sp noG (f' + 1) st n s = askGB (askG w sp noG f' (st ++ [n])) w sp st n (s.ask n) := by rw [eS, if_neg hlong]
      clear eS
      have hpick := fun H => s_pick w sp l ta n (s.a ++ [n]) (.so h.n (st.length + 1) (st.length + 1)) H hw hok hn
      simp -dsimp only [go_sem, Need.row, fCV, List.length_append, List.length_cons, List.length_nil, Nat.zero_add, Wld.row] at hpick
      simp -dsimp only [go_sem, h31, hl, hta, hla, hal]
      refine call_one (hpick _ (by simp -dsimp only [go_sem, hl]) (by simp -dsimp only [go_sem, hta]) (.so (by simp -dsimp only [go_sem])) (by simp -dsimp only [go_sem, hla, hal, hln])) (by simp -dsimp only [go_sem]) (by simp -dsimp only [go_sem]) ?_
      rcases opt_cases (pickG w sp (candIx w n)) with hp | ⟨k, hp⟩
      · have ew : whyP w sp n = whyG (candIx w n) := by unfold whyP; rw [hp]
        have e : askG w sp noG (f' + 1) st n s = ([], (s.ask n).no n st, whyG (candIx w n)) := by rw [eB]; unfold askGB; rw [hp]
        have hwn := whyG_ne (candIx w n)
        rw [e, hp, ew]
        simp -dsimp only [go_sem, mostV, hl, hla, hal]
        exact fin_two hla (by simp -dsimp only [go_sem]) (by simp -dsimp only [go_sem]) (by simp -dsimp only [go_sem, ho, hoa, fCV, hta, hl, hla, hal, hln, htn, hnl, hnt, hcz, Wld.row, SS.no, SS.ask, stkS, List.map_append, List.map_cons, List.map_nil, List.length_append, List.length_cons, List.length_nil, List.length_map, Nat.zero_add, Need.row, hwn]) (by simp -dsimp only [go_sem, ho, hoa, fCV, hta, hl, hla, hal, hln, htn, hnl, hnt, hcz, Wld.row, SS.no, SS.ask, stkS, List.map_append, List.map_cons, List.map_nil, List.length_append, List.length_cons, List.length_nil, List.length_map, Nat.zero_add, Need.row, hwn])
      · have ew : whyP w sp n = [] := by unfold whyP; rw [hp]
        have hkm := pickG_mem hp
        obtain ⟨i, hi, _⟩ := cand_mem hkm
        obtain ⟨hk10, _, _, _, _, h6, _⟩ := world_inst hok hi
        have hism := hw.i i (List.mem_of_getElem? hi)
        have hk0 : ¬ ((k : Nat) : Int) < 0 := by omega
        have hN4 := fun H => s_l4Needs i n.t H hism hn.2.2 (by omega)
        rw [hp, ew]
        simp -dsimp only [go_sem, mostV, hk0, hi, Inst.row, hl, hta, hla, hal, hln, hnl] at hN4 ⊢
        refine call_pure (hN4 _) ?_
        rcases opt_cases (needsOf i n.t) with hN | ⟨ms, hN⟩
        · have e : askG w sp noG (f' + 1) st n s = ([], (s.ask n).no n st, bigL) := by rw [eB]; unfold askGB; rw [hp]; simp only [askGI, hi, hN]
          rw [e, hN]
          simp -dsimp only [go_sem, needsV, hl, hla, hal, hln, hnl]
          exact fin_two hla (by simp -dsimp only [go_sem]) (by simp -dsimp only [go_sem]) (by simp -dsimp only [go_sem, ho, hoa, fCV, hta, hl, hla, hal, hln, htn, hnl, hnt, hcz, Wld.row, SS.no, SS.ask, stkS, List.map_append, List.map_cons, List.map_nil, List.length_append, List.length_cons, List.length_nil, List.length_map, Nat.zero_add, Need.row, bigL]) (by simp -dsimp only [go_sem, ho, hoa, fCV, hta, hl, hla, hal, hln, htn, hnl, hnt, hcz, Wld.row, SS.no, SS.ask, stkS, List.map_append, List.map_cons, List.map_nil, List.length_append, List.length_cons, List.length_nil, List.length_map, Nat.zero_add, Need.row, bigL])
        · have hno := needs_ok hok hw hi hN
          have hml := hno.1
          have hmm := hno.2
          clear hno
          have e : askG w sp noG (f' + 1) st n s = closeG ms (askGL (askG w sp noG f' (st ++ [n])) ms 0 (digitL k) (s.ask n)) := by rw [eB]; unfold askGB; rw [hp]; simp only [askGI, hi, hN]
          rw [e, hN]
          simp -dsimp only [go_sem, needsV]
          refine call_pure (s_l13Dec_digit k _ (by omega)) ?_
          have hD1 : st.length + 1 ≤ 9223372036854775807 := by omega
          have hp31 : 3 ^ f' ≤ 3 ^ 30 := Nat.pow_le_pow_right (by decide) (by omega)
          have hp1 : 1 ≤ 3 ^ f' := Nat.one_le_pow _ _ (by decide)
          have hp2 : 3 ^ f' ≤ 205891132094649 := hp31
          have fb := fun m s => askG_bd (sp := sp) hok hw (noG_len' w) f' (st ++ [n]) m s
          have fkp := fun m s => askG_keeps (w := w) (sp := sp) (g := noG) f' (st ++ [n]) m s
          have ihn := fun m S' s' H => ihg l ta m (st ++ [n]) S' s' H
          simp only [List.length_append, List.length_cons, List.length_nil, Nat.zero_add, Need.row] at ihn
          generalize hfd : askG w sp noG f' (st ++ [n]) = fd at fb fkp ihn ⊢
          generalize 3 ^ f' = B at hp1 hp2 fb
          simp -dsimp only [go_sem, List.length_map]
          refine loop_ruleH [0, 1, 5, 69, 0] (fun (x : {x : Nat × L8 × SS × List Need // x.1 ≤ ms.length ∧ askGL fd ms 0 (digitL k) (s.ask n) = askGL fd (ms.drop x.1) x.1 x.2.1 x.2.2.1 ∧ x.2.2.1.a.length ≤ 300 ∧ x.2.1.length ≤ 1 + x.1 * (5 * B) ∧ st.length + 1 ≤ x.2.2.2.length ∧ x.2.2.2.take (st.length + 1) = st ++ [n]}) H => ([(10, str x.1.2.1), (80, .v (.int .i64 (x.1.1 : Nat)))], ⟨h.n, upd (upd h.o l (.cells (fCells w sp ta x.1.2.2.1.a x.1.2.2.2 []))) ta (.rows 28 2 (x.1.2.2.1.a.map Need.row))⟩)) (fun x => ms.length - x.1.1) ⟨(0, digitL k, s.ask n, st ++ [n]), Nat.zero_le _, rfl, by show (s.ask n).a.length ≤ 300; simp [SS.ask]; omega, by show (digitL k).length ≤ 1 + 0 * _; simp [digitL], by show st.length + 1 ≤ (st ++ [n]).length; simp, by show (st ++ [n]).take (st.length + 1) = st ++ [n]; exact List.take_of_length_le (by simp)⟩ ?_ ?_
          · refine weak_objs [l, ta] (by simp -dsimp only [go_sem]) (by simp -dsimp only [go_sem]) (by simp -dsimp only [go_sem, hl, hln, digitL]) ?_ ?_ ?_
            · intro x h1 h2; have h2 : ¬ x = l ∧ ¬ x = ta := by simpa using h2
              have h3 : ¬ x = h.n := by have h1 : x < h.n := h1; omega
              simp -dsimp only [go_sem, h2, h3]
            · intro x h1 h2; have h1 : x < h.n := h1; simp at h2 ⊢; omega
            · simp -dsimp only [go_sem, ho, hoa, fCV, hta, hl, hla, hal, hln, htn, hnl, hnt, hcz, Wld.row, SS.no, SS.ask, stkS, List.map_append, List.map_cons, List.map_nil, List.length_append, List.length_cons, List.length_nil, List.length_map, Nat.zero_add, Need.row]
          · rintro ⟨⟨j, out, s', S'⟩, hj, heq, ha', hol, hS1', hS2'⟩
            have hj : j ≤ ms.length := hj
            have heq : askGL fd ms 0 (digitL k) (s.ask n) = askGL fd (ms.drop j) j out s' := heq
            have ha' : s'.a.length ≤ 300 := ha'
            have hol : out.length ≤ 1 + j * (5 * B) := hol
            have hS1' : st.length + 1 ≤ S'.length := hS1'
            have hS2' : S'.take (st.length + 1) = st ++ [n] := hS2'
            have hj1 : j + 1 ≤ 9223372036854775807 := by omega
            by_cases hlj : j < ms.length
            · obtain ⟨m, hb⟩ := get_some hlj
              have hmok := (hmm m (List.mem_of_getElem? hb)).1
              rw [drop_get hb] at heq
              rw [askGL_cons] at heq
              have hfb := fb m s' hmok
              have hkp := fkp m s'
              simp -dsimp only [go_sem, hlj, hb, Need.row, hD1]
              refine call_turn (ihn m S' s' _ (by simp -dsimp only [go_sem, hl]) (by simp -dsimp only [go_sem, hta]) hla (by simp -dsimp only [go_sem, hla, hln]) (by simp -dsimp only [go_sem, htn]) hS1' hS2' hmok ha' (by omega) (by omega)) (fun t ht _ => .inr ht) (fun t ht => by cases ht) ?_
              by_cases hwy : (fd m s').2.2 = []
              · rw [if_pos hwy] at heq
                have hj3 : j + 1 ≤ 3 := by omega
                have e5 : (([40, 44, 44] : L8).drop j).take (j + 1 - j) = [sep j] := by
                  have : j = 0 ∨ j = 1 ∨ j = 2 := by omega
                  rcases this with rfl | rfl | rfl <;> rfl
                have ek : stkS (st ++ [n]) m (fd m s') = st ++ [n] ++ [m] := by unfold stkS; rw [if_pos hwy]
                have hjB : j * (5 * B) ≤ 3 * (5 * B) := Nat.mul_le_mul_right _ (by omega)
                have hl1 : out.length + 1 ≤ 9223372036854775807 := by omega
                have hl2 : out.length + 1 + (fd m s').1.length ≤ 9223372036854775807 := by omega
                simp -dsimp only [go_sem, fCV, hwy, hl, hla, hal, hln, e5, hj3, hj1, hl1, hl2, List.length_append, List.length_cons, List.length_nil, Nat.zero_add]
                refine round_to ⟨(j + 1, out ++ [sep j] ++ (fd m s').1, (fd m s').2.1, st ++ [n] ++ [m]), hlj, heq, hkp.2.2 ha', ?_, ?_, ?_⟩ (by simp; omega) ?_
                · show (out ++ [sep j] ++ (fd m s').1).length ≤ 1 + (j + 1) * (5 * B)
                  rw [List.length_append, List.length_append, Nat.succ_mul]
                  simp only [List.length_cons, List.length_nil]
                  omega
                · show st.length + 1 ≤ (st ++ [n] ++ [m]).length
                  simp
                · show (st ++ [n] ++ [m]).take (st.length + 1) = st ++ [n]
                  rw [List.take_append_of_le_length (by simp), List.take_of_length_le (by simp)]
                · refine weak_objs [l, ta] (by simp -dsimp only [go_sem]) (by simp -dsimp only [go_sem]) (by simp -dsimp only [go_sem, hl]) ?_ ?_ ?_
                  · intro x h1 h2; have h2 : ¬ x = l ∧ ¬ x = ta := by simpa using h2
                    have h3 : ¬ x = h.n := by have h1 : x < h.n := h1; omega
                    simp -dsimp only [go_sem, h2, h3]
                  · intro x h1 h2; have h1 : x < h.n := h1; simp at h2 ⊢; omega
                  · simp -dsimp only [go_sem, ek, hwy, ho, hoa, fCV, hta, hl, hla, hal, hln, htn, hnl, hnt, hcz, Wld.row, List.map_append, List.map_cons, List.map_nil, List.length_append, List.length_cons, List.length_nil, List.length_map, Nat.zero_add, Need.row]
              · rw [if_neg hwy] at heq
                have ec : closeG ms (askGL fd ms 0 (digitL k) (s.ask n)) = ([], (fd m s').2.1, (fd m s').2.2) := by rw [heq]; unfold closeG; rw [if_neg hwy]
                have ek : stkS (st ++ [n]) m (fd m s') = (fd m s').2.1.st ++ [(fd m s').2.1.f] := by unfold stkS; rw [if_neg hwy]
                have ek2 : stkS st n ([], (fd m s').2.1, (fd m s').2.2) = (fd m s').2.1.st ++ [(fd m s').2.1.f] := by unfold stkS; rw [if_neg hwy]
                rw [ec]
                simp -dsimp only [go_sem, fCV, hwy, hl, hla, hal, hln]
                exact fin_two hla (by simp -dsimp only [go_sem]) (by simp -dsimp only [go_sem]) (by simp -dsimp only [go_sem, ek, ek2, ho, hoa, fCV, hta, hl, hla, hal, hln, htn, hnl, hnt, hcz, Wld.row, List.map_append, List.map_cons, List.map_nil, List.length_append, List.length_cons, List.length_nil, List.length_map, Nat.zero_add, Need.row]) (by simp -dsimp only [go_sem, ho, hoa, fCV, hta, hl, hla, hal, hln, htn, hnl, hnt, hcz, Wld.row, List.map_append, List.map_cons, List.map_nil, List.length_append, List.length_cons, List.length_nil, List.length_map, Nat.zero_add, Need.row])
            · have hjm : j = ms.length := by omega
              have ed : ms.drop j = [] := List.drop_of_length_le (by omega)
              rw [ed] at heq
              rw [askGL_nil] at heq
              have hjB : j * (5 * B) ≤ 3 * (5 * B) := Nat.mul_le_mul_right _ (by omega)
              have hl1 : out.length + 1 ≤ 9223372036854775807 := by omega
              by_cases hm0 : ms.length = 0
              · have hm0' : ¬ (0 : Int) < (ms.length : Nat) := by omega
                have ec : closeG ms (askGL fd ms 0 (digitL k) (s.ask n)) = (out, s', []) := by rw [heq]; unfold closeG; simp [hm0]
                rw [ec]
                simp -dsimp only [go_sem, fCV, hlj, hm0', hl, hla, hal, hln, hD1, hS1', hS2', List.length_map]
                exact fin_two hla (by simp -dsimp only [go_sem]) (by simp -dsimp only [go_sem]) (by simp -dsimp only [go_sem, ho, hoa, fCV, hta, hl, hla, hal, hln, htn, hnl, hnt, hcz, Wld.row, SS.no, SS.ask, stkS, List.map_append, List.map_cons, List.map_nil, List.length_append, List.length_cons, List.length_nil, List.length_map, Nat.zero_add, Need.row]) (by simp -dsimp only [go_sem, ho, hoa, fCV, hta, hl, hla, hal, hln, htn, hnl, hnt, hcz, Wld.row, SS.no, SS.ask, stkS, List.map_append, List.map_cons, List.map_nil, List.length_append, List.length_cons, List.length_nil, List.length_map, Nat.zero_add, Need.row])
              · have hm0' : (0 : Int) < (ms.length : Nat) := by omega
                have ec : closeG ms (askGL fd ms 0 (digitL k) (s.ask n)) = (out ++ [41], s', []) := by rw [heq]; unfold closeG; simp [hm0]
                rw [ec]
                simp -dsimp only [go_sem, fCV, hlj, hm0', hl1, hl, hla, hal, hln, hD1, hS1', hS2', List.length_map]
                exact fin_two hla (by simp -dsimp only [go_sem]) (by simp -dsimp only [go_sem]) (by simp -dsimp only [go_sem, ho, hoa, fCV, hta, hl, hla, hal, hln, htn, hnl, hnt, hcz, Wld.row, SS.no, SS.ask, stkS, List.map_append, List.map_cons, List.map_nil, List.length_append, List.length_cons, List.length_nil, List.length_map, Nat.zero_add, Need.row]) (by simp -dsimp only [go_sem, ho, hoa, fCV, hta, hl, hla, hal, hln, htn, hnl, hnt, hcz, Wld.row, SS.no, SS.ask, stkS, List.map_append, List.map_cons, List.map_nil, List.length_append, List.length_cons, List.length_nil, List.length_map, Nat.zero_add, Need.row])
end Go.Proofs.YtnocdggngfiebaaGreatDoor

namespace Go.Isea
open Go
theorem noG_len : ∀ (w : Wld) n, NOk w n → (noG n).length ≤ 2 := fun _ _ _ => Nat.zero_le _
theorem ask0_eq {w : Wld} {sp : Bool} {n : Need} (hok : worldOk w = true) (hno : needOk w n = true) : ask0 w sp n = askG w sp noG 31 [] n s0 := by
  unfold ask0
  rw [hok, hno]; rfl
theorem ask0_bad {w : Wld} {sp : Bool} {n : Need} (h : (worldOk w && needOk w n) = false) : ask0 w sp n = ([], s0, wrongL) := by
  unfold ask0
  rw [h]; rfl
theorem nok_of {w : Wld} {n : Need} (hno : needOk w n = true) (hn : n.Sm) : NOk w n := by
  simp only [needOk, Bool.and_eq_true] at hno
  exact ⟨by simpa using hno.1, hn⟩
end Go.Isea
namespace Go.Proofs.YtnocdggngfiebaaGreatDoor
open Go Go.Isea
set_option maxRecDepth 100000
set_option maxHeartbeats 8000000
theorem i_NeedValid (w : Wld) (n : Need) (h : AH) (hw : w.Sm) (hn : n.Sm) : Isea.Good Tryz.prog 19 [.agg w.row, .agg n.row] h [] (.v (.bool (worldOk w && needOk w n))) h := by
  have hv := fun H => i_WorldValid w H hw
  have hno := fun H => i_needOk w n H hw hn
  refine good [] [] Tryz.func19 rfl rfl Tryz.ntmps19 (by kernel_rfl) mixed (by kernel_rfl) ?_
  simp -dsimp only [go_sem, Wld.row, Need.row] at hv hno ⊢
  refine call_pure (hv _) ?_
  cases worldOk w with
  | false =>
    simp -dsimp only [go_sem]
    exact fin_bool (by simp -dsimp only [go_sem]) rfl
  | true =>
    simp -dsimp only [go_sem]
    refine call_pure (hno _) ?_
    simp -dsimp only [go_sem]
    exact fin_bool (by simp -dsimp only [go_sem]) rfl
theorem i_searched1 (n : Need) (h : AH) : Isea.Good Tryz.prog 206 [.agg n.row] h [] (.tup [str (noG n), .v (.bool (gotB (noG n)))]) h := by
  refine good [] [] Tryz.func206 rfl rfl Tryz.ntmps206 (by kernel_rfl) mixed (by kernel_rfl) ?_
  simp -dsimp only [go_sem, Need.row]
  exact fin_pure (by simp -dsimp only [go_sem]) (by simp -dsimp only [go_sem, noG, gotB, List.isEmpty_nil, Bool.not_true])
/-- where the search stands in memory: its record, what was asked, who asked for what failed -/
theorem i_searched_bad (w : Wld) (n : Need) (sp : Bool) (h : AH) (hw : w.Sm) (hn : n.Sm) (hb : (worldOk w && needOk w n) = false) :
    Isea.Good Tryz.prog 119 [.agg w.row, .agg n.row, .v (.bool sp)] h [] (.tup [.ptr h.n 0, str [], str wrongL]) (h.push (.cells (zCells w sp 206 []))) := by
  have hv := fun H => i_NeedValid w n H hw hn
  refine good [15] [] Tryz.func119 rfl rfl Tryz.ntmps119 (by kernel_rfl) mixed (by kernel_rfl) ?_
  simp -dsimp only [go_sem, Wld.row, Need.row] at hv ⊢
  refine call_pure (hv _) ?_
  rw [hb]
  simp -dsimp only [go_sem]
  refine fin_push (by simp -dsimp only [go_sem]) ?_ ?_
  · simp -dsimp only [go_sem, wrongL]
  · simp -dsimp only [go_sem, zCells]
theorem i_searched_ok (w : Wld) (n : Need) (sp : Bool) (h : AH) (hw : w.Sm) (hn : n.Sm) (hok : worldOk w = true) (hno : needOk w n = true) :
    ∃ h', Isea.Good Tryz.prog 119 [.agg w.row, .agg n.row, .v (.bool sp)] h [] (.tup [.ptr h.n 0, str (ask0 w sp n).1, str (ask0 w sp n).2.2]) h' ∧ h'.n = h.n + 3 ∧
      h'.o h.n = .cells (gCells w sp 206 [] (h.n + 1) (h.n + 2) (ask0 w sp n).2.1) ∧ h'.o (h.n + 1) = .rows 28 2 ((ask0 w sp n).2.1.a.map Need.row) ∧ h'.o (h.n + 2) = .rows 28 2 ((ask0 w sp n).2.1.st.map Need.row) ∧
      ∀ t, t < h.n → h'.o t = h.o t := by
  have hv := fun H => i_NeedValid w n H hw hn
  rw [ask0_eq hok hno]
  obtain ⟨o', hg, p1, p2, p3, p4⟩ := i_askG_first (w := w) (sp := sp) (fk := 206) (cap := []) (g := noG) (of_eq_true puL_n) hok hw (noG_len w) (fun n H _ => i_searched1 n H) h.n n ⟨h.n + 1, upd h.o h.n (.cells (zCells w sp 206 []))⟩ (Nat.lt_succ_self _) (upd_same _ _ _) (nok_of hno hn)
  refine ⟨⟨h.n + 3, o'⟩, ?_, rfl, p1, p2, p3, fun t ht => (p4 t (by show t < h.n + 1; omega) (by omega)).trans (upd_ne _ _ (by omega))⟩
  refine good [15] [] Tryz.func119 rfl rfl Tryz.ntmps119 (by kernel_rfl) mixed (by kernel_rfl) ?_
  simp -dsimp only [go_sem, Wld.row, Need.row, zCells] at hv hg ⊢
  refine call_pure (hv _) ?_
  rw [hok, hno]
  simp -dsimp only [go_sem]
  refine call_one hg (by simp -dsimp only [go_sem]) (by simp -dsimp only [go_sem]) ?_
  simp -dsimp only [go_sem]
  refine ⟨by show h.n ≤ h.n + 3; omega, Nat.le_refl _, ?_, fun t ht _ => (p4 t (by show t < h.n + 1; omega) (by omega)).trans (upd_ne _ _ (by omega)), fun t ht hc => ?_⟩
  · simp -dsimp only [go_sem]
  · have ht : t < h.n + 3 := ht
    have hge : h.n ≤ t := by
      rcases hc with hc | hc
      · cases hc
      · exact hc
    have hz : ∀ (H : AH) (m : Nat), FzL H m [] [] := fun H m => of_eq_true (by simp -dsimp only [go_sem])
    have h3 : t = h.n ∨ t = h.n + 1 ∨ t = h.n + 2 := by omega
    rcases h3 with rfl | rfl | rfl
    · show ObjFz _ _ (o' h.n) (o' h.n)
      rw [p1]
      simp -dsimp only [go_sem, gCells, stC_fz]
    · show ObjFz _ _ (o' (h.n + 1)) (o' (h.n + 1))
      have p2 : o' (h.n + 1) = .rows 28 2 ((askG w sp noG 31 [] n s0).2.1.a.map Need.row) := p2
      rw [p2]
      exact of_eq_true (objFz_r (of_eq_true puR_needs))
    · show ObjFz _ _ (o' (h.n + 2)) (o' (h.n + 2))
      have p3 : o' (h.n + 2) = .rows 28 2 ((askG w sp noG 31 [] n s0).2.1.st.map Need.row) := p3
      rw [p3]
      exact of_eq_true (objFz_r (of_eq_true puR_needs))
theorem i_FindDict (w : Wld) (n : Need) (h : AH) (hw : w.Sm) (hn : n.Sm) : Isea.Good Tryz.prog 42 [.agg w.row, .agg n.row] h [] (.tup [str (findD w false n).1, str (findD w false n).2]) h := by
  cases hv : (worldOk w && needOk w n) with
  | false =>
    have hb := fun H => i_searched_bad w n false H hw hn hv
    have e : findD w false n = ([], wrongL) := by unfold findD; rw [ask0_bad hv]
    rw [e]
    refine good [] [] Tryz.func42 rfl rfl Tryz.ntmps42 (by kernel_rfl) mixed (by kernel_rfl) ?_
    simp -dsimp only [go_sem, Wld.row, Need.row] at hb ⊢
    refine call_pure (hb _) ?_
    simp -dsimp only [go_sem]
    exact fin_pure (by simp -dsimp only [go_sem]) (by simp -dsimp only [go_sem])
  | true =>
    simp only [Bool.and_eq_true] at hv
    have hb := fun H => i_searched_ok w n false H hw hn hv.1 hv.2
    unfold findD
    generalize ask0 w false n = R at hb
    refine good [] [] Tryz.func42 rfl rfl Tryz.ntmps42 (by kernel_rfl) mixed (by kernel_rfl) ?_
    simp -dsimp only [go_sem, Wld.row, Need.row] at hb ⊢
    obtain ⟨H1, hg, hn1, _⟩ := hb h
    refine call_pure hg ?_
    simp -dsimp only [go_sem]
    exact fin_pure (by simp -dsimp only [go_sem, hn1]) (by simp -dsimp only [go_sem])
end Go.Proofs.YtnocdggngfiebaaGreatDoor

namespace Go.Isea
open Go
/-- less told of a record's cells -/
theorem Good.tell {P : Program} {h h' : AH} {k : FuncId} {args : List AV} {T : List Nat} {l : Nat} {cs cs' : List AV} {r : AV} (hlT : l ∈ T) (hl : l < h.n) (ho : h.o l = .cells cs) (hc : cs'.length = cs.length)
    (hcs : ∀ (i : Nat) (x y : AV), cs[i]? = some x → cs'[i]? = some y → ∀ (K : KM) (w : World) (v : Value), RH K h w → Rep K h w x v → Rep K h w y v)
    (hg : Isea.Good P k args ⟨h.n, upd h.o l (.cells cs')⟩ T r h') : Isea.Good P k args h T r h' := by
  refine ⟨hg.1, fun K w vs hK hvs => ?_⟩
  let h1 : AH := ⟨h.n, upd h.o l (.cells cs')⟩
  have hol : h1.o l = .cells cs' := upd_same _ _ _
  have hot : ∀ t, t ≠ l → h1.o t = h.o t := fun t ht => upd_ne _ _ ht
  have E : Ext T K h w K h1 w := ⟨rfl, rfl, rfl, Nat.le_refl _, Nat.le_refl _, fun _ _ _ => rfl, fun t ht htl => ⟨rfl, hot t fun e => htl (e ▸ hlT)⟩, fun t ht htl => by
      by_cases e : t = l
      · subst e
        rw [ho, hol]; rfl
      · rw [hot t e]; exact Grew.refl _ _, fun t b ht hb => .inr ⟨ht, hb⟩⟩
  have R1 : RH K h1 w := by
    refine ⟨hK.lt, hK.inj, fun t ht => ?_, hK.pin.ext E⟩
    by_cases e : t = l
    · subst e
      rw [hol]
      have := hK.obj t hl
      rw [ho] at this
      obtain ⟨b, vs', ty, e1, e2, e3⟩ := this
      refine ⟨b, vs', ty, e1, e2, e3.1.trans hc.symm, fun i y v g1 g2 => ?_⟩
      have hi : i < cs.length := by
        have := (List.getElem?_eq_some_iff.1 g1).1
        omega
      exact (hcs i _ y (List.getElem?_eq_getElem hi) g1 K w v hK (e3.2 i _ v (List.getElem?_eq_getElem hi) g2)).ext E
    · rw [hot t e]
      exact (hK.obj t ht).ext E fun b hb => rfl
  refine (hg.2 K w vs R1 (hvs.ext E)).mono ?_
  rintro ee w' ⟨K', v, h1', h2', h3', h4'⟩
  exact ⟨K', v, h1', h2', E.trans h3' (fun t ht _ => ht) (fun t ht _ => ht), h4'⟩
theorem so0_sl0 {K : KM} {h : AH} {w : World} {t e sz : Nat} {v : Value} (ho : h.o t = .rows e sz []) (hK : RH K h w) (hr : Rep K h w (.so t 0 0) v) : Rep K h w (.sl []) v := by
  cases hr with
  | so ht hv =>
    have := ((hv e sz [] ho).2 rfl).2
    obtain ⟨a, m, c, c', _, _, _, rfl⟩ := this
    exact .sl0 _ _
end Go.Isea
namespace Go.Proofs.YtnocdggngfiebaaGreatDoor
open Go Go.Isea
set_option maxRecDepth 100000
set_option maxHeartbeats 8000000
theorem s_findG {w : Wld} {sp : Bool} (hok : worldOk w = true) (hw : w.Sm) : ∀ f, FindOkG w sp f
  | 0 => s_findG_step hok hw fun g e => (by cases e)
  | f + 1 => s_findG_step hok hw fun g e => by cases e; exact s_findG hok hw f
theorem s_l5Found_bad (w : Wld) (n : Need) (sp : Bool) (h : AH) (hw : w.Sm) (hn : n.Sm) (hb : (worldOk w && needOk w n) = false) :
    Isea.Good Tryz.prog 121 [.agg w.row, .agg n.row, .v (.bool sp)] h [] (.tup [.ref [.sl (w.cs.map Cls.row), .sl (w.is.map Inst.row), .v (.bool sp), .sl [], .sl [], str wrongL] 0, str [], .v (.bool false)]) h := by
  have hv := fun H => s_NeedValid w n H hw hn
  refine good [16] [] Tryz.func121 rfl rfl Tryz.ntmps121 (by kernel_rfl) mixed (by kernel_rfl) ?_
  simp -dsimp only [go_sem, Wld.row, Need.row] at hv ⊢
  refine call_pure (hv _) ?_
  rw [hb]
  simp -dsimp only [go_sem]
  refine fin_pure (by simp -dsimp only [go_sem]) ?_
  refine of_eq_true ?_
  rw [fz_tup]
  refine eq_true ⟨rfl, fun i x y g1 g2 => ?_⟩
  rcases i with _ | _ | _ | i
  · simp only [List.getElem?_cons_zero, Option.some.injEq] at g1 g2
    subst g1; subst g2
    refine .ptrF (cs := [.sl (w.cs.map Cls.row), .sl (w.is.map Inst.row), .v (.bool sp), .so h.n 0 0, .so (h.n + 1) 0 0, str wrongL]) (by show h.n ≤ h.n + 2; omega) (by show upd _ (h.n + 2) _ (h.n + 2) = _; rw [upd_same]; rfl) rfl fun i x y g1 g2 => ?_
    rcases i with _ | _ | _ | _ | _ | _ | i <;> simp at g1 g2 <;> subst g1 <;> subst g2
    · exact Fz.of_lo (.sl fun r hr x hx => (of_eq_true puR_clss) _ r hr x hx)
    · exact Fz.of_lo (.sl fun r hr x hx => (of_eq_true puR_insts) _ r hr x hx)
    · exact .v _
    · refine of_eq_true (fz_so' (Nat.le_refl _) ?_ rfl (of_eq_true ?_))
      · show rowsAt (upd (upd (upd (upd h.o h.n _) (h.n + 1) _) (h.n + 2) _) (h.n + 2) _ h.n) = some []
        rw [upd_ne _ _ (by omega), upd_ne _ _ (by omega), upd_ne _ _ (by omega), upd_same]; rfl
      · simp -dsimp only [go_sem]
    · refine of_eq_true (fz_so' (by omega) ?_ rfl (of_eq_true ?_))
      · show rowsAt (upd (upd (upd (upd h.o h.n _) (h.n + 1) _) (h.n + 2) _) (h.n + 2) _ (h.n + 1)) = some []
        rw [upd_ne _ _ (by omega), upd_ne _ _ (by omega), upd_same]; rfl
      · simp -dsimp only [go_sem]
    · exact .v _
  · simp at g1 g2; subst g1; subst g2; exact .v _
  · simp at g1 g2; subst g1; subst g2; exact .v _
  · simp at g1
theorem s_l5Found_ok (w : Wld) (n : Need) (sp : Bool) (h : AH) (hw : w.Sm) (hn : n.Sm) (hok : worldOk w = true) (hno : needOk w n = true) :
    Isea.Good Tryz.prog 121 [.agg w.row, .agg n.row, .v (.bool sp)] h [] (.tup [.ref [.sl (w.cs.map Cls.row), .sl (w.is.map Inst.row), .v (.bool sp), .sl ((ask0 w sp n).2.1.a.map Need.row), .sl ((stkS [] n (ask0 w sp n)).map Need.row), str (ask0 w sp n).2.2] 0, str (ask0 w sp n).1, .v (.bool true)]) h := by
  have hv := fun H => s_NeedValid w n H hw hn
  rw [ask0_eq hok hno]
  let M : AH := ⟨h.n + 3, upd (upd (upd h.o h.n (.rows 28 2 [])) (h.n + 1) (.rows 28 2 [])) (h.n + 2) (.cells [.sl (w.cs.map Cls.row), .sl (w.is.map Inst.row), .v (.bool sp), .so h.n 0 0, .so (h.n + 1) 0 0, str []])⟩
  have a0 : ¬ h.n + 2 = h.n := by omega
  have a1 : ¬ h.n = h.n + 2 := by omega
  have a2 : ¬ h.n = h.n + 1 := by omega
  have a3 : ¬ h.n + 1 = h.n + 2 := by omega
  have hfind := s_findG (w := w) (sp := sp) hok hw 31 (h.n + 2) h.n n [] [] s0 ⟨h.n + 3, upd M.o (h.n + 2) (.cells (fCells w sp h.n [] [] []))⟩ (by show h.n + 2 < h.n + 3; omega) (by show h.n < h.n + 3; omega) a0 (upd_same _ _ _)
    (by show upd (upd _ (h.n + 2) _) (h.n + 2) _ h.n = _; rw [upd_ne _ _ a1, upd_ne _ _ a1, upd_ne _ _ a2, upd_same]; rfl) (Nat.le_refl _) rfl (nok_of hno hn) (by decide) (by decide) rfl
  have hfind2 := Good.tell (P := Tryz.prog) (h := M) (l := h.n + 2) (cs' := fCells w sp h.n [] [] []) (by exact List.mem_cons_self ..) (by show h.n + 2 < h.n + 3; omega) (upd_same _ _ _) rfl (fun i x y g1 g2 K W v hK hr => by
    have g2 : ([.sl (w.cs.map Cls.row), .sl (w.is.map Inst.row), .v (.bool sp), .so h.n 0 0, .sl [], str []] : List AV)[i]? = some y := g2
    rcases i with _ | _ | _ | _ | _ | _ | i <;> simp at g1 g2 <;> subst g1 <;> subst g2 <;> try exact hr
    refine so0_sl0 (e := 28) (sz := 2) ?_ hK hr
    show upd (upd _ (h.n + 1) _) (h.n + 2) _ (h.n + 1) = _
    rw [upd_ne _ _ a3, upd_same]) hfind
  generalize askG w sp noG 31 [] n s0 = R at hfind2 ⊢
  clear hfind
  refine good [16] [] Tryz.func121 rfl rfl Tryz.ntmps121 (by kernel_rfl) mixed (by kernel_rfl) ?_
  simp -dsimp only [go_sem, Wld.row, Need.row] at hv ⊢
  refine call_pure (hv _) ?_
  rw [hok, hno]
  simp -dsimp only [go_sem]
  refine call_turn hfind2 (fun t ht _ => .inl (by simp at ht; show h.n ≤ t; omega)) (fun t ht => by cases ht) ?_
  simp -dsimp only [go_sem]
  refine fin_pure (by simp -dsimp only [go_sem]) ?_
  refine of_eq_true ?_
  rw [fz_tup]
  refine eq_true ⟨rfl, fun i x y g1 g2 => ?_⟩
  rcases i with _ | _ | _ | i
  · simp only [List.getElem?_cons_zero, Option.some.injEq] at g1 g2
    subst g1; subst g2
    refine .ptrF (cs := fCells w sp h.n R.2.1.a (stkS [] n R) R.2.2) (by show h.n ≤ h.n + 2; omega) (by show upd (upd _ (h.n + 2) _) h.n _ (h.n + 2) = _; rw [upd_ne _ _ a0, upd_same]) rfl fun i x y g1 g2 => ?_
    have g1 : ([.sl (w.cs.map Cls.row), .sl (w.is.map Inst.row), .v (.bool sp), .so h.n R.2.1.a.length R.2.1.a.length, .sl ((stkS [] n R).map Need.row), str R.2.2] : List AV)[i]? = some x := g1
    rcases i with _ | _ | _ | _ | _ | _ | i <;> simp at g1 g2 <;> subst g1 <;> subst g2
    · exact Fz.of_lo (.sl fun r hr x hx => (of_eq_true puR_clss) _ r hr x hx)
    · exact Fz.of_lo (.sl fun r hr x hx => (of_eq_true puR_insts) _ r hr x hx)
    · exact .v _
    · refine of_eq_true (fz_so' (Nat.le_refl _) ?_ (by rw [List.length_map]) (of_eq_true puR_needs))
      show rowsAt (upd (upd _ (h.n + 2) _) h.n _ h.n) = _
      rw [upd_same]; rfl
    · exact Fz.of_lo (.sl fun r hr x hx => (of_eq_true puR_needs) _ r hr x hx)
    · exact .v _
  · simp at g1 g2; subst g1; subst g2; exact .v _
  · simp at g1 g2; subst g1; subst g2; exact .v _
  · simp at g1
/-- what the search's record reads as behind the search -/
def fRec (w : Wld) (sp : Bool) (n : Need) : List AV := [.sl (w.cs.map Cls.row), .sl (w.is.map Inst.row), .v (.bool sp), .sl ((ask0 w sp n).2.1.a.map Need.row), .sl ((if (worldOk w && needOk w n) = true then stkS [] n (ask0 w sp n) else []).map Need.row), str (ask0 w sp n).2.2]
theorem s_l5Found (w : Wld) (n : Need) (sp : Bool) (h : AH) (hw : w.Sm) (hn : n.Sm) : Isea.Good Tryz.prog 121 [.agg w.row, .agg n.row, .v (.bool sp)] h [] (.tup [.ref (fRec w sp n) 0, str (ask0 w sp n).1, .v (.bool (worldOk w && needOk w n))]) h := by
  cases hv : (worldOk w && needOk w n) with
  | false =>
    have := s_l5Found_bad w n sp h hw hn hv
    unfold fRec
    rw [ask0_bad hv, if_neg (by rw [hv]; simp)]
    exact this
  | true =>
    have hv' := hv
    simp only [Bool.and_eq_true] at hv'
    have := s_l5Found_ok w n sp h hw hn hv'.1 hv'.2
    unfold fRec
    rw [if_pos hv]
    exact this
theorem s_FindDict (w : Wld) (n : Need) (h : AH) (hw : w.Sm) (hn : n.Sm) : Isea.Good Tryz.prog 44 [.agg w.row, .agg n.row] h [] (.tup [str (findD w false n).1, str (findD w false n).2]) h := by
  have hF := fun H => s_l5Found w n false H hw hn
  refine good [] [] Tryz.func44 rfl rfl Tryz.ntmps44 (by kernel_rfl) mixed (by kernel_rfl) ?_
  simp -dsimp only [go_sem, Wld.row, Need.row, fRec] at hF ⊢
  refine call_pure (hF _) ?_
  simp -dsimp only [go_sem]
  exact fin_pure (by simp -dsimp only [go_sem]) (by simp -dsimp only [go_sem, findD])
end Go.Proofs.YtnocdggngfiebaaGreatDoor
