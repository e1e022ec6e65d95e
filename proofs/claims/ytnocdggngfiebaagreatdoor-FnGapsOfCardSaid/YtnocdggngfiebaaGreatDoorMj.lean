/- Contracts of functions of this program, for all arguments that satisfy what each lemma asks for. -/
import Derived.Test.YtnocdggngfiebaaGreatDoorMi
import Derived.Test.YtnocdggngfiebaaGreatDoorMg
set_option linter.all false
namespace Go.Isea
open Go
theorem instAt_some {w : Wld} {i : Int} {x : Inst} (h : instAt w i = some x) : worldOk w = true ∧ ∃ k : Nat, i = (k : Int) ∧ w.is[k]? = some x := by
  unfold instAt at h
  split at h
  · rename_i hc
    exact ⟨hc.1, i.toNat, by omega, h⟩
  · cases h
theorem instAt_none {w : Wld} {i : Int} (h : instAt w i = none) (hok : worldOk w = true) : i < 0 ∨ (w.is.length : Int) ≤ i := by
  unfold instAt at h
  split at h
  · rename_i hc
    have := List.getElem?_eq_none_iff.1 h
    omega
  · rename_i hc
    simp only [hok, true_and] at hc
    omega
theorem instAt_at {w : Wld} {k : Nat} {x : Inst} (hok : worldOk w = true) (h : w.is[k]? = some x) : instAt w (k : Int) = some x := by
  unfold instAt
  rw [if_pos ⟨hok, by omega⟩]
  simpa using h
theorem evAbove_at {w : Wld} {k : Nat} {x : Inst} (hok : worldOk w = true) (h : w.is[k]? = some x) (c : L8) : evAbove w (k : Int) c = evIn w x c := by
  unfold evAbove; rw [instAt_at hok h]
end Go.Isea
namespace Go.Proofs.YtnocdggngfiebaaGreatDoor
open Go Go.Isea
set_option maxRecDepth 100000
set_option maxHeartbeats 8000000
theorem s_l10Has (w : Wld) (i : Int) (h : AH) (hw : w.Sm) : Isea.Good Tryz.prog 99 [.agg w.row, .v (.int .i64 i)] h [] (.v (.bool (instAt w i).isSome)) h := by
  refine good [] [] Tryz.func99 rfl rfl Tryz.ntmps99 (by kernel_rfl) mixed (by kernel_rfl) ?_
  simp -dsimp only [go_sem, Wld.row]
  refine call_pure (s_WorldValid w _ hw) ?_
  cases e : worldOk w with
  | false =>
    have e1 : (instAt w i).isSome = false := by simp [instAt, e]
    rw [e1]
    simp -dsimp only [go_sem]
    exact fin_bool (by simp -dsimp only [go_sem]) rfl
  | true =>
    have hl := world_len e
    have hwr : IntKind.i64.wrap (((w.is.length : Nat) : Int) - 1) = ((w.is.length : Nat) : Int) - 1 := by rw [wrap_i64] <;> omega
    simp -dsimp only [go_sem, List.length_map, hwr]
    refine call_pure (s_l1In i 0 _ _) ?_
    simp -dsimp only [go_sem]
    refine fin_bool (by simp -dsimp only [go_sem]) ?_
    cases hi : instAt w i with
    | none =>
      have := instAt_none hi e
      simp; omega
    | some x =>
      obtain ⟨_, k, rfl, hk⟩ := instAt_some hi
      have := (List.getElem?_eq_some_iff.1 hk).1
      simp; omega
theorem i_isAbove (w : Wld) (c o : L8) (h : AH) (hw : w.Sm) : Isea.Good Tryz.prog 106 [.agg w.row, str c, str o] h [] (.v (.bool (upB w o c))) h := by
  have hs := i_supers w o
  have hl := (supersOf_known w o).1
  refine good [] [] Tryz.func106 rfl rfl Tryz.ntmps106 (by kernel_rfl) mixed (by kernel_rfl) ?_
  simp -dsimp only [go_sem, Wld.row] at hs ⊢
  refine call_pure (hs _ hw) ?_
  simp -dsimp only [go_sem]
  refine call_pure (l_Contains_string (supersOf w o) c _ (by omega)) ?_
  simp -dsimp only [go_sem]
  exact fin_bool (by simp -dsimp only [go_sem]) rfl
theorem s_EvidenceAbove (w : Wld) (i : Int) (c : L8) (h : AH) (hw : w.Sm) (hi : -9223372036854775808 ≤ i ∧ i ≤ 9223372036854775807) (hc : c.length ≤ 4611686018427387904) :
    Isea.Good Tryz.prog 188 [.agg w.row, .v (.int .i64 i), str c] h [] (.tup [str (evAbove w i c).1, str (evAbove w i c).2]) h := by
  have hh := fun H => s_l10Has w i H hw
  refine good [] [(1, OT.o 0 (OT.o 1 (OT.o 2 (OT.o 3 (OT.o 4 (OT.o 5 (OT.o 6 (OT.o 7 (OT.o 8 (OT.o 9 (OT.o 10 (OT.o 11 (OT.o 12 (OT.o 13 (OT.o 14 (OT.o 15 (OT.o 16 (OT.o 17 (OT.o 19 (OT.o 20 (OT.o 18 (OT.o 21 (OT.o 22 (OT.o 23 OT.e))))))))))))))))))))))))] Tryz.func188 rfl rfl Tryz.ntmps188 (by kernel_rfl) mixed (by kernel_rfl) ?_
  simp -dsimp only [go_sem, Wld.row] at hh ⊢
  refine call_pure (hh _) ?_
  cases hx : instAt w i with
  | none =>
    have e : evAbove w i c = ([], wrongL) := by unfold evAbove; rw [hx]
    rw [e]
    simp -dsimp only [go_sem, Option.isSome_none]
    exact fin_pure (by simp -dsimp only [go_sem]) (by simp -dsimp only [go_sem, wrongL])
  | some x =>
    obtain ⟨hok, k, rfl, hk⟩ := instAt_some hx
    have e : evAbove w (k : Int) c = evIn w x c := evAbove_at hok hk c
    have hxs := hw.i x (List.mem_of_getElem? hk)
    rw [e]
    by_cases h1 : c.length = 1
    · obtain ⟨d, rfl⟩ : ∃ d, c = [d] := List.length_eq_one_iff.1 h1
      have hS := fun H => s_SupersOf w x.c H hw
      have hsl := (supersOf_known w x.c).1
      have hF := fun H => s_FindGiven w x.ns ⟨[d], x.t⟩ H hw hxs.2.2.1 hxs.2.2.2 ⟨by simp, hxs.2.1⟩
      simp -dsimp only [go_sem, Wld.row, Need.row, Inst.row, hk] at hS hF ⊢
      refine call_pure (hS _) ?_
      simp -dsimp only [go_sem]
      refine call_pure (s_l13Find (supersOf w x.c) d _ (by omega)) ?_
      by_cases h0 : 0 ≤ ix (supersOf w x.c) d
      · have h0' : ¬ ix (supersOf w x.c) d < 0 := by omega
        have eu : evIn w x [d] = findGiven w x.ns ⟨[d], x.t⟩ := by unfold evIn; rw [if_pos (by rw [upB_one]; simpa using h0)]
        rw [eu]
        simp -dsimp only [go_sem, h0', hk, Inst.row]
        refine call_pure (hF _) ?_
        simp -dsimp only [go_sem]
        exact fin_pure (by simp -dsimp only [go_sem]) (by simp -dsimp only [go_sem])
      · have h0' : ix (supersOf w x.c) d < 0 := by omega
        have eu : evIn w x [d] = ([], wrongL) := by unfold evIn; rw [if_neg (by rw [upB_one]; simpa using h0)]
        rw [eu]
        simp -dsimp only [go_sem, h0']
        exact fin_pure (by simp -dsimp only [go_sem]) (by simp -dsimp only [go_sem, wrongL])
    · have h1' : ¬ ((c.length : Nat) : Int) = 1 := by omega
      have eu : evIn w x c = ([], wrongL) := by unfold evIn; rw [if_neg (by rw [upB_not h1]; simp)]
      rw [eu]
      simp -dsimp only [go_sem, h1', h1]
      exact fin_pure (by simp -dsimp only [go_sem]) (by simp -dsimp only [go_sem, wrongL])
theorem i_EvidenceAbove (w : Wld) (i : Int) (c : L8) (h : AH) (hw : w.Sm) (hi : -9223372036854775808 ≤ i ∧ i ≤ 9223372036854775807) (hc : c.length ≤ 4611686018427387904) :
    Isea.Good Tryz.prog 32 [.agg w.row, .v (.int .i64 i), str c] h [] (.tup [str (evAbove w i c).1, str (evAbove w i c).2]) h := by
  have hv := fun H => i_WorldValid w H hw
  have ha := fun o H => i_isAbove w c o H hw
  refine good [] [] Tryz.func32 rfl rfl Tryz.ntmps32 (by kernel_rfl) mixed (by kernel_rfl) ?_
  simp -dsimp only [go_sem, Wld.row] at hv ha ⊢
  refine call_pure (hv _) ?_
  cases hok : worldOk w with
  | false =>
    have e : evAbove w i c = ([], wrongL) := by unfold evAbove instAt; rw [if_neg (by rw [hok]; simp)]
    rw [e]
    simp -dsimp only [go_sem]
    exact fin_pure (by simp -dsimp only [go_sem]) (by simp -dsimp only [go_sem, wrongL])
  | true =>
    cases hx : instAt w i with
    | none =>
      have e : evAbove w i c = ([], wrongL) := by unfold evAbove; rw [hx]
      rw [e]
      by_cases h0 : i < 0
      · simp -dsimp only [go_sem, h0]
        exact fin_pure (by simp -dsimp only [go_sem]) (by simp -dsimp only [go_sem, wrongL])
      · have hle : ((w.is.length : Nat) : Int) ≤ i := by have := instAt_none hx hok; omega
        simp -dsimp only [go_sem, h0, hle, List.length_map]
        exact fin_pure (by simp -dsimp only [go_sem]) (by simp -dsimp only [go_sem, wrongL])
    | some x =>
      obtain ⟨_, k, rfl, hk⟩ := instAt_some hx
      have e : evAbove w (k : Int) c = evIn w x c := evAbove_at hok hk c
      have hkl := (List.getElem?_eq_some_iff.1 hk).1
      have h0 : ¬ ((k : Nat) : Int) < 0 := by omega
      have hle : ¬ ((w.is.length : Nat) : Int) ≤ (k : Nat) := by omega
      rw [e]
      simp -dsimp only [go_sem, h0, hle, hk, hkl, Inst.row, List.length_map]
      refine call_pure (ha _ _) ?_
      cases hu : upB w x.c c with
      | false =>
        have eu : evIn w x c = ([], wrongL) := by unfold evIn; rw [if_neg (by rw [hu]; simp)]
        rw [eu]
        simp -dsimp only [go_sem]
        exact fin_pure (by simp -dsimp only [go_sem]) (by simp -dsimp only [go_sem, wrongL])
      | true =>
        obtain ⟨hno, _⟩ := up_need hok hk hu
        have hg := inst_givens hok hk
        have hF := fun H => i_findGiven (w := w) (gs := x.ns) ⟨c, x.t⟩ H hok hw (by omega) hno
        rw [evIn_find hok hk hu]
        simp -dsimp only [go_sem, hk, Inst.row, Wld.row, Need.row] at hF ⊢
        refine call_pure (hF _) ?_
        simp -dsimp only [go_sem]
        exact fin_pure (by simp -dsimp only [go_sem]) (by simp -dsimp only [go_sem])
end Go.Proofs.YtnocdggngfiebaaGreatDoor

namespace Go.Isea
open Go
theorem gap_pu (p : Nat × UInt8) : PuL (gapRow p) := by simp -dsimp only [gapRow, go_sem]
@[go_sem] theorem puR_gaps {l : List (Nat × UInt8)} : PuR (l.map gapRow) = True := puR_map gap_pu
@[go_sem] theorem al_gaps {l : List (Nat × UInt8)} : AllLen 2 (l.map gapRow) = True := allLen_map fun _ => rfl
def gapP (w : Wld) (x : Inst) (d : UInt8) : Bool := decide ((evIn w x [d]).2 ≠ [])
theorem gapL_eq (w : Wld) (x : Inst) : gapL w x = (supersOf w x.c).filter (gapP w x) := rfl
theorem filter_next {p : UInt8 → Bool} {l : L8} {k : Nat} {a : UInt8} (h : l[k]? = some a) : (l.take (k + 1)).filter p = if p a = true then (l.take k).filter p ++ [a] else (l.take k).filter p := by
  rw [take_next h, List.filter_append]
  cases hp : p a <;> simp [hp]
theorem filt_len {p : UInt8 → Bool} {l : L8} {k : Nat} : ((l.take k).filter p).length ≤ l.length := Nat.le_trans (List.length_filter_le _ _) (by rw [List.length_take]; omega)
/-- gaps of the first instances, and the first ones of the next -/
def gapsIn (w : Wld) (k : Nat) (l : L8) : List (Nat × UInt8) := gapsTo w k ++ l.map fun d => (k, d)
@[go_sem] theorem gapsIn_nil {w : Wld} {k : Nat} : gapsIn w k [] = gapsTo w k := by simp [gapsIn]
attribute [go_sem] List.filter_nil List.take_zero
end Go.Isea
namespace Go.Proofs.YtnocdggngfiebaaGreatDoor
open Go Go.Isea
set_option maxRecDepth 100000
set_option maxHeartbeats 8000000
theorem s_l10Gaps (w : Wld) (k : Nat) (x : Inst) (h : AH) (hw : w.Sm) (hok : worldOk w = true) (hk : w.is[k]? = some x) : Isea.Good Tryz.prog 100 [.agg w.row, .v (.int .i64 (k : Nat))] h [] (str (gapL w x)) h := by
  have hk10 := (world_inst hok hk).1
  have hS := fun H => s_SupersOf w x.c H hw
  have hE := fun d H => s_EvidenceAbove w (k : Int) [d] H hw (by omega) (by simp)
  have hA := (supersOf_known w x.c).1
  rw [gapL_eq]
  generalize supersOf w x.c = A at hS hA
  refine good [] [] Tryz.func100 rfl rfl Tryz.ntmps100 (by kernel_rfl) mixed (by kernel_rfl) ?_
  simp -dsimp only [go_sem, Wld.row, hk, Inst.row] at hS hE ⊢
  refine call_pure (hS _) ?_
  simp -dsimp only [go_sem]
  refine loop_ruleH [1, 0, 3, 13] (fun (j : {j : Nat // j ≤ A.length}) H => ([(5, str ((A.take j.1).filter (gapP w x))), (21, .v (.int .i64 (j.1 : Nat)))], H)) (fun j => A.length - j.1) ⟨0, Nat.zero_le _⟩ ?_ ?_
  · exact weak_at rfl (by simp -dsimp only [go_sem]) (fun x hx => by simp -dsimp only [go_sem, hx]) (by simp -dsimp only [go_sem, List.take_zero, List.filter_nil])
  · rintro ⟨j, hj⟩
    have h1 : j + 1 ≤ 9223372036854775807 := by omega
    have hfl := filt_len (p := gapP w x) (l := A) (k := j)
    have hl1 : ((A.take j).filter (gapP w x)).length + 1 ≤ 9223372036854775807 := by omega
    by_cases hlt : j < A.length
    · obtain ⟨d, hd⟩ := get_some hlt
      have e5 : (A.drop j).take (j + 1 - j) = [d] := by rw [drop_get hd, Nat.add_sub_cancel_left]; rfl
      have hlt1 : j + 1 ≤ A.length := hlt
      have ev := evAbove_at hok hk [d]
      have hn := filter_next (p := gapP w x) hd
      simp -dsimp only [go_sem, hlt, h1, e5, hlt1]
      refine call_pure (hE d _) ?_
      rw [ev]
      by_cases hw0 : (evIn w x [d]).2 = []
      · have hp : gapP w x d = false := by simp [gapP, hw0]
        rw [hp] at hn
        simp -dsimp only [go_sem, hw0, h1]
        exact round_to ⟨j + 1, hlt⟩ (by simp; omega) (weak_at rfl (by simp -dsimp only [go_sem]) (fun x hx => by simp -dsimp only [go_sem, hx]) (by simp -dsimp only [go_sem, hn, Bool.false_eq_true]))
      · have hp : gapP w x d = true := by simp [gapP, hw0]
        rw [hp] at hn
        simp -dsimp only [go_sem, hw0, h1, e5, hlt1, hl1]
        exact round_to ⟨j + 1, hlt⟩ (by simp; omega) (weak_at rfl (by simp -dsimp only [go_sem]) (fun x hx => by simp -dsimp only [go_sem, hx]) (by simp -dsimp only [go_sem, hn]))
    · simp -dsimp only [go_sem, hlt]
      exact fin_str (by simp -dsimp only [go_sem]) (by rw [List.take_of_length_le (by omega)])
theorem s_GapsOf (w : Wld) (h : AH) (hw : w.Sm) : Isea.Good Tryz.prog 27 [.agg w.row] h [] (.tup [.sl ((gapsOf w).map gapRow), .v (.bool (worldOk w))]) h := by
  have hv := fun H => s_WorldValid w H hw
  refine good [] [] Tryz.func27 rfl rfl Tryz.ntmps27 (by kernel_rfl) mixed (by kernel_rfl) ?_
  simp -dsimp only [go_sem, Wld.row] at hv ⊢
  refine call_pure (hv _) ?_
  cases hok : worldOk w with
  | false =>
    have e : gapsOf w = [] := by unfold gapsOf; rw [if_neg (by rw [hok]; simp)]
    rw [e]
    simp -dsimp only [go_sem]
    exact fin_pure (by simp -dsimp only [go_sem]) (by simp -dsimp only [go_sem, List.map_nil])
  | true =>
    have e : gapsOf w = gapsTo w w.is.length := by unfold gapsOf; rw [if_pos hok]
    have hwl := world_len hok
    rw [e]
    simp -dsimp only [go_sem, List.length_map]
    refine loop_ruleH [1, 13] (fun (k : {k : Nat // k ≤ w.is.length}) H => ([(4, .so h.n (gapsTo w k.1).length (gapsTo w k.1).length), (16, .v (.int .i64 (k.1 : Nat)))], ⟨H.n, upd H.o h.n (.rows 50 2 ((gapsTo w k.1).map gapRow))⟩)) (fun k => w.is.length - k.1) ⟨0, Nat.zero_le _⟩ ?_ ?_
    · have e0 : gapsTo w 0 = [] := rfl
      refine weak_objs [h.n] (by simp -dsimp only [go_sem]) (by simp -dsimp only [go_sem]) (by simp -dsimp only [go_sem, e0, List.length_nil]) ?_ ?_ ?_
      · intro x h1 h2; simp -dsimp only [go_sem, h1]
      · intro x h1 h2; have h1 : x < h.n + 1 := h1; simp at h2 ⊢; omega
      · simp -dsimp only [go_sem, e0, List.map_nil]
    · rintro ⟨k, hk⟩
      have h1 : k + 1 ≤ 9223372036854775807 := by omega
      by_cases hlt : k < w.is.length
      · obtain ⟨x, hx⟩ := get_some hlt
        have hG := fun H => s_l10Gaps w k x H hw hok hx
        have hsucc := gapsTo_succ hx
        have htl := gapsTo_len w k
        have hgl : (gapL w x).length ≤ 256 := Nat.le_trans (List.length_filter_le _ _) (supersOf_known w x.c).1
        generalize gapL w x = G at hG hsucc hgl
        simp -dsimp only [go_sem, hlt, Wld.row] at hG ⊢
        refine call_pure (hG _) ?_
        simp -dsimp only [go_sem]
        refine loop_ruleH [1, 3, 0, 8, 0, 6] (fun (j : {j : Nat // j ≤ G.length}) H => ([(4, .so h.n (gapsIn w k (G.take j.1)).length (gapsIn w k (G.take j.1)).length), (24, .v (.int .i64 (j.1 : Nat)))], ⟨h.n + 1, upd H.o h.n (.rows 50 2 ((gapsIn w k (G.take j.1)).map gapRow))⟩)) (fun j => G.length - j.1) ⟨0, Nat.zero_le _⟩ ?_ ?_
        · have e0 : gapsIn w k (G.take 0) = gapsTo w k := by simp [gapsIn]
          refine weak_objs [h.n] (by simp -dsimp only [go_sem]) (by simp -dsimp only [go_sem]) (by simp -dsimp only [go_sem, e0]) ?_ ?_ ?_
          · intro x h1 h2; simp -dsimp only [go_sem, h1]
          · intro x h1 h2; have h1 : x < h.n + 1 := h1; simp at h2 ⊢; omega
          · simp -dsimp only [go_sem, e0]
        · rintro ⟨j, hj⟩
          have h2 : j + 1 ≤ 9223372036854775807 := by omega
          have hil : (gapsIn w k (G.take j)).length ≤ (gapsTo w k).length + 256 := by
            unfold gapsIn; rw [List.length_append, List.length_map, List.length_take]; omega
          have e6 : ((gapsIn w k (G.take j)).length + 1) * 24 ≤ 140737488355328 := by omega
          have e6' : ((gapsIn w k (G.take j)).length + 1) * 32 ≤ 140737488355328 := by omega
          by_cases hjt : j < G.length
          · obtain ⟨d, hd⟩ := get_some hjt
            have e5 : (G.drop j).take (j + 1 - j) = [d] := by rw [drop_get hd, Nat.add_sub_cancel_left]; rfl
            have hlt1 : j + 1 ≤ G.length := hjt
            have en : gapsIn w k (G.take (j + 1)) = gapsIn w k (G.take j) ++ [(k, d)] := by unfold gapsIn; rw [take_next hd]; simp
            simp -dsimp only [go_sem, hjt, h2, e5, hlt1, e6, e6', List.length_map]
            refine round_to ⟨j + 1, hjt⟩ (by simp; omega) ?_
            refine weak_objs [h.n] (by simp -dsimp only [go_sem]) (by simp -dsimp only [go_sem]) (by simp -dsimp only [go_sem, en, List.length_append, List.length_cons, List.length_nil]) ?_ ?_ ?_
            · intro x h1 h2; simp -dsimp only [go_sem, h1]
            · intro x h1 h2; have h1 : x < h.n + 1 := h1; simp at h2 ⊢; omega
            · simp -dsimp only [go_sem, en, List.map_append, List.map_cons, List.map_nil, gapRow]
          · have et : gapsIn w k (G.take j) = gapsTo w (k + 1) := by rw [List.take_of_length_le (by omega)]; exact hsucc.symm
            simp -dsimp only [go_sem, hjt, h1, et]
            refine round_to ⟨k + 1, hlt⟩ (by simp; omega) ?_
            refine weak_objs [h.n] (by simp -dsimp only [go_sem]) (by simp -dsimp only [go_sem]) (by simp -dsimp only [go_sem]) ?_ ?_ ?_
            · intro x h1 h2; simp -dsimp only [go_sem, h1]
            · intro x h1 h2; have h1 : x < h.n + 1 := h1; simp at h2 ⊢; omega
            · simp -dsimp only [go_sem]
      · have ek : k = w.is.length := by omega
        subst ek
        simp -dsimp only [go_sem, hlt]
        refine fin_pure (by simp -dsimp only [go_sem]) ?_
        simp -dsimp only [go_sem, List.length_map]
theorem s_IsClosedAbove (w : Wld) (h : AH) (hw : w.Sm) : Isea.Good Tryz.prog 30 [.agg w.row] h [] (.v (.bool (worldOk w && decide ((gapsOf w).length = 0)))) h := by
  have hG := fun H => s_GapsOf w H hw
  refine good [] [] Tryz.func30 rfl rfl Tryz.ntmps30 (by kernel_rfl) mixed (by kernel_rfl) ?_
  simp -dsimp only [go_sem, Wld.row] at hG ⊢
  refine call_pure (hG _) ?_
  cases hok : worldOk w with
  | false =>
    simp -dsimp only [go_sem]
    exact fin_bool (by simp -dsimp only [go_sem]) rfl
  | true =>
    simp -dsimp only [go_sem, List.length_map]
    refine fin_bool (by simp -dsimp only [go_sem]) ?_
    apply decide_eq_decide.2; omega
end Go.Proofs.YtnocdggngfiebaaGreatDoor

namespace Go.Proofs.YtnocdggngfiebaaGreatDoor
open Go Go.Isea
set_option maxRecDepth 100000
set_option maxHeartbeats 8000000
theorem i_GapsOf (w : Wld) (h : AH) (hw : w.Sm) : Isea.Good Tryz.prog 25 [.agg w.row] h [] (.tup [.so h.n (gapsOf w).length (gapsOf w).length, .v (.bool (worldOk w))]) (h.push (.rows 50 2 ((gapsOf w).map gapRow))) := by
  have hv := fun H => i_WorldValid w H hw
  have hE := fun i d H => fun hi => i_EvidenceAbove w i [d] H hw hi (by simp)
  have hS := fun o H => i_supers w o H hw
  cases hok : worldOk w with
  | false =>
    have e : gapsOf w = [] := by unfold gapsOf; rw [if_neg (by rw [hok]; simp)]
    rw [e]
    refine Good.ghostR2 (h' := h) (by decide) ?_
    refine good [] [] Tryz.func25 rfl rfl Tryz.ntmps25 (by kernel_rfl) mixed (by kernel_rfl) ?_
    simp -dsimp only [go_sem, Wld.row] at hv ⊢
    refine call_pure (hv _) ?_
    rw [hok]
    simp -dsimp only [go_sem]
    exact fin_pure (by simp -dsimp only [go_sem]) (by simp -dsimp only [go_sem])
  | true =>
    have e : gapsOf w = gapsTo w w.is.length := by unfold gapsOf; rw [if_pos hok]
    have hwl := world_len hok
    rw [e]
    refine good [] [] Tryz.func25 rfl rfl Tryz.ntmps25 (by kernel_rfl) mixed (by kernel_rfl) ?_
    simp -dsimp only [go_sem, Wld.row] at hv hE hS ⊢
    refine call_pure (hv _) ?_
    rw [hok]
    simp -dsimp only [go_sem, List.length_map]
    refine loop_ruleH [1, 14, 0] (fun (k : {k : Nat // k ≤ w.is.length}) H => ([(4, .so h.n (gapsTo w k.1).length (gapsTo w k.1).length), (18, .v (.int .i64 (k.1 : Nat)))], ⟨h.n + 1, upd H.o h.n (.rows 50 2 ((gapsTo w k.1).map gapRow))⟩)) (fun k => w.is.length - k.1) ⟨0, Nat.zero_le _⟩ ?_ ?_
    · have e0 : gapsTo w 0 = [] := rfl
      refine weak_objs [h.n] (by simp -dsimp only [go_sem]) (by simp -dsimp only [go_sem]) (by simp -dsimp only [go_sem, e0, List.length_nil]) ?_ ?_ ?_
      · intro x h1 h2; simp -dsimp only [go_sem, h1]
      · intro x h1 h2; have h1 : x < h.n + 1 := h1; simp at h2 ⊢; omega
      · simp -dsimp only [go_sem, e0, List.map_nil]
    · rintro ⟨k, hk⟩
      have h1 : k + 1 ≤ 9223372036854775807 := by omega
      by_cases hlt : k < w.is.length
      · obtain ⟨x, hx⟩ := get_some hlt
        have hsucc := gapsTo_succ hx
        have htl := gapsTo_len w k
        rw [gapL_eq] at hsucc
        have hSx := hS x.c
        have hA := (supersOf_known w x.c).1
        generalize supersOf w x.c = A at hSx hsucc hA
        simp -dsimp only [go_sem, hlt, hx, Inst.row]
        refine call_pure (hSx _) ?_
        simp -dsimp only [go_sem, List.length_map]
        refine loop_ruleH [1, 3, 10, 0, 0, 8, 0] (fun (j : {j : Nat // j ≤ A.length}) H => ([(4, .so h.n (gapsIn w k ((A.take j.1).filter (gapP w x))).length (gapsIn w k ((A.take j.1).filter (gapP w x))).length), (29, .v (.int .i64 (j.1 : Nat)))], ⟨h.n + 1, upd H.o h.n (.rows 50 2 ((gapsIn w k ((A.take j.1).filter (gapP w x))).map gapRow))⟩)) (fun j => A.length - j.1) ⟨0, Nat.zero_le _⟩ ?_ ?_
        · have e0 : gapsIn w k ((A.take 0).filter (gapP w x)) = gapsTo w k := by simp [gapsIn]
          refine weak_objs [h.n] (by simp -dsimp only [go_sem]) (by simp -dsimp only [go_sem]) (by simp -dsimp only [go_sem, e0]) ?_ ?_ ?_
          · intro t h1 h2
            have a1 : ¬ t = h.n := by omega
            have a2 : ¬ t = h.n + 1 := by omega
            simp -dsimp only [go_sem, a1, a2]
          · intro x h1 h2; have h1 : x < h.n + 1 := h1; simp at h2 ⊢; omega
          · simp -dsimp only [go_sem, e0]
        · rintro ⟨j, hj⟩
          have h2 : j + 1 ≤ 9223372036854775807 := by omega
          have hil : (gapsIn w k ((A.take j).filter (gapP w x))).length ≤ (gapsTo w k).length + 256 := by
            have := filt_len (p := gapP w x) (l := A) (k := j)
            unfold gapsIn; rw [List.length_append, List.length_map]; omega
          have e6 : ((gapsIn w k ((A.take j).filter (gapP w x))).length + 1) * 24 ≤ 140737488355328 := by omega
          have e6' : ((gapsIn w k ((A.take j).filter (gapP w x))).length + 1) * 32 ≤ 140737488355328 := by omega
          by_cases hjt : j < A.length
          · obtain ⟨d, hd⟩ := get_some hjt
            have en := filter_next (p := gapP w x) hd
            have ev := evAbove_at hok hx [d]
            simp -dsimp only [go_sem, hjt, hd, cRow]
            refine call_pure (hE (k : Int) d _ (by omega)) ?_
            rw [ev]
            by_cases hw0 : (evIn w x [d]).2 = []
            · have hp : gapP w x d = false := by simp [gapP, hw0]
              rw [hp] at en
              simp -dsimp only [go_sem, hw0, h2]
              refine round_to ⟨j + 1, hjt⟩ (by simp; omega) ?_
              refine weak_objs [h.n] (by simp -dsimp only [go_sem]) (by simp -dsimp only [go_sem]) (by simp -dsimp only [go_sem, en, Bool.false_eq_true]) ?_ ?_ ?_
              · intro x h1 h2; simp -dsimp only [go_sem, h1]
              · intro x h1 h2; have h1 : x < h.n + 1 := h1; simp at h2 ⊢; omega
              · simp -dsimp only [go_sem, en, Bool.false_eq_true]
            · have hp : gapP w x d = true := by simp [gapP, hw0]
              rw [hp] at en
              have en2 : gapsIn w k ((A.take j).filter (gapP w x) ++ [d]) = gapsIn w k ((A.take j).filter (gapP w x)) ++ [(k, d)] := by simp [gapsIn]
              simp -dsimp only [go_sem, hw0, h2, e6, e6', List.length_map]
              refine round_to ⟨j + 1, hjt⟩ (by simp; omega) ?_
              refine weak_objs [h.n] (by simp -dsimp only [go_sem]) (by simp -dsimp only [go_sem]) (by simp -dsimp only [go_sem, en, en2, List.length_append, List.length_cons, List.length_nil]) ?_ ?_ ?_
              · intro x h1 h2; simp -dsimp only [go_sem, h1]
              · intro x h1 h2; have h1 : x < h.n + 1 := h1; simp at h2 ⊢; omega
              · simp -dsimp only [go_sem, en, en2, List.map_append, List.map_cons, List.map_nil, gapRow]
          · have et : gapsIn w k ((A.take j).filter (gapP w x)) = gapsTo w (k + 1) := by rw [List.take_of_length_le (by omega)]; exact hsucc.symm
            simp -dsimp only [go_sem, hjt, h1, et]
            refine round_to ⟨k + 1, hlt⟩ (by simp; omega) ?_
            refine weak_objs [h.n] (by simp -dsimp only [go_sem]) (by simp -dsimp only [go_sem]) (by simp -dsimp only [go_sem]) ?_ ?_ ?_
            · intro x h1 h2; simp -dsimp only [go_sem, h1]
            · intro x h1 h2; have h1 : x < h.n + 1 := h1; simp at h2 ⊢; omega
            · simp -dsimp only [go_sem]
      · have ek : k = w.is.length := by omega
        subst ek
        simp -dsimp only [go_sem, hlt]
        refine fin_push (by simp -dsimp only [go_sem]) ?_ ?_
        · simp -dsimp only [go_sem]
        · simp -dsimp only [go_sem]
theorem i_IsClosedAbove (w : Wld) (h : AH) (hw : w.Sm) : Isea.Good Tryz.prog 29 [.agg w.row] h [] (.v (.bool (worldOk w && decide ((gapsOf w).length = 0)))) h := by
  have hG := fun H => i_GapsOf w H hw
  refine good [] [] Tryz.func29 rfl rfl Tryz.ntmps29 (by kernel_rfl) mixed (by kernel_rfl) ?_
  simp -dsimp only [go_sem, Wld.row] at hG ⊢
  refine call_pure (hG _) ?_
  cases hok : worldOk w with
  | false =>
    simp -dsimp only [go_sem]
    exact fin_bool (by simp -dsimp only [go_sem]) rfl
  | true =>
    simp -dsimp only [go_sem, List.length_map]
    refine fin_bool (by simp -dsimp only [go_sem]) ?_
    apply decide_eq_decide.2; omega
end Go.Proofs.YtnocdggngfiebaaGreatDoor

namespace Go.Isea
open Go
def mostOf (w : Wld) (l : List Nat) : AV := mostV (mostSp w l)
/-- the search's cells in the specification -/
def fCV (w : Wld) (sp : Bool) (ta : Nat) (a : List Need) (sv : AV) (why : L8) : List AV := [.sl (w.cs.map Cls.row), .sl (w.is.map Inst.row), .v (.bool sp), .so ta a.length a.length, sv, str why]
abbrev fCells (w : Wld) (sp : Bool) (ta : Nat) (a st : List Need) (why : L8) : List AV := fCV w sp ta a (.sl (st.map Need.row)) why
def whyP (w : Wld) (sp : Bool) (n : Need) : L8 := match pickG w sp (candIx w n) with
  | none => whyG (candIx w n)
  | some _ => []
end Go.Isea
namespace Go.Proofs.YtnocdggngfiebaaGreatDoor
open Go Go.Isea
set_option maxRecDepth 100000
set_option maxHeartbeats 8000000
end Go.Proofs.YtnocdggngfiebaaGreatDoor

namespace Go.Isea
open Go
@[go_sem] theorem good_needs {h : AH} {l : List Need} : goodRows h 2 (l.map Need.row) = True := good_map fun _ => ⟨rfl, rfl⟩
/-- the stack behind a search -/
def stkS (st : List Need) (n : Need) (r : AskR) : List Need := if r.2.2 = [] then st ++ [n] else r.2.1.st ++ [r.2.1.f]
def noG : Need → L8 := fun _ => []
end Go.Isea
namespace Go.Proofs.YtnocdggngfiebaaGreatDoor
open Go Go.Isea
set_option maxRecDepth 100000
set_option maxHeartbeats 16000000
def FindOkG (w : Wld) (sp : Bool) (f : Nat) : Prop := ∀ (l ta : Nat) (n : Need) (st S : List Need) (s : SS) (h : AH), l < h.n → ta < h.n → ¬ l = ta → h.o l = .cells (fCells w sp ta s.a S []) → h.o ta = .rows 28 2 (s.a.map Need.row) →
    st.length ≤ S.length → S.take st.length = st → NOk w n → s.a.length ≤ 300 → f ≤ 31 → st.length = 31 - f →
    Isea.Good Tryz.prog 209 [.ptr l 0, .agg n.row, .v (.int .i64 (st.length : Nat))] h [l, ta] (str (askG w sp noG f st n s).1)
      ⟨h.n, upd (upd h.o l (.cells (fCells w sp ta (askG w sp noG f st n s).2.1.a (stkS st n (askG w sp noG f st n s)) (askG w sp noG f st n s).2.2))) ta (.rows 28 2 ((askG w sp noG f st n s).2.1.a.map Need.row))⟩
end Go.Proofs.YtnocdggngfiebaaGreatDoor

namespace Go.Isea
open Go
theorem nok_of {w : Wld} {n : Need} (hno : needOk w n = true) (hn : n.Sm) : NOk w n := by
  simp only [needOk, Bool.and_eq_true] at hno
  exact ⟨by simpa using hno.1, hn⟩
end Go.Isea
namespace Go.Proofs.YtnocdggngfiebaaGreatDoor
open Go Go.Isea
set_option maxRecDepth 100000
set_option maxHeartbeats 8000000
theorem i_NeedValid (w : Wld) (n : Need) (h : AH) (hw : w.Sm) (hn : n.Sm) : Isea.Good Tryz.prog 19 [.agg w.row, .agg n.row] h [] (.v (.bool (worldOk w && needOk w n))) h := by
  have hv := fun H => i_WorldValid w H hw
  have hno := fun H => i_needOk w n H hw hn
  refine good [] [] Tryz.func19 rfl rfl Tryz.ntmps19 (by kernel_rfl) mixed (by kernel_rfl) ?_
  simp -dsimp only [go_sem, Wld.row, Need.row] at hv hno ⊢
  refine call_pure (hv _) ?_
  cases worldOk w with
  | false =>
    simp -dsimp only [go_sem]
    exact fin_bool (by simp -dsimp only [go_sem]) rfl
  | true =>
    simp -dsimp only [go_sem]
    refine call_pure (hno _) ?_
    simp -dsimp only [go_sem]
    exact fin_bool (by simp -dsimp only [go_sem]) rfl
end Go.Proofs.YtnocdggngfiebaaGreatDoor

namespace Go.Isea
open Go
/-- less told of a record's cells -/
theorem Good.tell {P : Program} {h h' : AH} {k : FuncId} {args : List AV} {T : List Nat} {l : Nat} {cs cs' : List AV} {r : AV} (hlT : l ∈ T) (hl : l < h.n) (ho : h.o l = .cells cs) (hc : cs'.length = cs.length)
    (hcs : ∀ (i : Nat) (x y : AV), cs[i]? = some x → cs'[i]? = some y → ∀ (K : KM) (w : World) (v : Value), RH K h w → Rep K h w x v → Rep K h w y v)
    (hg : Isea.Good P k args ⟨h.n, upd h.o l (.cells cs')⟩ T r h') : Isea.Good P k args h T r h' := by
  refine ⟨hg.1, fun K w vs hK hvs => ?_⟩
  let h1 : AH := ⟨h.n, upd h.o l (.cells cs')⟩
  have hol : h1.o l = .cells cs' := upd_same _ _ _
  have hot : ∀ t, t ≠ l → h1.o t = h.o t := fun t ht => upd_ne _ _ ht
  have E : Ext T K h w K h1 w := ⟨rfl, rfl, rfl, Nat.le_refl _, Nat.le_refl _, fun _ _ _ => rfl, fun t ht htl => ⟨rfl, hot t fun e => htl (e ▸ hlT)⟩, fun t ht htl => by
      by_cases e : t = l
      · subst e
        rw [ho, hol]; rfl
      · rw [hot t e]; exact Grew.refl _ _, fun t b ht hb => .inr ⟨ht, hb⟩⟩
  have R1 : RH K h1 w := by
    refine ⟨hK.lt, hK.inj, fun t ht => ?_, hK.pin.ext E⟩
    by_cases e : t = l
    · subst e
      rw [hol]
      have := hK.obj t hl
      rw [ho] at this
      obtain ⟨b, vs', ty, e1, e2, e3⟩ := this
      refine ⟨b, vs', ty, e1, e2, e3.1.trans hc.symm, fun i y v g1 g2 => ?_⟩
      have hi : i < cs.length := by
        have := (List.getElem?_eq_some_iff.1 g1).1
        omega
      exact (hcs i _ y (List.getElem?_eq_getElem hi) g1 K w v hK (e3.2 i _ v (List.getElem?_eq_getElem hi) g2)).ext E
    · rw [hot t e]
      exact (hK.obj t ht).ext E fun b hb => rfl
  refine (hg.2 K w vs R1 (hvs.ext E)).mono ?_
  rintro ee w' ⟨K', v, h1', h2', h3', h4'⟩
  exact ⟨K', v, h1', h2', E.trans h3' (fun t ht _ => ht) (fun t ht _ => ht), h4'⟩
end Go.Isea
namespace Go.Proofs.YtnocdggngfiebaaGreatDoor
open Go Go.Isea
set_option maxRecDepth 100000
set_option maxHeartbeats 8000000
/-- what the search's record reads as behind the search -/
def fRec (w : Wld) (sp : Bool) (n : Need) : List AV := [.sl (w.cs.map Cls.row), .sl (w.is.map Inst.row), .v (.bool sp), .sl ((ask0 w sp n).2.1.a.map Need.row), .sl ((if (worldOk w && needOk w n) = true then stkS [] n (ask0 w sp n) else []).map Need.row), str (ask0 w sp n).2.2]
end Go.Proofs.YtnocdggngfiebaaGreatDoor
