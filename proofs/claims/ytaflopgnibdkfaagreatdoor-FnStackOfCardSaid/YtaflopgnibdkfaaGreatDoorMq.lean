/- Contracts of functions of this program, for all arguments that satisfy what each lemma asks for. -/
import Derived.Test.YtaflopgnibdkfaaGreatDoorMj
import Derived.Test.YtaflopgnibdkfaaGreatDoorMg
import Derived.Test.YtaflopgnibdkfaaGreatDoorMi
import Derived.Test.YtaflopgnibdkfaaGreatDoorMk
set_option linter.all false
namespace Go.Isea
open Go
theorem why_ne (l : List Nat) : whyG l ≠ wrongL := by
  unfold whyG
  split <;> decide
theorem askGL_ne {fd : Need → SS → AskR} (hfd : ∀ m s, (fd m s).2.2 ≠ wrongL) : ∀ (ms : List Need) (k : Nat) (out : L8) (s : SS), (askGL fd ms k out s).2.2 ≠ wrongL
  | [], k, out, s => by rw [askGL_nil]; show ([] : L8) ≠ wrongL; decide
  | m :: ms, k, out, s => by
    rw [askGL_cons]
    split
    · exact askGL_ne hfd ms _ _ _
    · exact hfd m s
theorem closeG_ne {ms : List Need} {x : AskR} (hx : x.2.2 ≠ wrongL) : (closeG ms x).2.2 ≠ wrongL := by
  unfold closeG
  split
  · show ([] : L8) ≠ wrongL; decide
  · exact hx
theorem askG_ne {w : Wld} {sp : Bool} : ∀ (f : Nat) (st : List Need) (n : Need) (s : SS), (askG w sp (fun _ => []) f st n s).2.2 ≠ wrongL
  | 0, st, n, s => by
    unfold askG
    split
    · show ([] : L8) ≠ wrongL; decide
    · split
      · show longL ≠ wrongL; decide
      · show deepL ≠ wrongL; decide
  | f + 1, st, n, s => by
    unfold askG
    split
    · show ([] : L8) ≠ wrongL; decide
    · split
      · show longL ≠ wrongL; decide
      · unfold askGB
        split
        · exact why_ne _
        · unfold askGI
          split
          · split
            · exact closeG_ne (askGL_ne (fun m s => askG_ne f _ m s) _ _ _ _)
            · show bigL ≠ wrongL; decide
          · show noneL ≠ wrongL; decide
/-- the stack of a search that fails -/
def stB (w : Wld) (n : Need) : Bool := (worldOk w && needOk w n) && decide ((ask0 w false n).2.2 ≠ [])
def stL (w : Wld) (n : Need) : List Need := if stB w n = true then (ask0 w false n).2.1.st else []
end Go.Isea
namespace Go.Proofs.YtaflopgnibdkfaaGreatDoor
open Go Go.Isea
set_option maxRecDepth 100000
set_option maxHeartbeats 8000000
theorem s_l13OwnInstance (i : Inst) (h : AH) (hl : i.ns.length ≤ 1099511627776) : Isea.Good Tryz.prog 163 [.agg i.row] h [] (.agg i.row) h := by
  have e6 : i.ns.length * 32 ≤ 140737488355328 := by omega
  refine good [1] [] Tryz.func163 rfl rfl Tryz.ntmps163 (by kernel_rfl) mixed (by kernel_rfl) ?_
  simp -dsimp only [go_sem, Inst.row, e6, List.length_map, Nat.zero_add, List.nil_append]
  exact fin_pure (by simp -dsimp only [go_sem]) (by simp -dsimp only [go_sem, List.length_map])
theorem s_l13OwnListInstance (l : List Inst) (h : AH) (hl : l.length ≤ 1099511627776) (hn : ∀ i ∈ l, i.ns.length ≤ 1099511627776) : Isea.Good Tryz.prog 107 [.sl (l.map Inst.row)] h [] (.sl (l.map Inst.row)) h := by
  refine good [] [] Tryz.func107 rfl rfl Tryz.ntmps107 (by kernel_rfl) mixed (by kernel_rfl) ?_
  simp -dsimp only [go_sem, List.length_map]
  refine loop_ruleH [7, 0] (fun (k : {k : Nat // k ≤ l.length}) H => ([(3, .so h.n k.1 k.1), (9, .v (.int .i64 (k.1 : Nat)))], ⟨h.n + 1, upd H.o h.n (.rows 110 3 ((l.take k.1).map Inst.row))⟩)) (fun k => l.length - k.1) ⟨0, Nat.zero_le _⟩ ?_ ?_
  · refine weak_objs [h.n] (by simp -dsimp only [go_sem]) (by simp -dsimp only [go_sem]) (by simp -dsimp only [go_sem, List.take_zero, List.length_nil, List.map_nil]) ?_ ?_ ?_
    · intro t h1 h2
      have a1 : ¬ t = h.n := by omega
      simp -dsimp only [go_sem, a1]
    · intro x h1 h2; have h1 : x < h.n + 1 := h1; simp at h2 ⊢; omega
    · simp -dsimp only [go_sem, List.take_zero, List.length_nil, List.map_nil]
  · rintro ⟨k, hk⟩
    have hk1 : k + 1 ≤ 9223372036854775807 := by omega
    have e6 : (k + 1) * 56 ≤ 140737488355328 := by omega
    have hne : ¬ h.n = h.n + 1 := by omega
    have htl : (l.take k).length = k := by rw [List.length_take]; omega
    by_cases hlt : k < l.length
    · obtain ⟨a, hb⟩ := get_some hlt
      have hg := fun H => s_l13OwnInstance a H (hn a (List.mem_of_getElem? hb))
      have en := take_next hb
      simp -dsimp only [go_sem, hlt, hb, Inst.row, hne] at hg ⊢
      refine call_pure (hg _) ?_
      simp -dsimp only [go_sem, hk1, e6, List.length_map, htl, hne]
      refine round_to ⟨k + 1, hlt⟩ (by simp; omega) ?_
      refine weak_objs [h.n] (by simp -dsimp only [go_sem]) (by simp -dsimp only [go_sem]) (by simp -dsimp only [go_sem, en, htl, List.length_append, List.length_cons, List.length_nil, List.map_append, List.map_cons, List.map_nil, Inst.row]) ?_ ?_ ?_
      · intro t h1 h2
        have a1 : ¬ t = h.n := by omega
        have a2 : ¬ t = h.n + 1 := by omega
        simp -dsimp only [go_sem, a1, a2]
      · intro x h1 h2; have h1 : x < h.n + 1 := h1; simp at h2 ⊢; omega
      · simp -dsimp only [go_sem, en, hne, List.length_append, List.length_cons, List.length_nil, List.map_append, List.map_cons, List.map_nil, Inst.row]
    · have ek : k = l.length := by omega
      subst ek
      simp -dsimp only [go_sem, hlt, List.take_length, List.length_map]
      exact fin_pure (by simp -dsimp only [go_sem]) (by simp -dsimp only [go_sem, List.length_map])
theorem s_l13OwnWorld (w : Wld) (h : AH) (hc : w.cs.length ≤ 1099511627776) (hi : w.is.length ≤ 1099511627776) (hn : ∀ i ∈ w.is, i.ns.length ≤ 1099511627776) : Isea.Good Tryz.prog 60 [.agg w.row] h [] (.agg w.row) h := by
  have e6 : w.cs.length * 32 ≤ 140737488355328 := by omega
  have hg := fun H => s_l13OwnListInstance w.is H hi hn
  have hgr : ∀ H : AH, goodRows H 2 (w.cs.map Cls.row) = True := fun H => good_map fun c => by simp -dsimp only [Cls.row, go_sem, List.length_cons, List.length_nil, List.all_cons, List.all_nil, Bool.and_self]
  refine good [1] [] Tryz.func60 rfl rfl Tryz.ntmps60 (by kernel_rfl) mixed (by kernel_rfl) ?_
  simp -dsimp only [go_sem, Wld.row, e6, List.length_map, Nat.zero_add, List.nil_append, hgr] at hg ⊢
  refine call_pure (hg _) ?_
  simp -dsimp only [go_sem]
  exact fin_pure (by simp -dsimp only [go_sem]) (by simp -dsimp only [go_sem, Wld.row, List.length_map])
end Go.Proofs.YtaflopgnibdkfaaGreatDoor

namespace Go.Isea
open Go
theorem askGL_st {fd : Need → SS → AskR} (hfd : ∀ m s, s.st.length ≤ 40 → (fd m s).2.1.st.length ≤ 40) : ∀ (ms : List Need) (k : Nat) (out : L8) (s : SS), s.st.length ≤ 40 → (askGL fd ms k out s).2.1.st.length ≤ 40
  | [], k, out, s, h => by rw [askGL_nil]; exact h
  | m :: ms, k, out, s, h => by
    rw [askGL_cons]
    split
    · exact askGL_st hfd ms _ _ _ (hfd m s h)
    · exact hfd m s h
theorem askG_st {w : Wld} {sp : Bool} : ∀ (f : Nat) (st : List Need) (n : Need) (s : SS), s.st.length ≤ 40 → st.length + f ≤ 40 → (askG w sp (fun _ => []) f st n s).2.1.st.length ≤ 40
  | 0, st, n, s, h, g => by
    unfold askG
    split
    · exact h
    · split
      · show st.length ≤ 40; omega
      · show st.length ≤ 40; omega
  | f + 1, st, n, s, h, g => by
    unfold askG
    split
    · exact h
    · split
      · show st.length ≤ 40; omega
      · unfold askGB
        split
        · show st.length ≤ 40; omega
        · unfold askGI
          split
          · split
            · unfold closeG
              have h2 := askGL_st (fd := askG w sp (fun _ => []) f (st ++ [n])) (fun m s hs => askG_st f _ m s hs (by rw [List.length_append]; simp; omega))
              split
              · exact h2 _ _ _ _ h
              · exact h2 _ _ _ _ h
            · show st.length ≤ 40; omega
          · show st.length ≤ 40; omega
theorem ask0_st {w : Wld} {n : Need} : (ask0 w false n).2.1.st.length ≤ 40 := by
  unfold ask0
  split
  · exact askG_st _ _ _ _ (by decide) (by decide)
  · decide
theorem len_st (w : Wld) (n : Need) : (stL w n).length ≤ 1048576 := by
  unfold stL
  split
  · exact Nat.le_trans ask0_st (by decide)
  · exact Nat.zero_le _
end Go.Isea
namespace Go.Proofs.YtaflopgnibdkfaaGreatDoor
open Go Go.Isea
set_option maxRecDepth 100000
set_option maxHeartbeats 8000000
theorem s_StackOf (w : Wld) (n : Need) (h : AH) (hw : w.Sm) (hn : n.Sm) (hc : w.cs.length ≤ 1048576) (hi : w.is.length ≤ 1048576) (hio : ∀ i ∈ w.is, i.Ok) : Isea.Good Tryz.prog 34 [.agg w.row, .agg n.row] h [] (.tup [.sl ((stL w n).map Need.row), .v (.bool (stB w n))]) h := by
  have hO := fun H => s_l13OwnWorld w H (by omega) (by omega) (fun i h => Nat.le_trans (show i.ns.length ≤ 1048576 from hio i h) (by decide))
  have hF := fun H => s_l5Found w n false H hw hn
  unfold fRec at hF
  unfold stL stB
  cases hv : (worldOk w && needOk w n) with
  | false =>
    rw [hv, if_neg (by simp)] at hF
    rw [ask0_bad hv] at hF ⊢
    refine good [2] [] Tryz.func34 rfl rfl Tryz.ntmps34 (by kernel_rfl) mixed (by kernel_rfl) ?_
    simp -dsimp only [go_sem, Wld.row, Need.row] at hO hF ⊢
    refine call_pure (hO _) ?_
    simp -dsimp only [go_sem]
    refine call_pure (hF _) ?_
    simp -dsimp only [go_sem]
    refine fin_pure (by simp -dsimp only [go_sem]) ?_
    simp -dsimp only [go_sem, Bool.false_and, Bool.false_eq_true, if_false, List.map_nil]
  | true =>
    rw [hv, if_pos rfl] at hF
    unfold stkS at hF
    have hst := ask0_st (w := w) (n := n)
    generalize (ask0 w false n).2.2 = z at hF ⊢
    generalize (ask0 w false n).2.1 = s at hF hst ⊢
    generalize (ask0 w false n).1 = y at hF
    by_cases hz : z = []
    · rw [if_pos hz] at hF
      refine good [2] [] Tryz.func34 rfl rfl Tryz.ntmps34 (by kernel_rfl) mixed (by kernel_rfl) ?_
      simp -dsimp only [go_sem, Wld.row, Need.row] at hO hF ⊢
      refine call_pure (hO _) ?_
      simp -dsimp only [go_sem]
      refine call_pure (hF _) ?_
      simp -dsimp only [go_sem, hz]
      refine fin_pure (by simp -dsimp only [go_sem]) ?_
      simp -dsimp only [go_sem, hz, Bool.true_and, ne_eq, not_true_eq_false, decide_false, Bool.false_eq_true, if_false, List.map_nil]
    · rw [if_neg hz] at hF
      have hz2 : decide (z ≠ []) = true := decide_eq_true hz
      rw [hz2, Bool.and_self, if_pos rfl]
      have hSl : (s.st ++ [s.f]).length = s.st.length + 1 := by simp
      have hcut : (s.st ++ [s.f]).take s.st.length = s.st := List.take_left
      generalize s.st ++ [s.f] = S at hF hSl hcut
      have hwr : IntKind.i64.wrap (((s.st.length + 1 : Nat) : Int) - 1) = ((s.st.length : Nat) : Int) := by rw [wrap_i64] <;> omega
      have hle : s.st.length ≤ s.st.length + 1 := by omega
      refine good [2] [] Tryz.func34 rfl rfl Tryz.ntmps34 (by kernel_rfl) mixed (by kernel_rfl) ?_
      simp -dsimp only [go_sem, Wld.row, Need.row] at hO hF ⊢
      refine call_pure (hO _) ?_
      simp -dsimp only [go_sem]
      refine call_pure (hF _) ?_
      simp -dsimp only [go_sem, hz, List.length_map, hSl, hwr, hle]
      refine fin_pure (by simp -dsimp only [go_sem]) ?_
      simp -dsimp only [go_sem, hcut]
theorem i_StackOf (w : Wld) (n : Need) (h : AH) (hw : w.Sm) (hn : n.Sm) : Isea.Good Tryz.prog 33 [.agg w.row, .agg n.row] h [] (.tup [.so h.n (stL w n).length (stL w n).length, .v (.bool (stB w n))]) (h.push (.rows 38 2 ((stL w n).map Need.row))) := by
  cases hv : (worldOk w && needOk w n) with
  | false =>
    have eb : stB w n = false := by unfold stB; rw [hv]; rfl
    have el : stL w n = [] := by unfold stL; rw [eb, if_neg (by simp)]
    have hS := fun H => i_searched_bad w n false H hw hn hv
    rw [eb, el]
    refine Good.ghostR2 (h' := h) (by decide) ?_
    refine good [] [] Tryz.func33 rfl rfl Tryz.ntmps33 (by kernel_rfl) mixed (by kernel_rfl) ?_
    simp -dsimp only [go_sem, Wld.row, Need.row] at hS ⊢
    refine call_pure (hS _) ?_
    simp -dsimp only [go_sem, wrongL]
    exact fin_pure (by simp -dsimp only [go_sem]) (by simp -dsimp only [go_sem])
  | true =>
    have hv2 := hv
    rw [Bool.and_eq_true] at hv2
    obtain ⟨h', hS, q1, q2, q3, q4, q5⟩ := i_searched_ok w n false h hw hn hv2.1 hv2.2
    have hne : (ask0 w false n).2.2 ≠ wrongL := by unfold ask0; rw [hv, if_pos rfl]; exact askG_ne _ _ _ _
    unfold stL stB
    rw [hv]
    generalize (ask0 w false n).2.2 = z at hS hne ⊢
    generalize (ask0 w false n).2.1 = s at hS q2 q3 q4 ⊢
    generalize (ask0 w false n).1 = y at hS
    have hn0 : h.n ≤ h'.n := by omega
    unfold wrongL at hne
    by_cases hz : z = []
    · have e1 : (true && decide (z ≠ [])) = false := by rw [hz]; rfl
      rw [e1, if_neg (by simp)]
      refine Good.ghostR2 (h' := h) (by decide) ?_
      refine good [] [] Tryz.func33 rfl rfl Tryz.ntmps33 (by kernel_rfl) mixed (by kernel_rfl) ?_
      simp -dsimp only [go_sem, Wld.row, Need.row] at hS ⊢
      refine call_pure hS ?_
      simp -dsimp only [go_sem, hz]
      exact fin_pure hn0 (by simp -dsimp only [go_sem])
    · have e1 : (true && decide (z ≠ [])) = true := by rw [Bool.true_and]; exact decide_eq_true hz
      rw [e1, if_pos rfl]
      by_cases hs0 : s.st = []
      · rw [hs0]
        have hstc : stC (h.n + 2) s.st = .v (.slice none 0 0) := by rw [hs0]; rfl
        refine Good.ghostR2 (h' := h) (by decide) ?_
        refine good [] [] Tryz.func33 rfl rfl Tryz.ntmps33 (by kernel_rfl) mixed (by kernel_rfl) ?_
        unfold gCells at q2
        simp -dsimp only [go_sem, Wld.row, Need.row] at hS ⊢
        refine call_pure hS ?_
        have hc2 : isCur s.a.length (h'.o (h.n + 1)) = true := by rw [q3]; simp [isCur]
        rw [hstc] at q2
        simp -dsimp only [go_sem, hz, hne, q2, q1, q3, hn0, hc2]
        exact fin_pure hn0 (by simp -dsimp only [go_sem])
      have hstc : stC (h.n + 2) s.st = .so (h.n + 2) s.st.length s.st.length := by
        cases e : s.st with
        | nil => exact absurd e hs0
        | cons x xs => rfl
      have hfirst : Isea.Good Tryz.prog 33 [.agg w.row, .agg n.row] h [] (.tup [.so (h.n + 2) s.st.length s.st.length, .v (.bool true)]) ⟨h.n + 3, upd (upd (upd h.o h.n (.cells (gCells w false 145 [] (h.n + 1) (h.n + 2) s |>.map fun _ => .junk))) (h.n + 1) (.rows 38 2 (s.a.map Need.row))) (h.n + 2) (.rows 38 2 (s.st.map Need.row))⟩ := by
        refine good [] [] Tryz.func33 rfl rfl Tryz.ntmps33 (by kernel_rfl) mixed (by kernel_rfl) ?_
        have q2' := q2
        unfold gCells at q2
        simp -dsimp only [go_sem, Wld.row, Need.row] at hS ⊢
        refine call_pure hS ?_
        have hc1 : isCur s.st.length (h'.o (h.n + 2)) = true := by rw [q4]; simp [isCur]
        have hc2 : isCur s.a.length (h'.o (h.n + 1)) = true := by rw [q3]; simp [isCur]
        simp -dsimp only [go_sem, hz, hne, q2, q1, q3, q4, hn0, hc1, hc2]
        rw [hstc]
        refine ⟨by show h.n ≤ h.n + 3; omega, by show h.n + 3 ≤ h'.n; omega, ?_, fun t h1 _ => ?_, fun t h1 h2 => ?_⟩
        · have hlt : h.n + 2 < h.n + 3 := by omega
          simp -dsimp only [go_sem, hlt]
        · have h1 : t < h.n := h1
          show upd (upd (upd _ _ _) _ _) _ _ t = _
          rw [upd_ne _ _ (by omega), upd_ne _ _ (by omega), upd_ne _ _ (by omega)]
        · have h1 : t < h.n + 3 := h1
          have h2 : h.n ≤ t := by
            rcases h2 with h2 | h2
            · cases h2
            · exact h2
          show ObjFz h' (h.n + 3) (h'.o t) (upd (upd (upd _ _ _) _ _) _ _ t)
          by_cases e0 : t = h.n
          · subst e0
            rw [upd_ne _ _ (by omega), upd_ne _ _ (by omega), upd_same, q2']
            refine ⟨by simp, fun i x y g1 g2 => ?_⟩
            rw [List.getElem?_map] at g2
            cases e : (gCells w false 145 [] (h.n + 1) (h.n + 2) s)[i]? with
            | none => rw [e] at g2; cases g2
            | some u => rw [e] at g2; cases g2; exact .junk _
          · by_cases e1 : t = h.n + 1
            · subst e1
              rw [upd_ne _ _ (by omega), upd_same, q3]
              exact of_eq_true (objFz_r (of_eq_true puR_needs))
            · obtain rfl : t = h.n + 2 := by omega
              rw [upd_same, q4]
              exact of_eq_true (objFz_r (of_eq_true puR_needs))
      refine hfirst.shift 2 rfl (Nat.le_succ _) (fun t ht => upd_ne _ _ (by omega)) (fun t h1 h2 => ?_) ?_
      · have h2 : t < h.n + 1 := h2
        obtain rfl : t = h.n := by omega
        show RenO True _ _ (upd _ (h.n + 2) _ (h.n + 2)) (upd h.o h.n _ h.n)
        rw [upd_same, upd_same]
        exact RenO.of_rows (of_eq_true puR_needs)
      · refine .tup rfl fun i x y h1 h2 => ?_
        rcases i with _ | _ | i
        · simp at h1 h2; subst h1; subst h2
          exact Ren.so' (Nat.lt_succ_self _) (dn_hi (Nat.le_refl _))
        · simp at h1 h2; subst h1; subst h2; exact .v _
        · simp at h1
end Go.Proofs.YtaflopgnibdkfaaGreatDoor
