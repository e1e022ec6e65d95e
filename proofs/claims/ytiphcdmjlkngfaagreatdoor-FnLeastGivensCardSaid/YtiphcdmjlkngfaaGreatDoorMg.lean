/- Contracts of functions of this program, for all arguments that satisfy what each lemma asks for. -/
import Derived.Test.YtiphcdmjlkngfaaGreatDoorMf
import Derived.Test.YtiphcdmjlkngfaaGreatDoorMd
import Derived.ProofKit
import Derived.Deep.Slices
set_option linter.all false
namespace Go.Proofs.YtiphcdmjlkngfaaGreatDoor
open Go Go.Isea
set_option maxRecDepth 100000
set_option maxHeartbeats 8000000
def aCells (w : Wld) (gs : List Need) (ta a : Nat) : List AV := [.sl (w.cs.map Cls.row), .sl (w.is.map Inst.row), .v (.bool false), .fn 255 [.ref w.row 0, .ref [.sl (gs.map Need.row)] 0], .so ta a a, .junk, .junk, .junk]
theorem i_fail (w : Wld) (gs : List Need) (l ta a : Nat) (n : Need) (st : List Need) (x : L8) (h : AH) (hl : l < h.n) (hta : ta < h.n) (ho : h.o l = .cells (aCells w gs ta a)) (hst : st.length ≤ 1000) :
    Isea.Good Tryz.prog 194 [str x, .ref n.row 0, .ref [stA st] 0, .ref [.ptr l 0] 0] h [l] (.tup [str [], str x]) h := by
  refine good [] [] Tryz.func194 rfl rfl Tryz.ntmps194 (by kernel_rfl) mixed (by kernel_rfl) ?_
  have hln : ¬ l = h.n := by omega
  cases st with
  | nil =>
    simp -dsimp only [go_sem, Need.row, stA]
    refine call_pure (l_Clone_nil _) ?_
    simp -dsimp only [go_sem, hl, ho, aCells]
    refine fin_same (by simp -dsimp only [go_sem]) (by simp -dsimp only [go_sem]) ?_
    simp -dsimp only [go_sem, ho, aCells, hta, Wld.row]
  | cons s st =>
    simp -dsimp only [go_sem, Need.row, stA]
    refine call_pure (l_Clone_Need s st _ (by simp at hst; omega)) ?_
    simp -dsimp only [go_sem, hl, ho, aCells, hln]
    refine fin_same (by simp -dsimp only [go_sem]) (by simp -dsimp only [go_sem]) ?_
    simp -dsimp only [go_sem, ho, aCells, hta, Wld.row, hln]
theorem l_Clone_st (st : List Need) (h : AH) (hl : st.length ≤ 1000) : Isea.Good Tryz.prog 82 [stA st] h [] (.so h.n st.length st.length) (h.push (.rows 28 2 (st.map Need.row))) := by
  cases st with
  | nil => exact Good.ghostR (by decide) (l_Clone_nil h)
  | cons x xs => exact l_Clone_Need x xs h (by simp at hl; omega)
end Go.Proofs.YtiphcdmjlkngfaaGreatDoor

namespace Go.Isea
open Go
theorem list_cases {α : Type} (l : List α) : l = [] ∨ (∃ a, l = [a]) ∨ ∃ a b r, l = a :: b :: r := by
  rcases l with _ | ⟨a, _ | ⟨b, r⟩⟩
  · exact .inl rfl
  · exact .inr (.inl ⟨a, rfl⟩)
  · exact .inr (.inr ⟨a, b, r, rfl⟩)
theorem opt_cases {α : Type} (o : Option α) : o = none ∨ ∃ a, o = some a := by
  cases o with
  | none => exact .inl rfl
  | some a => exact .inr ⟨a, rfl⟩
theorem cand_four (w : Wld) (n : Need) (hmem : ∀ k, k ∈ candIx w n → ∃ i, w.is[k]? = some i ∧ i.c = n.c ∧ (matchS i.t n.t).isSome = true) : candIx w n = [] ∨ (∃ k i, candIx w n = [k] ∧ w.is[k]? = some i ∧ needsOf i n.t = none) ∨ (∃ k i ms, candIx w n = [k] ∧ w.is[k]? = some i ∧ needsOf i n.t = some ms) ∨ ∃ k k2 rest, candIx w n = k :: k2 :: rest := by
  rcases list_cases (candIx w n) with h | ⟨k, h⟩ | ⟨k, k2, r, h⟩
  · exact .inl h
  · obtain ⟨i, hi, _⟩ := hmem k (by rw [h]; exact List.mem_cons_self ..)
    rcases opt_cases (needsOf i n.t) with hN | ⟨ms, hN⟩
    · exact .inr (.inl ⟨k, i, h, hi, hN⟩)
    · exact .inr (.inr (.inl ⟨k, i, ms, h, hi, hN⟩))
  · exact .inr (.inr (.inr ⟨k, k2, r, h⟩))
theorem many_ok {w : Wld} {n : Need} {l : List Nat} (hcl : candIx w n = l) (hwl : w.is.length ≤ 10) : l.length ≤ 1000 ∧ ∀ i ∈ l, i < w.is.length := by
  subst hcl
  refine ⟨Nat.le_trans (candTake_len w n w.is.length) (by omega), fun i hi => ?_⟩
  obtain ⟨x, hx, _⟩ := cand_mem hi
  exact (List.getElem?_eq_some_iff.1 hx).1
end Go.Isea
namespace Go.Proofs.YtiphcdmjlkngfaaGreatDoor
open Go Go.Isea
set_option maxRecDepth 100000
set_option maxHeartbeats 16000000
def AskOk (w : Wld) (gs : List Need) (f : Nat) : Prop := ∀ (l ta : Nat) (n : Need) (a : Nat) (st : List Need) (h : AH), l < h.n → ta < h.n → ¬ l = ta → h.o l = .cells (aCells w gs ta a) → h.o ta = .rows 28 2 (aRows a) → NOk w n → a ≤ 300 → f ≤ 31 → st.length = 31 - f →
    Isea.Good Tryz.prog 129 [.ptr l 0, .agg n.row, stA st] h [l, ta] (.tup [str (askS w gs f n a).1, str (askS w gs f n a).2.2])
      ⟨h.n, upd (upd h.o l (.cells (aCells w gs ta (askS w gs f n a).2.1))) ta (.rows 28 2 (aRows (askS w gs f n a).2.1))⟩
theorem i_ask_step {w : Wld} {gs : List Need} (hok : worldOk w = true) (hw : w.Sm) (hgs : gs.length ≤ 6) {f : Nat} (ih : ∀ g, f = g + 1 → AskOk w gs g) : AskOk w gs f := by
  intro l ta n a st h hl hta hlt ho hoa hn ha hf hst
  have htl : ¬ ta = l := fun e => hlt e.symm
  obtain ⟨d, hd, _, _⟩ := known_letter (world_cls hok) hn.1
  have hwl := world_len hok
  have hmem : ∀ k, k ∈ candIx w n → ∃ i, w.is[k]? = some i ∧ i.c = n.c ∧ (matchS i.t n.t).isSome = true := fun k hk => cand_mem hk
  have hgiv := i_findGiven1 w gs n
  have hfail := fun a' x H => i_fail w gs l ta a' n st x H
  have hcand := i_candidates w n
  have hst2 : st.length ≤ 1000 := by omega
  have hal := aRows_len a
  have ha6 : (a + 1) * 32 ≤ 140737488355328 := by omega
  have har : ∀ r ∈ aRows a ++ [n.row], r.length = 2 := fun r hr => by
    rcases List.mem_append.1 hr with hr | hr
    · rw [List.eq_of_mem_replicate hr]; rfl
    · rw [List.mem_singleton.1 hr]; rfl
  have haf : ∀ (H : AH) (m : Nat), ObjFz H m (.rows 28 2 (aRows a ++ [n.row])) (.rows 28 2 (aRows (a + 1))) := fun H m => objFz_aRows (by rw [List.length_append, hal]; rfl) har
  have haf' := haf
  have haf0 : ∀ (H : AH) (m : Nat), ObjFz H m (.rows 28 2 (aRows a)) (.rows 28 2 (aRows a)) := fun H m => objFz_aRows hal (fun r hr => by rw [List.eq_of_mem_replicate hr]; rfl)
  refine good [] [(22, OT.o 0 (OT.o 2 ((OT.o 1 (OT.o 3 (OT.o 4 (OT.o 5 OT.e)))).f (OT.o 3 (OT.o 1 (OT.o 4 (OT.o 5 OT.e)))))))] Tryz.func129 rfl rfl Tryz.ntmps129 (by kernel_rfl) mixed (by kernel_rfl) ?_
  simp -dsimp only [go_sem, Need.row, Wld.row, hl, ho, aCells] at hgiv hfail hcand haf ⊢
  refine call_pure (hgiv _ hw hgs hd) ?_
  by_cases hg : givenL w gs n = []
  · have eS : askS w gs f n a = if 300 ≤ a then ([], a, longL) else match f with | 0 => ([], a + 1, deepL) | g + 1 => askB (askS w gs g) w n a := by
      cases f <;> simp [askS, hg]
    have e0 : gotB (givenL w gs n) = false := by rw [hg]; rfl
    rw [e0]
    simp -dsimp only [go_sem, hl, ho, hoa, aCells, hal]
    by_cases hlong : 300 ≤ a
    · have h300 : (300 : Int) ≤ (a : Nat) := by omega
      rw [eS, if_pos hlong]
      simp -dsimp only [go_sem, h300]
      refine call_one (hfail a _ _ hl hta ho hst2) (by simp -dsimp only [go_sem]) (by simp -dsimp only [go_sem]) ?_
      simp -dsimp only [go_sem]
      exact fin_two hlt (by simp -dsimp only [go_sem]) (by simp -dsimp only [go_sem, longL]) (by simp -dsimp only [go_sem, ho, hoa, aCells, hta, Wld.row, haf0]) (by simp -dsimp only [go_sem, ho, hoa, aCells, hta, haf0])
    · have h300 : ¬ (300 : Int) ≤ (a : Nat) := by omega
      simp -dsimp only [go_sem, h300, hl, ho, hoa, aCells, hal, ha6, htl, hlt, hta]
      refine ⟨out_prS (by kernel_rfl), ?_⟩
      by_cases hf0 : f = 0
      · have h31 : (30 : Int) < (st.length : Nat) := by omega
        rw [eS, if_neg hlong]
        subst hf0
        simp -dsimp only [go_sem, h31]
        refine call_one (hfail (a + 1) _ _ (by simp -dsimp only [go_sem, hl]) (by simp -dsimp only [go_sem, hta]) (by simp -dsimp only [go_sem, hlt, Wld.row]) hst2) (by simp -dsimp only [go_sem]) (by simp -dsimp only [go_sem]) ?_
        simp -dsimp only [go_sem]
        exact fin_two hlt (by simp -dsimp only [go_sem]) (by simp -dsimp only [go_sem, deepL]) (by simp -dsimp only [go_sem, ho, hoa, aCells, hta, htl, hlt, Wld.row, haf]) (by simp -dsimp only [go_sem, ho, hoa, aCells, hta, htl, hlt, haf])
      · obtain ⟨g, rfl⟩ : ∃ g, f = g + 1 := ⟨f - 1, by omega⟩
        have h31 : ¬ (30 : Int) < (st.length : Nat) := by omega
        have ihg := ih g rfl
        unfold AskOk at ihg
        have eB : askS w gs (g + 1) n a = askB (askS w gs g) w n a := by rw [eS, if_neg hlong]
        clear eS
        simp -dsimp only [go_sem, h31, hl, hta, ho, hoa, aCells, hlt, htl]
        rcases cand_four w n hmem with hcl | ⟨k, i, hcl, hi, hN⟩ | ⟨k, i, ms, hcl, hi, hN⟩ | ⟨k, k2, rest, hcl⟩
        · rw [hcl] at hcand
          refine call_pure (hcand _ hw hn.2 (by omega)) ?_
          have e : askS w gs (g + 1) n a = ([], a + 1, noneL) := by rw [eB]; unfold askB; rw [hcl]
          rw [e]
          simp -dsimp only [go_sem, List.map_nil]
          refine call_one (hfail (a + 1) _ _ (by simp -dsimp only [go_sem, hl]) (by simp -dsimp only [go_sem, hta]) (by simp -dsimp only [go_sem, hlt, Wld.row]) hst2) (by simp -dsimp only [go_sem]) (by simp -dsimp only [go_sem]) ?_
          simp -dsimp only [go_sem]
          exact fin_two hlt (by simp -dsimp only [go_sem]) (by simp -dsimp only [go_sem, noneL]) (by simp -dsimp only [go_sem, ho, hoa, aCells, hta, htl, hlt, Wld.row, haf]) (by simp -dsimp only [go_sem, ho, hoa, aCells, hta, htl, hlt, haf])
        · rw [hcl] at hcand
          refine call_pure (hcand _ hw hn.2 (by omega)) ?_
          have hwi := world_inst hok hi
          have hk10 := hwi.1
          have h6 := hwi.2.2.2.2.2.1
          clear hwi
          have hism := hw.i i (List.mem_of_getElem? hi)
          have hnd := i_needs i n.t
          rw [hN] at hnd
          simp -dsimp only [go_sem, List.map_cons, List.map_nil, iRow, hi, Inst.row, hl, hta, ho, hoa, hlt, htl] at hnd ⊢
          refine call_pure (hnd _ hism hn.2.2 (by omega)) ?_
          have e : askS w gs (g + 1) n a = ([], a + 1, bigL) := by rw [eB]; unfold askB; rw [hcl]; simp only [hi, hN]
          rw [e]
          simp -dsimp only [go_sem, needsV]
          refine call_one (hfail (a + 1) _ _ (by simp -dsimp only [go_sem, hl]) (by simp -dsimp only [go_sem, hta]) (by simp -dsimp only [go_sem, hlt, Wld.row]) hst2) (by simp -dsimp only [go_sem]) (by simp -dsimp only [go_sem]) ?_
          simp -dsimp only [go_sem]
          exact fin_two hlt (by simp -dsimp only [go_sem]) (by simp -dsimp only [go_sem, bigL]) (by simp -dsimp only [go_sem, ho, hoa, aCells, hta, htl, hlt, Wld.row, haf]) (by simp -dsimp only [go_sem, ho, hoa, aCells, hta, htl, hlt, haf])
        · rw [hcl] at hcand
          refine call_pure (hcand _ hw hn.2 (by omega)) ?_
          have hwi := world_inst hok hi
          have hk10 := hwi.1
          have h6 := hwi.2.2.2.2.2.1
          clear hwi
          have hism := hw.i i (List.mem_of_getElem? hi)
          have hnd := i_needs i n.t
          rw [hN] at hnd
          simp -dsimp only [go_sem, List.map_cons, List.map_nil, iRow, hi, Inst.row, hl, hta, ho, hoa, hlt, htl] at hnd ⊢
          refine call_pure (hnd _ hism hn.2.2 (by omega)) ?_
          have hno := needs_ok hok hw hi hN
          have hml := hno.1
          have hmm := hno.2
          clear hno
          have e : askS w gs (g + 1) n a = closeL ms (findL (askS w gs g) ms 0 (digitL k) (a + 1)) := by rw [eB]; unfold askB; rw [hcl]; simp only [hi, hN]
          rw [e]
          simp -dsimp only [go_sem, needsV]
          refine call_pure (l_Itoa k _ (by omega)) ?_
          have hln : ¬ l = h.n := by omega
          have htn : ¬ ta = h.n := by omega
          have hs6 : (st.length + 1) * 32 ≤ 140737488355328 := by omega
          simp -dsimp only [go_sem]
          refine ⟨?_, ?_⟩
          all_goals
            try simp -dsimp only [go_sem]
            refine call_pure (l_Clone_st st _ hst2) ?_
            simp -dsimp only [go_sem, List.length_map, hs6]
            have hp31 : 3 ^ g ≤ 3 ^ 30 := Nat.pow_le_pow_right (by decide) (by omega)
            have hp1 : 1 ≤ 3 ^ g := Nat.one_le_pow _ _ (by decide)
            have hp2 : 3 ^ g ≤ 205891132094649 := hp31
            have fb := askS_bd hok hw (gs := gs) g
            generalize hfd : askS w gs g = fd at fb ihg
            generalize 3 ^ g = B at hp1 hp2 fb
            refine loop_ruleH [3, 9, 112, 0] (fun (x : {x : Nat × L8 × Nat // x.1 ≤ ms.length ∧ findL fd ms 0 (digitL k) (a + 1) = findL fd (ms.drop x.1) x.1 x.2.1 x.2.2 ∧ x.2.2 ≤ 300 ∧ x.2.1.length ≤ 1 + x.1 * (5 * B)}) H => ([(15, str x.1.2.1), (16, .sl ((st ++ [n]).map Need.row)), (128, .v (.int .i64 (x.1.1 : Nat)))], ⟨h.n, upd (upd h.o l (.cells (aCells w gs ta x.1.2.2))) ta (.rows 28 2 (aRows x.1.2.2))⟩)) (fun x => ms.length - x.1.1) ⟨(0, digitL k, a + 1), Nat.zero_le _, rfl, by show a + 1 ≤ 300; omega, by show (digitL k).length ≤ 1 + 0 * _; simp [digitL]⟩ ?_ ?_
            · refine weak_objs [l, ta] (by simp -dsimp only [go_sem]) (by simp -dsimp only [go_sem]) (by simp -dsimp only [go_sem, hl, hln, List.map_append, Need.row, digitL, List.length_append, List.length_map]) ?_ ?_ ?_
              · intro x h1 h2; have h2 : ¬ x = l ∧ ¬ x = ta := by simpa using h2
                have h3 : ¬ x = h.n := by have h1 : x < h.n := h1; omega
                simp -dsimp only [go_sem, h2, h3]
              · intro x h1 h2; have h1 : x < h.n := h1; simp at h2 ⊢; omega
              · simp -dsimp only [go_sem, aCells, hlt, htl, hln, htn, hta, haf, Wld.row]
            · rintro ⟨⟨j, out, b⟩, hj, heq, hb300, hol⟩
              have hj : j ≤ ms.length := hj
              have heq : findL fd ms 0 (digitL k) (a + 1) = findL fd (ms.drop j) j out b := heq
              have hb300 : b ≤ 300 := hb300
              have hol : out.length ≤ 1 + j * (5 * B) := hol
              have hj1 : j + 1 ≤ 9223372036854775807 := by omega
              have hbf : ∀ (H : AH) (m : Nat) (c : Nat), ObjFz H m (.rows 28 2 (aRows c)) (.rows 28 2 (aRows c)) = True := fun H m c => eq_true (objFz_aRows (aRows_len c) (fun r hr => by rw [List.eq_of_mem_replicate hr]; rfl))
              by_cases hlj : j < ms.length
              · obtain ⟨m, hb⟩ := get_some hlj
                have hmok := (hmm m (List.mem_of_getElem? hb)).1
                rw [drop_get hb] at heq
                rw [findL_cons] at heq
                have hfb := fb m b hmok hb300
                have hrec := fun H g1 g2 g3 g4 => ihg l ta m b (st ++ [n]) H g1 g2 hlt g3 g4 hmok hb300 (by omega) (by rw [List.length_append, hst]; simp; omega)
                rw [stA_snoc] at hrec
                simp only [List.map_append, List.map_cons, List.map_nil, Need.row] at hrec
                simp -dsimp only [go_sem, hlj, hb, Need.row]
                refine call_turn (hrec _ (by simp -dsimp only [go_sem, hl]) (by simp -dsimp only [go_sem, hta]) (by simp -dsimp only [go_sem, hlt, hln]) (by simp -dsimp only [go_sem, htn])) (fun t ht _ => .inr ht) (fun t ht => by cases ht) ?_
                by_cases hwy : (fd m b).2.2 = []
                · rw [if_pos hwy] at heq
                  have hjB : j * (5 * B) ≤ 3 * (5 * B) := Nat.mul_le_mul_right _ (by omega)
                  have hl1 : (fd m b).1.length + 1 ≤ 9223372036854775807 := by omega
                  have hl2 : out.length + ((fd m b).1.length + 1) ≤ 9223372036854775807 := by omega
                  have hl1a : 1 + (fd m b).1.length ≤ 9223372036854775807 := by omega
                  have hl2a : out.length + (1 + (fd m b).1.length) ≤ 9223372036854775807 := by omega
                  by_cases hj0 : j = 0
                  · have es : sep j = 40 := by simp [sep, hj0]
                    have hji : (((j : Nat) : Int) = 0) = True := by exact eq_true (by omega)
                    have hji' : (j = 0) = True := by exact eq_true hj0
                    rw [es] at heq
                    simp -dsimp only [go_sem, hwy, hji, hji', hj1, hl1, hl2, hl1a, hl2a, List.length_append, List.length_cons, List.length_nil, Nat.zero_add]
                    refine round_to ⟨(j + 1, out ++ [40] ++ (fd m b).1, (fd m b).2.1), hlj, heq, hfb.2 hwy, ?_⟩ (by simp; omega) ?_
                    · show (out ++ [40] ++ (fd m b).1).length ≤ 1 + (j + 1) * (5 * B)
                      rw [List.length_append, List.length_append, Nat.succ_mul]
                      simp only [List.length_cons, List.length_nil]
                      omega
                    · refine weak_objs [l, ta] (by simp -dsimp only [go_sem]) (by simp -dsimp only [go_sem]) (by simp -dsimp only [go_sem, hl, List.map_append, Need.row, List.append_assoc]) ?_ ?_ ?_
                      · intro x h1 h2; have h2 : ¬ x = l ∧ ¬ x = ta := by simpa using h2
                        have h3 : ¬ x = h.n := by have h1 : x < h.n := h1; omega
                        simp -dsimp only [go_sem, h2, h3]
                      · intro x h1 h2; have h1 : x < h.n := h1; simp at h2 ⊢; omega
                      · simp -dsimp only [go_sem, aCells, hlt, htl, hln, htn, hta, hbf, Wld.row]
                  · have es : sep j = 44 := by simp [sep, hj0]
                    have hji : (((j : Nat) : Int) = 0) = False := by exact eq_false (by omega)
                    have hji' : (j = 0) = False := by exact eq_false hj0
                    rw [es] at heq
                    simp -dsimp only [go_sem, hwy, hji, hji', hj1, hl1, hl2, hl1a, hl2a, List.length_append, List.length_cons, List.length_nil, Nat.zero_add]
                    refine round_to ⟨(j + 1, out ++ [44] ++ (fd m b).1, (fd m b).2.1), hlj, heq, hfb.2 hwy, ?_⟩ (by simp; omega) ?_
                    · show (out ++ [44] ++ (fd m b).1).length ≤ 1 + (j + 1) * (5 * B)
                      rw [List.length_append, List.length_append, Nat.succ_mul]
                      simp only [List.length_cons, List.length_nil]
                      omega
                    · refine weak_objs [l, ta] (by simp -dsimp only [go_sem]) (by simp -dsimp only [go_sem]) (by simp -dsimp only [go_sem, hl, List.map_append, Need.row, List.append_assoc]) ?_ ?_ ?_
                      · intro x h1 h2; have h2 : ¬ x = l ∧ ¬ x = ta := by simpa using h2
                        have h3 : ¬ x = h.n := by have h1 : x < h.n := h1; omega
                        simp -dsimp only [go_sem, h2, h3]
                      · intro x h1 h2; have h1 : x < h.n := h1; simp at h2 ⊢; omega
                      · simp -dsimp only [go_sem, aCells, hlt, htl, hln, htn, hta, hbf, Wld.row]
                · rw [if_neg hwy] at heq
                  have ec : closeL ms (findL fd ms 0 (digitL k) (a + 1)) = ([], (fd m b).2.1, (fd m b).2.2) := by rw [heq]; unfold closeL; rw [if_neg hwy]
                  rw [ec]
                  simp -dsimp only [go_sem, hwy]
                  exact fin_two hlt (by simp -dsimp only [go_sem]) (by simp -dsimp only [go_sem]) (by simp -dsimp only [go_sem, aCells, hlt, hln, hta, Wld.row]) (by simp -dsimp only [go_sem, htn, hbf])
              · have hjm : j = ms.length := by omega
                have ed : ms.drop j = [] := List.drop_of_length_le (by omega)
                rw [ed] at heq
                rw [findL_nil] at heq
                have hjB : j * (5 * B) ≤ 3 * (5 * B) := Nat.mul_le_mul_right _ (by omega)
                have hl1 : out.length + 1 ≤ 9223372036854775807 := by omega
                by_cases hm0 : ms.length = 0
                · have hm0' : ¬ (0 : Int) < (ms.length : Nat) := by omega
                  have ec : closeL ms (findL fd ms 0 (digitL k) (a + 1)) = (out, b, []) := by rw [heq]; unfold closeL; simp [hm0]
                  rw [ec]
                  simp -dsimp only [go_sem, hlj, hm0']
                  exact fin_two hlt (by simp -dsimp only [go_sem]) (by simp -dsimp only [go_sem]) (by simp -dsimp only [go_sem, aCells, hlt, hta, Wld.row]) (by simp -dsimp only [go_sem, hbf])
                · have hm0' : (0 : Int) < (ms.length : Nat) := by omega
                  have ec : closeL ms (findL fd ms 0 (digitL k) (a + 1)) = (out ++ [41], b, []) := by rw [heq]; unfold closeL; simp [hm0]
                  rw [ec]
                  simp -dsimp only [go_sem, hlj, hm0', hl1]
                  exact fin_two hlt (by simp -dsimp only [go_sem]) (by simp -dsimp only [go_sem]) (by simp -dsimp only [go_sem, aCells, hlt, hta, Wld.row]) (by simp -dsimp only [go_sem, hbf])
        · rw [hcl] at hcand
          refine call_pure (hcand _ hw hn.2 (by omega)) ?_
          have e : askS w gs (g + 1) n a = ([], a + 1, manyL) := by rw [eB]; unfold askB; rw [hcl]
          rw [e]
          have hsp := i_mostSpecial w (k :: k2 :: rest)
          have hmo := many_ok hcl hwl
          have hml := hmo.1
          have hmi := hmo.2
          clear hmo
          have hmany : (1 : Int) < ((rest.length + 1 + 1 : Nat) : Int) := by omega
          have hmany0 : ¬ ((rest.length + 1 + 1 : Nat) : Int) = 0 := by omega
          simp only [List.map_cons, iRow, Wld.row] at hsp
          simp -dsimp only [go_sem, List.map_cons, hmany, hmany0, iRow, hl, hta, ho, hoa, hlt, htl]
          refine call_pure (hsp _ hw hml hmi) ?_
          simp -dsimp only [go_sem, hl, hta, ho, hoa, hlt, htl]
          refine call_one (hfail (a + 1) _ _ (by simp -dsimp only [go_sem, hl]) (by simp -dsimp only [go_sem, hta]) (by simp -dsimp only [go_sem, hlt, Wld.row]) hst2) (by simp -dsimp only [go_sem]) (by simp -dsimp only [go_sem]) ?_
          simp -dsimp only [go_sem]
          exact fin_two hlt (by simp -dsimp only [go_sem]) (by simp -dsimp only [go_sem, manyL]) (by simp -dsimp only [go_sem, ho, hoa, aCells, hta, htl, hlt, Wld.row, haf]) (by simp -dsimp only [go_sem, ho, hoa, aCells, hta, htl, hlt, haf])
  · have eS : askS w gs f n a = (givenL w gs n, a, []) := by
      cases f <;> simp [askS, hg]
    have e0 : gotB (givenL w gs n) = true := by
      unfold gotB
      cases hq : givenL w gs n with
      | nil => exact absurd hq hg
      | cons _ _ => rfl
    rw [e0, eS]
    simp -dsimp only [go_sem]
    exact fin_two hlt (by simp -dsimp only [go_sem]) (by simp -dsimp only [go_sem]) (by simp -dsimp only [go_sem, ho, hoa, aCells, hta, Wld.row, haf0]) (by simp -dsimp only [go_sem, ho, hoa, aCells, hta, haf0])
end Go.Proofs.YtiphcdmjlkngfaaGreatDoor

namespace Go.Proofs.YtiphcdmjlkngfaaGreatDoor
open Go Go.Isea
set_option maxRecDepth 100000
set_option maxHeartbeats 8000000
theorem i_ask {w : Wld} {gs : List Need} (hok : worldOk w = true) (hw : w.Sm) (hgs : gs.length ≤ 6) : ∀ f, AskOk w gs f
  | 0 => i_ask_step hok hw hgs fun g e => (by cases e)
  | f + 1 => i_ask_step hok hw hgs fun g e => by cases e; exact i_ask hok hw hgs f
def bCells (w : Wld) (gs : List Need) : List AV := [.sl (w.cs.map Cls.row), .sl (w.is.map Inst.row), .v (.bool false), .fn 255 [.ref w.row 0, .ref [.sl (gs.map Need.row)] 0], .v (.slice none 0 0), str [], str [], .v (.slice none 0 0)]
theorem i_ask_first {w : Wld} {gs : List Need} (hok : worldOk w = true) (hw : w.Sm) (hgs : gs.length ≤ 6) (l : Nat) (n : Need) (h : AH) (hl : l < h.n) (ho : h.o l = .cells (bCells w gs)) (hn : NOk w n) :
    ∃ o', Isea.Good Tryz.prog 129 [.ptr l 0, .agg n.row, .v (.slice none 0 0)] h [l] (.tup [str (findS w gs 31 n 0).1, str (findS w gs 31 n 0).2.2]) ⟨h.n + 1, o'⟩ := by
  obtain ⟨e1, e2, _⟩ := ask_find (w := w) (gs := gs) 31 n 0
  rw [← e1, ← e2]
  have hlt : ¬ l = h.n := by omega
  have := i_ask hok hw hgs 31 l h.n n 0 [] ⟨h.n + 1, upd (upd h.o l (.cells (aCells w gs h.n 0))) h.n (.rows 28 2 [])⟩ (by show l < h.n + 1; omega) (by show h.n < h.n + 1; omega) hlt
    (by show upd (upd h.o l _) h.n _ l = _; rw [upd_ne _ _ hlt, upd_same]) (by show upd (upd h.o l _) h.n _ h.n = _; rw [upd_same]; rfl) hn (by decide) (by decide) rfl
  refine ⟨_, Good.ghost (e := 28) (sz := 2) (cs := bCells w gs) (cs' := aCells w gs h.n 0) (by decide) hl ho rfl (fun i x y h1 h2 => ?_) this⟩
  unfold bCells at h1
  unfold aCells at h2
  rcases i with _ | _ | _ | _ | _ | _ | _ | _ | i <;> simp at h1 h2 <;> subst h1 <;> subst h2 <;> simp
theorem i_findGiven {w : Wld} {gs : List Need} (n : Need) (h : AH) (hok : worldOk w = true) (hw : w.Sm) (hgs : gs.length ≤ 6) (hn : NOk w n) :
    Isea.Good Tryz.prog 203 [.agg w.row, .sl (gs.map Need.row), .agg n.row] h [] (.tup [str (findS w gs 31 n 0).1, str (findS w gs 31 n 0).2.2]) h := by
  refine good [12] [] Tryz.func203 rfl rfl Tryz.ntmps203 (by kernel_rfl) mixed (by kernel_rfl) ?_
  simp -dsimp only [go_sem, Wld.row, Need.row]
  obtain ⟨o', hg⟩ := i_ask_first hok hw hgs h.n n ⟨h.n + 1, upd h.o h.n (.cells (bCells w gs))⟩ (by show h.n < h.n + 1; omega) (upd_same _ _ _) hn
  refine call_one hg (by simp -dsimp only [go_sem]) (by simp -dsimp only [go_sem]) ?_
  simp -dsimp only [go_sem]
  exact fin_pure (by simp -dsimp only [go_sem]) (by simp -dsimp only [go_sem])
theorem i_FindGiven (w : Wld) (gs : List Need) (n : Need) (h : AH) (hw : w.Sm) (hgl : gs.length ≤ 4611686018427387904) (hgs : ∀ g ∈ gs, g.Sm) (hn : n.Sm) :
    Isea.Good Tryz.prog 145 [.agg w.row, .sl (gs.map Need.row), .agg n.row] h [] (.tup [str (findGiven w gs n).1, str (findGiven w gs n).2]) h := by
  have bad : (givensOk w gs && (worldOk w && needOk w n)) = false → ∀ H : AH, h.n ≤ H.n → FinS [] h H (.tup [str [], str [119, 114, 111, 110, 103]]) h (.tup [str (findGiven w gs n).1, str (findGiven w gs n).2]) := fun e H hH => by
    refine fin_pure hH ?_
    unfold findGiven
    rw [e]
    simp -dsimp only [go_sem, Bool.false_eq_true, if_false, wrongL]
  have hgv := i_GivensValid w gs
  have hno := i_needOk w n
  refine good [] [] Tryz.func145 rfl rfl Tryz.ntmps145 (by kernel_rfl) mixed (by kernel_rfl) ?_
  simp -dsimp only [go_sem, Wld.row, Need.row] at hgv hno ⊢
  refine call_pure (hgv _ hw hgl hgs) ?_
  cases hg : givensOk w gs with
  | false =>
    simp -dsimp only [go_sem]
    exact bad (by rw [hg]; rfl) _ (by simp -dsimp only [go_sem])
  | true =>
    simp -dsimp only [go_sem]
    refine call_pure (hno _ hw hn) ?_
    cases e : needOk w n with
    | false =>
      simp -dsimp only [go_sem]
      exact bad (by rw [hg, e]; simp) _ (by simp -dsimp only [go_sem])
    | true =>
      have hok : worldOk w = true := by
        have := hg
        simp only [givensOk, Bool.and_eq_true] at this
        exact this.1.2
      have hg6 : gs.length ≤ 6 := by
        have := hg
        simp only [givensOk, Bool.and_eq_true, decide_eq_true_eq] at this
        exact this.2
      have eF : findGiven w gs n = ((findS w gs 31 n 0).1, (findS w gs 31 n 0).2.2) := by unfold findGiven; rw [hg, e, hok]; rfl
      have hnk : NOk w n := ⟨by have := e; simp only [needOk, Bool.and_eq_true, decide_eq_true_eq] at this; exact this.1, hn⟩
      rw [eF]
      have hF := i_findGiven (w := w) (gs := gs) n
      simp -dsimp only [go_sem, Wld.row, Need.row] at hF ⊢
      refine call_pure (hF _ hok hw hg6 hnk) ?_
      simp -dsimp only [go_sem]
      exact fin_pure (by simp -dsimp only [go_sem]) (by simp -dsimp only [go_sem])
end Go.Proofs.YtiphcdmjlkngfaaGreatDoor

namespace Go.Isea
open Go
/-- as long as a length may be -/
def Need.Mx (n : Need) : Prop := n.c.length ≤ 9223372036854775807 ∧ n.t.length ≤ 9223372036854775807
def Cls.Mx (n : Cls) : Prop := n.n.length ≤ 9223372036854775807 ∧ n.s.length ≤ 9223372036854775807
def Inst.Mx (i : Inst) : Prop := i.c.length ≤ 9223372036854775807 ∧ i.t.length ≤ 9223372036854775807 ∧ i.ns.length ≤ 9223372036854775807 ∧ ∀ n ∈ i.ns, n.Mx
structure Wld.Mx (w : Wld) : Prop where
  cl : w.cs.length ≤ 9223372036854775807
  c : ∀ c ∈ w.cs, c.Mx
  il : w.is.length ≤ 9223372036854775807
  i : ∀ i ∈ w.is, i.Mx
def cutN (L s : Nat) : Int := if s ≤ L then ((L - s : Nat) : Int) else -1
theorem wrap_sub_le {L s : Nat} (h : s ≤ L) (hL : L ≤ 1048576) : IntKind.i64.wrap ((L : Int) - (s : Int)) = ((L - s : Nat) : Int) := by rw [wrap_i64] <;> omega
theorem wrap_sub_gt {L s : Nat} (h : ¬ s ≤ L) (hL : L ≤ 1048576) (hs : s ≤ 9223372036854775807) : IntKind.i64.wrap ((L : Int) - (s : Int)) = (L : Int) - (s : Int) := by rw [wrap_i64] <;> omega
def Need.sz (n : Need) : Nat := n.c.length + n.t.length
def Cls.sz (n : Cls) : Nat := n.n.length + n.s.length
def szL {α : Type} (f : α → Nat) : List α → Nat
  | [] => 0
  | a :: l => f a + szL f l
def szS {α : Type} (f : α → Nat) (l : List α) : Nat := l.length + szL f l
def Inst.sz (i : Inst) : Nat := i.c.length + i.t.length + szS Need.sz i.ns
def Wld.sz (w : Wld) : Nat := szS Cls.sz w.cs + szS Inst.sz w.is
theorem cutN_yes {L s : Nat} (h : s ≤ L) : cutN L s = ((L - s : Nat) : Int) := if_pos h
theorem cutN_no {L s : Nat} (h : ¬ s ≤ L) : cutN L s = -1 := if_neg h
theorem szL_drop {α : Type} (f : α → Nat) {l : List α} {k : Nat} {a : α} (h : l[k]? = some a) : szL f (l.drop k) = f a + szL f (l.drop (k + 1)) := by
  rw [drop_get h]; rfl
end Go.Isea
namespace Go.Proofs.YtiphcdmjlkngfaaGreatDoor
open Go Go.Isea
set_option maxRecDepth 100000
set_option maxHeartbeats 8000000
theorem w_szNeed (n : Need) (L : Nat) (h : AH) (hL : L ≤ 1048576) (hn : n.Mx) : Isea.Good Tryz.prog 54 [.agg n.row, .v (.int .i64 (L : Nat))] h [] (.v (.int .i64 (cutN L n.sz))) h := by
  have hn1 := hn.1
  have hn2 := hn.2
  refine good [] [] Tryz.func54 rfl rfl Tryz.ntmps54 (by kernel_rfl) mixed (by kernel_rfl) ?_
  by_cases h1 : n.c.length ≤ L
  · have w1 := wrap_sub_le h1 hL
    by_cases h2 : n.t.length ≤ L - n.c.length
    · have w2 := wrap_sub_le h2 (by omega)
      have e : cutN L n.sz = ((L - n.c.length - n.t.length : Nat) : Int) := by rw [cutN_yes (by unfold Need.sz; omega)]; unfold Need.sz; omega
      rw [e]
      have g1 : ¬ ((L - n.c.length : Nat) : Int) < 0 := by omega
      have g2 : ¬ ((L - n.c.length - n.t.length : Nat) : Int) < 0 := by omega
      simp -dsimp only [go_sem, Need.row, w1, w2, g1, g2]
      exact fin_int (by simp -dsimp only [go_sem]) rfl
    · have w2 := wrap_sub_gt h2 (by omega) hn2
      have g1 : ¬ ((L - n.c.length : Nat) : Int) < 0 := by omega
      have g2 : ((L - n.c.length : Nat) : Int) - (n.t.length : Nat) < 0 := by omega
      rw [cutN_no (by unfold Need.sz; omega)]
      simp -dsimp only [go_sem, Need.row, w1, w2, g1, g2]
      exact fin_int (by simp -dsimp only [go_sem]) rfl
  · have w1 := wrap_sub_gt h1 hL hn1
    have g1 : ((L : Nat) : Int) - (n.c.length : Nat) < 0 := by omega
    rw [cutN_no (by unfold Need.sz; omega)]
    simp -dsimp only [go_sem, Need.row, w1, g1]
    exact fin_int (by simp -dsimp only [go_sem]) rfl
theorem w_szClass (n : Cls) (L : Nat) (h : AH) (hL : L ≤ 1048576) (hn : n.Mx) : Isea.Good Tryz.prog 181 [.agg n.row, .v (.int .i64 (L : Nat))] h [] (.v (.int .i64 (cutN L n.sz))) h := by
  have hn1 := hn.1
  have hn2 := hn.2
  refine good [] [] Tryz.func181 rfl rfl Tryz.ntmps181 (by kernel_rfl) mixed (by kernel_rfl) ?_
  by_cases h1 : n.n.length ≤ L
  · have w1 := wrap_sub_le h1 hL
    by_cases h2 : n.s.length ≤ L - n.n.length
    · have w2 := wrap_sub_le h2 (by omega)
      have e : cutN L n.sz = ((L - n.n.length - n.s.length : Nat) : Int) := by rw [cutN_yes (by unfold Cls.sz; omega)]; unfold Cls.sz; omega
      rw [e]
      have g1 : ¬ ((L - n.n.length : Nat) : Int) < 0 := by omega
      have g2 : ¬ ((L - n.n.length - n.s.length : Nat) : Int) < 0 := by omega
      simp -dsimp only [go_sem, Cls.row, w1, w2, g1, g2]
      exact fin_int (by simp -dsimp only [go_sem]) rfl
    · have w2 := wrap_sub_gt h2 (by omega) hn2
      have g1 : ¬ ((L - n.n.length : Nat) : Int) < 0 := by omega
      have g2 : ((L - n.n.length : Nat) : Int) - (n.s.length : Nat) < 0 := by omega
      rw [cutN_no (by unfold Cls.sz; omega)]
      simp -dsimp only [go_sem, Cls.row, w1, w2, g1, g2]
      exact fin_int (by simp -dsimp only [go_sem]) rfl
  · have w1 := wrap_sub_gt h1 hL hn1
    have g1 : ((L : Nat) : Int) - (n.n.length : Nat) < 0 := by omega
    rw [cutN_no (by unfold Cls.sz; omega)]
    simp -dsimp only [go_sem, Cls.row, w1, g1]
    exact fin_int (by simp -dsimp only [go_sem]) rfl
theorem w_szNeedS (l : List Need) (L : Nat) (h : AH) (hL : L ≤ 1048576) (hl : l.length ≤ 9223372036854775807) (hn : ∀ n ∈ l, n.Mx) : Isea.Good Tryz.prog 243 [.sl (l.map Need.row), .v (.int .i64 (L : Nat))] h [] (.v (.int .i64 (cutN L (szS Need.sz l)))) h := by
  refine good [] [] Tryz.func243 rfl rfl Tryz.ntmps243 (by kernel_rfl) mixed (by kernel_rfl) ?_
  by_cases h1 : l.length ≤ L
  · have w1 := wrap_sub_le h1 hL
    have g1 : ¬ ((L - l.length : Nat) : Int) < 0 := by omega
    simp -dsimp only [go_sem, w1, g1]
    refine loop_ruleH [0] (fun (x : {x : Nat × Nat // x.1 ≤ l.length ∧ x.2 ≤ 1048576 ∧ ∀ s, s = szL Need.sz (l.drop x.1) → cutN L (szS Need.sz l) = cutN x.2 s}) H => ([(1, .v (.int .i64 (x.1.2 : Nat))), (5, .v (.int .i64 (x.1.1 : Nat)))], H)) (fun x => l.length - x.1.1) ⟨(0, L - l.length), Nat.zero_le _, by show L - l.length ≤ _; omega, fun s hs => ?_⟩ ?_ ?_
    · have hs : s = szL Need.sz l := hs
      subst hs
      unfold cutN szS
      by_cases g : l.length + szL Need.sz l ≤ L
      · rw [if_pos g, if_pos (show szL Need.sz l ≤ L - l.length by omega)]; omega
      · rw [if_neg g, if_neg (show ¬ szL Need.sz l ≤ L - l.length by omega)]
    · exact weak_at rfl (by simp -dsimp only [go_sem]) (fun x hx => by simp -dsimp only [go_sem, hx]) (by simp -dsimp only [go_sem])
    · rintro ⟨⟨k, M⟩, hk, hM, hinv⟩
      have hk : k ≤ l.length := hk
      have hM : M ≤ 1048576 := hM
      have hinv : ∀ s, s = szL Need.sz (l.drop k) → cutN L (szS Need.sz l) = cutN M s := hinv
      have hk1 : k + 1 ≤ 9223372036854775807 := by omega
      by_cases hlt : k < l.length
      · obtain ⟨n, hb⟩ := get_some hlt
        have hns := hn n (List.mem_of_getElem? hb)
        have hstep := hinv _ rfl
        rw [szL_drop Need.sz hb] at hstep
        have hg := w_szNeed n M
        simp -dsimp only [go_sem, hlt, hb, Need.row] at hg ⊢
        refine call_pure (hg _ hM hns) ?_
        by_cases g : n.sz ≤ M
        · rw [cutN_yes g]
          have g0 : ¬ ((M - n.sz : Nat) : Int) < 0 := by omega
          simp -dsimp only [go_sem, g0, hk1]
          refine round_to ⟨(k + 1, M - n.sz), hlt, by show M - n.sz ≤ _; omega, fun s hs => ?_⟩ (by simp; omega) (weak_at rfl (by simp -dsimp only [go_sem]) (fun x hx => by simp -dsimp only [go_sem, hx]) (by simp -dsimp only [go_sem]))
          have hs : s = szL Need.sz (l.drop (k + 1)) := hs
          subst hs
          rw [hstep]
          show cutN M _ = cutN (M - n.sz) _
          unfold cutN
          by_cases g3 : n.sz + szL Need.sz (l.drop (k + 1)) ≤ M
          · rw [if_pos g3, if_pos (show szL Need.sz (l.drop (k + 1)) ≤ M - n.sz by omega)]; omega
          · rw [if_neg g3, if_neg (show ¬ szL Need.sz (l.drop (k + 1)) ≤ M - n.sz by omega)]
        · rw [cutN_no g]
          have e3 : cutN M (n.sz + szL Need.sz (l.drop (k + 1))) = -1 := cutN_no (by omega)
          rw [e3] at hstep
          simp -dsimp only [go_sem]
          exact fin_int (by simp -dsimp only [go_sem]) hstep.symm
      · have e : szL Need.sz (l.drop k) = 0 := by rw [List.drop_of_length_le (by omega)]; rfl
        have e1 := hinv 0 e.symm
        rw [cutN_yes (Nat.zero_le _), Nat.sub_zero] at e1
        simp -dsimp only [go_sem, hlt]
        exact fin_int (by simp -dsimp only [go_sem]) e1.symm
  · have w1 := wrap_sub_gt h1 hL hl
    have g1 : ((L : Nat) : Int) - (l.length : Nat) < 0 := by omega
    rw [cutN_no (by unfold szS; omega)]
    simp -dsimp only [go_sem, w1, g1]
    exact fin_int (by simp -dsimp only [go_sem]) rfl
theorem w_szClassS (l : List Cls) (L : Nat) (h : AH) (hL : L ≤ 1048576) (hl : l.length ≤ 9223372036854775807) (hn : ∀ n ∈ l, n.Mx) : Isea.Good Tryz.prog 115 [.sl (l.map Cls.row), .v (.int .i64 (L : Nat))] h [] (.v (.int .i64 (cutN L (szS Cls.sz l)))) h := by
  refine good [] [] Tryz.func115 rfl rfl Tryz.ntmps115 (by kernel_rfl) mixed (by kernel_rfl) ?_
  by_cases h1 : l.length ≤ L
  · have w1 := wrap_sub_le h1 hL
    have g1 : ¬ ((L - l.length : Nat) : Int) < 0 := by omega
    simp -dsimp only [go_sem, w1, g1]
    refine loop_ruleH [0] (fun (x : {x : Nat × Nat // x.1 ≤ l.length ∧ x.2 ≤ 1048576 ∧ ∀ s, s = szL Cls.sz (l.drop x.1) → cutN L (szS Cls.sz l) = cutN x.2 s}) H => ([(1, .v (.int .i64 (x.1.2 : Nat))), (5, .v (.int .i64 (x.1.1 : Nat)))], H)) (fun x => l.length - x.1.1) ⟨(0, L - l.length), Nat.zero_le _, by show L - l.length ≤ _; omega, fun s hs => ?_⟩ ?_ ?_
    · have hs : s = szL Cls.sz l := hs
      subst hs
      unfold cutN szS
      by_cases g : l.length + szL Cls.sz l ≤ L
      · rw [if_pos g, if_pos (show szL Cls.sz l ≤ L - l.length by omega)]; omega
      · rw [if_neg g, if_neg (show ¬ szL Cls.sz l ≤ L - l.length by omega)]
    · exact weak_at rfl (by simp -dsimp only [go_sem]) (fun x hx => by simp -dsimp only [go_sem, hx]) (by simp -dsimp only [go_sem])
    · rintro ⟨⟨k, M⟩, hk, hM, hinv⟩
      have hk : k ≤ l.length := hk
      have hM : M ≤ 1048576 := hM
      have hinv : ∀ s, s = szL Cls.sz (l.drop k) → cutN L (szS Cls.sz l) = cutN M s := hinv
      have hk1 : k + 1 ≤ 9223372036854775807 := by omega
      by_cases hlt : k < l.length
      · obtain ⟨n, hb⟩ := get_some hlt
        have hns := hn n (List.mem_of_getElem? hb)
        have hstep := hinv _ rfl
        rw [szL_drop Cls.sz hb] at hstep
        have hg := w_szClass n M
        simp -dsimp only [go_sem, hlt, hb, Cls.row] at hg ⊢
        refine call_pure (hg _ hM hns) ?_
        by_cases g : n.sz ≤ M
        · rw [cutN_yes g]
          have g0 : ¬ ((M - n.sz : Nat) : Int) < 0 := by omega
          simp -dsimp only [go_sem, g0, hk1]
          refine round_to ⟨(k + 1, M - n.sz), hlt, by show M - n.sz ≤ _; omega, fun s hs => ?_⟩ (by simp; omega) (weak_at rfl (by simp -dsimp only [go_sem]) (fun x hx => by simp -dsimp only [go_sem, hx]) (by simp -dsimp only [go_sem]))
          have hs : s = szL Cls.sz (l.drop (k + 1)) := hs
          subst hs
          rw [hstep]
          show cutN M _ = cutN (M - n.sz) _
          unfold cutN
          by_cases g3 : n.sz + szL Cls.sz (l.drop (k + 1)) ≤ M
          · rw [if_pos g3, if_pos (show szL Cls.sz (l.drop (k + 1)) ≤ M - n.sz by omega)]; omega
          · rw [if_neg g3, if_neg (show ¬ szL Cls.sz (l.drop (k + 1)) ≤ M - n.sz by omega)]
        · rw [cutN_no g]
          have e3 : cutN M (n.sz + szL Cls.sz (l.drop (k + 1))) = -1 := cutN_no (by omega)
          rw [e3] at hstep
          simp -dsimp only [go_sem]
          exact fin_int (by simp -dsimp only [go_sem]) hstep.symm
      · have e : szL Cls.sz (l.drop k) = 0 := by rw [List.drop_of_length_le (by omega)]; rfl
        have e1 := hinv 0 e.symm
        rw [cutN_yes (Nat.zero_le _), Nat.sub_zero] at e1
        simp -dsimp only [go_sem, hlt]
        exact fin_int (by simp -dsimp only [go_sem]) e1.symm
  · have w1 := wrap_sub_gt h1 hL hl
    have g1 : ((L : Nat) : Int) - (l.length : Nat) < 0 := by omega
    rw [cutN_no (by unfold szS; omega)]
    simp -dsimp only [go_sem, w1, g1]
    exact fin_int (by simp -dsimp only [go_sem]) rfl
theorem w_szInstance (n : Inst) (L : Nat) (h : AH) (hL : L ≤ 1048576) (hn : n.Mx) : Isea.Good Tryz.prog 182 [.agg n.row, .v (.int .i64 (L : Nat))] h [] (.v (.int .i64 (cutN L n.sz))) h := by
  have hg := w_szNeed ⟨n.c, n.t⟩ L
  have hs := w_szNeedS n.ns
  refine good [] [] Tryz.func182 rfl rfl Tryz.ntmps182 (by kernel_rfl) mixed (by kernel_rfl) ?_
  simp -dsimp only [go_sem, Inst.row, Need.row] at hg ⊢
  refine call_pure (hg _ hL ⟨hn.1, hn.2.1⟩) ?_
  by_cases h1 : (Need.mk n.c n.t).sz ≤ L
  · have h1' : n.c.length + n.t.length ≤ L := h1
    rw [cutN_yes h1]
    have g1 : ¬ ((L - (Need.mk n.c n.t).sz : Nat) : Int) < 0 := by omega
    simp -dsimp only [go_sem, g1]
    refine call_pure (hs (L - (Need.mk n.c n.t).sz) _ (by omega) hn.2.2.1 hn.2.2.2) ?_
    have e0 : (Need.mk n.c n.t).sz = n.c.length + n.t.length := rfl
    by_cases h2 : szS Need.sz n.ns ≤ L - (Need.mk n.c n.t).sz
    · rw [cutN_yes h2, cutN_yes (by unfold Inst.sz; omega)]
      have g2 : ¬ ((L - (Need.mk n.c n.t).sz - szS Need.sz n.ns : Nat) : Int) < 0 := by omega
      simp -dsimp only [go_sem, g2]
      exact fin_int (by simp -dsimp only [go_sem]) (by unfold Inst.sz; omega)
    · rw [cutN_no h2, cutN_no (by unfold Inst.sz; omega)]
      simp -dsimp only [go_sem]
      exact fin_int (by simp -dsimp only [go_sem]) rfl
  · have h1' : ¬ n.c.length + n.t.length ≤ L := h1
    rw [cutN_no h1, cutN_no (by unfold Inst.sz; omega)]
    simp -dsimp only [go_sem]
    exact fin_int (by simp -dsimp only [go_sem]) rfl
theorem w_szInstanceS (l : List Inst) (L : Nat) (h : AH) (hL : L ≤ 1048576) (hl : l.length ≤ 9223372036854775807) (hn : ∀ n ∈ l, n.Mx) : Isea.Good Tryz.prog 116 [.sl (l.map Inst.row), .v (.int .i64 (L : Nat))] h [] (.v (.int .i64 (cutN L (szS Inst.sz l)))) h := by
  refine good [] [] Tryz.func116 rfl rfl Tryz.ntmps116 (by kernel_rfl) mixed (by kernel_rfl) ?_
  by_cases h1 : l.length ≤ L
  · have w1 := wrap_sub_le h1 hL
    have g1 : ¬ ((L - l.length : Nat) : Int) < 0 := by omega
    simp -dsimp only [go_sem, w1, g1]
    refine loop_ruleH [0] (fun (x : {x : Nat × Nat // x.1 ≤ l.length ∧ x.2 ≤ 1048576 ∧ ∀ s, s = szL Inst.sz (l.drop x.1) → cutN L (szS Inst.sz l) = cutN x.2 s}) H => ([(1, .v (.int .i64 (x.1.2 : Nat))), (5, .v (.int .i64 (x.1.1 : Nat)))], H)) (fun x => l.length - x.1.1) ⟨(0, L - l.length), Nat.zero_le _, by show L - l.length ≤ _; omega, fun s hs => ?_⟩ ?_ ?_
    · have hs : s = szL Inst.sz l := hs
      subst hs
      unfold cutN szS
      by_cases g : l.length + szL Inst.sz l ≤ L
      · rw [if_pos g, if_pos (show szL Inst.sz l ≤ L - l.length by omega)]; omega
      · rw [if_neg g, if_neg (show ¬ szL Inst.sz l ≤ L - l.length by omega)]
    · exact weak_at rfl (by simp -dsimp only [go_sem]) (fun x hx => by simp -dsimp only [go_sem, hx]) (by simp -dsimp only [go_sem])
    · rintro ⟨⟨k, M⟩, hk, hM, hinv⟩
      have hk : k ≤ l.length := hk
      have hM : M ≤ 1048576 := hM
      have hinv : ∀ s, s = szL Inst.sz (l.drop k) → cutN L (szS Inst.sz l) = cutN M s := hinv
      have hk1 : k + 1 ≤ 9223372036854775807 := by omega
      by_cases hlt : k < l.length
      · obtain ⟨n, hb⟩ := get_some hlt
        have hns := hn n (List.mem_of_getElem? hb)
        have hstep := hinv _ rfl
        rw [szL_drop Inst.sz hb] at hstep
        have hg := w_szInstance n M
        simp -dsimp only [go_sem, hlt, hb, Inst.row] at hg ⊢
        refine call_pure (hg _ hM hns) ?_
        by_cases g : n.sz ≤ M
        · rw [cutN_yes g]
          have g0 : ¬ ((M - n.sz : Nat) : Int) < 0 := by omega
          simp -dsimp only [go_sem, g0, hk1]
          refine round_to ⟨(k + 1, M - n.sz), hlt, by show M - n.sz ≤ _; omega, fun s hs => ?_⟩ (by simp; omega) (weak_at rfl (by simp -dsimp only [go_sem]) (fun x hx => by simp -dsimp only [go_sem, hx]) (by simp -dsimp only [go_sem]))
          have hs : s = szL Inst.sz (l.drop (k + 1)) := hs
          subst hs
          rw [hstep]
          show cutN M _ = cutN (M - n.sz) _
          unfold cutN
          by_cases g3 : n.sz + szL Inst.sz (l.drop (k + 1)) ≤ M
          · rw [if_pos g3, if_pos (show szL Inst.sz (l.drop (k + 1)) ≤ M - n.sz by omega)]; omega
          · rw [if_neg g3, if_neg (show ¬ szL Inst.sz (l.drop (k + 1)) ≤ M - n.sz by omega)]
        · rw [cutN_no g]
          have e3 : cutN M (n.sz + szL Inst.sz (l.drop (k + 1))) = -1 := cutN_no (by omega)
          rw [e3] at hstep
          simp -dsimp only [go_sem]
          exact fin_int (by simp -dsimp only [go_sem]) hstep.symm
      · have e : szL Inst.sz (l.drop k) = 0 := by rw [List.drop_of_length_le (by omega)]; rfl
        have e1 := hinv 0 e.symm
        rw [cutN_yes (Nat.zero_le _), Nat.sub_zero] at e1
        simp -dsimp only [go_sem, hlt]
        exact fin_int (by simp -dsimp only [go_sem]) e1.symm
  · have w1 := wrap_sub_gt h1 hL hl
    have g1 : ((L : Nat) : Int) - (l.length : Nat) < 0 := by omega
    rw [cutN_no (by unfold szS; omega)]
    simp -dsimp only [go_sem, w1, g1]
    exact fin_int (by simp -dsimp only [go_sem]) rfl
theorem w_szWorld (w : Wld) (L : Nat) (h : AH) (hL : L ≤ 1048576) (hw : w.Mx) : Isea.Good Tryz.prog 53 [.agg w.row, .v (.int .i64 (L : Nat))] h [] (.v (.int .i64 (cutN L w.sz))) h := by
  have hg := w_szClassS w.cs L
  have hs := w_szInstanceS w.is
  refine good [] [] Tryz.func53 rfl rfl Tryz.ntmps53 (by kernel_rfl) mixed (by kernel_rfl) ?_
  simp -dsimp only [go_sem, Wld.row] at hg ⊢
  refine call_pure (hg _ hL hw.cl hw.c) ?_
  by_cases h1 : szS Cls.sz w.cs ≤ L
  · rw [cutN_yes h1]
    have g1 : ¬ ((L - szS Cls.sz w.cs : Nat) : Int) < 0 := by omega
    simp -dsimp only [go_sem, g1]
    refine call_pure (hs (L - szS Cls.sz w.cs) _ (by omega) hw.il hw.i) ?_
    by_cases h2 : szS Inst.sz w.is ≤ L - szS Cls.sz w.cs
    · rw [cutN_yes h2, cutN_yes (by unfold Wld.sz; omega)]
      have g2 : ¬ ((L - szS Cls.sz w.cs - szS Inst.sz w.is : Nat) : Int) < 0 := by omega
      simp -dsimp only [go_sem, g2]
      exact fin_int (by simp -dsimp only [go_sem]) (by unfold Wld.sz; omega)
    · rw [cutN_no h2, cutN_no (by unfold Wld.sz; omega)]
      simp -dsimp only [go_sem]
      exact fin_int (by simp -dsimp only [go_sem]) rfl
  · rw [cutN_no h1, cutN_no (by unfold Wld.sz; omega)]
    simp -dsimp only [go_sem]
    exact fin_int (by simp -dsimp only [go_sem]) rfl
end Go.Proofs.YtiphcdmjlkngfaaGreatDoor

namespace Go.Isea
open Go
def Need.Ok (_ : Need) : Prop := True
def Cls.Ok (_ : Cls) : Prop := True
def Inst.Ok (i : Inst) : Prop := i.ns.length ≤ 1048576
def fillR {α : Type} (f : α → List AV) (sz : Nat) (l : List α) (k : Nat) : List (List AV) := (l.take k).map f ++ List.replicate (l.length - k) (List.replicate sz .junk)
theorem fillR_len {α : Type} {f : α → List AV} {sz : Nat} {l : List α} {k : Nat} (hk : k ≤ l.length) : (fillR f sz l k).length = l.length := by
  unfold fillR
  rw [List.length_append, List.length_map, List.length_take, List.length_replicate]
  omega
theorem fillR_get {α : Type} {f : α → List AV} {sz : Nat} {l : List α} {k : Nat} (hk : k < l.length) : (fillR f sz l k)[k]? = some (List.replicate sz .junk) := by
  unfold fillR
  have e : ((l.take k).map f).length = k := by rw [List.length_map, List.length_take]; omega
  rw [List.getElem?_append_right (by omega), e, Nat.sub_self, List.getElem?_replicate, if_pos (by omega)]
theorem fillR_set {α : Type} {f : α → List AV} {sz : Nat} {l : List α} {k : Nat} {a : α} (ha : l[k]? = some a) : (fillR f sz l k).set k (f a) = fillR f sz l (k + 1) := by
  obtain ⟨hk, e⟩ := List.getElem?_eq_some_iff.1 ha
  have e1 : ((l.take k).map f).length = k := by rw [List.length_map, List.length_take]; omega
  have e2 : l.take (k + 1) = l.take k ++ [a] := by rw [List.take_succ_eq_append_getElem hk, e]
  have e3 : l.length - k = (l.length - (k + 1)) + 1 := by omega
  unfold fillR
  rw [List.set_append_right _ _ (by omega), e1, Nat.sub_self, e3, List.replicate_succ, List.set_cons_zero, e2, List.map_append]
  simp
theorem fillR_all {α : Type} {f : α → List AV} {sz : Nat} {l : List α} : fillR f sz l l.length = l.map f := by
  unfold fillR
  rw [List.take_length, Nat.sub_self]; simp
theorem fillR_pu {α : Type} {f : α → List AV} {sz : Nat} {l : List α} {k : Nat} (hf : ∀ a, PuL (f a)) : PuR (fillR f sz l k) = True := by
  unfold fillR
  rw [puR_app, puR_map hf]
  have : PuR (List.replicate (l.length - k) (List.replicate sz AV.junk)) := fun n r hr x hx => by
    rw [List.eq_of_mem_replicate hr] at hx
    rw [List.eq_of_mem_replicate hx]
    exact .junk
  simp [this]
theorem fillR_row {α : Type} {f : α → List AV} {sz : Nat} {l : List α} {k : Nat} (hf : ∀ a, (f a).length = sz) : (∀ r, r ∈ fillR f sz l k → r.length = sz) = True := by
  refine eq_true fun r hr => ?_
  unfold fillR at hr
  rcases List.mem_append.1 hr with hr | hr
  · obtain ⟨a, _, rfl⟩ := List.mem_map.1 hr
    exact hf a
  · rw [List.eq_of_mem_replicate hr, List.length_replicate]
theorem objFz_fill {α : Type} {f : α → List AV} {h : AH} {m e sz : Nat} {l : List α} {rs : List (List AV)} (hl : rs.length = l.length) (h2 : ∀ r ∈ rs, r.length = sz) : ObjFz h m (.rows e sz rs) (.rows e sz (fillR f sz l 0)) := by
  have e0 : fillR f sz l 0 = List.replicate l.length (List.replicate sz .junk) := by simp [fillR]
  rw [e0]
  refine ⟨rfl, rfl, by rw [List.length_replicate, hl], fun i r r' g1 g2 => ?_, fun i j r r' x y g1 g2 g3 g4 => ?_⟩
  · rw [List.eq_of_mem_replicate (List.mem_of_getElem? g2), List.length_replicate, h2 r (List.mem_of_getElem? g1)]
  · rw [List.eq_of_mem_replicate (List.mem_of_getElem? g2)] at g4
    rw [List.eq_of_mem_replicate (List.mem_of_getElem? g4)]
    exact .junk _
end Go.Isea
namespace Go.Proofs.YtiphcdmjlkngfaaGreatDoor
open Go Go.Isea
set_option maxRecDepth 100000
set_option maxHeartbeats 8000000
theorem w_toNeed (n : Need) (h : AH) (_ : n.Ok) : Isea.Good Tryz.prog 56 [.agg n.row] h [] (.agg n.row) h := by
  refine good [] [] Tryz.func56 rfl rfl Tryz.ntmps56 (by kernel_rfl) mixed (by kernel_rfl) ?_
  simp -dsimp only [go_sem, Need.row]
  exact fin_pure (by simp -dsimp only [go_sem]) (by simp -dsimp only [go_sem])
theorem w_toClass (n : Cls) (h : AH) (_ : n.Ok) : Isea.Good Tryz.prog 183 [.agg n.row] h [] (.agg n.row) h := by
  refine good [] [] Tryz.func183 rfl rfl Tryz.ntmps183 (by kernel_rfl) mixed (by kernel_rfl) ?_
  simp -dsimp only [go_sem, Cls.row]
  exact fin_pure (by simp -dsimp only [go_sem]) (by simp -dsimp only [go_sem])
theorem w_toNeedS (l : List Need) (h : AH) (hl : l.length ≤ 1048576) (hn : ∀ n ∈ l, n.Ok) : Isea.Good Tryz.prog 244 [.sl (l.map Need.row)] h [] (.sl (l.map Need.row)) h := by
  have e6 : l.length * 32 ≤ 140737488355328 := by omega
  refine good [] [] Tryz.func244 rfl rfl Tryz.ntmps244 (by kernel_rfl) mixed (by kernel_rfl) ?_
  simp -dsimp only [go_sem, e6]
  refine loop_ruleH [0, 2] (fun (k : {k : Nat // k ≤ l.length}) H => ([(4, .v (.int .i64 (k.1 : Nat)))], ⟨H.n, upd H.o h.n (.rows 28 2 (fillR Need.row 2 l k.1))⟩)) (fun k => l.length - k.1) ⟨0, Nat.zero_le _⟩ ?_ ?_
  · refine weak_objs [h.n] (by simp -dsimp only [go_sem]) (by simp -dsimp only [go_sem]) (by simp -dsimp only [go_sem]) ?_ ?_ ?_
    · intro x h1 h2; simp -dsimp only [go_sem, h1]
    · intro x h1 h2; have h1 : x < h.n + 1 := h1; simp at h2 ⊢; omega
    · simp -dsimp only [go_sem]
      exact objFz_fill (by simp) (fun r hr => by rw [List.eq_of_mem_replicate hr]; rfl)
  · rintro ⟨k, hk⟩
    have hk1 : k + 1 ≤ 9223372036854775807 := by omega
    have hfl := fillR_len (f := Need.row) (sz := 2) hk
    by_cases hlt : k < l.length
    · obtain ⟨n, hb⟩ := get_some hlt
      have hg := w_toNeed n
      have hno := hn n (List.mem_of_getElem? hb)
      have hfg := fillR_get (f := Need.row) (sz := 2) hlt
      have hfs := fillR_set (f := Need.row) (sz := 2) hb
      have hfa := fillR_row (f := Need.row) (sz := 2) (l := l) (k := k) (fun _ => rfl)
      have hpu := fillR_pu (f := Need.row) (sz := 2) (l := l) (k := k + 1) Need.pu
      simp -dsimp only [go_sem, hlt, hb, Need.row] at hg hfs ⊢
      refine call_pure (hg _ hno) ?_
      simp -dsimp only [go_sem, hfl, hfg, hfa, hlt, hk1, hfs]
      refine round_to ⟨k + 1, hlt⟩ (by simp; omega) ?_
      refine weak_objs [h.n] (by simp -dsimp only [go_sem]) (by simp -dsimp only [go_sem]) (by simp -dsimp only [go_sem]) ?_ ?_ ?_
      · intro x h1 h2; simp -dsimp only [go_sem, h1]
      · intro x h1 h2; have h1 : x < h.n + 1 := h1; simp at h2 ⊢; omega
      · simp -dsimp only [go_sem, hfs, hpu]
    · have ek : k = l.length := by omega
      subst ek
      simp -dsimp only [go_sem, hlt]
      refine fin_pure (by simp -dsimp only [go_sem]) ?_
      simp -dsimp only [go_sem, fillR_all, List.length_map]
theorem w_toClassS (l : List Cls) (h : AH) (hl : l.length ≤ 1048576) (hn : ∀ n ∈ l, n.Ok) : Isea.Good Tryz.prog 117 [.sl (l.map Cls.row)] h [] (.sl (l.map Cls.row)) h := by
  have e6 : l.length * 32 ≤ 140737488355328 := by omega
  refine good [] [] Tryz.func117 rfl rfl Tryz.ntmps117 (by kernel_rfl) mixed (by kernel_rfl) ?_
  simp -dsimp only [go_sem, e6]
  refine loop_ruleH [0, 2] (fun (k : {k : Nat // k ≤ l.length}) H => ([(4, .v (.int .i64 (k.1 : Nat)))], ⟨H.n, upd H.o h.n (.rows 218 2 (fillR Cls.row 2 l k.1))⟩)) (fun k => l.length - k.1) ⟨0, Nat.zero_le _⟩ ?_ ?_
  · refine weak_objs [h.n] (by simp -dsimp only [go_sem]) (by simp -dsimp only [go_sem]) (by simp -dsimp only [go_sem]) ?_ ?_ ?_
    · intro x h1 h2; simp -dsimp only [go_sem, h1]
    · intro x h1 h2; have h1 : x < h.n + 1 := h1; simp at h2 ⊢; omega
    · simp -dsimp only [go_sem]
      exact objFz_fill (by simp) (fun r hr => by rw [List.eq_of_mem_replicate hr]; rfl)
  · rintro ⟨k, hk⟩
    have hk1 : k + 1 ≤ 9223372036854775807 := by omega
    have hfl := fillR_len (f := Cls.row) (sz := 2) hk
    by_cases hlt : k < l.length
    · obtain ⟨n, hb⟩ := get_some hlt
      have hg := w_toClass n
      have hno := hn n (List.mem_of_getElem? hb)
      have hfg := fillR_get (f := Cls.row) (sz := 2) hlt
      have hfs := fillR_set (f := Cls.row) (sz := 2) hb
      have hfa := fillR_row (f := Cls.row) (sz := 2) (l := l) (k := k) (fun _ => rfl)
      have hpu := fillR_pu (f := Cls.row) (sz := 2) (l := l) (k := k + 1) Cls.pu
      simp -dsimp only [go_sem, hlt, hb, Cls.row] at hg hfs ⊢
      refine call_pure (hg _ hno) ?_
      simp -dsimp only [go_sem, hfl, hfg, hfa, hlt, hk1, hfs]
      refine round_to ⟨k + 1, hlt⟩ (by simp; omega) ?_
      refine weak_objs [h.n] (by simp -dsimp only [go_sem]) (by simp -dsimp only [go_sem]) (by simp -dsimp only [go_sem]) ?_ ?_ ?_
      · intro x h1 h2; simp -dsimp only [go_sem, h1]
      · intro x h1 h2; have h1 : x < h.n + 1 := h1; simp at h2 ⊢; omega
      · simp -dsimp only [go_sem, hfs, hpu]
    · have ek : k = l.length := by omega
      subst ek
      simp -dsimp only [go_sem, hlt]
      refine fin_pure (by simp -dsimp only [go_sem]) ?_
      simp -dsimp only [go_sem, fillR_all, List.length_map]
theorem w_toInstance (n : Inst) (h : AH) (hl : n.Ok) : Isea.Good Tryz.prog 184 [.agg n.row] h [] (.agg n.row) h := by
  have hg := w_toNeed ⟨n.c, n.t⟩
  have hs := w_toNeedS n.ns
  refine good [] [] Tryz.func184 rfl rfl Tryz.ntmps184 (by kernel_rfl) mixed (by kernel_rfl) ?_
  simp -dsimp only [go_sem, Inst.row, Need.row] at hg ⊢
  refine call_pure (hg _ trivial) ?_
  simp -dsimp only [go_sem]
  refine call_pure (hs _ hl (fun _ _ => trivial)) ?_
  simp -dsimp only [go_sem]
  exact fin_pure (by simp -dsimp only [go_sem]) (by simp -dsimp only [go_sem, Inst.row])
theorem w_toInstanceS (l : List Inst) (h : AH) (hl : l.length ≤ 1048576) (hn : ∀ n ∈ l, n.Ok) : Isea.Good Tryz.prog 118 [.sl (l.map Inst.row)] h [] (.sl (l.map Inst.row)) h := by
  have e6 : l.length * 56 ≤ 140737488355328 := by omega
  refine good [] [] Tryz.func118 rfl rfl Tryz.ntmps118 (by kernel_rfl) mixed (by kernel_rfl) ?_
  simp -dsimp only [go_sem, e6]
  refine loop_ruleH [0, 2] (fun (k : {k : Nat // k ≤ l.length}) H => ([(4, .v (.int .i64 (k.1 : Nat)))], ⟨H.n, upd H.o h.n (.rows 143 3 (fillR Inst.row 3 l k.1))⟩)) (fun k => l.length - k.1) ⟨0, Nat.zero_le _⟩ ?_ ?_
  · refine weak_objs [h.n] (by simp -dsimp only [go_sem]) (by simp -dsimp only [go_sem]) (by simp -dsimp only [go_sem]) ?_ ?_ ?_
    · intro x h1 h2; simp -dsimp only [go_sem, h1]
    · intro x h1 h2; have h1 : x < h.n + 1 := h1; simp at h2 ⊢; omega
    · simp -dsimp only [go_sem]
      exact objFz_fill (by simp) (fun r hr => by rw [List.eq_of_mem_replicate hr]; rfl)
  · rintro ⟨k, hk⟩
    have hk1 : k + 1 ≤ 9223372036854775807 := by omega
    have hfl := fillR_len (f := Inst.row) (sz := 3) hk
    by_cases hlt : k < l.length
    · obtain ⟨n, hb⟩ := get_some hlt
      have hg := w_toInstance n
      have hno := hn n (List.mem_of_getElem? hb)
      have hfg := fillR_get (f := Inst.row) (sz := 3) hlt
      have hfs := fillR_set (f := Inst.row) (sz := 3) hb
      have hfa := fillR_row (f := Inst.row) (sz := 3) (l := l) (k := k) (fun _ => rfl)
      have hpu := fillR_pu (f := Inst.row) (sz := 3) (l := l) (k := k + 1) Inst.pu
      simp -dsimp only [go_sem, hlt, hb, Inst.row] at hg hfs ⊢
      refine call_pure (hg _ hno) ?_
      simp -dsimp only [go_sem, hfl, hfg, hfa, hlt, hk1, hfs]
      refine round_to ⟨k + 1, hlt⟩ (by simp; omega) ?_
      refine weak_objs [h.n] (by simp -dsimp only [go_sem]) (by simp -dsimp only [go_sem]) (by simp -dsimp only [go_sem]) ?_ ?_ ?_
      · intro x h1 h2; simp -dsimp only [go_sem, h1]
      · intro x h1 h2; have h1 : x < h.n + 1 := h1; simp at h2 ⊢; omega
      · simp -dsimp only [go_sem, hfs, hpu]
    · have ek : k = l.length := by omega
      subst ek
      simp -dsimp only [go_sem, hlt]
      refine fin_pure (by simp -dsimp only [go_sem]) ?_
      simp -dsimp only [go_sem, fillR_all, List.length_map]
theorem w_toWorld (w : Wld) (h : AH) (hc : w.cs.length ≤ 1048576) (hi : w.is.length ≤ 1048576) (hio : ∀ i ∈ w.is, i.Ok) : Isea.Good Tryz.prog 55 [.agg w.row] h [] (.agg w.row) h := by
  have hg := w_toClassS w.cs
  have hs := w_toInstanceS w.is
  refine good [] [] Tryz.func55 rfl rfl Tryz.ntmps55 (by kernel_rfl) mixed (by kernel_rfl) ?_
  simp -dsimp only [go_sem, Wld.row]
  refine call_pure (hg _ hc (fun _ _ => trivial)) ?_
  simp -dsimp only [go_sem]
  refine call_pure (hs _ hi hio) ?_
  simp -dsimp only [go_sem]
  exact fin_pure (by simp -dsimp only [go_sem]) (by simp -dsimp only [go_sem, Wld.row])
end Go.Proofs.YtiphcdmjlkngfaaGreatDoor

namespace Go.Proofs.YtiphcdmjlkngfaaGreatDoor
open Go Go.Isea
set_option maxRecDepth 100000
set_option maxHeartbeats 8000000
theorem w_eqNeed (n : Need) (h : AH) (_ : n.Ok) : Isea.Good Tryz.prog 245 [.agg n.row, .agg n.row] h [] (.v (.bool true)) h := by
  refine good [] [] Tryz.func245 rfl rfl Tryz.ntmps245 (by kernel_rfl) mixed (by kernel_rfl) ?_
  simp -dsimp only [go_sem, Need.row]
  exact fin_bool (by simp -dsimp only [go_sem]) rfl
theorem w_eqClass (n : Cls) (h : AH) (_ : n.Ok) : Isea.Good Tryz.prog 185 [.agg n.row, .agg n.row] h [] (.v (.bool true)) h := by
  refine good [] [] Tryz.func185 rfl rfl Tryz.ntmps185 (by kernel_rfl) mixed (by kernel_rfl) ?_
  simp -dsimp only [go_sem, Cls.row]
  exact fin_bool (by simp -dsimp only [go_sem]) rfl
theorem w_eqNeedS (l : List Need) (h : AH) (hl : l.length ≤ 1048576) (hn : ∀ n ∈ l, n.Ok) : Isea.Good Tryz.prog 246 [.sl (l.map Need.row), .sl (l.map Need.row)] h [] (.v (.bool true)) h := by
  refine good [] [] Tryz.func246 rfl rfl Tryz.ntmps246 (by kernel_rfl) mixed (by kernel_rfl) ?_
  simp -dsimp only [go_sem]
  refine loop_ruleH [0, 0] (fun (k : {k : Nat // k ≤ l.length}) H => ([(5, .v (.int .i64 (k.1 : Nat)))], H)) (fun k => l.length - k.1) ⟨0, Nat.zero_le _⟩ ?_ ?_
  · exact weak_at rfl (by simp -dsimp only [go_sem]) (fun x hx => by simp -dsimp only [go_sem, hx]) (by simp -dsimp only [go_sem])
  · rintro ⟨k, hk⟩
    have hk1 : k + 1 ≤ 9223372036854775807 := by omega
    by_cases hlt : k < l.length
    · obtain ⟨n, hb⟩ := get_some hlt
      have hg := w_eqNeed n
      have hno := hn n (List.mem_of_getElem? hb)
      simp -dsimp only [go_sem, hlt, hb, Need.row] at hg ⊢
      refine call_pure (hg _ hno) ?_
      simp -dsimp only [go_sem, hk1]
      exact round_to ⟨k + 1, hlt⟩ (by simp; omega) (weak_at rfl (by simp -dsimp only [go_sem]) (fun x hx => by simp -dsimp only [go_sem, hx]) (by simp -dsimp only [go_sem]))
    · simp -dsimp only [go_sem, hlt]
      exact fin_bool (by simp -dsimp only [go_sem]) rfl
theorem w_eqClassS (l : List Cls) (h : AH) (hl : l.length ≤ 1048576) (hn : ∀ n ∈ l, n.Ok) : Isea.Good Tryz.prog 119 [.sl (l.map Cls.row), .sl (l.map Cls.row)] h [] (.v (.bool true)) h := by
  refine good [] [] Tryz.func119 rfl rfl Tryz.ntmps119 (by kernel_rfl) mixed (by kernel_rfl) ?_
  simp -dsimp only [go_sem]
  refine loop_ruleH [0, 0] (fun (k : {k : Nat // k ≤ l.length}) H => ([(5, .v (.int .i64 (k.1 : Nat)))], H)) (fun k => l.length - k.1) ⟨0, Nat.zero_le _⟩ ?_ ?_
  · exact weak_at rfl (by simp -dsimp only [go_sem]) (fun x hx => by simp -dsimp only [go_sem, hx]) (by simp -dsimp only [go_sem])
  · rintro ⟨k, hk⟩
    have hk1 : k + 1 ≤ 9223372036854775807 := by omega
    by_cases hlt : k < l.length
    · obtain ⟨n, hb⟩ := get_some hlt
      have hg := w_eqClass n
      have hno := hn n (List.mem_of_getElem? hb)
      simp -dsimp only [go_sem, hlt, hb, Cls.row] at hg ⊢
      refine call_pure (hg _ hno) ?_
      simp -dsimp only [go_sem, hk1]
      exact round_to ⟨k + 1, hlt⟩ (by simp; omega) (weak_at rfl (by simp -dsimp only [go_sem]) (fun x hx => by simp -dsimp only [go_sem, hx]) (by simp -dsimp only [go_sem]))
    · simp -dsimp only [go_sem, hlt]
      exact fin_bool (by simp -dsimp only [go_sem]) rfl
theorem w_eqInstance (n : Inst) (h : AH) (hl : n.Ok) : Isea.Good Tryz.prog 186 [.agg n.row, .agg n.row] h [] (.v (.bool true)) h := by
  have hg := w_eqNeed ⟨n.c, n.t⟩
  have hs := w_eqNeedS n.ns
  refine good [] [] Tryz.func186 rfl rfl Tryz.ntmps186 (by kernel_rfl) mixed (by kernel_rfl) ?_
  simp -dsimp only [go_sem, Inst.row, Need.row] at hg ⊢
  refine call_pure (hg _ trivial) ?_
  simp -dsimp only [go_sem]
  refine call_pure (hs _ hl (fun _ _ => trivial)) ?_
  simp -dsimp only [go_sem]
  exact fin_bool (by simp -dsimp only [go_sem]) rfl
theorem w_eqInstanceS (l : List Inst) (h : AH) (hl : l.length ≤ 1048576) (hn : ∀ n ∈ l, n.Ok) : Isea.Good Tryz.prog 120 [.sl (l.map Inst.row), .sl (l.map Inst.row)] h [] (.v (.bool true)) h := by
  refine good [] [] Tryz.func120 rfl rfl Tryz.ntmps120 (by kernel_rfl) mixed (by kernel_rfl) ?_
  simp -dsimp only [go_sem]
  refine loop_ruleH [0, 0] (fun (k : {k : Nat // k ≤ l.length}) H => ([(5, .v (.int .i64 (k.1 : Nat)))], H)) (fun k => l.length - k.1) ⟨0, Nat.zero_le _⟩ ?_ ?_
  · exact weak_at rfl (by simp -dsimp only [go_sem]) (fun x hx => by simp -dsimp only [go_sem, hx]) (by simp -dsimp only [go_sem])
  · rintro ⟨k, hk⟩
    have hk1 : k + 1 ≤ 9223372036854775807 := by omega
    by_cases hlt : k < l.length
    · obtain ⟨n, hb⟩ := get_some hlt
      have hg := w_eqInstance n
      have hno := hn n (List.mem_of_getElem? hb)
      simp -dsimp only [go_sem, hlt, hb, Inst.row] at hg ⊢
      refine call_pure (hg _ hno) ?_
      simp -dsimp only [go_sem, hk1]
      exact round_to ⟨k + 1, hlt⟩ (by simp; omega) (weak_at rfl (by simp -dsimp only [go_sem]) (fun x hx => by simp -dsimp only [go_sem, hx]) (by simp -dsimp only [go_sem]))
    · simp -dsimp only [go_sem, hlt]
      exact fin_bool (by simp -dsimp only [go_sem]) rfl
theorem w_eqWorld (w : Wld) (h : AH) (hc : w.cs.length ≤ 1048576) (hi : w.is.length ≤ 1048576) (hio : ∀ i ∈ w.is, i.Ok) : Isea.Good Tryz.prog 58 [.agg w.row, .agg w.row] h [] (.v (.bool true)) h := by
  have hg := w_eqClassS w.cs
  have hs := w_eqInstanceS w.is
  refine good [] [] Tryz.func58 rfl rfl Tryz.ntmps58 (by kernel_rfl) mixed (by kernel_rfl) ?_
  simp -dsimp only [go_sem, Wld.row]
  refine call_pure (hg _ hc (fun _ _ => trivial)) ?_
  simp -dsimp only [go_sem]
  refine call_pure (hs _ hi hio) ?_
  simp -dsimp only [go_sem]
  exact fin_bool (by simp -dsimp only [go_sem]) rfl
end Go.Proofs.YtiphcdmjlkngfaaGreatDoor

namespace Go.Isea
open Go
theorem szL_mem {α : Type} {f : α → Nat} : ∀ {l : List α} {a : α}, a ∈ l → f a ≤ szL f l
  | b :: l, a, h => by
    unfold szL
    rcases List.mem_cons.1 h with rfl | h
    · omega
    · have := szL_mem (f := f) h; omega
theorem Need.sm {n : Need} (h : n.sz ≤ 1048576) : n.Sm := by
  unfold Need.sz at h
  exact ⟨by omega, by omega⟩
theorem Cls.sm {n : Cls} (h : n.sz ≤ 1048576) : n.Sm := by
  unfold Cls.sz at h
  exact ⟨by omega, by omega⟩
theorem needs_sm {l : List Need} (h : szS Need.sz l ≤ 1048576) : l.length ≤ 1048576 ∧ ∀ n ∈ l, n.Sm := by
  unfold szS at h
  exact ⟨by omega, fun n hn => Need.sm (by have := szL_mem (f := Need.sz) hn; omega)⟩
theorem Inst.sm {i : Inst} (h : i.sz ≤ 1048576) : i.Sm ∧ i.Ok := by
  unfold Inst.sz at h
  have := needs_sm (l := i.ns) (by omega)
  exact ⟨⟨by omega, by omega, by omega, this.2⟩, this.1⟩
theorem Wld.sm {w : Wld} (h : w.sz ≤ 1048576) : w.Sm ∧ w.cs.length ≤ 1048576 ∧ w.is.length ≤ 1048576 ∧ ∀ i ∈ w.is, i.Ok := by
  unfold Wld.sz szS at h
  exact ⟨⟨by omega, fun c hc => Cls.sm (by have := szL_mem (f := Cls.sz) hc; omega), by omega, fun i hi => (Inst.sm (by have := szL_mem (f := Inst.sz) hi; omega)).1⟩, by omega, by omega, fun i hi => (Inst.sm (by have := szL_mem (f := Inst.sz) hi; omega)).2⟩
end Go.Isea

namespace Go.Isea
open Go Go.ChangeShapes Go.WideShapes Go.ChangeAt Go.RowKit Go.Deep
variable {P : Program} {H : Type} {enc : TypeId × Value → H} {w : World} {sp : Nat → Bool} {held : Bool}
/-- cells that read as a row -/
def RowR (w : World) (r : List AV) (cs : List Value) : Prop := cs.length = r.length ∧ ∀ (K : KM) (o : Nat → AObj) (j : Nat) (x : AV) (y : Value), r[j]? = some x → cs[j]? = some y → Rep K ⟨0, o⟩ w x y
theorem addr_none {a : Addr} (h : a.spot = none) (n : Nat) : a.add n = ⟨a.block, a.off + n, none⟩ := by
  unfold Addr.add
  split
  · rename_i e; subst e; cases a; simp only at h; subst h; rfl
  · rfl
theorem rep_slice {α : Type} {f : α → List AV} {Q : α → Prop} {t e sz fuel : Nat} {v : Value} {x : DataW H × List MemPlace} (ht : P.underlying t = some (.slice e)) (hsz : P.cellsOf e = sz) (hf : ∀ a, (f a).length = sz) (h0 : 0 < sz)
    (helem : ∀ n cs' y, cs'.length = sz → DataW.trod enc P w 0 sp held n e cs' = some y → ∃ a, RowR w (f a) cs' ∧ Q a)
    (h : DataW.trod enc P w 0 sp held fuel t [v] = some x) : ∃ l : List α, (∀ (K : KM) (o : Nat → AObj), Rep K ⟨0, o⟩ w (.sl (l.map f)) v) ∧ l.length ≤ 9223372036854775807 ∧ ∀ a ∈ l, Q a := by
  rcases open_slice ht h with ⟨h1, _⟩ | ⟨a, len, cap, m, n, D, Pl, h1, hb, hl, hm, hmm, _, hx⟩
  · injection h1 with h1
    subst h1
    exact ⟨[], fun K o => .sl0 _ _, by simp, fun a ha => by cases ha⟩
  · injection h1 with h1
    subst h1
    have hlm : len ≤ m := by rw [hmm]; split <;> omega
    have mk : ∀ k, k ≤ len → ∃ l : List α, l.length = k ∧ (∀ a ∈ l, Q a) ∧ ∀ i b, l[i]? = some b → ∃ cs', w.cells? 0 (a.add (i * sz)) sz = some cs' ∧ RowR w (f b) cs' := by
      intro k
      induction k with
      | zero => exact fun _ => ⟨[], rfl, fun _ h => (by cases h), fun i b h => (by simp at h)⟩
      | succ k ih =>
        intro hk
        obtain ⟨l, l1, l2, l3⟩ := ih (by omega)
        obtain ⟨cs', c1, c2⟩ := hx k (by omega)
        rw [hsz] at c1
        obtain ⟨_, c3, _⟩ := World.cells?_some c1
        obtain ⟨b, b1, b2⟩ := helem n cs' _ c3 c2
        refine ⟨l ++ [b], by simp [l1], fun a ha => ?_, fun i b' hi => ?_⟩
        · rcases List.mem_append.1 ha with ha | ha
          · exact l2 a ha
          · rw [List.mem_singleton.1 ha]; exact b2
        · by_cases hil : i < k
          · rw [List.getElem?_append_left (by omega)] at hi
            exact l3 i b' hi
          · rw [List.getElem?_append_right (by omega)] at hi
            have hi0 : i - l.length = 0 := by
              have := (List.getElem?_eq_some_iff.1 hi).1
              simp at this; omega
            rw [hi0] at hi
            simp only [List.getElem?_cons_zero, Option.some.injEq] at hi
            subst hi
            have : i = k := by omega
            subst this
            exact ⟨cs', c1, b1⟩
    obtain ⟨l, l1, l2, l3⟩ := mk len (Nat.le_refl _)
    refine ⟨l, fun K o => ?_, by have : maxLen = 9223372036854775807 := by decide
                                 omega, l2⟩
    rcases Nat.eq_zero_or_pos len with hz | hpos
    · subst hz
      have : l = [] := List.length_eq_zero_iff.1 l1
      subst this
      exact .sl0 _ _
    · obtain ⟨b0, hb0⟩ := get_some (l := l) (k := 0) (by omega)
      obtain ⟨cs0, c01, c02⟩ := l3 0 b0 hb0
      obtain ⟨_, c03, c04⟩ := World.cells?_some c01
      have hc0 : ∃ y, w.cell? a = some y := by
        have := c04 0 h0
        have e1 : (a.add (0 * sz)).add 0 = a := by simp [Addr.add]
        rw [e1] at this
        obtain ⟨y, hy⟩ := get_some (l := cs0) (k := 0) (by omega)
        exact ⟨y, this.trans hy⟩
      obtain ⟨y0, hy0⟩ := hc0
      have hspot : a.spot = none ∧ a.block < w.heap.size := by
        unfold World.cell? at hy0
        split at hy0
        · rename_i hh
          split at hy0
          · cases hy0
          · rename_i hs
            exact ⟨by simpa using hs, (Array.getElem?_eq_some_iff.1 hh).1⟩
        · cases hy0
      have ha : a = ⟨a.block, a.off, none⟩ := by
        have := hspot.1
        cases a; simp only at this; subst this; rfl
      have cellAt : ∀ i b cs', l[i]? = some b → w.cells? 0 (a.add (i * sz)) sz = some cs' → ∀ j, j < sz → w.cell? ⟨a.block, a.off + (i * sz + j), none⟩ = cs'[j]? := fun i b cs' _ hc j hj => by
        have g := (World.cells?_some hc).2.2 j hj
        rw [addr_none hspot.1, addr_none (a := ⟨a.block, a.off + i * sz, none⟩) rfl] at g
        rw [← Nat.add_assoc]; exact g
      have hlen : (l.map f).length = len := by rw [List.length_map, l1]
      have key : Rep K ⟨0, o⟩ w (.sl (l.map f)) (.slice (some ⟨a.block, a.off, none⟩) (l.map f).length cap) := by
        refine .sl (sz := sz) (f := fun k => (w.cell? ⟨a.block, a.off + k, none⟩).getD undef) ⟨hspot.2, fun t ht => absurd ht (Nat.not_lt_zero _)⟩ (by omega) (fun r hr => ?_) (fun k hk => ?_) (fun i j r x' hr hx' => ?_)
        · obtain ⟨b, _, rfl⟩ := List.mem_map.1 hr
          exact hf b
        · rw [hlen] at hk
          have hdm := Nat.div_add_mod k sz
          have hmod := Nat.mod_lt k h0
          have hdiv : k / sz < len := Nat.div_lt_of_lt_mul (by rw [Nat.mul_comm]; exact hk)
          obtain ⟨b, hb'⟩ := get_some (l := l) (k := k / sz) (by omega)
          obtain ⟨cs', d1, _⟩ := l3 _ b hb'
          have g := cellAt _ b cs' hb' d1 (k % sz) hmod
          rw [Nat.mul_comm, hdm] at g
          obtain ⟨y, hy⟩ := get_some (l := cs') (k := k % sz) (by rw [(World.cells?_some d1).2.1]; exact hmod)
          rw [hy] at g
          simp only [g, Option.getD_some]
        · rw [List.getElem?_map] at hr
          cases hb' : l[i]? with
          | none => rw [hb'] at hr; cases hr
          | some b =>
            rw [hb'] at hr
            simp only [Option.map_some, Option.some.injEq] at hr
            subst hr
            obtain ⟨cs', d1, d2⟩ := l3 i b hb'
            have hj : j < sz := by have := (List.getElem?_eq_some_iff.1 hx').1; rw [hf] at this; exact this
            have g := cellAt i b cs' hb' d1 j hj
            obtain ⟨y, hy⟩ := get_some (l := cs') (k := j) (by rw [(World.cells?_some d1).2.1]; exact hj)
            rw [hy] at g
            simp only [g, Option.getD_some]
            exact d2.2 K o j x' y hx' hy
      rw [hlen, ← ha] at key
      exact key
end Go.Isea

namespace Go.Isea
open Go Go.ChangeShapes Go.WideShapes Go.ChangeAt Go.RowKit Go.Deep
variable {P : Program} {H : Type} {enc : TypeId × Value → H} {w : World} {sp : Nat → Bool} {held : Bool}
theorem read_str {t fuel : Nat} {cs : List Value} {x : DataW H × List MemPlace} (ht : P.underlying t = some .string) (h : DataW.trod enc P w 0 sp held fuel t cs = some x) : ∃ a : L8, cs = [.string (bs a)] ∧ a.length ≤ 9223372036854775807 := by
  obtain ⟨s, h1, _, h2⟩ := DataW.trod_string ht h
  refine ⟨s.data.toList, ?_, ?_⟩
  · rw [h1]
  · have : maxLen = 9223372036854775807 := by decide
    have e : s.data.toList.length = s.size := by rw [Array.length_toList]; rfl
    omega
theorem rowR_two (a b : L8) : RowR w [str a, str b] [.string (bs a), .string (bs b)] := ⟨rfl, fun K o j x y h1 h2 => by
  rcases j with _ | _ | j
  · simp at h1 h2; subst h1; subst h2; exact .v _
  · simp at h1 h2; subst h1; subst h2; exact .v _
  · simp at h1⟩
theorem read_two {t fuel : Nat} {f0 f1 : Field} {cs : List Value} {x : DataW H × List MemPlace} (ht : P.underlying t = some (.struct #[f0, f1])) (ct : P.cellsOf t = 2) (e0 : f0.offset = 0) (c0 : P.cellsOf f0.type = 1) (e1 : f1.offset = 1) (c1 : P.cellsOf f1.type = 1)
    (s0 : P.underlying f0.type = some .string) (s1 : P.underlying f1.type = some .string) (h : DataW.trod enc P w 0 sp held fuel t cs = some x) :
    ∃ a b : L8, cs = [.string (bs a), .string (bs b)] ∧ a.length ≤ 9223372036854775807 ∧ b.length ≤ 9223372036854775807 := by
  obtain ⟨y0, y1, n, _, hl, h0, h1⟩ := trod_struct2 ht h
  rw [ct] at hl
  rw [e0, c0] at h0
  rw [e1, c1] at h1
  match cs, hl with
  | [u, v], _ =>
    obtain ⟨a, ha, la⟩ := read_str s0 h0
    obtain ⟨b, hb, lb⟩ := read_str s1 h1
    simp at ha hb
    exact ⟨a, b, by rw [ha, hb], la, lb⟩
end Go.Isea

namespace Go.Proofs.YtiphcdmjlkngfaaGreatDoor
open Go Go.Isea Go.ChangeShapes Go.WideShapes Go.ChangeAt Go.RowKit Go.Deep
set_option maxRecDepth 100000
variable {H : Type} {enc : TypeId × Value → H} {w : World} {sp : Nat → Bool} {held : Bool}
theorem int_rng {n : Int} (h : (Lit.int .i64 n).wf = true) : -9223372036854775808 ≤ n ∧ n ≤ 9223372036854775807 := by
  simp only [Lit.wf, Bool.and_eq_true, decide_eq_true_eq] at h
  exact h
theorem read_need {fuel : Nat} {cs : List Value} {x : DataW H × List MemPlace} (h : DataW.trod enc Tryz.prog w 0 sp held fuel 73 cs = some x) : ∃ n : Need, RowR w n.row cs ∧ n.Mx := by
  obtain ⟨a, b, e, h1, h2⟩ := read_two Tryz.underlying73 (by kernel_rfl) rfl (by kernel_rfl) rfl (by kernel_rfl) (by kernel_rfl) (by kernel_rfl) h
  exact ⟨⟨a, b⟩, by rw [e]; exact rowR_two a b, h1, h2⟩
theorem read_cls {fuel : Nat} {cs : List Value} {x : DataW H × List MemPlace} (h : DataW.trod enc Tryz.prog w 0 sp held fuel 213 cs = some x) : ∃ n : Cls, RowR w n.row cs ∧ n.Mx := by
  obtain ⟨a, b, e, h1, h2⟩ := read_two Tryz.underlying213 (by kernel_rfl) rfl (by kernel_rfl) rfl (by kernel_rfl) (by kernel_rfl) (by kernel_rfl) h
  exact ⟨⟨a, b⟩, by rw [e]; exact rowR_two a b, h1, h2⟩
theorem read_needs {fuel : Nat} {v : Value} {x : DataW H × List MemPlace} (h : DataW.trod enc Tryz.prog w 0 sp held fuel 215 [v] = some x) : ∃ l : List Need, (∀ (K : KM) (o : Nat → AObj), Rep K ⟨0, o⟩ w (.sl (l.map Need.row)) v) ∧ l.length ≤ 9223372036854775807 ∧ ∀ n ∈ l, n.Mx :=
  rep_slice (sz := 2) Tryz.underlying215 (by kernel_rfl) (fun _ => rfl) (by decide) (fun _ _ _ _ h => read_need h) h
theorem read_clss {fuel : Nat} {v : Value} {x : DataW H × List MemPlace} (h : DataW.trod enc Tryz.prog w 0 sp held fuel 69 [v] = some x) : ∃ l : List Cls, (∀ (K : KM) (o : Nat → AObj), Rep K ⟨0, o⟩ w (.sl (l.map Cls.row)) v) ∧ l.length ≤ 9223372036854775807 ∧ ∀ n ∈ l, n.Mx :=
  rep_slice (sz := 2) Tryz.underlying69 (by kernel_rfl) (fun _ => rfl) (by decide) (fun _ _ _ _ h => read_cls h) h
theorem read_inst {fuel : Nat} {cs : List Value} {x : DataW H × List MemPlace} (h : DataW.trod enc Tryz.prog w 0 sp held fuel 217 cs = some x) : ∃ i : Inst, RowR w i.row cs ∧ i.Mx := by
  obtain ⟨y0, y1, n, _, hl, h0, h1⟩ := trod_struct2 Tryz.underlying217 h
  rw [show Tryz.prog.cellsOf 217 = 3 by kernel_rfl] at hl
  match cs, hl with
  | [u, v, s], _ =>
    have h0' : DataW.trod enc Tryz.prog w 0 sp held n 73 [u, v] = some y0 := by
      rw [show Tryz.prog.cellsOf _ = 2 by kernel_rfl] at h0; exact h0
    have h1' : DataW.trod enc Tryz.prog w 0 sp held n 215 [s] = some y1 := by
      rw [show Tryz.prog.cellsOf _ = 1 by kernel_rfl] at h1; exact h1
    obtain ⟨m, hm, mx⟩ := read_need h0'
    obtain ⟨l, hr, hll, hlm⟩ := read_needs h1'
    refine ⟨⟨m.c, m.t, l⟩, ⟨rfl, fun K o j x y g1 g2 => ?_⟩, mx.1, mx.2, hll, hlm⟩
    rcases j with _ | _ | _ | j
    · exact hm.2 K o 0 x y g1 g2
    · exact hm.2 K o 1 x y g1 g2
    · simp [Inst.row] at g1 g2; subst g1; subst g2; exact hr K o
    · simp [Inst.row] at g1
theorem read_insts {fuel : Nat} {v : Value} {x : DataW H × List MemPlace} (h : DataW.trod enc Tryz.prog w 0 sp held fuel 70 [v] = some x) : ∃ l : List Inst, (∀ (K : KM) (o : Nat → AObj), Rep K ⟨0, o⟩ w (.sl (l.map Inst.row)) v) ∧ l.length ≤ 9223372036854775807 ∧ ∀ n ∈ l, n.Mx :=
  rep_slice (sz := 3) Tryz.underlying70 (by kernel_rfl) (fun _ => rfl) (by decide) (fun _ _ _ _ h => read_inst h) h
theorem read_world {fuel : Nat} {cs : List Value} {x : DataW H × List MemPlace} (h : DataW.trod enc Tryz.prog w 0 sp held fuel 72 cs = some x) : ∃ W : Wld, RowR w W.row cs ∧ W.Mx := by
  obtain ⟨y0, y1, n, _, hl, h0, h1⟩ := trod_struct2 Tryz.underlying72 h
  rw [show Tryz.prog.cellsOf 72 = 2 by kernel_rfl] at hl
  match cs, hl with
  | [u, v], _ =>
    have h0' : DataW.trod enc Tryz.prog w 0 sp held n 69 [u] = some y0 := by
      rw [show Tryz.prog.cellsOf _ = 1 by kernel_rfl] at h0; exact h0
    have h1' : DataW.trod enc Tryz.prog w 0 sp held n 70 [v] = some y1 := by
      rw [show Tryz.prog.cellsOf _ = 1 by kernel_rfl] at h1; exact h1
    obtain ⟨c, hc, hcl, hcm⟩ := read_clss h0'
    obtain ⟨l, hr, hll, hlm⟩ := read_insts h1'
    refine ⟨⟨c, l⟩, ⟨rfl, fun K o j x y g1 g2 => ?_⟩, hcl, hcm, hll, hlm⟩
    rcases j with _ | _ | j
    · simp [Wld.row] at g1 g2; subst g1; subst g2; exact hc K o
    · simp [Wld.row] at g1 g2; subst g1; subst g2; exact hr K o
    · simp [Wld.row] at g1
end Go.Proofs.YtiphcdmjlkngfaaGreatDoor
