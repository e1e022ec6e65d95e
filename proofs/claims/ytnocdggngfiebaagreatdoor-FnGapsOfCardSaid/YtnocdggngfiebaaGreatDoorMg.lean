/- Contracts of functions of this program, for all arguments that satisfy what each lemma asks for. -/
import Derived.Test.YtnocdggngfiebaaGreatDoorMf
import Derived.Test.YtnocdggngfiebaaGreatDoorMd
import Derived.ProofKit
import Derived.Deep.Slices
set_option linter.all false
namespace Go.Proofs.YtnocdggngfiebaaGreatDoor
open Go Go.Isea
set_option maxRecDepth 100000
set_option maxHeartbeats 8000000
def aCells (w : Wld) (gs : List Need) (ta a : Nat) : List AV := [.sl (w.cs.map Cls.row), .sl (w.is.map Inst.row), .v (.bool false), .fn 192 [.ref w.row 0, .ref [.sl (gs.map Need.row)] 0], .so ta a a, .junk, .junk, .junk]
theorem i_fail (w : Wld) (gs : List Need) (l ta a : Nat) (n : Need) (st : List Need) (x : L8) (h : AH) (hl : l < h.n) (hta : ta < h.n) (ho : h.o l = .cells (aCells w gs ta a)) (hst : st.length ≤ 1000) :
    Isea.Good Tryz.prog 262 [str x, .ref n.row 0, .ref [stA st] 0, .ref [.ptr l 0] 0] h [l] (.tup [str [], str x]) h := by
  refine good [] [] Tryz.func262 rfl rfl Tryz.ntmps262 (by kernel_rfl) mixed (by kernel_rfl) ?_
  have hln : ¬ l = h.n := by omega
  cases st with
  | nil =>
    simp -dsimp only [go_sem, Need.row, stA]
    refine call_pure (l_Clone_nil _) ?_
    simp -dsimp only [go_sem, hl, ho, aCells]
    refine fin_same (by simp -dsimp only [go_sem]) (by simp -dsimp only [go_sem]) ?_
    simp -dsimp only [go_sem, ho, aCells, hta, Wld.row]
  | cons s st =>
    simp -dsimp only [go_sem, Need.row, stA]
    refine call_pure (l_Clone_Need s st _ (by simp at hst; omega)) ?_
    simp -dsimp only [go_sem, hl, ho, aCells, hln]
    refine fin_same (by simp -dsimp only [go_sem]) (by simp -dsimp only [go_sem]) ?_
    simp -dsimp only [go_sem, ho, aCells, hta, Wld.row, hln]
theorem l_Clone_st (st : List Need) (h : AH) (hl : st.length ≤ 1000) : Isea.Good Tryz.prog 97 [stA st] h [] (.so h.n st.length st.length) (h.push (.rows 28 2 (st.map Need.row))) := by
  cases st with
  | nil => exact Good.ghostR (by decide) (l_Clone_nil h)
  | cons x xs => exact l_Clone_Need x xs h (by simp at hl; omega)
end Go.Proofs.YtnocdggngfiebaaGreatDoor

namespace Go.Isea
open Go
theorem list_cases {α : Type} (l : List α) : l = [] ∨ (∃ a, l = [a]) ∨ ∃ a b r, l = a :: b :: r := by
  rcases l with _ | ⟨a, _ | ⟨b, r⟩⟩
  · exact .inl rfl
  · exact .inr (.inl ⟨a, rfl⟩)
  · exact .inr (.inr ⟨a, b, r, rfl⟩)
theorem opt_cases {α : Type} (o : Option α) : o = none ∨ ∃ a, o = some a := by
  cases o with
  | none => exact .inl rfl
  | some a => exact .inr ⟨a, rfl⟩
theorem cand_four (w : Wld) (n : Need) (hmem : ∀ k, k ∈ candIx w n → ∃ i, w.is[k]? = some i ∧ i.c = n.c ∧ (matchS i.t n.t).isSome = true) : candIx w n = [] ∨ (∃ k i, candIx w n = [k] ∧ w.is[k]? = some i ∧ needsOf i n.t = none) ∨ (∃ k i ms, candIx w n = [k] ∧ w.is[k]? = some i ∧ needsOf i n.t = some ms) ∨ ∃ k k2 rest, candIx w n = k :: k2 :: rest := by
  rcases list_cases (candIx w n) with h | ⟨k, h⟩ | ⟨k, k2, r, h⟩
  · exact .inl h
  · obtain ⟨i, hi, _⟩ := hmem k (by rw [h]; exact List.mem_cons_self ..)
    rcases opt_cases (needsOf i n.t) with hN | ⟨ms, hN⟩
    · exact .inr (.inl ⟨k, i, h, hi, hN⟩)
    · exact .inr (.inr (.inl ⟨k, i, ms, h, hi, hN⟩))
  · exact .inr (.inr (.inr ⟨k, k2, r, h⟩))
theorem many_ok {w : Wld} {n : Need} {l : List Nat} (hcl : candIx w n = l) (hwl : w.is.length ≤ 10) : l.length ≤ 1000 ∧ ∀ i ∈ l, i < w.is.length := by
  subst hcl
  refine ⟨Nat.le_trans (candTake_len w n w.is.length) (by omega), fun i hi => ?_⟩
  obtain ⟨x, hx, _⟩ := cand_mem hi
  exact (List.getElem?_eq_some_iff.1 hx).1
end Go.Isea
namespace Go.Proofs.YtnocdggngfiebaaGreatDoor
open Go Go.Isea
set_option maxRecDepth 100000
set_option maxHeartbeats 16000000
def AskOk (w : Wld) (gs : List Need) (f : Nat) : Prop := ∀ (l ta : Nat) (n : Need) (a : Nat) (st : List Need) (h : AH), l < h.n → ta < h.n → ¬ l = ta → h.o l = .cells (aCells w gs ta a) → h.o ta = .rows 28 2 (aRows a) → NOk w n → a ≤ 300 → f ≤ 31 → st.length = 31 - f →
    Isea.Good Tryz.prog 194 [.ptr l 0, .agg n.row, stA st] h [l, ta] (.tup [str (askS w gs f n a).1, str (askS w gs f n a).2.2])
      ⟨h.n, upd (upd h.o l (.cells (aCells w gs ta (askS w gs f n a).2.1))) ta (.rows 28 2 (aRows (askS w gs f n a).2.1))⟩
theorem i_ask_step {w : Wld} {gs : List Need} (hok : worldOk w = true) (hw : w.Sm) (hgs : gs.length ≤ 6) {f : Nat} (ih : ∀ g, f = g + 1 → AskOk w gs g) : AskOk w gs f := by
  intro l ta n a st h hl hta hlt ho hoa hn ha hf hst
  have htl : ¬ ta = l := fun e => hlt e.symm
  obtain ⟨d, hd, _, _⟩ := known_letter (world_cls hok) hn.1
  have hwl := world_len hok
  have hmem : ∀ k, k ∈ candIx w n → ∃ i, w.is[k]? = some i ∧ i.c = n.c ∧ (matchS i.t n.t).isSome = true := fun k hk => cand_mem hk
  have hgiv := i_findGiven1 w gs n
  have hfail := fun a' x H => i_fail w gs l ta a' n st x H
  have hcand := i_candidates w n
  have hst2 : st.length ≤ 1000 := by omega
  have hal := aRows_len a
  have ha6 : (a + 1) * 32 ≤ 140737488355328 := by omega
  have har : ∀ r ∈ aRows a ++ [n.row], r.length = 2 := fun r hr => by
    rcases List.mem_append.1 hr with hr | hr
    · rw [List.eq_of_mem_replicate hr]; rfl
    · rw [List.mem_singleton.1 hr]; rfl
  have haf : ∀ (H : AH) (m : Nat), ObjFz H m (.rows 28 2 (aRows a ++ [n.row])) (.rows 28 2 (aRows (a + 1))) := fun H m => objFz_aRows (by rw [List.length_append, hal]; rfl) har
  have haf' := haf
  have haf0 : ∀ (H : AH) (m : Nat), ObjFz H m (.rows 28 2 (aRows a)) (.rows 28 2 (aRows a)) := fun H m => objFz_aRows hal (fun r hr => by rw [List.eq_of_mem_replicate hr]; rfl)
  refine good [] [(22, OT.o 0 (OT.o 2 ((OT.o 1 (OT.o 3 (OT.o 4 (OT.o 5 OT.e)))).f (OT.o 3 (OT.o 1 (OT.o 4 (OT.o 5 OT.e)))))))] Tryz.func194 rfl rfl Tryz.ntmps194 (by kernel_rfl) mixed (by kernel_rfl) ?_
  simp -dsimp only [go_sem, Need.row, Wld.row, hl, ho, aCells] at hgiv hfail hcand haf ⊢
  refine call_pure (hgiv _ hw hgs hd) ?_
  by_cases hg : givenL w gs n = []
  · have eS : askS w gs f n a = if 300 ≤ a then ([], a, longL) else match f with | 0 => ([], a + 1, deepL) | g + 1 => askB (askS w gs g) w n a := by
      cases f <;> simp [askS, hg]
    have e0 : gotB (givenL w gs n) = false := by rw [hg]; rfl
    rw [e0]
    simp -dsimp only [go_sem, hl, ho, hoa, aCells, hal]
    by_cases hlong : 300 ≤ a
    · have h300 : (300 : Int) ≤ (a : Nat) := by omega
      rw [eS, if_pos hlong]
      simp -dsimp only [go_sem, h300]
      refine call_one (hfail a _ _ hl hta ho hst2) (by simp -dsimp only [go_sem]) (by simp -dsimp only [go_sem]) ?_
      simp -dsimp only [go_sem]
      exact fin_two hlt (by simp -dsimp only [go_sem]) (by simp -dsimp only [go_sem, longL]) (by simp -dsimp only [go_sem, ho, hoa, aCells, hta, Wld.row, haf0]) (by simp -dsimp only [go_sem, ho, hoa, aCells, hta, haf0])
    · have h300 : ¬ (300 : Int) ≤ (a : Nat) := by omega
      simp -dsimp only [go_sem, h300, hl, ho, hoa, aCells, hal, ha6, htl, hlt, hta]
      refine ⟨out_prS (by kernel_rfl), ?_⟩
      by_cases hf0 : f = 0
      · have h31 : (30 : Int) < (st.length : Nat) := by omega
        rw [eS, if_neg hlong]
        subst hf0
        simp -dsimp only [go_sem, h31]
        refine call_one (hfail (a + 1) _ _ (by simp -dsimp only [go_sem, hl]) (by simp -dsimp only [go_sem, hta]) (by simp -dsimp only [go_sem, hlt, Wld.row]) hst2) (by simp -dsimp only [go_sem]) (by simp -dsimp only [go_sem]) ?_
        simp -dsimp only [go_sem]
        exact fin_two hlt (by simp -dsimp only [go_sem]) (by simp -dsimp only [go_sem, deepL]) (by simp -dsimp only [go_sem, ho, hoa, aCells, hta, htl, hlt, Wld.row, haf]) (by simp -dsimp only [go_sem, ho, hoa, aCells, hta, htl, hlt, haf])
      · obtain ⟨g, rfl⟩ : ∃ g, f = g + 1 := ⟨f - 1, by omega⟩
        have h31 : ¬ (30 : Int) < (st.length : Nat) := by omega
        have ihg := ih g rfl
        unfold AskOk at ihg
        have eB : askS w gs (g + 1) n a = askB (askS w gs g) w n a := by rw [eS, if_neg hlong]
        clear eS
        simp -dsimp only [go_sem, h31, hl, hta, ho, hoa, aCells, hlt, htl]
        rcases cand_four w n hmem with hcl | ⟨k, i, hcl, hi, hN⟩ | ⟨k, i, ms, hcl, hi, hN⟩ | ⟨k, k2, rest, hcl⟩
        · rw [hcl] at hcand
          refine call_pure (hcand _ hw hn.2 (by omega)) ?_
          have e : askS w gs (g + 1) n a = ([], a + 1, noneL) := by rw [eB]; unfold askB; rw [hcl]
          rw [e]
          simp -dsimp only [go_sem, List.map_nil]
          refine call_one (hfail (a + 1) _ _ (by simp -dsimp only [go_sem, hl]) (by simp -dsimp only [go_sem, hta]) (by simp -dsimp only [go_sem, hlt, Wld.row]) hst2) (by simp -dsimp only [go_sem]) (by simp -dsimp only [go_sem]) ?_
          simp -dsimp only [go_sem]
          exact fin_two hlt (by simp -dsimp only [go_sem]) (by simp -dsimp only [go_sem, noneL]) (by simp -dsimp only [go_sem, ho, hoa, aCells, hta, htl, hlt, Wld.row, haf]) (by simp -dsimp only [go_sem, ho, hoa, aCells, hta, htl, hlt, haf])
        · rw [hcl] at hcand
          refine call_pure (hcand _ hw hn.2 (by omega)) ?_
          have hwi := world_inst hok hi
          have hk10 := hwi.1
          have h6 := hwi.2.2.2.2.2.1
          clear hwi
          have hism := hw.i i (List.mem_of_getElem? hi)
          have hnd := i_needs i n.t
          rw [hN] at hnd
          simp -dsimp only [go_sem, List.map_cons, List.map_nil, iRow, hi, Inst.row, hl, hta, ho, hoa, hlt, htl] at hnd ⊢
          refine call_pure (hnd _ hism hn.2.2 (by omega)) ?_
          have e : askS w gs (g + 1) n a = ([], a + 1, bigL) := by rw [eB]; unfold askB; rw [hcl]; simp only [hi, hN]
          rw [e]
          simp -dsimp only [go_sem, needsV]
          refine call_one (hfail (a + 1) _ _ (by simp -dsimp only [go_sem, hl]) (by simp -dsimp only [go_sem, hta]) (by simp -dsimp only [go_sem, hlt, Wld.row]) hst2) (by simp -dsimp only [go_sem]) (by simp -dsimp only [go_sem]) ?_
          simp -dsimp only [go_sem]
          exact fin_two hlt (by simp -dsimp only [go_sem]) (by simp -dsimp only [go_sem, bigL]) (by simp -dsimp only [go_sem, ho, hoa, aCells, hta, htl, hlt, Wld.row, haf]) (by simp -dsimp only [go_sem, ho, hoa, aCells, hta, htl, hlt, haf])
        · rw [hcl] at hcand
          refine call_pure (hcand _ hw hn.2 (by omega)) ?_
          have hwi := world_inst hok hi
          have hk10 := hwi.1
          have h6 := hwi.2.2.2.2.2.1
          clear hwi
          have hism := hw.i i (List.mem_of_getElem? hi)
          have hnd := i_needs i n.t
          rw [hN] at hnd
          simp -dsimp only [go_sem, List.map_cons, List.map_nil, iRow, hi, Inst.row, hl, hta, ho, hoa, hlt, htl] at hnd ⊢
          refine call_pure (hnd _ hism hn.2.2 (by omega)) ?_
          have hno := needs_ok hok hw hi hN
          have hml := hno.1
          have hmm := hno.2
          clear hno
          have e : askS w gs (g + 1) n a = closeL ms (findL (askS w gs g) ms 0 (digitL k) (a + 1)) := by rw [eB]; unfold askB; rw [hcl]; simp only [hi, hN]
          rw [e]
          simp -dsimp only [go_sem, needsV]
          refine call_pure (l_Itoa k _ (by omega)) ?_
          have hln : ¬ l = h.n := by omega
          have htn : ¬ ta = h.n := by omega
          have hs6 : (st.length + 1) * 32 ≤ 140737488355328 := by omega
          simp -dsimp only [go_sem]
          refine ⟨?_, ?_⟩
          all_goals
            try simp -dsimp only [go_sem]
            refine call_pure (l_Clone_st st _ hst2) ?_
            simp -dsimp only [go_sem, List.length_map, hs6]
            have hp31 : 3 ^ g ≤ 3 ^ 30 := Nat.pow_le_pow_right (by decide) (by omega)
            have hp1 : 1 ≤ 3 ^ g := Nat.one_le_pow _ _ (by decide)
            have hp2 : 3 ^ g ≤ 205891132094649 := hp31
            have fb := askS_bd hok hw (gs := gs) g
            generalize hfd : askS w gs g = fd at fb ihg
            generalize 3 ^ g = B at hp1 hp2 fb
            refine loop_ruleH [3, 9, 112, 0] (fun (x : {x : Nat × L8 × Nat // x.1 ≤ ms.length ∧ findL fd ms 0 (digitL k) (a + 1) = findL fd (ms.drop x.1) x.1 x.2.1 x.2.2 ∧ x.2.2 ≤ 300 ∧ x.2.1.length ≤ 1 + x.1 * (5 * B)}) H => ([(15, str x.1.2.1), (16, .sl ((st ++ [n]).map Need.row)), (128, .v (.int .i64 (x.1.1 : Nat)))], ⟨h.n, upd (upd h.o l (.cells (aCells w gs ta x.1.2.2))) ta (.rows 28 2 (aRows x.1.2.2))⟩)) (fun x => ms.length - x.1.1) ⟨(0, digitL k, a + 1), Nat.zero_le _, rfl, by show a + 1 ≤ 300; omega, by show (digitL k).length ≤ 1 + 0 * _; simp [digitL]⟩ ?_ ?_
            · refine weak_objs [l, ta] (by simp -dsimp only [go_sem]) (by simp -dsimp only [go_sem]) (by simp -dsimp only [go_sem, hl, hln, List.map_append, Need.row, digitL, List.length_append, List.length_map]) ?_ ?_ ?_
              · intro x h1 h2; have h2 : ¬ x = l ∧ ¬ x = ta := by simpa using h2
                have h3 : ¬ x = h.n := by have h1 : x < h.n := h1; omega
                simp -dsimp only [go_sem, h2, h3]
              · intro x h1 h2; have h1 : x < h.n := h1; simp at h2 ⊢; omega
              · simp -dsimp only [go_sem, aCells, hlt, htl, hln, htn, hta, haf, Wld.row]
            · rintro ⟨⟨j, out, b⟩, hj, heq, hb300, hol⟩
              have hj : j ≤ ms.length := hj
              have heq : findL fd ms 0 (digitL k) (a + 1) = findL fd (ms.drop j) j out b := heq
              have hb300 : b ≤ 300 := hb300
              have hol : out.length ≤ 1 + j * (5 * B) := hol
              have hj1 : j + 1 ≤ 9223372036854775807 := by omega
              have hbf : ∀ (H : AH) (m : Nat) (c : Nat), ObjFz H m (.rows 28 2 (aRows c)) (.rows 28 2 (aRows c)) = True := fun H m c => eq_true (objFz_aRows (aRows_len c) (fun r hr => by rw [List.eq_of_mem_replicate hr]; rfl))
              by_cases hlj : j < ms.length
              · obtain ⟨m, hb⟩ := get_some hlj
                have hmok := (hmm m (List.mem_of_getElem? hb)).1
                rw [drop_get hb] at heq
                rw [findL_cons] at heq
                have hfb := fb m b hmok hb300
                have hrec := fun H g1 g2 g3 g4 => ihg l ta m b (st ++ [n]) H g1 g2 hlt g3 g4 hmok hb300 (by omega) (by rw [List.length_append, hst]; simp; omega)
                rw [stA_snoc] at hrec
                simp only [List.map_append, List.map_cons, List.map_nil, Need.row] at hrec
                simp -dsimp only [go_sem, hlj, hb, Need.row]
                refine call_turn (hrec _ (by simp -dsimp only [go_sem, hl]) (by simp -dsimp only [go_sem, hta]) (by simp -dsimp only [go_sem, hlt, hln]) (by simp -dsimp only [go_sem, htn])) (fun t ht _ => .inr ht) (fun t ht => by cases ht) ?_
                by_cases hwy : (fd m b).2.2 = []
                · rw [if_pos hwy] at heq
                  have hjB : j * (5 * B) ≤ 3 * (5 * B) := Nat.mul_le_mul_right _ (by omega)
                  have hl1 : (fd m b).1.length + 1 ≤ 9223372036854775807 := by omega
                  have hl2 : out.length + ((fd m b).1.length + 1) ≤ 9223372036854775807 := by omega
                  have hl1a : 1 + (fd m b).1.length ≤ 9223372036854775807 := by omega
                  have hl2a : out.length + (1 + (fd m b).1.length) ≤ 9223372036854775807 := by omega
                  by_cases hj0 : j = 0
                  · have es : sep j = 40 := by simp [sep, hj0]
                    have hji : (((j : Nat) : Int) = 0) = True := by exact eq_true (by omega)
                    have hji' : (j = 0) = True := by exact eq_true hj0
                    rw [es] at heq
                    simp -dsimp only [go_sem, hwy, hji, hji', hj1, hl1, hl2, hl1a, hl2a, List.length_append, List.length_cons, List.length_nil, Nat.zero_add]
                    refine round_to ⟨(j + 1, out ++ [40] ++ (fd m b).1, (fd m b).2.1), hlj, heq, hfb.2 hwy, ?_⟩ (by simp; omega) ?_
                    · show (out ++ [40] ++ (fd m b).1).length ≤ 1 + (j + 1) * (5 * B)
                      rw [List.length_append, List.length_append, Nat.succ_mul]
                      simp only [List.length_cons, List.length_nil]
                      omega
                    · refine weak_objs [l, ta] (by simp -dsimp only [go_sem]) (by simp -dsimp only [go_sem]) (by simp -dsimp only [go_sem, hl, List.map_append, Need.row, List.append_assoc]) ?_ ?_ ?_
                      · intro x h1 h2; have h2 : ¬ x = l ∧ ¬ x = ta := by simpa using h2
                        have h3 : ¬ x = h.n := by have h1 : x < h.n := h1; omega
                        simp -dsimp only [go_sem, h2, h3]
                      · intro x h1 h2; have h1 : x < h.n := h1; simp at h2 ⊢; omega
                      · simp -dsimp only [go_sem, aCells, hlt, htl, hln, htn, hta, hbf, Wld.row]
                  · have es : sep j = 44 := by simp [sep, hj0]
                    have hji : (((j : Nat) : Int) = 0) = False := by exact eq_false (by omega)
                    have hji' : (j = 0) = False := by exact eq_false hj0
                    rw [es] at heq
                    simp -dsimp only [go_sem, hwy, hji, hji', hj1, hl1, hl2, hl1a, hl2a, List.length_append, List.length_cons, List.length_nil, Nat.zero_add]
                    refine round_to ⟨(j + 1, out ++ [44] ++ (fd m b).1, (fd m b).2.1), hlj, heq, hfb.2 hwy, ?_⟩ (by simp; omega) ?_
                    · show (out ++ [44] ++ (fd m b).1).length ≤ 1 + (j + 1) * (5 * B)
                      rw [List.length_append, List.length_append, Nat.succ_mul]
                      simp only [List.length_cons, List.length_nil]
                      omega
                    · refine weak_objs [l, ta] (by simp -dsimp only [go_sem]) (by simp -dsimp only [go_sem]) (by simp -dsimp only [go_sem, hl, List.map_append, Need.row, List.append_assoc]) ?_ ?_ ?_
                      · intro x h1 h2; have h2 : ¬ x = l ∧ ¬ x = ta := by simpa using h2
                        have h3 : ¬ x = h.n := by have h1 : x < h.n := h1; omega
                        simp -dsimp only [go_sem, h2, h3]
                      · intro x h1 h2; have h1 : x < h.n := h1; simp at h2 ⊢; omega
                      · simp -dsimp only [go_sem, aCells, hlt, htl, hln, htn, hta, hbf, Wld.row]
                · rw [if_neg hwy] at heq
                  have ec : closeL ms (findL fd ms 0 (digitL k) (a + 1)) = ([], (fd m b).2.1, (fd m b).2.2) := by rw [heq]; unfold closeL; rw [if_neg hwy]
                  rw [ec]
                  simp -dsimp only [go_sem, hwy]
                  exact fin_two hlt (by simp -dsimp only [go_sem]) (by simp -dsimp only [go_sem]) (by simp -dsimp only [go_sem, aCells, hlt, hln, hta, Wld.row]) (by simp -dsimp only [go_sem, htn, hbf])
              · have hjm : j = ms.length := by omega
                have ed : ms.drop j = [] := List.drop_of_length_le (by omega)
                rw [ed] at heq
                rw [findL_nil] at heq
                have hjB : j * (5 * B) ≤ 3 * (5 * B) := Nat.mul_le_mul_right _ (by omega)
                have hl1 : out.length + 1 ≤ 9223372036854775807 := by omega
                by_cases hm0 : ms.length = 0
                · have hm0' : ¬ (0 : Int) < (ms.length : Nat) := by omega
                  have ec : closeL ms (findL fd ms 0 (digitL k) (a + 1)) = (out, b, []) := by rw [heq]; unfold closeL; simp [hm0]
                  rw [ec]
                  simp -dsimp only [go_sem, hlj, hm0']
                  exact fin_two hlt (by simp -dsimp only [go_sem]) (by simp -dsimp only [go_sem]) (by simp -dsimp only [go_sem, aCells, hlt, hta, Wld.row]) (by simp -dsimp only [go_sem, hbf])
                · have hm0' : (0 : Int) < (ms.length : Nat) := by omega
                  have ec : closeL ms (findL fd ms 0 (digitL k) (a + 1)) = (out ++ [41], b, []) := by rw [heq]; unfold closeL; simp [hm0]
                  rw [ec]
                  simp -dsimp only [go_sem, hlj, hm0', hl1]
                  exact fin_two hlt (by simp -dsimp only [go_sem]) (by simp -dsimp only [go_sem]) (by simp -dsimp only [go_sem, aCells, hlt, hta, Wld.row]) (by simp -dsimp only [go_sem, hbf])
        · rw [hcl] at hcand
          refine call_pure (hcand _ hw hn.2 (by omega)) ?_
          have e : askS w gs (g + 1) n a = ([], a + 1, manyL) := by rw [eB]; unfold askB; rw [hcl]
          rw [e]
          have hsp := i_mostSpecial w (k :: k2 :: rest)
          have hmo := many_ok hcl hwl
          have hml := hmo.1
          have hmi := hmo.2
          clear hmo
          have hmany : (1 : Int) < ((rest.length + 1 + 1 : Nat) : Int) := by omega
          have hmany0 : ¬ ((rest.length + 1 + 1 : Nat) : Int) = 0 := by omega
          simp only [List.map_cons, iRow, Wld.row] at hsp
          simp -dsimp only [go_sem, List.map_cons, hmany, hmany0, iRow, hl, hta, ho, hoa, hlt, htl]
          refine call_pure (hsp _ hw hml hmi) ?_
          simp -dsimp only [go_sem, hl, hta, ho, hoa, hlt, htl]
          refine call_one (hfail (a + 1) _ _ (by simp -dsimp only [go_sem, hl]) (by simp -dsimp only [go_sem, hta]) (by simp -dsimp only [go_sem, hlt, Wld.row]) hst2) (by simp -dsimp only [go_sem]) (by simp -dsimp only [go_sem]) ?_
          simp -dsimp only [go_sem]
          exact fin_two hlt (by simp -dsimp only [go_sem]) (by simp -dsimp only [go_sem, manyL]) (by simp -dsimp only [go_sem, ho, hoa, aCells, hta, htl, hlt, Wld.row, haf]) (by simp -dsimp only [go_sem, ho, hoa, aCells, hta, htl, hlt, haf])
  · have eS : askS w gs f n a = (givenL w gs n, a, []) := by
      cases f <;> simp [askS, hg]
    have e0 : gotB (givenL w gs n) = true := by
      unfold gotB
      cases hq : givenL w gs n with
      | nil => exact absurd hq hg
      | cons _ _ => rfl
    rw [e0, eS]
    simp -dsimp only [go_sem]
    exact fin_two hlt (by simp -dsimp only [go_sem]) (by simp -dsimp only [go_sem]) (by simp -dsimp only [go_sem, ho, hoa, aCells, hta, Wld.row, haf0]) (by simp -dsimp only [go_sem, ho, hoa, aCells, hta, haf0])
end Go.Proofs.YtnocdggngfiebaaGreatDoor

namespace Go.Proofs.YtnocdggngfiebaaGreatDoor
open Go Go.Isea
set_option maxRecDepth 100000
set_option maxHeartbeats 8000000
theorem i_ask {w : Wld} {gs : List Need} (hok : worldOk w = true) (hw : w.Sm) (hgs : gs.length ≤ 6) : ∀ f, AskOk w gs f
  | 0 => i_ask_step hok hw hgs fun g e => (by cases e)
  | f + 1 => i_ask_step hok hw hgs fun g e => by cases e; exact i_ask hok hw hgs f
def bCells (w : Wld) (gs : List Need) : List AV := [.sl (w.cs.map Cls.row), .sl (w.is.map Inst.row), .v (.bool false), .fn 192 [.ref w.row 0, .ref [.sl (gs.map Need.row)] 0], .v (.slice none 0 0), str [], str [], .v (.slice none 0 0)]
theorem i_ask_first {w : Wld} {gs : List Need} (hok : worldOk w = true) (hw : w.Sm) (hgs : gs.length ≤ 6) (l : Nat) (n : Need) (h : AH) (hl : l < h.n) (ho : h.o l = .cells (bCells w gs)) (hn : NOk w n) :
    ∃ o', Isea.Good Tryz.prog 194 [.ptr l 0, .agg n.row, .v (.slice none 0 0)] h [l] (.tup [str (findS w gs 31 n 0).1, str (findS w gs 31 n 0).2.2]) ⟨h.n + 1, o'⟩ := by
  obtain ⟨e1, e2, _⟩ := ask_find (w := w) (gs := gs) 31 n 0
  rw [← e1, ← e2]
  have hlt : ¬ l = h.n := by omega
  have := i_ask hok hw hgs 31 l h.n n 0 [] ⟨h.n + 1, upd (upd h.o l (.cells (aCells w gs h.n 0))) h.n (.rows 28 2 [])⟩ (by show l < h.n + 1; omega) (by show h.n < h.n + 1; omega) hlt
    (by show upd (upd h.o l _) h.n _ l = _; rw [upd_ne _ _ hlt, upd_same]) (by show upd (upd h.o l _) h.n _ h.n = _; rw [upd_same]; rfl) hn (by decide) (by decide) rfl
  refine ⟨_, Good.ghost (e := 28) (sz := 2) (cs := bCells w gs) (cs' := aCells w gs h.n 0) (by decide) hl ho rfl (fun i x y h1 h2 => ?_) this⟩
  unfold bCells at h1
  unfold aCells at h2
  rcases i with _ | _ | _ | _ | _ | _ | _ | _ | i <;> simp at h1 h2 <;> subst h1 <;> subst h2 <;> simp
theorem i_findGiven {w : Wld} {gs : List Need} (n : Need) (h : AH) (hok : worldOk w = true) (hw : w.Sm) (hgs : gs.length ≤ 6) (hn : NOk w n) :
    Isea.Good Tryz.prog 107 [.agg w.row, .sl (gs.map Need.row), .agg n.row] h [] (.tup [str (findS w gs 31 n 0).1, str (findS w gs 31 n 0).2.2]) h := by
  refine good [12] [] Tryz.func107 rfl rfl Tryz.ntmps107 (by kernel_rfl) mixed (by kernel_rfl) ?_
  simp -dsimp only [go_sem, Wld.row, Need.row]
  obtain ⟨o', hg⟩ := i_ask_first hok hw hgs h.n n ⟨h.n + 1, upd h.o h.n (.cells (bCells w gs))⟩ (by show h.n < h.n + 1; omega) (upd_same _ _ _) hn
  refine call_one hg (by simp -dsimp only [go_sem]) (by simp -dsimp only [go_sem]) ?_
  simp -dsimp only [go_sem]
  exact fin_pure (by simp -dsimp only [go_sem]) (by simp -dsimp only [go_sem])
end Go.Proofs.YtnocdggngfiebaaGreatDoor

namespace Go.Isea
open Go
/-- as long as a length may be -/
def Need.Mx (n : Need) : Prop := n.c.length ≤ 9223372036854775807 ∧ n.t.length ≤ 9223372036854775807
def Cls.Mx (n : Cls) : Prop := n.n.length ≤ 9223372036854775807 ∧ n.s.length ≤ 9223372036854775807
def Inst.Mx (i : Inst) : Prop := i.c.length ≤ 9223372036854775807 ∧ i.t.length ≤ 9223372036854775807 ∧ i.ns.length ≤ 9223372036854775807 ∧ ∀ n ∈ i.ns, n.Mx
structure Wld.Mx (w : Wld) : Prop where
  cl : w.cs.length ≤ 9223372036854775807
  c : ∀ c ∈ w.cs, c.Mx
  il : w.is.length ≤ 9223372036854775807
  i : ∀ i ∈ w.is, i.Mx
def cutN (L s : Nat) : Int := if s ≤ L then ((L - s : Nat) : Int) else -1
def Need.sz (n : Need) : Nat := n.c.length + n.t.length
def Cls.sz (n : Cls) : Nat := n.n.length + n.s.length
def szL {α : Type} (f : α → Nat) : List α → Nat
  | [] => 0
  | a :: l => f a + szL f l
def szS {α : Type} (f : α → Nat) (l : List α) : Nat := l.length + szL f l
def Inst.sz (i : Inst) : Nat := i.c.length + i.t.length + szS Need.sz i.ns
def Wld.sz (w : Wld) : Nat := szS Cls.sz w.cs + szS Inst.sz w.is
end Go.Isea
namespace Go.Proofs.YtnocdggngfiebaaGreatDoor
open Go Go.Isea
set_option maxRecDepth 100000
set_option maxHeartbeats 8000000
end Go.Proofs.YtnocdggngfiebaaGreatDoor

namespace Go.Isea
open Go
def Need.Ok (_ : Need) : Prop := True
def Cls.Ok (_ : Cls) : Prop := True
def Inst.Ok (i : Inst) : Prop := i.ns.length ≤ 1048576
def fillR {α : Type} (f : α → List AV) (sz : Nat) (l : List α) (k : Nat) : List (List AV) := (l.take k).map f ++ List.replicate (l.length - k) (List.replicate sz .junk)
end Go.Isea
namespace Go.Proofs.YtnocdggngfiebaaGreatDoor
open Go Go.Isea
set_option maxRecDepth 100000
set_option maxHeartbeats 8000000
end Go.Proofs.YtnocdggngfiebaaGreatDoor

namespace Go.Proofs.YtnocdggngfiebaaGreatDoor
open Go Go.Isea
set_option maxRecDepth 100000
set_option maxHeartbeats 8000000
end Go.Proofs.YtnocdggngfiebaaGreatDoor

namespace Go.Isea
open Go
end Go.Isea

namespace Go.Isea
open Go Go.ChangeShapes Go.WideShapes Go.ChangeAt Go.RowKit Go.Deep
variable {P : Program} {H : Type} {enc : TypeId × Value → H} {w : World} {sp : Nat → Bool} {held : Bool}
/-- cells that read as a row -/
def RowR (w : World) (r : List AV) (cs : List Value) : Prop := cs.length = r.length ∧ ∀ (K : KM) (o : Nat → AObj) (j : Nat) (x : AV) (y : Value), r[j]? = some x → cs[j]? = some y → Rep K ⟨0, o⟩ w x y
theorem addr_none {a : Addr} (h : a.spot = none) (n : Nat) : a.add n = ⟨a.block, a.off + n, none⟩ := by
  unfold Addr.add
  split
  · rename_i e; subst e; cases a; simp only at h; subst h; rfl
  · rfl
theorem rep_slice {α : Type} {f : α → List AV} {Q : α → Prop} {t e sz fuel : Nat} {v : Value} {x : DataW H × List MemPlace} (ht : P.underlying t = some (.slice e)) (hsz : P.cellsOf e = sz) (hf : ∀ a, (f a).length = sz) (h0 : 0 < sz)
    (helem : ∀ n cs' y, cs'.length = sz → DataW.trod enc P w 0 sp held n e cs' = some y → ∃ a, RowR w (f a) cs' ∧ Q a)
    (h : DataW.trod enc P w 0 sp held fuel t [v] = some x) : ∃ l : List α, (∀ (K : KM) (o : Nat → AObj), Rep K ⟨0, o⟩ w (.sl (l.map f)) v) ∧ l.length ≤ 9223372036854775807 ∧ ∀ a ∈ l, Q a := by
  rcases open_slice ht h with ⟨h1, _⟩ | ⟨a, len, cap, m, n, D, Pl, h1, hb, hl, hm, hmm, _, hx⟩
  · injection h1 with h1
    subst h1
    exact ⟨[], fun K o => .sl0 _ _, by simp, fun a ha => by cases ha⟩
  · injection h1 with h1
    subst h1
    have hlm : len ≤ m := by rw [hmm]; split <;> omega
    have mk : ∀ k, k ≤ len → ∃ l : List α, l.length = k ∧ (∀ a ∈ l, Q a) ∧ ∀ i b, l[i]? = some b → ∃ cs', w.cells? 0 (a.add (i * sz)) sz = some cs' ∧ RowR w (f b) cs' := by
      intro k
      induction k with
      | zero => exact fun _ => ⟨[], rfl, fun _ h => (by cases h), fun i b h => (by simp at h)⟩
      | succ k ih =>
        intro hk
        obtain ⟨l, l1, l2, l3⟩ := ih (by omega)
        obtain ⟨cs', c1, c2⟩ := hx k (by omega)
        rw [hsz] at c1
        obtain ⟨_, c3, _⟩ := World.cells?_some c1
        obtain ⟨b, b1, b2⟩ := helem n cs' _ c3 c2
        refine ⟨l ++ [b], by simp [l1], fun a ha => ?_, fun i b' hi => ?_⟩
        · rcases List.mem_append.1 ha with ha | ha
          · exact l2 a ha
          · rw [List.mem_singleton.1 ha]; exact b2
        · by_cases hil : i < k
          · rw [List.getElem?_append_left (by omega)] at hi
            exact l3 i b' hi
          · rw [List.getElem?_append_right (by omega)] at hi
            have hi0 : i - l.length = 0 := by
              have := (List.getElem?_eq_some_iff.1 hi).1
              simp at this; omega
            rw [hi0] at hi
            simp only [List.getElem?_cons_zero, Option.some.injEq] at hi
            subst hi
            have : i = k := by omega
            subst this
            exact ⟨cs', c1, b1⟩
    obtain ⟨l, l1, l2, l3⟩ := mk len (Nat.le_refl _)
    refine ⟨l, fun K o => ?_, by have : maxLen = 9223372036854775807 := by decide
                                 omega, l2⟩
    rcases Nat.eq_zero_or_pos len with hz | hpos
    · subst hz
      have : l = [] := List.length_eq_zero_iff.1 l1
      subst this
      exact .sl0 _ _
    · obtain ⟨b0, hb0⟩ := get_some (l := l) (k := 0) (by omega)
      obtain ⟨cs0, c01, c02⟩ := l3 0 b0 hb0
      obtain ⟨_, c03, c04⟩ := World.cells?_some c01
      have hc0 : ∃ y, w.cell? a = some y := by
        have := c04 0 h0
        have e1 : (a.add (0 * sz)).add 0 = a := by simp [Addr.add]
        rw [e1] at this
        obtain ⟨y, hy⟩ := get_some (l := cs0) (k := 0) (by omega)
        exact ⟨y, this.trans hy⟩
      obtain ⟨y0, hy0⟩ := hc0
      have hspot : a.spot = none ∧ a.block < w.heap.size := by
        unfold World.cell? at hy0
        split at hy0
        · rename_i hh
          split at hy0
          · cases hy0
          · rename_i hs
            exact ⟨by simpa using hs, (Array.getElem?_eq_some_iff.1 hh).1⟩
        · cases hy0
      have ha : a = ⟨a.block, a.off, none⟩ := by
        have := hspot.1
        cases a; simp only at this; subst this; rfl
      have cellAt : ∀ i b cs', l[i]? = some b → w.cells? 0 (a.add (i * sz)) sz = some cs' → ∀ j, j < sz → w.cell? ⟨a.block, a.off + (i * sz + j), none⟩ = cs'[j]? := fun i b cs' _ hc j hj => by
        have g := (World.cells?_some hc).2.2 j hj
        rw [addr_none hspot.1, addr_none (a := ⟨a.block, a.off + i * sz, none⟩) rfl] at g
        rw [← Nat.add_assoc]; exact g
      have hlen : (l.map f).length = len := by rw [List.length_map, l1]
      have key : Rep K ⟨0, o⟩ w (.sl (l.map f)) (.slice (some ⟨a.block, a.off, none⟩) (l.map f).length cap) := by
        refine .sl (sz := sz) (f := fun k => (w.cell? ⟨a.block, a.off + k, none⟩).getD undef) ⟨hspot.2, fun t ht => absurd ht (Nat.not_lt_zero _)⟩ (by omega) (fun r hr => ?_) (fun k hk => ?_) (fun i j r x' hr hx' => ?_)
        · obtain ⟨b, _, rfl⟩ := List.mem_map.1 hr
          exact hf b
        · rw [hlen] at hk
          have hdm := Nat.div_add_mod k sz
          have hmod := Nat.mod_lt k h0
          have hdiv : k / sz < len := Nat.div_lt_of_lt_mul (by rw [Nat.mul_comm]; exact hk)
          obtain ⟨b, hb'⟩ := get_some (l := l) (k := k / sz) (by omega)
          obtain ⟨cs', d1, _⟩ := l3 _ b hb'
          have g := cellAt _ b cs' hb' d1 (k % sz) hmod
          rw [Nat.mul_comm, hdm] at g
          obtain ⟨y, hy⟩ := get_some (l := cs') (k := k % sz) (by rw [(World.cells?_some d1).2.1]; exact hmod)
          rw [hy] at g
          simp only [g, Option.getD_some]
        · rw [List.getElem?_map] at hr
          cases hb' : l[i]? with
          | none => rw [hb'] at hr; cases hr
          | some b =>
            rw [hb'] at hr
            simp only [Option.map_some, Option.some.injEq] at hr
            subst hr
            obtain ⟨cs', d1, d2⟩ := l3 i b hb'
            have hj : j < sz := by have := (List.getElem?_eq_some_iff.1 hx').1; rw [hf] at this; exact this
            have g := cellAt i b cs' hb' d1 j hj
            obtain ⟨y, hy⟩ := get_some (l := cs') (k := j) (by rw [(World.cells?_some d1).2.1]; exact hj)
            rw [hy] at g
            simp only [g, Option.getD_some]
            exact d2.2 K o j x' y hx' hy
      rw [hlen, ← ha] at key
      exact key
end Go.Isea

namespace Go.Isea
open Go Go.ChangeShapes Go.WideShapes Go.ChangeAt Go.RowKit Go.Deep
variable {P : Program} {H : Type} {enc : TypeId × Value → H} {w : World} {sp : Nat → Bool} {held : Bool}
end Go.Isea

namespace Go.Proofs.YtnocdggngfiebaaGreatDoor
open Go Go.Isea Go.ChangeShapes Go.WideShapes Go.ChangeAt Go.RowKit Go.Deep
set_option maxRecDepth 100000
variable {H : Type} {enc : TypeId × Value → H} {w : World} {sp : Nat → Bool} {held : Bool}
end Go.Proofs.YtnocdggngfiebaaGreatDoor
