/- Contracts of functions of this program, for all arguments that satisfy what each lemma asks for. -/
import Derived.Test.YtiphcdmjlkngfaaGreatDoorMJ
import Derived.Test.YtiphcdmjlkngfaaGreatDoorMR
set_option linter.all false
namespace Go.Isea
open Go
theorem leastL_spec : ∀ (l : List L8) (b : L8), (∀ x ∈ l, x ≠ []) → b ≠ [] → (leastL l b = b ∨ leastL l b ∈ l) ∧ digitsL (leastL l b) ≤ digitsL b ∧ (∀ x ∈ l, digitsL (leastL l b) ≤ digitsL x) ∧ (digitsL (leastL l b) = digitsL b → leastL l b = b) ∧ ∀ (k : Nat) e, l[k]? = some e → digitsL e = digitsL (leastL l b) → (leastL l b = b ∨ leastL l b ∈ l.take (k + 1))
  | [], b, _, _ => ⟨.inl rfl, Nat.le_refl _, (fun x hx => by cases hx), (fun _ => rfl), (fun k e h => by simp at h)⟩
  | x :: l, b, hl, hb => by
    rw [leastL]
    have hl2 : ∀ y ∈ l, y ≠ [] := fun y hy => hl y (List.mem_cons_of_mem _ hy)
    by_cases hlt : digitsL x < digitsL b
    · rw [if_pos (.inr hlt)]
      obtain ⟨h1, h2, h3, h4, h5⟩ := leastL_spec l x hl2 (hl x (List.mem_cons_self ..))
      refine ⟨.inr ?_, by omega, fun y hy => ?_, fun e => by omega, fun k e he hd => ?_⟩
      · rcases h1 with h1 | h1
        · rw [h1]; exact List.mem_cons_self ..
        · exact List.mem_cons_of_mem _ h1
      · rcases List.mem_cons.1 hy with rfl | hy
        · exact h2
        · exact h3 y hy
      · refine .inr ?_
        rw [List.take_succ_cons]
        cases k with
        | zero =>
          have he : x = e := by simpa using he
          subst he
          rw [h4 hd.symm]
          exact List.mem_cons_self ..
        | succ k =>
          have he : l[k]? = some e := by simpa using he
          rcases h5 k e he hd with h | h
          · rw [h]; exact List.mem_cons_self ..
          · exact List.mem_cons_of_mem _ h
    · rw [if_neg (fun e => e.elim hb hlt)]
      obtain ⟨h1, h2, h3, h4, h5⟩ := leastL_spec l b hl2 hb
      refine ⟨h1.imp id (List.mem_cons_of_mem _), h2, fun y hy => ?_, h4, fun k e he hd => ?_⟩
      · rcases List.mem_cons.1 hy with rfl | hy
        · omega
        · exact h3 y hy
      · cases k with
        | zero =>
          have he : x = e := by simpa using he
          subst he
          exact .inl (h4 (by omega))
        | succ k =>
          have he : l[k]? = some e := by simpa using he
          rcases h5 k e he hd with h | h
          · exact .inl h
          · exact .inr (by rw [List.take_succ_cons]; exact List.mem_cons_of_mem _ h)
theorem leastL_first {L : List L8} (hne : ∀ x ∈ L, x ≠ []) (hL : L ≠ []) : leastL L [] ∈ L ∧ ∀ (k : Nat) e, L[k]? = some e → digitsL (leastL L []) ≤ digitsL e ∧ (digitsL e = digitsL (leastL L []) → leastL L [] ∈ L.take (k + 1)) := by
  cases L with
  | nil => exact absurd rfl hL
  | cons x l =>
    rw [leastL, if_pos (.inl rfl)]
    obtain ⟨h1, h2, h3, h4, h5⟩ := leastL_spec l x (fun y hy => hne y (List.mem_cons_of_mem _ hy)) (hne x (List.mem_cons_self ..))
    refine ⟨?_, fun k e he => ?_⟩
    · rcases h1 with h1 | h1
      · rw [h1]; exact List.mem_cons_self ..
      · exact List.mem_cons_of_mem _ h1
    · rw [List.take_succ_cons]
      cases k with
      | zero =>
        have he : x = e := by simpa using he
        subst he
        exact ⟨h2, fun hd => by rw [h4 hd.symm]; exact List.mem_cons_self ..⟩
      | succ k =>
        have he : l[k]? = some e := by simpa using he
        refine ⟨h3 e (List.mem_of_getElem? he), fun hd => ?_⟩
        rcases h5 k e he hd with h | h
        · rw [h]; exact List.mem_cons_self ..
        · exact List.mem_cons_of_mem _ h
theorem used_has {w : Wld} {n : Need} {d : Int} (hw : w.Sm) (hN : w.is.length ≤ 10) {x : L8} (hx : x ∈ adL w n d) : ∀ i ∈ instsIn x, i ∈ usedN w n d := by
  intro i hi
  obtain ⟨D, h1, h2, h3, h4⟩ := adL_txt hw x hx
  unfold instsIn at hi
  rw [h1] at hi
  simp only [Option.isSome_some, if_true] at hi
  obtain ⟨hi, hd⟩ := List.mem_filter.1 hi
  have hi := List.mem_range.1 hi
  unfold usedN usedS
  refine List.mem_filter.2 ⟨List.mem_range.2 ?_, List.any_eq_true.2 ⟨x, hx, hd⟩⟩
  have h9 := digit_dig i (by omega)
  have := dig_text hN D h4 (digC i) (by rw [h2]; simpa [hasDig] using hd) h9.1
  have h10 : (digC i).toNat - 48 = i := h9.2
  omega
end Go.Isea
namespace Go.Proofs.YtiphcdmjlkngfaaGreatDoor
open Go Go.Isea
set_option maxRecDepth 100000
set_option maxHeartbeats 8000000
theorem l_inSame (a : List Nat) (h : AH) (ha : a.length ≤ 1000000) : Isea.Good Tryz.prog 52 [.sl (a.map iRow), .sl (a.map iRow)] h [] (.v (.bool true)) h := by
  have hm : (((a.length : Nat) : Int) < ((a.length : Nat) : Int)) = False := eq_false (by omega)
  refine good [] [] Tryz.func52 rfl rfl Tryz.ntmps52 (by kernel_rfl) mixed (by kernel_rfl) ?_
  simp -dsimp only [go_sem, List.length_map, hm]
  refine loop_ruleH [0, 0, 8, 0] (fun (k : {k : Nat // k ≤ a.length}) H => ([(11, .v (.int .i64 (k.1 : Nat)))], H)) (fun k => a.length - k.1) ⟨0, Nat.zero_le _⟩ ?_ ?_
  · refine weak_objs [] (by simp -dsimp only [go_sem]) (by simp -dsimp only [go_sem]) (by simp -dsimp only [go_sem]) ?_ ?_ ?_
    · intro t h1 h2
      simp -dsimp only [go_sem]
    · intro x h1 h2; have h1 : x < h.n := h1; simp at h2 ⊢; omega
    · simp -dsimp only [go_sem]
  · rintro ⟨k, hk⟩
    have k1 : k + 1 ≤ 9223372036854775807 := by omega
    by_cases hkl : k < a.length
    · obtain ⟨n, hn⟩ := get_some hkl
      have hkc : (((k : Nat) : Int) < ((a.length : Nat) : Int)) = True := eq_true (by omega)
      simp -dsimp only [go_sem, hkc, hkl, hn, k1, iRow, List.length_map]
      refine round_to ⟨k + 1, hkl⟩ (by show a.length - (k + 1) < a.length - k; omega) ?_
      refine weak_objs [] (by simp -dsimp only [go_sem]) (by simp -dsimp only [go_sem]) (by simp -dsimp only [go_sem]) ?_ ?_ ?_
      · intro t h1 h2
        simp -dsimp only [go_sem]
      · intro x h1 h2; have h1 : x < h.n := h1; simp at h2 ⊢; omega
      · simp -dsimp only [go_sem]
    · have hkc : (((k : Nat) : Int) < ((a.length : Nat) : Int)) = False := eq_false (by omega)
      simp -dsimp only [go_sem, hkc, List.length_map]
      exact fin_pure (by simp -dsimp only [go_sem]) (by simp -dsimp only [go_sem])
end Go.Proofs.YtiphcdmjlkngfaaGreatDoor
