/- Contracts of functions of this program, for all arguments that satisfy what each lemma asks for. -/
import Derived.Test.YtiphcdmjlkngfaaGreatDoorMC
import Derived.Test.YtiphcdmjlkngfaaGreatDoorMz
import Derived.Test.YtiphcdmjlkngfaaGreatDoorMr
set_option linter.all false
namespace Go.Isea
open Go
def prtD (s : L8) : List L8 := match dictOf s with
  | none => []
  | some d => d.ps.map Dct.text
theorem joinB_dictT (i : Nat) (r : List L8) : (joinB 0 r).length ≤ (dictT i r).length := by
  unfold dictT
  simp only [List.length_append]
  omega
end Go.Isea
namespace Go.Proofs.YtiphcdmjlkngfaaGreatDoor
open Go Go.Isea
set_option maxRecDepth 100000
set_option maxHeartbeats 8000000
theorem i_dtext_step {i : Nat} {ps : List Dct} (hwf : (Dct.mk i ps).wf) (hl : (Dct.mk i ps).text.length ≤ 1200) (ih : ∀ p ∈ ps, ∀ h : AH, Isea.Good Tryz.prog 104 [.ref p.pc 0] h [] (str p.text) h) (h : AH) :
    Isea.Good Tryz.prog 104 [.ref (Dct.mk i ps).pc 0] h [] (str (Dct.mk i ps).text) h := by
  obtain ⟨w1, w2, _⟩ := dpart_wf hwf
  rw [text_eq] at hl ⊢
  have hj := joinB_dictT i (ps.map Dct.text)
  obtain ⟨X, hX⟩ : ∃ X, ps.map Dct.text = X := ⟨_, rfl⟩
  have hXl : X.length = ps.length := by rw [← hX, List.length_map]
  have hXk : ∀ (k : Nat) (p : Dct), ps[k]? = some p → X[k]? = some p.text := fun k p hp => by rw [← hX, List.getElem?_map, hp]; rfl
  rw [hX] at hl hj ⊢
  clear hX
  have hIt : ∀ H, Isea.Good Tryz.prog 114 [.v (.int .i64 (i : Nat))] H [] (str (digitL i)) H := fun H => l_Itoa i H w1
  have hJ := i_joined i X ⟨0, fun _ => default⟩ (by omega) (by omega)
  refine good [] [] Tryz.func104 rfl rfl Tryz.ntmps104 (by kernel_rfl) mixed (by kernel_rfl) ?_
  simp -dsimp only [go_sem, Dct.pc_mk, List.length_map]
  refine loop_ruleH [0, 9, 0] (fun (k : {k : Nat // k ≤ ps.length}) H => ([(3, .so h.n k.1 k.1), (12, .v (.int .i64 (k.1 : Nat)))], ⟨h.n + 1, upd H.o h.n (.rows 9 1 ((X.take k.1).map sRow))⟩)) (fun k => ps.length - k.1) ⟨0, Nat.zero_le _⟩ ?_ ?_
  · refine weak_objs [h.n] (by simp -dsimp only [go_sem]) (by simp -dsimp only [go_sem]) (by simp -dsimp only [go_sem, List.take_zero, List.map_nil]) ?_ ?_ ?_
    · intro t h1 h2
      have a1 : ¬ t = h.n := by omega
      simp -dsimp only [go_sem, a1]
    · intro x h1 h2; have h1 : x < h.n + 1 := h1; simp at h2 ⊢; omega
    · simp -dsimp only [go_sem, List.take_zero, List.map_nil]
  · rintro ⟨k, hk⟩
    have hk : k ≤ ps.length := hk
    have hk1 : k + 1 ≤ 9223372036854775807 := by omega
    have hln : (X.take k).length = k := by rw [List.length_take]; omega
    by_cases hlt : k < ps.length
    · obtain ⟨p, hp⟩ := get_some hlt
      have hih := fun H => ih p (List.mem_of_getElem? hp) H
      have en := take_next (hXk k p hp)
      have e6 : (k + 1) * 16 ≤ 140737488355328 := by omega
      simp -dsimp only [go_sem, hlt, hp, pcRow]
      refine call_pure (hih _) ?_
      simp -dsimp only [go_sem, hk1, e6, hln, List.length_map]
      refine round_to ⟨k + 1, hlt⟩ (by simp; omega) ?_
      refine weak_objs [h.n] (by simp -dsimp only [go_sem]) (by simp -dsimp only [go_sem]) (by simp -dsimp only [go_sem]) ?_ ?_ ?_
      · intro t h1 h2
        have a1 : ¬ t = h.n := by omega
        simp -dsimp only [go_sem, a1]
      · intro x h1 h2; have h1 : x < h.n + 1 := h1; simp at h2 ⊢; omega
      · simp -dsimp only [go_sem, en, List.map_append, List.map_cons, List.map_nil, sRow]
    · have et : X.take k = X := List.take_of_length_le (by omega)
      have hke : k = X.length := by omega
      simp -dsimp only [go_sem, hlt, et]
      refine call_pure (hIt _) ?_
      simp -dsimp only [go_sem]
      refine call_pure (Good.frozen hJ (Flat.v _) (by simp -dsimp only [go_sem, hke, List.length_map])) ?_
      simp -dsimp only [go_sem]
      exact fin_pure (by simp -dsimp only [go_sem]) (by simp -dsimp only [go_sem])
theorem i_dtext : ∀ (d : Dct) (h : AH), d.wf → d.text.length ≤ 1200 → Isea.Good Tryz.prog 104 [.ref d.pc 0] h [] (str d.text) h
  | .mk i ps, h, hwf, hl => i_dtext_step hwf hl (fun p hp h => i_dtext p h ((dpart_wf hwf).2.2 p hp) (by have := part_text (i := i) hp; omega)) h
termination_by d => SizeOf.sizeOf d
decreasing_by
  have := List.sizeOf_lt_of_mem hp
  simp
  omega
theorem dicts_take {x : Nat} (d : Dct) (h : x ≤ d.ps.length) : ((d.ps.map Dct.text).take x).length = x := by rw [List.length_take, List.length_map]; omega
theorem i_PartsOfDict (s : L8) (h : AH) (hs : s.length ≤ 4611686018427387904) : Isea.Good Tryz.prog 41 [str s] h [] (.so h.n (prtD s).length (prtD s).length) (h.push (.rows 9 1 ((prtD s).map sRow))) := by
  have hD := fun H => i_dictOf s H hs
  cases hd : dictOf s with
  | none =>
    have e : prtD s = [] := by unfold prtD; rw [hd]
    rw [e]
    rw [hd] at hD
    unfold dcO at hD
    refine good [] [] Tryz.func41 rfl rfl Tryz.ntmps41 (by kernel_rfl) mixed (by kernel_rfl) ?_
    simp -dsimp only [go_sem]
    refine call_pure (hD _) ?_
    simp -dsimp only [go_sem]
    exact fin_push (by simp -dsimp only [go_sem]) (by simp -dsimp only [go_sem, List.length_nil]) (by simp -dsimp only [go_sem, List.map_nil])
  | some d =>
    obtain ⟨i, ps⟩ := d
    obtain ⟨g1, hwf, g3⟩ := dictOf_some hd
    obtain ⟨w1, w2, w3⟩ := dpart_wf hwf
    have e : prtD s = ps.map Dct.text := by unfold prtD; rw [hd]; rfl
    rw [e]
    obtain ⟨X, hX⟩ : ∃ X, ps.map Dct.text = X := ⟨_, rfl⟩
    have hXl : X.length = ps.length := by rw [← hX, List.length_map]
    have hXk : ∀ (k : Nat) (p : Dct), ps[k]? = some p → X[k]? = some p.text := fun k p hp => by rw [← hX, List.getElem?_map, hp]; rfl
    rw [hX]
    clear hX e
    rw [hd] at hD
    unfold dcO at hD
    have hT : ∀ p ∈ ps, ∀ H, Isea.Good Tryz.prog 104 [.ref p.pc 0] H [] (str p.text) H := fun p hp H => i_dtext p H (w3 p hp) (by have := part_text (i := i) hp; rw [g1] at this; omega)
    refine good [] [] Tryz.func41 rfl rfl Tryz.ntmps41 (by kernel_rfl) mixed (by kernel_rfl) ?_
    simp -dsimp only [go_sem, Dct.pc_mk] at hD ⊢
    refine call_pure (hD _) ?_
    simp -dsimp only [go_sem, Dct.pc_mk, List.length_map]
    refine loop_ruleH [15, 0] (fun (k : {k : Nat // k ≤ ps.length}) H => ([(3, .so h.n k.1 k.1), (17, .v (.int .i64 (k.1 : Nat)))], ⟨h.n + 1, upd H.o h.n (.rows 9 1 ((X.take k.1).map sRow))⟩)) (fun k => ps.length - k.1) ⟨0, Nat.zero_le _⟩ ?_ ?_
    · refine weak_objs [h.n] (by simp -dsimp only [go_sem]) (by simp -dsimp only [go_sem]) (by simp -dsimp only [go_sem, List.take_zero, List.map_nil]) ?_ ?_ ?_
      · intro t h1 h2
        have a1 : ¬ t = h.n := by omega
        simp -dsimp only [go_sem, a1]
      · intro x h1 h2; have h1 : x < h.n + 1 := h1; simp at h2 ⊢; omega
      · simp -dsimp only [go_sem, List.take_zero, List.map_nil]
    · rintro ⟨k, hk⟩
      have hk : k ≤ ps.length := hk
      have hk1 : k + 1 ≤ 9223372036854775807 := by omega
      have hln : (X.take k).length = k := by rw [List.length_take]; omega
      by_cases hlt : k < ps.length
      · obtain ⟨p, hp⟩ := get_some hlt
        have hih := hT p (List.mem_of_getElem? hp)
        have en := take_next (hXk k p hp)
        have e6 : (k + 1) * 16 ≤ 140737488355328 := by omega
        simp -dsimp only [go_sem, hlt, hp, pcRow]
        refine call_pure (hih _) ?_
        simp -dsimp only [go_sem, hk1, e6, hln, List.length_map]
        refine round_to ⟨k + 1, hlt⟩ (by simp; omega) ?_
        refine weak_objs [h.n] (by simp -dsimp only [go_sem]) (by simp -dsimp only [go_sem]) (by simp -dsimp only [go_sem]) ?_ ?_ ?_
        · intro t h1 h2
          have a1 : ¬ t = h.n := by omega
          simp -dsimp only [go_sem, a1]
        · intro x h1 h2; have h1 : x < h.n + 1 := h1; simp at h2 ⊢; omega
        · simp -dsimp only [go_sem, en, List.map_append, List.map_cons, List.map_nil, sRow]
      · have et : X.take k = X := List.take_of_length_le (by omega)
        have hke : k = X.length := by omega
        subst hke
        simp -dsimp only [go_sem, hlt, et]
        exact fin_push (by simp -dsimp only [go_sem]) (by simp -dsimp only [go_sem]) (by simp -dsimp only [go_sem])
theorem i_PartsOfDictF (s : L8) (h : AH) (hs : s.length ≤ 4611686018427387904) : Isea.Good Tryz.prog 41 [str s] h [] (.sl ((prtD s).map sRow)) h :=
  (i_PartsOfDict s h hs).fin (fin_pure (by simp -dsimp only [go_sem]) (by simp -dsimp only [go_sem, List.length_map]))
end Go.Proofs.YtiphcdmjlkngfaaGreatDoor
