/- Contracts of functions of this program, for all arguments that satisfy what each lemma asks for. -/
import Derived.Test.YtiphcdmjlkngfaaGreatDoorMy
import Derived.Test.YtiphcdmjlkngfaaGreatDoorMA
import Derived.Test.YtiphcdmjlkngfaaGreatDoorMC
import Derived.Test.YtiphcdmjlkngfaaGreatDoorMB
set_option linter.all false
namespace Go.Isea
open Go
def countD (w : Wld) (n : Need) (d : Int) : Int := match allDicts w n d with
  | none => -1
  | some l => ((l.length : Nat) : Int)
end Go.Isea
namespace Go.Proofs.YtiphcdmjlkngfaaGreatDoor
open Go Go.Isea
set_option maxRecDepth 100000
set_option maxHeartbeats 8000000
theorem i_AllDictsF (w : Wld) (n : Need) (d : Int) (h : AH) (hw : w.Sm) (hn : n.Sm) (hd : -9223372036854775808 ≤ d ∧ d ≤ 9223372036854775807) : Isea.Good Tryz.prog 20 [.agg w.row, .agg n.row, .v (.int .i64 d)] h [] (.tup [.sl (((allDicts w n d).getD []).map sRow), .v (.bool (allDicts w n d).isSome)]) h :=
  (i_AllDicts w n d h hw hn hd).fin (fin_pure (by simp -dsimp only [go_sem]) (by simp -dsimp only [go_sem, List.length_map]))
/-- what is known of all dictionaries -/
structure AdF (w : Wld) (n : Need) (d : Int) (l : List L8) : Prop where
  wk : worldOk w = true
  nk : needOk w n = true
  d0 : 0 ≤ d
  d6 : d ≤ 6
  al : allD w d.toNat n = some l
  ln : l.length ≤ 60
  ok : ∀ x ∈ l, ∃ D : Dct, dictOf x = some D ∧ D.text = x ∧ x.length ≤ 1200 ∧ checkDict w n x = okW ∧ chkD w D n = okW ∧ depthD x = ((D.depth : Nat) : Int) ∧ ((D.depth : Nat) : Int) ≤ d ∧ instD x = ((D.i : Nat) : Int)
  od : ∀ (i : Nat) x y, l[i]? = some x → l[i + 1]? = some y → instD x ≤ instD y
  ne : ∀ (i j : Nat) x y, j < i → l[i]? = some x → l[j]? = some y → x ≠ y
theorem adF {w : Wld} {n : Need} {d : Int} {l : List L8} (hw : w.Sm) (h : allDicts w n d = some l) : AdF w n d l := by
  unfold allDicts at h
  split at h
  · rename_i hc
    obtain ⟨hv, h0, h6⟩ := hc
    have hb := hv
    rw [Bool.and_eq_true] at hb
    have hok : ∀ x ∈ l, ∃ D : Dct, dictOf x = some D ∧ D.text = x ∧ x.length ≤ 1200 ∧ checkDict w n x = okW ∧ chkD w D n = okW ∧ depthD x = ((D.depth : Nat) : Int) ∧ ((D.depth : Nat) : Int) ≤ d ∧ instD x = ((D.i : Nat) : Int) := by
      intro x hx
      obtain ⟨D, h1, h2, h3⟩ := allD_sound hb.1 hw d.toNat n l h x hx
      have hwf := okN_wf (world_len hb.1) D h2.1
      have hd : dictOf x = some D := by rw [h1] at h3 ⊢; exact dictOf_text hwf h3
      refine ⟨D, hd, h1.symm, h3, ?_, h2.2.2, ?_, ?_, ?_⟩
      · unfold checkDict; rw [hd]; simp only; rw [if_pos hv]; exact h2.2.2
      · unfold depthD; rw [hd]
      · have := h2.2.1; omega
      · unfold instD; rw [hd]
    have hp := allD_pair hb.1 hw d.toNat n l h
    rw [List.pairwise_iff_getElem] at hp
    refine ⟨hb.1, hb.2, h0, h6, h, (allD_ok h).1, hok, ?_, ?_⟩
    · intro i x y hx hy
      obtain ⟨a1, a2⟩ := List.getElem?_eq_some_iff.1 hx
      obtain ⟨b1, b2⟩ := List.getElem?_eq_some_iff.1 hy
      have := (hp i (i + 1) a1 b1 (by omega)).2
      rw [a2, b2] at this
      obtain ⟨D, d1, _, _, _, _, _, _, d2⟩ := hok x (List.mem_of_getElem? hx)
      obtain ⟨E, e1, _, _, _, _, _, _, e2⟩ := hok y (List.mem_of_getElem? hy)
      have := this D E d1 e1
      omega
    · intro i j x y hji hx hy
      obtain ⟨a1, a2⟩ := List.getElem?_eq_some_iff.1 hx
      obtain ⟨b1, b2⟩ := List.getElem?_eq_some_iff.1 hy
      have := (hp j i b1 a1 hji).1
      rw [a2, b2] at this
      exact fun e => this e.symm
  · cases h
end Go.Proofs.YtiphcdmjlkngfaaGreatDoor
