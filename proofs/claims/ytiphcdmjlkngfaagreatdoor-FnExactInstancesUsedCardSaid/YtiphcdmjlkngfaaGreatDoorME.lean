/- Contracts of functions of this program, for all arguments that satisfy what each lemma asks for. -/
import Derived.Test.YtiphcdmjlkngfaaGreatDoorMD
import Derived.Test.YtiphcdmjlkngfaaGreatDoorMC
import Derived.Test.YtiphcdmjlkngfaaGreatDoorMy
import Derived.Test.YtiphcdmjlkngfaaGreatDoorMA
set_option linter.all false
namespace Go.Isea
open Go
set_option maxRecDepth 100000
/-- the lists that are told -/
def adL (w : Wld) (n : Need) (d : Int) : List L8 := (allDicts w n d).getD []
theorem adL_txt {w : Wld} {n : Need} {d : Int} (hw : w.Sm) : ∀ x ∈ adL w n d, ∃ D : Dct, dictOf x = some D ∧ D.text = x ∧ D.wf ∧ D.okN w.is.length := by
  intro x hx
  unfold adL at hx
  cases e : allDicts w n d with
  | none => rw [e] at hx; cases hx
  | some l =>
    rw [e] at hx
    simp only [Option.getD_some] at hx
    unfold allDicts at e
    split at e
    · rename_i hc
      have hb := hc.1
      rw [Bool.and_eq_true] at hb
      obtain ⟨D, h1, h2, h3⟩ := allD_sound hb.1 hw d.toNat n l e x hx
      have hwf := okN_wf (world_len hb.1) D h2.1
      exact ⟨D, by rw [h1] at h3 ⊢; exact dictOf_text hwf h3, h1.symm, hwf, h2.1⟩
    · cases e
theorem adL_len {w : Wld} {n : Need} {d : Int} {x : L8} (hw : w.Sm) (hx : x ∈ adL w n d) : x.length ≤ 1200 := by
  obtain ⟨D, h1, h2, _⟩ := adL_txt hw x hx
  exact (dictOf_some h1).2.2
end Go.Isea
namespace Go.Proofs.YtiphcdmjlkngfaaGreatDoor
open Go Go.Isea
set_option maxRecDepth 100000
set_option maxHeartbeats 8000000
end Go.Proofs.YtiphcdmjlkngfaaGreatDoor
