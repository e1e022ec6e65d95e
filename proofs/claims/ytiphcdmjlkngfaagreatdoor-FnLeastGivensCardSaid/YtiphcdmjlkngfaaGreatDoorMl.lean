/- Contracts of functions of this program, for all arguments that satisfy what each lemma asks for. -/
import Derived.Test.YtiphcdmjlkngfaaGreatDoorMk
import Derived.Test.YtiphcdmjlkngfaaGreatDoorMi
import Derived.Test.YtiphcdmjlkngfaaGreatDoorMj
set_option linter.all false
namespace Go.Isea
open Go
theorem mod_i (k : Nat) : ((k : Nat) : Int).tmod 10 = ((k % 10 : Nat) : Int) := by rw [Int.tmod_eq_emod_of_nonneg (by omega)]; omega
theorem div_i (k : Nat) : ((k : Nat) : Int).tdiv 10 = ((k / 10 : Nat) : Int) := by rw [Int.tdiv_eq_ediv_of_nonneg (by omega)]; omega
section
variable {P : Program} {t : TypeId} {p q : Operand} {k : Nat}
@[go_sem] theorem bin_rem10 (hk : k ≤ 4611686018427387904) : abin P .rem t p q (.v (.int .i64 (k : Nat))) (.v (.int .i64 10)) = some (.v (.int .i64 ((k % 10 : Nat) : Int))) := by
  have h1 : IntKind.i64.wrap ((k % 10 : Nat) : Int) = ((k % 10 : Nat) : Int) := wrap_i64 (by omega) (by omega)
  simp [abin, AV.raw, eqGuard, binOp, Op.intArith, Op.intDiv, semPure, bind, Sem.bind, pure, ofVo, ofV, mod_i]
@[go_sem] theorem bin_quo10 (hk : k ≤ 4611686018427387904) : abin P .quo t p q (.v (.int .i64 (k : Nat))) (.v (.int .i64 10)) = some (.v (.int .i64 ((k / 10 : Nat) : Int))) := by
  have h1 : IntKind.i64.wrap ((k / 10 : Nat) : Int) = ((k / 10 : Nat) : Int) := wrap_i64 (by omega) (by omega)
  simp [abin, AV.raw, eqGuard, binOp, Op.intArith, Op.intDiv, semPure, bind, Sem.bind, pure, ofVo, ofV, div_i, h1]
  exact h1
end
theorem set_len {rs : List (List AV)} {i sz : Nat} {x : List AV} (hi : i < rs.length) (h : ∀ r ∈ rs, r.length = sz) : (∀ r ∈ rs.set i x, r.length = sz) = (x.length = sz) := by
  apply propext
  refine ⟨fun g => g x (List.mem_of_getElem? (by rw [List.getElem?_set_self hi])), fun g r hr => ?_⟩
  rcases List.mem_or_eq_of_mem_set hr with h1 | rfl
  · exact h r h1
  · exact g
theorem one_of {α : Type} {r : List α} (h : r.length = 1) : ∃ x, r = [x] := by
  rcases r with _ | ⟨x, _ | ⟨y, r⟩⟩ <;> simp at h
  exact ⟨x, rfl⟩
theorem two_of {α : Type} {r : List α} (h : r.length = 2) : ∃ x y, r = [x, y] := by
  rcases r with _ | ⟨x, _ | ⟨y, _ | ⟨z, r⟩⟩⟩ <;> simp at h
  exact ⟨x, y, rfl⟩
end Go.Isea
namespace Go.Proofs.YtiphcdmjlkngfaaGreatDoor
open Go Go.Isea
set_option maxRecDepth 100000
set_option maxHeartbeats 8000000
theorem w_markText (k : Nat) (h : AH) (hk : k ≤ 4611686018427387904) : Isea.Good Tryz.prog 187 [.v (.int .i64 (k : Nat))] h [] (str (markT k)) h := by
  refine good [] [] Tryz.func187 rfl rfl Tryz.ntmps187 (by kernel_rfl) mixed (by kernel_rfl) ?_
  by_cases h0 : k = 0
  · subst h0
    simp -dsimp only [go_sem]
    exact fin_pure (by simp -dsimp only [go_sem]) (.v _)
  · have hp : ¬ ((k : Nat) : Int) ≤ 0 := by omega
    simp -dsimp only [go_sem, hp]
    refine loop_ruleH [] (fun (p : {p : Nat × L8 // decTo k [] = decTo p.1 p.2 ∧ p.1 ≤ k ∧ p.2.length + p.1 ≤ k}) H => ([(0, .v (.int .i64 (p.1.1 : Nat))), (3, str p.1.2)], H)) (fun p => p.1.1) ⟨(k, []), rfl, Nat.le_refl _, by simp⟩ ?_ ?_
    · exact weak_at rfl (by simp -dsimp only [go_sem]) (fun x hx => by simp -dsimp only [go_sem, hx]) (by simp -dsimp only [go_sem])
    · rintro ⟨⟨m, out⟩, he, hm, hl⟩
      simp only at he hm hl ⊢
      have h1 : ([109] : L8).length + out.length ≤ 9223372036854775807 := by simp; omega
      have h1b : 0 + 1 + out.length ≤ 9223372036854775807 := by omega
      have h1c : 1 + out.length ≤ 9223372036854775807 := by omega
      by_cases hz : m = 0
      · subst hz
        simp -dsimp only [go_sem, h1, h1b, h1c]
        refine fin_pure (by first | exact Nat.le_refl _ | simp -dsimp only [go_sem]) ?_
        rw [decTo_zero] at he
        unfold markT
        rw [if_neg h0, he]
        exact .v _
      · have hp : 0 < ((m : Nat) : Int) := by omega
        have e1 := decTo_pos hz out
        have hm2 : m ≤ 4611686018427387904 := by omega
        have hw : IntKind.i64.wrap (48 + ((m % 10 : Nat) : Int)) = ((48 + m % 10 : Nat) : Int) := by rw [wrap_i64] <;> omega
        have hu : IntKind.u8.wrap ((48 + m % 10 : Nat) : Int) = ((48 + m % 10 : Nat) : Int) := wrap_u8 (by omega) (by omega)
        have h2 : ([UInt8.ofNat (48 + m % 10)] : L8).length + out.length ≤ 9223372036854775807 := by simp; omega
        simp -dsimp only [go_sem, hp, hm2, hw, hu, Int.toNat_natCast, h1b, h1c]
        refine round_to ⟨(m / 10, UInt8.ofNat (48 + m % 10) :: out), by simp only; rw [he, e1], by simp only; omega, by simp only [List.length_cons]; omega⟩ (by simp; omega) ?_
        exact weak_at rfl (by simp -dsimp only [go_sem]) (fun x hx => by simp -dsimp only [go_sem, hx]) (by simp -dsimp only [go_sem, List.cons_append, List.nil_append])
-- marks
theorem o_markNeed (rs : List (List AV)) (k t : Nat) (h : AH) (ht : t < h.n) (ho : h.o t = .rows 28 2 rs) (hr : ∀ r ∈ rs, r.length = 2) (hp : PuR rs) (hk : k + 2 * rs.length ≤ 4611686018427387904) : Isea.Good Tryz.prog 188 [.so t rs.length rs.length, .v (.int .i64 (k : Nat))] h [t] (.v (.int .i64 ((k + 2 * rs.length : Nat) : Int))) ⟨h.n, upd h.o t (.rows 28 2 ((List.range rs.length).map (mk2 k)))⟩ := by
  refine good [] [] Tryz.func188 rfl rfl Tryz.ntmps188 (by kernel_rfl) mixed (by kernel_rfl) ?_
  simp -dsimp only [go_sem, ho]
  refine loop_ruleH [] (fun (i : {i : Nat // i ≤ rs.length}) H => ([(0, .so t rs.length rs.length), (1, .v (.int .i64 ((k + 2 * i.1 : Nat) : Int))), (5, .v (.int .i64 (i.1 : Nat)))], ⟨H.n, upd H.o t (.rows 28 2 (mixR (mk2 k) rs i.1))⟩)) (fun i => rs.length - i.1) ⟨0, Nat.zero_le _⟩ ?_ ?_
  · refine weak_objs [t] (by simp -dsimp only [go_sem]) (by simp -dsimp only [go_sem]) (by simp -dsimp only [go_sem, ht, Nat.mul_zero, Nat.add_zero]) ?_ ?_ ?_
    · intro x h1 h2
      have a1 : ¬ x = t := by simpa using h2
      simp -dsimp only [go_sem, a1]
    · intro x h1 h2; have h1 : x < h.n := h1; simp at h2 ⊢; omega
    · have hpu := mixR_pu (f := mk2 k) (rs := rs) (i := 0) (mk2_pu k) hp
      simp -dsimp only [go_sem, ho, mixR_zero, hp]
  · rintro ⟨i, hi⟩
    have hi1 : i + 1 ≤ 9223372036854775807 := by omega
    have hml := mixR_len (f := mk2 k) hi
    by_cases hlt : i < rs.length
    · have hT := fun (j : Nat) H (hj : j ≤ 4611686018427387904) => w_markText j H hj
      have hms := mixR_set (f := mk2 k) hlt
      have hmr := mixR_row (f := mk2 k) (rs := rs) (i := i) (sz := 2) (fun _ => rfl) hr
      have hmr2 : ∀ x, (∀ r ∈ (mixR (mk2 k) rs i).set i x, r.length = 2) = (x.length = 2) := fun x => set_len (by rw [hml]; exact hlt) hmr
      have hmr := eq_true hmr
      have hsg : ∀ x, ((mixR (mk2 k) rs i).set i x)[i]? = some x := fun x => List.getElem?_set_self (by rw [hml]; exact hlt)
      obtain ⟨r, hb⟩ := get_some hlt
      have hmg : (mixR (mk2 k) rs i)[i]? = some r := mixR_get.trans hb
      obtain ⟨x, y, rfl⟩ := two_of (hr r (List.mem_of_getElem? hb))
      have hk1 : k + 2 * i + 1 ≤ 9223372036854775807 := by omega
      have hk2 : k + 2 * i + 1 + 1 ≤ 9223372036854775807 := by omega
      simp -dsimp only [go_sem, hlt, hml, mk2] at hms ⊢
      refine call_pure (hT _ _ (by omega)) ?_
      simp -dsimp only [go_sem, hlt, hml, hmg, hmr, hmr2, hsg, List.set_set, hi1, hk1, hk2, List.length_set]
      refine call_pure (hT _ _ (by omega)) ?_
      simp -dsimp only [go_sem, hlt, hml, hmg, hmr, hmr2, hsg, List.set_set, hi1, hk1, hk2, List.length_set]
      have hpu := mixR_pu (f := mk2 k) (rs := rs) (i := i + 1) (mk2_pu k) hp
      have hk3 : k + 2 * (i + 1) = k + 2 * i + 2 := by omega
      refine round_to ⟨i + 1, hlt⟩ (by simp; omega) ?_
      refine weak_objs [t] (by simp -dsimp only [go_sem]) (by simp -dsimp only [go_sem]) (by simp -dsimp only [go_sem, ht, hk3]) ?_ ?_ ?_
      · intro x h1 h2
        have a1 : ¬ x = t := by simpa using h2
        simp -dsimp only [go_sem, a1]
      · intro x h1 h2; have h1 : x < h.n := h1; simp at h2 ⊢; omega
      · simp -dsimp only [go_sem, hms, hpu]
    · have ek : i = rs.length := by omega
      subst ek
      have hpu := mixR_pu (f := mk2 k) (rs := rs) (i := rs.length) (mk2_pu k) hp
      have hall := mixR_all (f := mk2 k) (rs := rs)
      simp -dsimp only [go_sem, hlt, hml]
      refine fin_objs [t] (Nat.le_refl _) (Nat.le_refl _) (.v _) ?_ ?_ ?_
      · intro x h1 h2
        have a1 : ¬ x = t := by simpa using h2
        simp -dsimp only [go_sem, a1]
      · intro x h1 h2; have h1 : x < h.n := h1; simp at h2 ⊢; omega
      · rw [hall] at hpu
        simp -dsimp only [go_sem, hall, hpu]
theorem o_markClass (rs : List (List AV)) (k t : Nat) (h : AH) (ht : t < h.n) (ho : h.o t = .rows 218 2 rs) (hr : ∀ r ∈ rs, r.length = 2) (hp : PuR rs) (hk : k + 2 * rs.length ≤ 4611686018427387904) : Isea.Good Tryz.prog 121 [.so t rs.length rs.length, .v (.int .i64 (k : Nat))] h [t] (.v (.int .i64 ((k + 2 * rs.length : Nat) : Int))) ⟨h.n, upd h.o t (.rows 218 2 ((List.range rs.length).map (mk2 k)))⟩ := by
  refine good [] [] Tryz.func121 rfl rfl Tryz.ntmps121 (by kernel_rfl) mixed (by kernel_rfl) ?_
  simp -dsimp only [go_sem, ho]
  refine loop_ruleH [] (fun (i : {i : Nat // i ≤ rs.length}) H => ([(0, .so t rs.length rs.length), (1, .v (.int .i64 ((k + 2 * i.1 : Nat) : Int))), (5, .v (.int .i64 (i.1 : Nat)))], ⟨H.n, upd H.o t (.rows 218 2 (mixR (mk2 k) rs i.1))⟩)) (fun i => rs.length - i.1) ⟨0, Nat.zero_le _⟩ ?_ ?_
  · refine weak_objs [t] (by simp -dsimp only [go_sem]) (by simp -dsimp only [go_sem]) (by simp -dsimp only [go_sem, ht, Nat.mul_zero, Nat.add_zero]) ?_ ?_ ?_
    · intro x h1 h2
      have a1 : ¬ x = t := by simpa using h2
      simp -dsimp only [go_sem, a1]
    · intro x h1 h2; have h1 : x < h.n := h1; simp at h2 ⊢; omega
    · have hpu := mixR_pu (f := mk2 k) (rs := rs) (i := 0) (mk2_pu k) hp
      simp -dsimp only [go_sem, ho, mixR_zero, hp]
  · rintro ⟨i, hi⟩
    have hi1 : i + 1 ≤ 9223372036854775807 := by omega
    have hml := mixR_len (f := mk2 k) hi
    by_cases hlt : i < rs.length
    · have hT := fun (j : Nat) H (hj : j ≤ 4611686018427387904) => w_markText j H hj
      have hms := mixR_set (f := mk2 k) hlt
      have hmr := mixR_row (f := mk2 k) (rs := rs) (i := i) (sz := 2) (fun _ => rfl) hr
      have hmr2 : ∀ x, (∀ r ∈ (mixR (mk2 k) rs i).set i x, r.length = 2) = (x.length = 2) := fun x => set_len (by rw [hml]; exact hlt) hmr
      have hmr := eq_true hmr
      have hsg : ∀ x, ((mixR (mk2 k) rs i).set i x)[i]? = some x := fun x => List.getElem?_set_self (by rw [hml]; exact hlt)
      obtain ⟨r, hb⟩ := get_some hlt
      have hmg : (mixR (mk2 k) rs i)[i]? = some r := mixR_get.trans hb
      obtain ⟨x, y, rfl⟩ := two_of (hr r (List.mem_of_getElem? hb))
      have hk1 : k + 2 * i + 1 ≤ 9223372036854775807 := by omega
      have hk2 : k + 2 * i + 1 + 1 ≤ 9223372036854775807 := by omega
      simp -dsimp only [go_sem, hlt, hml, mk2] at hms ⊢
      refine call_pure (hT _ _ (by omega)) ?_
      simp -dsimp only [go_sem, hlt, hml, hmg, hmr, hmr2, hsg, List.set_set, hi1, hk1, hk2, List.length_set]
      refine call_pure (hT _ _ (by omega)) ?_
      simp -dsimp only [go_sem, hlt, hml, hmg, hmr, hmr2, hsg, List.set_set, hi1, hk1, hk2, List.length_set]
      have hpu := mixR_pu (f := mk2 k) (rs := rs) (i := i + 1) (mk2_pu k) hp
      have hk3 : k + 2 * (i + 1) = k + 2 * i + 2 := by omega
      refine round_to ⟨i + 1, hlt⟩ (by simp; omega) ?_
      refine weak_objs [t] (by simp -dsimp only [go_sem]) (by simp -dsimp only [go_sem]) (by simp -dsimp only [go_sem, ht, hk3]) ?_ ?_ ?_
      · intro x h1 h2
        have a1 : ¬ x = t := by simpa using h2
        simp -dsimp only [go_sem, a1]
      · intro x h1 h2; have h1 : x < h.n := h1; simp at h2 ⊢; omega
      · simp -dsimp only [go_sem, hms, hpu]
    · have ek : i = rs.length := by omega
      subst ek
      have hpu := mixR_pu (f := mk2 k) (rs := rs) (i := rs.length) (mk2_pu k) hp
      have hall := mixR_all (f := mk2 k) (rs := rs)
      simp -dsimp only [go_sem, hlt, hml]
      refine fin_objs [t] (Nat.le_refl _) (Nat.le_refl _) (.v _) ?_ ?_ ?_
      · intro x h1 h2
        have a1 : ¬ x = t := by simpa using h2
        simp -dsimp only [go_sem, a1]
      · intro x h1 h2; have h1 : x < h.n := h1; simp at h2 ⊢; omega
      · rw [hall] at hpu
        simp -dsimp only [go_sem, hall, hpu]
theorem o_markInt (rs : List (List AV)) (k t : Nat) (h : AH) (ht : t < h.n) (ho : h.o t = .rows 3 1 rs) (hr : ∀ r ∈ rs, r.length = 1) (hp : PuR rs) (hk : k + rs.length ≤ 4611686018427387904) : Isea.Good Tryz.prog 60 [.so t rs.length rs.length, .v (.int .i64 (k : Nat))] h [t] (.v (.int .i64 ((k + rs.length : Nat) : Int))) ⟨h.n, upd h.o t (.rows 3 1 ((List.range rs.length).map (mkI k)))⟩ := by
  refine good [] [] Tryz.func60 rfl rfl Tryz.ntmps60 (by kernel_rfl) mixed (by kernel_rfl) ?_
  simp -dsimp only [go_sem, ho]
  refine loop_ruleH [] (fun (i : {i : Nat // i ≤ rs.length}) H => ([(0, .so t rs.length rs.length), (1, .v (.int .i64 ((k + i.1 : Nat) : Int))), (5, .v (.int .i64 (i.1 : Nat)))], ⟨H.n, upd H.o t (.rows 3 1 (mixR (mkI k) rs i.1))⟩)) (fun i => rs.length - i.1) ⟨0, Nat.zero_le _⟩ ?_ ?_
  · refine weak_objs [t] (by simp -dsimp only [go_sem]) (by simp -dsimp only [go_sem]) (by simp -dsimp only [go_sem, ht, Nat.mul_zero, Nat.add_zero]) ?_ ?_ ?_
    · intro x h1 h2
      have a1 : ¬ x = t := by simpa using h2
      simp -dsimp only [go_sem, a1]
    · intro x h1 h2; have h1 : x < h.n := h1; simp at h2 ⊢; omega
    · have hpu := mixR_pu (f := mkI k) (rs := rs) (i := 0) (mkI_pu k) hp
      simp -dsimp only [go_sem, ho, mixR_zero, hp]
  · rintro ⟨i, hi⟩
    have hi1 : i + 1 ≤ 9223372036854775807 := by omega
    have hml := mixR_len (f := mkI k) hi
    by_cases hlt : i < rs.length
    · have hT := fun (j : Nat) H (hj : j ≤ 4611686018427387904) => w_markText j H hj
      have hms := mixR_set (f := mkI k) hlt
      have hmr := mixR_row (f := mkI k) (rs := rs) (i := i) (sz := 1) (fun _ => rfl) hr
      have hmr2 : ∀ x, (∀ r ∈ (mixR (mkI k) rs i).set i x, r.length = 1) = (x.length = 1) := fun x => set_len (by rw [hml]; exact hlt) hmr
      have hmr := eq_true hmr
      have hsg : ∀ x, ((mixR (mkI k) rs i).set i x)[i]? = some x := fun x => List.getElem?_set_self (by rw [hml]; exact hlt)
      obtain ⟨r, hb⟩ := get_some hlt
      have hmg : (mixR (mkI k) rs i)[i]? = some r := mixR_get.trans hb
      obtain ⟨x, rfl⟩ := one_of (hr r (List.mem_of_getElem? hb))
      have hk1 : k + i + 1 ≤ 9223372036854775807 := by omega
      have hk2 : k + i + 1 + 1 ≤ 9223372036854775807 := by omega
      simp -dsimp only [go_sem, hlt, hml, mkI] at hms ⊢
      simp -dsimp only [go_sem, hlt, hml, hmg, hmr, hmr2, hsg, List.set_set, hi1, hk1, hk2, List.length_set]
      have hpu := mixR_pu (f := mkI k) (rs := rs) (i := i + 1) (mkI_pu k) hp
      have hk3 : k + (i + 1) = k + i + 1 := by omega
      refine round_to ⟨i + 1, hlt⟩ (by simp; omega) ?_
      refine weak_objs [t] (by simp -dsimp only [go_sem]) (by simp -dsimp only [go_sem]) (by simp -dsimp only [go_sem, ht, hk3]) ?_ ?_ ?_
      · intro x h1 h2
        have a1 : ¬ x = t := by simpa using h2
        simp -dsimp only [go_sem, a1]
      · intro x h1 h2; have h1 : x < h.n := h1; simp at h2 ⊢; omega
      · simp -dsimp only [go_sem, hms, hpu]
    · have ek : i = rs.length := by omega
      subst ek
      have hpu := mixR_pu (f := mkI k) (rs := rs) (i := rs.length) (mkI_pu k) hp
      have hall := mixR_all (f := mkI k) (rs := rs)
      simp -dsimp only [go_sem, hlt, hml]
      refine fin_objs [t] (Nat.le_refl _) (Nat.le_refl _) (.v _) ?_ ?_ ?_
      · intro x h1 h2
        have a1 : ¬ x = t := by simpa using h2
        simp -dsimp only [go_sem, a1]
      · intro x h1 h2; have h1 : x < h.n := h1; simp at h2 ⊢; omega
      · rw [hall] at hpu
        simp -dsimp only [go_sem, hall, hpu]
theorem w_heldInt (n k : Nat) (h : AH) (hk : k + n ≤ 4611686018427387904) : Isea.Good Tryz.prog 61 [.sl ((List.range n).map (mkI k)), .v (.int .i64 (k : Nat))] h [] (.v (.int .i64 ((k + n : Nat) : Int))) h := by
  have hln : ((List.range n).map (mkI k)).length = n := by rw [List.length_map, List.length_range]
  have hget : ∀ i, i < n → ((List.range n).map (mkI k))[i]? = some (mkI k i) := fun i hi => by rw [List.getElem?_map, List.getElem?_range hi]; rfl
  have hro : ∀ r ∈ (List.range n).map (mkI k), r.length = 1 := fun r hr => by obtain ⟨j, _, rfl⟩ := List.mem_map.1 hr; rfl
  have hpu : PuR ((List.range n).map (mkI k)) := fun m r hr => by obtain ⟨j, _, rfl⟩ := List.mem_map.1 hr; exact mkI_pu k j m
  generalize (List.range n).map (mkI k) = R at hln hget hro hpu
  have hro := eq_true hro
  refine good [] [] Tryz.func61 rfl rfl Tryz.ntmps61 (by kernel_rfl) mixed (by kernel_rfl) ?_
  simp -dsimp only [go_sem]
  refine loop_ruleH [0] (fun (i : {i : Nat // i ≤ n}) H => ([(1, .v (.int .i64 ((k + i.1 : Nat) : Int))), (5, .v (.int .i64 (i.1 : Nat)))], H)) (fun i => n - i.1) ⟨0, Nat.zero_le _⟩ ?_ ?_
  · exact weak_at rfl (by simp -dsimp only [go_sem]) (fun x hx => by simp -dsimp only [go_sem, hx]) (by simp -dsimp only [go_sem, hpu, Nat.mul_zero, Nat.add_zero])
  · rintro ⟨i, hi⟩
    have hi1 : i + 1 ≤ 9223372036854775807 := by omega
    by_cases hlt : i < n
    · have hT := fun (j : Nat) H (hj : j ≤ 4611686018427387904) => w_markText j H hj
      have hb := hget i hlt
      have hk1 : k + i + 1 ≤ 9223372036854775807 := by omega
      have hk2 : k + i + 1 + 1 ≤ 9223372036854775807 := by omega
      simp -dsimp only [mkI] at hb
      simp -dsimp only [go_sem, hln, hro, hlt, hb, hi1, hk1, hk2]
      have hk3 : k + (i + 1) = k + i + 1 := by omega
      exact round_to ⟨i + 1, hlt⟩ (by simp; omega) (weak_at rfl (by simp -dsimp only [go_sem]) (fun x hx => by simp -dsimp only [go_sem, hx]) (by simp -dsimp only [go_sem, hpu, hk3]))
    · have ek : i = n := by omega
      subst ek
      simp -dsimp only [go_sem, hlt, hln]
      exact fin_pure (Nat.le_refl _) (.v _)
end Go.Proofs.YtiphcdmjlkngfaaGreatDoor

namespace Go.Isea
open Go
theorem objFz_rows {h : AH} {m e sz : Nat} {rs rs' : List (List AV)} (hl : rs'.length = rs.length) (hc : ∀ (i : Nat) (r r' : List AV), rs[i]? = some r → rs'[i]? = some r' → FzL h m r r') : ObjFz h m (.rows e sz rs) (.rows e sz rs') :=
  ⟨rfl, rfl, hl, fun i r r' h1 h2 => (hc i r r' h1 h2).1, fun i j r r' x y h1 h2 h3 h4 => (hc i r r' h1 h2).2 j x y h3 h4⟩
theorem objFz_setR {h : AH} {m e sz i : Nat} {R : List (List AV)} {r r0 : List AV} (hR : ∀ (i : Nat) (r : List AV), R[i]? = some r → FzL h m r r) (hi : R[i]? = some r0) (hrow : FzL h m r r0) : ObjFz h m (.rows e sz (R.set i r)) (.rows e sz R) := by
  refine objFz_rows (by simp) fun j x y h1 h2 => ?_
  by_cases e : i = j
  · subst e
    have hlt := (List.getElem?_eq_some_iff.1 hi).1
    rw [List.getElem?_set_self hlt] at h1
    rw [hi] at h2
    cases h1; cases h2; exact hrow
  · rw [List.getElem?_set_ne e] at h1
    rw [h1] at h2; cases h2
    exact hR j _ h1
/-- an instance's row of which the needs' slice alone is told -/
def jkR (p : Inst × Nat) : List AV := [.junk, .junk, .so p.2 p.1.ns.length p.1.ns.length]
def jkN (i : Inst) : List (List AV) := List.replicate i.ns.length [.junk, .junk]
def jkI (ty tn : Nat) (o : Nat → AObj) (t b : Nat) (l : List Inst) : Nat → AObj := fun x => if x = t then .rows ty 3 ((l.zipIdx b).map jkR) else if b ≤ x then (match l[x - b]? with
  | some i => .rows tn 2 (jkN i)
  | none => o x) else o x
def jkT (t b : Nat) (l : List Inst) : List Nat := t :: (List.range l.length).map (b + ·)
section
variable {ty tn : Nat} {o : Nat → AObj} {t b : Nat} {l : List Inst}
theorem jkI_t : jkI ty tn o t b l t = .rows ty 3 ((l.zipIdx b).map jkR) := if_pos rfl
theorem jkI_n {j : Nat} {i : Inst} (ht : t < b) (hj : l[j]? = some i) : jkI ty tn o t b l (b + j) = .rows tn 2 (jkN i) := by
  unfold jkI
  rw [if_neg (by omega), if_pos (by omega), Nat.add_sub_cancel_left, hj]
theorem jkI_o {x : Nat} (hx : x ∉ jkT t b l) : jkI ty tn o t b l x = o x := by
  simp only [jkT, List.mem_cons, List.mem_map, List.mem_range, not_or, not_exists, not_and] at hx
  unfold jkI
  rw [if_neg hx.1]
  split
  · rename_i hb
    have : l[x - b]? = none := List.getElem?_eq_none (by
      by_cases hh : x - b < l.length
      · exact absurd (by omega) (hx.2 (x - b) hh)
      · omega)
    rw [this]
  · rfl
theorem jkT_cases {x : Nat} (hx : x ∈ jkT t b l) : x = t ∨ ∃ j i, l[j]? = some i ∧ x = b + j := by
  simp only [jkT, List.mem_cons, List.mem_map, List.mem_range] at hx
  rcases hx with hx | ⟨j, hj, rfl⟩
  · exact .inl hx
  · exact .inr ⟨j, l[j], List.getElem?_eq_getElem hj, rfl⟩
theorem jkT_n {j : Nat} (hj : j < l.length) : b + j ∈ jkT t b l := List.mem_cons_of_mem _ (List.mem_map.2 ⟨j, List.mem_range.2 hj, rfl⟩)
theorem jkT_t : t ∈ jkT t b l := List.mem_cons_self
end
theorem fzl_jk {h : AH} {m : Nat} {x y : AV} {p : Inst × Nat} (hp : p.2 < m) : FzL h m [x, y, .so p.2 p.1.ns.length p.1.ns.length] (jkR p) := FzL.cons (.junk _) (FzL.cons (.junk _) (FzL.cons (.so hp) FzL.nil))
theorem fzl_j2 {h : AH} {m : Nat} {r : List AV} (hr : r.length = 2) : FzL h m r [.junk, .junk] := by
  obtain ⟨x, y, rfl⟩ := two_of hr
  exact FzL.cons (.junk _) (FzL.cons (.junk _) FzL.nil)
theorem objFz_jkN {h : AH} {m e : Nat} {i : Inst} {rs : List (List AV)} (hl : rs.length = i.ns.length) (hr : ∀ r ∈ rs, r.length = 2) : ObjFz h m (.rows e 2 rs) (.rows e 2 (jkN i)) := by
  refine objFz_rows (by rw [hl]; simp [jkN]) fun j r r' h1 h2 => ?_
  have := List.eq_of_mem_replicate (List.mem_of_getElem? h2)
  subst this
  exact fzl_j2 (hr r (List.mem_of_getElem? h1))
theorem jk_rows {b : Nat} {l : List Inst} {h : AH} {m : Nat} (hm : b + l.length ≤ m) (i : Nat) (r : List AV) (hi : ((l.zipIdx b).map jkR)[i]? = some r) : FzL h m r r := by
  rw [List.getElem?_map] at hi
  cases e : (l.zipIdx b)[i]? with
  | none => rw [e] at hi; cases hi
  | some p =>
    rw [e] at hi; cases hi
    obtain ⟨p1, p2⟩ := ownI_lt e
    have := (List.getElem?_eq_some_iff.1 p2).1
    exact fzl_jk (by omega)
/-- how many marks the instances take -/
def imk (l : List Inst) : Nat := (l.map fun i => 2 + 2 * i.ns.length).sum
theorem imk_next {l : List Inst} {k : Nat} {a : Inst} (h : l[k]? = some a) : imk (l.take (k + 1)) = imk (l.take k) + (2 + 2 * a.ns.length) := by
  unfold imk; rw [take_next h, List.map_append, List.sum_append]; simp
theorem imk_le {l : List Inst} (hn : ∀ n ∈ l, n.Ok) : imk l ≤ l.length * 2097154 := by
  induction l with
  | nil => simp [imk]
  | cons a l ih =>
    have := ih fun n h => hn n (List.mem_cons_of_mem _ h)
    have ha : a.ns.length ≤ 1048576 := hn a List.mem_cons_self
    simp only [imk, List.map_cons, List.sum_cons, List.length_cons] at this ⊢
    omega
theorem imk_take_le {l : List Inst} {i : Nat} (hl : l.length ≤ 1048576) (hn : ∀ n ∈ l, n.Ok) : imk (l.take i) ≤ 2199025352704 := by
  have h1 := imk_le (l := l.take i) fun n h => hn n (List.mem_of_mem_take h)
  have h2 : (l.take i).length * 2097154 ≤ 1048576 * 2097154 := Nat.mul_le_mul_right _ (by rw [List.length_take]; omega)
  exact Nat.le_trans h1 h2
theorem fz_rowsL {α : Type} {f : α → List AV} {l : List α} {h : AH} {t e sz : Nat} (ho : h.o t = .rows e sz (l.map f)) (hp : PuR (l.map f)) : Fz h 0 (.so t l.length l.length) (.sl (l.map f)) := by
  have := fz_rowsF ho hp
  rwa [List.length_map] at this
theorem fz_rowsN {f : Nat → List AV} {n : Nat} {h : AH} {t e sz : Nat} (ho : h.o t = .rows e sz ((List.range n).map f)) (hp : ∀ j, PuL (f j)) : Fz h 0 (.so t n n) (.sl ((List.range n).map f)) := by
  have := fz_rowsF ho (fun m r hr => by obtain ⟨j, _, rfl⟩ := List.mem_map.1 hr; exact hp j m)
  rwa [List.length_map, List.length_range] at this
theorem call_gen {C : Cx} {s : List Nat} {k : FuncId} {args : List AV} {K : AV → AH → Prop} {h : AH} (p : ∀ M, M = h → CallT C s k args (.mk K) M) : CallT C s k args (.mk K) h := p h rfl
end Go.Isea
namespace Go.Proofs.YtiphcdmjlkngfaaGreatDoor
open Go Go.Isea
set_option maxRecDepth 100000
set_option maxHeartbeats 8000000
theorem w_eqIntS (l : List Nat) (h : AH) (hl : l.length ≤ 9223372036854775806) : Isea.Good Tryz.prog 57 [.sl (l.map iRow), .sl (l.map iRow)] h [] (.v (.bool true)) h := by
  refine good [] [] Tryz.func57 rfl rfl Tryz.ntmps57 (by kernel_rfl) mixed (by kernel_rfl) ?_
  simp -dsimp only [go_sem]
  refine loop_ruleH [0, 0] (fun (k : {k : Nat // k ≤ l.length}) H => ([(5, .v (.int .i64 (k.1 : Nat)))], H)) (fun k => l.length - k.1) ⟨0, Nat.zero_le _⟩ ?_ ?_
  · exact weak_at rfl (by simp -dsimp only [go_sem]) (fun x hx => by simp -dsimp only [go_sem, hx]) (by simp -dsimp only [go_sem])
  · rintro ⟨k, hk⟩
    have hk1 : k + 1 ≤ 9223372036854775807 := by omega
    by_cases hlt : k < l.length
    · obtain ⟨n, hb⟩ := get_some hlt
      simp -dsimp only [go_sem, hlt, hb, iRow, hk1]
      exact round_to ⟨k + 1, hlt⟩ (by simp; omega) (weak_at rfl (by simp -dsimp only [go_sem]) (fun x hx => by simp -dsimp only [go_sem, hx]) (by simp -dsimp only [go_sem]))
    · simp -dsimp only [go_sem, hlt]
      exact fin_bool (by simp -dsimp only [go_sem]) rfl
theorem o_markInstanceS (l : List Inst) (k t b : Nat) (h : AH) (ht : t < b) (hb : b + l.length ≤ h.n) (ho : h.o t = .rows 143 3 ((l.zipIdx b).map ownI)) (hn : ∀ j i, l[j]? = some i → h.o (b + j) = .rows 28 2 (i.ns.map Need.row)) (hl : l.length ≤ 1048576) (hio : ∀ i ∈ l, i.Ok) (hk : k ≤ 4398046511104) :
    Isea.Good Tryz.prog 122 [.so t l.length l.length, .v (.int .i64 (k : Nat))] h (jkT t b l) (.v (.int .i64 ((k + imk l : Nat) : Int))) ⟨h.n, jkI 143 28 h.o t b l⟩ := by
  have hzl : ((l.zipIdx b).map ownI).length = l.length := by rw [List.length_map, List.length_zipIdx]
  have hil := imk_le hio
  refine good [] [] Tryz.func122 rfl rfl Tryz.ntmps122 (by kernel_rfl) mixed (by kernel_rfl) ?_
  simp -dsimp only [go_sem, ho, hzl]
  refine loop_ruleH [] (fun (i : {i : Nat // i ≤ l.length}) H => ([(0, .so t l.length l.length), (1, .v (.int .i64 ((k + imk (l.take i.1) : Nat) : Int))), (5, .v (.int .i64 (i.1 : Nat)))], ⟨H.n, jkI 143 28 H.o t b l⟩)) (fun i => l.length - i.1) ⟨0, Nat.zero_le _⟩ ?_ ?_
  · have e0 : imk ([] : List Inst) = 0 := rfl
    have htn : t < h.n := by omega
    refine weak_same (Nat.le_refl _) (Nat.le_refl _) (by simp -dsimp only [go_sem, htn, List.take_zero, e0, Nat.add_zero]) (fun x _ h2 => jkI_o h2) (fun x h1 h2 => ?_)
    have h2 : x ∈ jkT t b l := h2.resolve_right (by omega)
    rcases jkT_cases h2 with rfl | ⟨j, i, hj, rfl⟩
    · rw [jkI_t, ho]
      refine objFz_rows (by simp) fun j r r' g1 g2 => ?_
      rw [List.getElem?_map] at g1 g2
      cases e : (l.zipIdx b)[j]? with
      | none => rw [e] at g1; cases g1
      | some p =>
        rw [e] at g1 g2; cases g1; cases g2
        obtain ⟨p1, p2⟩ := ownI_lt e
        have := (List.getElem?_eq_some_iff.1 p2).1
        exact fzl_jk (by omega)
    · rw [jkI_n ht hj, hn j i hj]
      exact objFz_jkN (by simp) (fun r hr => by obtain ⟨a, _, rfl⟩ := List.mem_map.1 hr; rfl)
  · rintro ⟨i, hi⟩
    have hi1 : i + 1 ≤ 9223372036854775807 := by omega
    have hRl : ((l.zipIdx b).map jkR).length = l.length := by rw [List.length_map, List.length_zipIdx]
    have hjt := jkI_t (ty := 143) (tn := 28) (o := h.o) (t := t) (b := b) (l := l)
    by_cases hlt : i < l.length
    · obtain ⟨a, ha⟩ := get_some hlt
      have hal := hio a (List.mem_of_getElem? ha)
      have hT := fun (j : Nat) H (hj : j ≤ 4611686018427387904) => w_markText j H hj
      have hRg : ((l.zipIdx b).map jkR)[i]? = some [.junk, .junk, .so (b + i) a.ns.length a.ns.length] := by rw [List.getElem?_map, zip_get ha]; rfl
      have hRr : ∀ r ∈ (l.zipIdx b).map jkR, r.length = 3 := fun r hr => by obtain ⟨p, _, rfl⟩ := List.mem_map.1 hr; rfl
      have hR2 : ∀ x, (∀ r ∈ ((l.zipIdx b).map jkR).set i x, r.length = 3) = (x.length = 3) := fun x => set_len (by rw [hRl]; exact hlt) hRr
      have hRr := eq_true hRr
      have hsg : ∀ x, (((l.zipIdx b).map jkR).set i x)[i]? = some x := fun x => List.getElem?_set_self (by rw [hRl]; exact hlt)
      have hjn := jkI_n (ty := 143) (tn := 28) (o := h.o) ht ha
      have hne : ¬ b + i = t := by omega
      have hik := imk_next ha
      have him := imk_take_le (i := i) hl hio
      have hk1 : k + imk (l.take i) + 1 ≤ 9223372036854775807 := by omega
      have hk2 : k + imk (l.take i) + 1 + 1 ≤ 9223372036854775807 := by omega
      have hN := fun (q : Nat) H (hq : q ≤ 4611686018425290752) (hn : b + i < H.n) (ho : H.o (b + i) = .rows 28 2 (jkN a)) => o_markNeed (jkN a) q (b + i) H hn ho (fun r hr => by rw [List.eq_of_mem_replicate hr]; rfl) (fun m r hr x hx => by rw [List.eq_of_mem_replicate hr] at hx; simp at hx; subst hx; exact .junk) (by simp only [jkN, List.length_replicate]; have : a.ns.length ≤ 1048576 := hal; omega)
      have hjl : (jkN a).length = a.ns.length := List.length_replicate
      rw [hjl] at hN
      have hRz := fun H => jk_rows (h := H) (m := h.n) hb
      generalize (l.zipIdx b).map jkR = R at hRl hRg hRr hR2 hsg hjt hRz
      simp -dsimp only [go_sem, hjt, hlt, hRl]
      refine call_pure (hT _ _ (by omega)) ?_
      have htt : (h.n ≤ t ∨ t ∈ jkT t b l) = True := eq_true (.inr jkT_t)
      simp -dsimp only [go_sem, hjt, hlt, hRl, hRg, hRr, hR2, hsg, List.set_set, hk1, hk2, List.length_set, htt]
      refine call_pure (hT _ _ (by omega)) ?_
      simp -dsimp only [go_sem, hjt, hlt, hRl, hRg, hRr, hR2, hsg, List.set_set, hk1, hk2, List.length_set, htt]
      refine call_one (hN _ _ (by omega) (by show b + i < h.n; omega) ?_) (.inr (jkT_n hlt)) (by simp) ?_
      · simp -dsimp only [go_sem, hne, hjn]
      have hrnd : k + imk (l.take (i + 1)) = k + imk (l.take i) + 2 + 2 * a.ns.length := by rw [hik]; omega
      simp -dsimp only [go_sem, hjt, hlt, hRl, hi1, hk1, hk2, htt]
      refine round_to ⟨i + 1, hlt⟩ (by simp; omega) ?_
      have htn : t < h.n := by omega
      refine weak_same (Nat.le_refl _) (Nat.le_refl _) (by simp -dsimp only [go_sem, htn, hrnd]) (fun x _ h2 => ?_) (fun x h1 h2 => ?_)
      · have e1 : x ≠ b + i := fun e => h2 (e ▸ jkT_n hlt)
        have e2 : x ≠ t := fun e => h2 (e ▸ jkT_t)
        rw [upd_ne _ _ e1, upd_ne _ _ e2, upd_ne _ _ e2]
      · have h2 : x ∈ jkT t b l := h2.resolve_right (by have h1 : x < h.n := h1; show ¬ h.n ≤ x; omega)
        by_cases e1 : x = b + i
        · subst e1
          rw [upd_same, hjn]
          exact objFz_jkN (by rw [List.length_map, List.length_range]) (fun r hr => by obtain ⟨j, _, rfl⟩ := List.mem_map.1 hr; rfl)
        · rw [upd_ne _ _ e1]
          by_cases e2 : x = t
          · subst e2
            rw [upd_same, hjt]
            exact objFz_setR (hRz _) hRg (FzL.cons (.junk _) (FzL.cons (.junk _) (FzL.cons (.so (by show b + i < h.n; omega)) FzL.nil)))
          · rw [upd_ne _ _ e2, upd_ne _ _ e2]
            rcases jkT_cases h2 with e | ⟨j, y, hj, rfl⟩
            · exact absurd e e2
            · rw [jkI_n ht hj]
              exact objFz_jkN (by simp [jkN]) (fun r hr => by rw [List.eq_of_mem_replicate hr]; rfl)
    · have ek : i = l.length := by omega
      subst ek
      have hRz := fun H => jk_rows (h := H) (m := h.n) hb
      simp -dsimp only [go_sem, hjt, hlt, hRl, List.take_length]
      refine ⟨Nat.le_refl _, Nat.le_refl _, .v _, fun x _ h2 => jkI_o h2, fun x h1 h2 => ?_⟩
      have h2 : x ∈ jkT t b l := h2.resolve_right (by have h1 : x < h.n := h1; show ¬ h.n ≤ x; omega)
      rcases jkT_cases h2 with rfl | ⟨j, y, hj, rfl⟩
      · show ObjFz _ h.n (jkI _ _ h.o x b l x) (jkI _ _ h.o x b l x)
        rw [hjt]
        exact objFz_rows rfl fun j r r' g1 g2 => by rw [g1] at g2; cases g2; exact hRz _ j r g1
      · show ObjFz _ h.n (jkI _ _ h.o t b l (b + j)) (jkI _ _ h.o t b l (b + j))
        rw [jkI_n ht hj]
        exact objFz_jkN (by simp [jkN]) (fun r hr => by rw [List.eq_of_mem_replicate hr]; rfl)
theorem o_markWorld (w : Wld) (k b : Nat) (h : AH) (ho : OwnW 218 143 28 h b w) (hc : w.cs.length ≤ 1048576) (hi : w.is.length ≤ 1048576) (hio : ∀ i ∈ w.is, i.Ok) (hk : k ≤ 4000000000000) :
    Isea.Good Tryz.prog 59 [.agg (ownRow b w), .v (.int .i64 (k : Nat))] h (b :: jkT (b + 1) (b + 2) w.is) (.v (.int .i64 ((k + 2 * w.cs.length + imk w.is : Nat) : Int))) ⟨h.n, jkI 143 28 (upd h.o b (.rows 218 2 ((List.range w.cs.length).map (mk2 k)))) (b + 1) (b + 2) w.is⟩ := by
  have hlt := ho.lt
  have hC := o_markClass (w.cs.map Cls.row) k b h (by omega) ho.c (fun r hr => by obtain ⟨j, _, rfl⟩ := List.mem_map.1 hr; rfl) (of_eq_true puR_clss) (by rw [List.length_map]; omega)
  rw [List.length_map] at hC
  have hI := o_markInstanceS w.is (k + 2 * w.cs.length) (b + 1) (b + 2) ⟨h.n, upd h.o b (.rows 218 2 ((List.range w.cs.length).map (mk2 k)))⟩ (by omega) (by show b + 2 + w.is.length ≤ h.n; omega) (by show upd h.o b _ (b + 1) = _; rw [upd_ne _ _ (by omega)]; exact ho.i) (fun j i hj => by show upd h.o b _ (b + 2 + j) = _; rw [upd_ne _ _ (by omega)]; exact ho.n j i hj) hi hio (by omega)
  have k1 : isCur w.cs.length (h.o b) = true := by rw [ho.c]; simp [isCur]
  have k2 : isCur w.is.length (h.o (b + 1)) = true := by rw [ho.i]; simp [isCur]
  refine good [] [] Tryz.func59 rfl rfl Tryz.ntmps59 (by kernel_rfl) mixed (by kernel_rfl) ?_
  simp -dsimp only [go_sem, ownRow, k1, k2, Bool.and_self]
  refine call_one hC ?_ ?_ ?_
  · exact .inr List.mem_cons_self
  · intro hh; cases hh
  simp -dsimp only [go_sem]
  refine call_turn hI (fun x h1 _ => ?_) (fun x hh => ?_) ?_
  · exact .inr (List.mem_cons_of_mem _ h1)
  · cases hh
  simp -dsimp only [go_sem]
  have hbn : b ∉ jkT (b + 1) (b + 2) w.is := fun hh => by
    rcases jkT_cases hh with e | ⟨j, i, _, e⟩ <;> omega
  have hbT : jkI 143 28 (upd h.o b (.rows 218 2 ((List.range w.cs.length).map (mk2 k)))) (b + 1) (b + 2) w.is b = .rows 218 2 ((List.range w.cs.length).map (mk2 k)) := by rw [jkI_o hbn, upd_same]
  refine ⟨Nat.le_refl _, Nat.le_refl _, .v _, fun x _ h2 => ?_, fun x h1 h2 => ?_⟩
  · show jkI _ _ _ _ _ _ x = h.o x
    rw [jkI_o (fun hh => h2 (List.mem_cons_of_mem _ hh)), upd_ne _ _ (fun e : x = b => h2 (by rw [e]; exact List.mem_cons_self))]
  · have h2 : x ∈ b :: jkT (b + 1) (b + 2) w.is := h2.resolve_right (by have h1 : x < h.n := h1; show ¬ h.n ≤ x; omega)
    show ObjFz _ h.n (jkI _ _ _ _ _ _ x) (jkI _ _ _ _ _ _ x)
    rcases List.mem_cons.1 h2 with rfl | h2
    · rw [hbT]
      exact of_eq_true (objFz_r (fun m r hr => by obtain ⟨j, _, rfl⟩ := List.mem_map.1 hr; exact mk2_pu k j m))
    · rcases jkT_cases h2 with rfl | ⟨j, y, hj, rfl⟩
      · rw [jkI_t]
        exact objFz_rows rfl fun j r r' g1 g2 => by rw [g1] at g2; cases g2; exact jk_rows (m := h.n) (by omega) j r g1
      · rw [jkI_n (by omega) hj]
        exact objFz_jkN (by simp [jkN]) (fun r hr => by rw [List.eq_of_mem_replicate hr]; rfl)
theorem o_markWorld' (w : Wld) (k b : Nat) (h : AH) (ho : OwnW 218 143 28 h b w) (hc : w.cs.length ≤ 1048576) (hi : w.is.length ≤ 1048576) (hio : ∀ i ∈ w.is, i.Ok) (hk : k ≤ 4000000000000) :
    ∃ T h', Isea.Good Tryz.prog 59 [.agg (ownRow b w), .v (.int .i64 (k : Nat))] h T (.v (.int .i64 ((k + 2 * w.cs.length + imk w.is : Nat) : Int))) h' ∧ h'.n = h.n ∧ (∀ x ∈ T, b ≤ x) ∧ ∀ x, b + 2 + w.is.length ≤ x → h'.o x = h.o x := by
  refine ⟨_, _, o_markWorld w k b h ho hc hi hio hk, rfl, fun x hx => ?_, fun x hx => ?_⟩
  · rcases List.mem_cons.1 hx with rfl | hx
    · exact Nat.le_refl _
    · rcases jkT_cases hx with rfl | ⟨j, i, _, rfl⟩ <;> omega
  · show jkI _ _ _ _ _ _ x = h.o x
    rw [jkI_o (fun hh => by
      rcases jkT_cases hh with e | ⟨j, i, hj, e⟩
      · omega
      · have := (List.getElem?_eq_some_iff.1 hj).1; omega), upd_ne _ _ (by omega)]
end Go.Proofs.YtiphcdmjlkngfaaGreatDoor
