/- Contracts of functions of this program, for all arguments that satisfy what each lemma asks for. -/
import Derived.Test.YtnocdggngfiebaaGreatDoorMb
set_option linter.all false
namespace Go.Proofs.YtnocdggngfiebaaGreatDoor
open Go Go.Isea
set_option maxRecDepth 100000

theorem s_l1In (n a b : Int) (h : AH) : Good Tryz.prog 186 [.v (.int .i64 n), .v (.int .i64 a), .v (.int .i64 b)] h [] (.v (.bool (decide (a ≤ n) && decide (n ≤ b)))) h := by
  refine good [] [] Tryz.func186 rfl rfl Tryz.ntmps186 (by kernel_rfl) mixed (by kernel_rfl) ?_
  by_cases h1 : a ≤ n <;> simp -dsimp only [go_sem, h1] <;> exact fin_pure (Nat.le_refl _) (by simp [go_sem])
theorem s_l13Find (l : L8) (c : UInt8) (h : AH) (hl : l.length ≤ 4611686018427387904) : Good Tryz.prog 202 [str l, .v (.int .u8 c.toNat)] h [] (.v (.int .i64 (ix l c))) h := by
  refine good [] [] Tryz.func202 rfl rfl Tryz.ntmps202 (by kernel_rfl) mixed (by kernel_rfl) ?_
  simp -dsimp only [go_sem]
  refine loop_rule' [0, 0] (fun k : { k : Nat // k ≤ l.length ∧ IxAt l c k } => ([(5, .v (.int .i64 (k.1 : Nat)))], h)) (fun k => l.length - k.1)
    ⟨0, Nat.zero_le _, ixAt_zero l c⟩ ?_ ?_
  · exact weak_at rfl (Nat.le_refl _) (fun _ _ => rfl) (by simp [go_sem])
  · rintro ⟨k, hk, hi⟩
    have h1 : k + 1 ≤ 9223372036854775807 := by omega
    by_cases hlt : k < l.length
    · obtain ⟨b, hb⟩ : ∃ b, l[k]? = some b := ⟨_, List.getElem?_eq_getElem hlt⟩
      have hd : l.drop k = b :: l.drop (k + 1) := by
        rw [List.drop_eq_getElem_cons hlt]; congr 1; exact Option.some.inj ((List.getElem?_eq_getElem hlt).symm.trans hb)
      by_cases hbc : b = c
      · simp -dsimp only [go_sem, hlt, hb, hbc]
        refine fin_int (Nat.le_refl _) ?_
        rw [hi, hd, ix, if_pos hbc]; simp
      · simp -dsimp only [go_sem, hlt, hb, hbc, h1]
        refine round_to ⟨k + 1, by omega, ?_⟩ (by simp; omega) (weak_at rfl (Nat.le_refl _) (fun _ _ => rfl) (by simp [go_sem]))
        rw [IxAt, hi, hd, ix, if_neg hbc]
        have := ix_ge (l.drop (k + 1)) c
        by_cases h0 : ix (l.drop (k + 1)) c < 0
        · rw [if_pos h0, if_pos h0]; rfl
        · rw [if_neg h0, if_neg h0, if_neg (by omega)]; push_cast; omega
    · simp -dsimp only [go_sem, hlt]
      refine fin_int (Nat.le_refl _) ?_
      rw [hi, List.drop_of_length_le (by omega)]; rfl
theorem s_l1Arity (c : UInt8) (h : AH) : Good Tryz.prog 323 [.v (.int .u8 c.toNat)] h [] (.v (.int .i64 (ar c))) h := by
  have hf := s_l13Find letters c h (by decide)
  rw [ar_ix]
  generalize ix letters c = k at hf ⊢
  refine good [] [] Tryz.func323 rfl rfl Tryz.ntmps323 (by kernel_rfl) mixed (by kernel_rfl) ?_
  simp -dsimp only [go_sem]
  refine call_pure hf ?_
  by_cases h1 : k < 0
  · simp -dsimp only [go_sem, h1]; exact fin_int (Nat.le_refl _) (by simp [arK, h1])
  · by_cases h3 : k = 3
    · simp -dsimp only [go_sem, h1, h3]; exact fin_int (Nat.le_refl _) (by simp [arK])
    · by_cases h4 : k = 4
      · simp -dsimp only [go_sem, h1, h3, h4]; exact fin_int (Nat.le_refl _) (by simp [arK])
      · by_cases h5 : k = 5
        · simp -dsimp only [go_sem, h1, h3, h4, h5]; exact fin_int (Nat.le_refl _) (by simp [arK])
        · simp -dsimp only [go_sem, h1, h3, h4, h5]; exact fin_int (Nat.le_refl _) (by simp [arK, h1, h3, h4, h5])
theorem s_l1Variable (c : UInt8) (h : AH) : Good Tryz.prog 168 [.v (.int .u8 c.toNat)] h [] (.v (.bool (isV c))) h := by
  refine good [] [] Tryz.func168 rfl rfl Tryz.ntmps168 (by kernel_rfl) mixed (by kernel_rfl) ?_
  simp -dsimp only [go_sem]
  refine call_pure (s_l13Find _ c h (by decide)) ?_
  simp -dsimp only [go_sem]
  exact fin_bool (Nat.le_refl _) (isV_ix c).symm
end Go.Proofs.YtnocdggngfiebaaGreatDoor

namespace Go.Isea
/-- a type, as cells -/
def Ty.cells : Ty → List AV
  | .leaf c => [.v (.int .u8 c.toNat), .sl []]
  | .un c t => [.v (.int .u8 c.toNat), .sl [t.cells]]
  | .bin c t u => [.v (.int .u8 c.toNat), .sl [t.cells, u.cells]]
theorem mkT_cells (c : UInt8) : ∀ {ps : List Ty}, ps.length ≤ 2 → (mkT c ps).cells = [.v (.int .u8 c.toNat), .sl (ps.map Ty.cells)]
  | [], _ => rfl
  | [t], _ => rfl
  | [t, u], _ => rfl
  | _ :: _ :: _ :: _, h => by simp at h
theorem Ty.cells_pu : ∀ t : Ty, PuL t.cells
  | .leaf c => by simp -dsimp only [Ty.cells, go_sem]
  | .un c t => by have := t.cells_pu; simp -dsimp only [Ty.cells, go_sem, this]
  | .bin c t u => by have := t.cells_pu; have := u.cells_pu; simp -dsimp only [Ty.cells, go_sem, *]
@[go_sem] theorem puR_cells {ps : List Ty} : PuR (ps.map Ty.cells) = True := puR_map Ty.cells_pu
@[go_sem] theorem puL_cells {t : Ty} : PuL t.cells = True := by simp [t.cells_pu]
theorem Ty.cells_eq (t : Ty) : t.cells = [.v (.int .u8 t.head.toNat), .sl (t.parts.map Ty.cells)] := by cases t <;> rfl
@[go_sem] theorem Ty.cells_0 {t : Ty} : t.cells[0]? = some (.v (.int .u8 t.head.toNat)) := by cases t <;> rfl
@[go_sem] theorem Ty.cells_1 {t : Ty} : t.cells[1]? = some (.sl (t.parts.map Ty.cells)) := by cases t <;> rfl
@[go_sem] theorem paste_cells {t : Ty} {a b : AV} : paste [a, b] 0 t.cells = t.cells := by cases t <;> rfl
@[go_sem] theorem take_cells {t : Ty} : List.take 2 t.cells = t.cells := by cases t <;> rfl
@[go_sem] theorem Ty.cells_len (t : Ty) : t.cells.length = 2 := by cases t <;> rfl
@[go_sem] theorem Ty.cells_one {h : AH} (t : Ty) : t.cells.all (AV.one h) = true := by cases t <;> rfl
end Go.Isea
namespace Go.Proofs.YtnocdggngfiebaaGreatDoor
open Go Go.Isea
set_option maxRecDepth 100000
/-- a reader's cells -/
def rd (t : L8) (k : Nat) (bad : Bool) : List AV := [str t, .v (.int .i64 (k : Nat)), .v (.bool bad)]
theorem s_next {l : Nat} {t : L8} {k : Nat} {bad : Bool} (h : AH) (hl : l < h.n) (ho : h.o l = .cells (rd t k bad)) (hk : k ≤ t.length) (ht : t.length ≤ 4611686018427387904) :
    Good Tryz.prog 322 [.ptr l 0] h [l] (.v (.int .u8 (nx t k).1.toNat)) (h.set l (.cells (rd t (nx t k).2.1 (bad || (nx t k).2.2)))) := by
  by_cases h1 : t.length ≤ k
  · have h2 : t[k]? = none := List.getElem?_eq_none h1
    refine good [] [] Tryz.func322 rfl rfl Tryz.ntmps322 (by kernel_rfl) mixed (by kernel_rfl) ?_
    simp -dsimp only [go_sem, ho, rd, h1, hl]
    refine fin_one (Nat.le_refl _) ?_ ?_ <;> simp -dsimp only [go_sem, nx, h2] <;> simp
  · have h3 : k < t.length := by omega
    obtain ⟨b, hb⟩ : ∃ b, t[k]? = some b := ⟨_, List.getElem?_eq_getElem h3⟩
    have h4 : k + 1 ≤ 9223372036854775807 := by omega
    have h5 : IntKind.i64.wrap ((k + 1 : Nat) - (1 : Int)) = (k : Nat) := by rw [wrap_i64] <;> omega
    refine good [] [] Tryz.func322 rfl rfl Tryz.ntmps322 (by kernel_rfl) mixed (by kernel_rfl) ?_
    simp -dsimp only [go_sem, ho, rd, h1, hl, h4, h5, hb]
    refine fin_one (Nat.le_refl _) ?_ ?_ <;> simp -dsimp only [go_sem, nx, hb] <;> simp
/-- what is said of the reader of a node -/
def NodeOk (f : Nat) : Prop := ∀ {l : Nat} {t : L8} {k : Nat} (h : AH), l < h.n → h.o l = .cells (rd t k false) → k ≤ t.length → t.length ≤ 4611686018427387904 → t.length < f + k →
    Good Tryz.prog 305 [.ptr l 0] h [l] (.agg (rdN f t k).1.cells) (h.set l (.cells (rd t (rdN f t k).2.1 (rdN f t k).2.2)))
theorem s_node_step {f : Nat} (ih : NodeOk f) : NodeOk (f + 1) := by
  intro l t k h hl ho hk ht hf
  have hn' := s_next (bad := false) (h.push (.cells [.v (.int .u8 0), .v (.slice none 0 0)])) (l := l) (t := t) (k := k) (by simp [AH.push]; omega) (by simp -dsimp only [go_sem, ho, hl]) hk ht
  simp -dsimp only [go_sem] at hn'
  cases hc : t[k]? with
  | none =>
    have e1 : nx t k = (0, k, true) := by simp [nx, hc]
    have e2 : rdN (f + 1) t k = (.leaf 0, k, true) := by
      have : ar 0 = -1 := by decide
      simp [rdN, e1, this, lpR, endR, mkT]
    have e3 : ar 0 = -1 := by decide
    have e4 := s_l1Arity 0
    rw [e1] at hn'
    rw [e3] at e4
    rw [e2]
    refine good [] [(7, OT.o 0 (OT.o 1 (OT.o 3 (OT.o 4 (OT.o 2 (OT.o 5 (OT.o 6 (OT.o 7 (OT.o 8 (OT.o 9 (OT.o 10 (OT.o 11 (OT.o 12 (OT.o 13 (OT.o 14 OT.e)))))))))))))))] Tryz.func305 rfl rfl Tryz.ntmps305 (by kernel_rfl) mixed (by kernel_rfl) ?_
    simp -dsimp only [go_sem]
    refine call_one hn' (by simp -dsimp only [go_sem]) (by simp -dsimp only [go_sem]) ?_
    simp -dsimp only [go_sem, hl, rd]
    refine call_pure (e4 _) ?_
    simp -dsimp only [go_sem, hl]
    refine loop_ruleH [0, 1, 0, 0] (fun (_ : Unit) H => ([(5, .v (.int .i64 0))], H)) (fun _ => 0) () ?_ ?_
    · refine weak_objs [l, h.n, h.n + 1, h.n + 2] (by omega) (Nat.le_refl _) (by simp -dsimp only [go_sem, hl]) (fun _ _ _ => rfl) ?_ ?_
      · intro x h1 h2; simp at h2 ⊢; omega
      · simp -dsimp only [go_sem, hl]
    · intro u
      simp -dsimp only [go_sem, hl]
      refine fin_one (by simp -dsimp only [go_sem]) ?_ (by simp -dsimp only [go_sem, hl, rd])
      simp -dsimp only [go_sem, hl, Ty.cells]
  | some c =>
    have e1 : nx t k = (c, k + 1, false) := by simp [nx, hc]
    have e4 := s_l1Arity c
    have hk1 : k + 1 ≤ t.length := (List.getElem?_eq_some_iff.1 hc).1
    have hmk := fun ps (hp : List.length ps ≤ 2) => mkT_cells c hp
    rw [e1] at hn'
    simp only [rdN, e1]
    have ha2 := ar_le c
    refine good [] [(7, OT.o 0 (OT.o 1 (OT.o 3 (OT.o 4 (OT.o 2 (OT.o 5 (OT.o 6 (OT.o 7 (OT.o 8 (OT.o 9 (OT.o 10 (OT.o 11 (OT.o 12 (OT.o 13 (OT.o 14 OT.e)))))))))))))))] Tryz.func305 rfl rfl Tryz.ntmps305 (by kernel_rfl) mixed (by kernel_rfl) ?_
    simp -dsimp only [go_sem]
    refine call_one hn' (by simp -dsimp only [go_sem]) (by simp -dsimp only [go_sem]) ?_
    simp -dsimp only [go_sem, hl, rd]
    refine call_pure (e4 _) ?_
    simp -dsimp only [go_sem, hl]
    generalize ha : ar c = a at *
    generalize hy : lpR (rdN f t) t a.toNat [] (k + 1) (decide (a < 0)) = y
    refine loop_ruleH [0, 1, 0, 0] (fun (z : {z : (Nat × Nat) × List Ty × Nat × Bool // lpR (rdN f t) t z.1.1 z.2.1 z.2.2.1 z.2.2.2 = y ∧ z.2.2.1 ≤ t.length ∧ k < z.2.2.1 ∧ (z.2.1.length ≤ 2 ∧ (z.2.2.2 = false → z.1.2 = z.2.1.length ∧ z.1.1 + z.2.1.length = a.toNat)) ∧ (a < 0 → z.2.2.2 = true)}) H =>
        ([(5, .v (.int .i64 (z.1.1.2 : Nat)))], ⟨H.n, upd (upd (upd H.o l (.cells (rd t z.1.2.2.1 z.1.2.2.2))) (h.n + 1) (.rows 273 2 (z.1.2.1.map Ty.cells))) (h.n + 2) (.cells [.v (.int .u8 c.toNat), .so (h.n + 1) z.1.2.1.length z.1.2.1.length])⟩))
      (fun z => z.1.1.1) ⟨((a.toNat, 0), [], k + 1, decide (a < 0)), hy, hk1, Nat.lt_succ_self k, by simp, by simp⟩ ?_ ?_
    · refine weak_objs [l, h.n, h.n + 1, h.n + 2] (by simp -dsimp only [go_sem]) (Nat.le_refl _) (by simp -dsimp only [go_sem, hl]) ?_ ?_ ?_
      · intro x h1 h2; simp at h2; simp -dsimp only [go_sem, h1, h2]
      · intro x h1 h2; have h1 : x < h.n + 3 := h1; simp at h2 ⊢; omega
      · simp -dsimp only [go_sem, hl, rd]
    · rintro ⟨⟨⟨m, i⟩, ps, k2, bad⟩, hz, hk2, hkk, ⟨hps, hm⟩, hneg⟩
      simp only at hz hk2 hkk hm hneg hps
      have hend : (m = 0 ∨ bad = true) → y = (ps, k2, bad) := by
        rintro (rfl | rfl)
        · exact hz.symm
        · rw [lpR_bad] at hz; exact hz.symm
      have hcell := hmk ps hps
      by_cases hgo : ((i : Nat) : Int) < a ∧ bad = false
      · obtain ⟨hlt, rfl⟩ := hgo
        obtain ⟨rfl, hm⟩ := hm rfl
        obtain ⟨m, rfl⟩ : ∃ m', m = m' + 1 := ⟨m - 1, by omega⟩
        have hi2 : ps.length < 2 := by omega
        obtain ⟨e, he, he0, hes⟩ : ∃ e, ([40, 44] : L8)[ps.length]? = some e ∧ e ≠ 0 ∧ e = sep ps.length := by
          refine ⟨sep ps.length, ?_⟩
          have : ps.length = 0 ∨ ps.length = 1 := by omega
          rcases this with h | h <;> rw [h] <;> simp [sep]
        have hi3 : ps.length + 1 ≤ 9223372036854775807 := by omega
        have hnx1 := nx_le hk2
        have hnx2 : (nx t k2).2.2 = false → (nx t k2).2.1 = k2 + 1 := by unfold nx; split <;> simp
        have hnx3 : k2 ≤ (nx t k2).2.1 := by unfold nx; split <;> simp
        have hnx4 := nx_bad (t := t) (k := k2)
        unfold lpR at hz
        rw [if_neg (by simp), ← hes] at hz
        simp -dsimp only [go_sem, hl, rd, hlt, he]
        refine call_one (s_next (t := t) (k := k2) (bad := false) _ (by simp -dsimp only [go_sem, hl]) (by simp -dsimp only [go_sem, hl, rd]) hk2 ht) (by simp -dsimp only [go_sem]) (by simp -dsimp only [go_sem]) ?_
        generalize nx t k2 = x at *
        obtain ⟨d, k3, b3⟩ := x
        simp only at hnx1 hnx2 hnx3 hnx4 hz
        by_cases hde : d = e
        · subst hde
          have hb3 : b3 = false := by
            cases b3 with
            | false => rfl
            | true => exact absurd (hnx4 rfl) he0
          subst hb3
          simp -dsimp only [go_sem, hl, rd, he]
          refine ⟨out_prS (by kernel_rfl), ?_⟩
          have hn2 := hnx2 rfl
          rw [if_neg (by simp)] at hz
          refine call_one (ih (t := t) (k := k3) _ (by simp -dsimp only [go_sem, hl]) (by simp -dsimp only [go_sem, hl, rd]) hnx1 ht (by omega)) (by simp -dsimp only [go_sem]) (by simp -dsimp only [go_sem, hl, not_false_eq_true]) ?_
          have hle := rdN_le (t := t) f k3 hnx1
          have hge := rdN_ge (t := t) f k3
          generalize rdN f t k3 = x at hz hle hge ⊢
          obtain ⟨ty, k4, b4⟩ := x
          simp only at hz hle hge
          simp -dsimp only [go_sem, hl, rd, hi3, Ty.cells_len, Ty.cells_one]
          refine ⟨by omega, out_prS (by kernel_rfl), ?_⟩
          refine round_to ⟨((m, ps.length + 1), ps ++ [ty], k4, b4), hz, hle, by simp only; omega, ⟨by simp; omega, fun _ => ⟨by simp, by simp; omega⟩⟩, fun h => by omega⟩ (by simp) ?_
          refine weak_objs [l, h.n, h.n + 1, h.n + 2] (by simp -dsimp only [go_sem]) (Nat.le_refl _) (by simp -dsimp only [go_sem, hl]) ?_ ?_ ?_
          · intro x h1 h2; simp at h2; simp -dsimp only [go_sem, h1, h2]
          · intro x h1 h2; have h1 : x < h.n + 3 := h1; simp at h2 ⊢; omega
          · simp -dsimp only [go_sem, hl, rd]
        · rw [if_pos (.inr hde)] at hz
          simp -dsimp only [go_sem, hl, rd, he, hde, hi3]
          refine round_to ⟨((m, ps.length + 1), ps, k3, true), by simp only [lpR_bad]; exact hz, hnx1, by simp only; omega, ⟨hps, by simp⟩, by simp⟩ (by simp) ?_
          refine weak_objs [l, h.n, h.n + 1, h.n + 2] (by simp -dsimp only [go_sem]) (Nat.le_refl _) (by simp -dsimp only [go_sem, hl]) ?_ ?_ ?_
          · intro x h1 h2; simp at h2; simp -dsimp only [go_sem, h1, h2]
          · intro x h1 h2; have h1 : x < h.n + 3 := h1; simp at h2 ⊢; omega
          · simp -dsimp only [go_sem, hl, rd]
      · have hy' := hend (by
          by_cases hb : bad = true
          · exact .inr hb
          · refine .inl ?_
            simp only [Bool.not_eq_true] at hb
            have : ¬ ((i : Nat) : Int) < a := fun h => hgo ⟨h, hb⟩
            have := hm hb
            omega)
        by_cases h0 : 0 < a ∧ bad = false
        · obtain ⟨h0, rfl⟩ := h0
          have hlt : ¬ ((i : Nat) : Int) < a := fun h => hgo ⟨h, rfl⟩
          simp -dsimp only [go_sem, hl, rd, hlt, h0]
          have e6 := endR t a (ps, k2, false)
          have e7 : endR t a (ps, k2, false) = ((nx t k2).2.1, decide ((nx t k2).1 ≠ 41) || (nx t k2).2.2) := by simp [endR, h0]
          refine call_one (s_next (t := t) (k := k2) (bad := false) _ (by simp -dsimp only [go_sem, hl]) (by simp -dsimp only [go_sem, hl, rd]) hk2 ht) (by simp -dsimp only [go_sem]) (by simp -dsimp only [go_sem]) ?_
          generalize nx t k2 = x at *
          obtain ⟨d, k3, b3⟩ := x
          simp only at e7
          by_cases hd : d = 41
          · cases b3 <;> simp -dsimp only [go_sem, hl, rd, hd] <;> rw [hy', e7] <;>
              refine fin_one (by simp -dsimp only [go_sem]) ?_ (by simp -dsimp only [go_sem, hl, rd, hd]) <;>
              simp -dsimp only [go_sem, hl, hcell]
          · cases b3 <;> simp -dsimp only [go_sem, hl, rd, hd] <;> rw [hy', e7] <;>
              refine fin_one (by simp -dsimp only [go_sem]) ?_ (by simp -dsimp only [go_sem, hl, rd, hd]) <;>
              simp -dsimp only [go_sem, hl, hcell]
        · have e5 : endR t a (ps, k2, bad) = (k2, bad) := by
            simp only [endR]; rw [if_neg h0]
          cases bad with
          | false =>
            have hlt : ¬ ((i : Nat) : Int) < a := fun h => hgo ⟨h, rfl⟩
            have h0 : ¬ 0 < a := fun h => h0 ⟨h, rfl⟩
            simp -dsimp only [go_sem, hl, rd, hlt, h0]
            rw [hy', e5]
            refine fin_one (by simp -dsimp only [go_sem]) ?_ (by simp -dsimp only [go_sem, hl, rd])
            simp -dsimp only [go_sem, hl, hcell]
          | true =>
            by_cases hlt : ((i : Nat) : Int) < a <;> by_cases h0 : 0 < a <;> simp -dsimp only [go_sem, hl, rd, hlt, h0] <;> rw [hy', e5] <;>
              refine fin_one (by simp -dsimp only [go_sem]) ?_ (by simp -dsimp only [go_sem, hl, rd]) <;>
              simp -dsimp only [go_sem, hl, hcell]
theorem s_node (f : Nat) : NodeOk f := by
  induction f with
  | zero => intro l t k h hl ho hk ht hf; omega
  | succ f ih => exact s_node_step ih
end Go.Proofs.YtnocdggngfiebaaGreatDoor

namespace Go.Isea
open Go
/-- no type -/
def zNode : List AV := [.v (.int .u8 0), .v (.slice none 0 0)]
def readV (t : L8) : AV := match typeOf t with
  | some ty => .tup [.agg ty.cells, .v (.bool true)]
  | none => .tup [.agg zNode, .v (.bool false)]
theorem Ty.cells_ref {h : AH} {m : Nat} (t : Ty) : FzL h m t.cells t.cells := by
  have := Fz.of_lo (h := h) (m := m) (x := .agg t.cells) (.agg fun x hx => t.cells_pu m x hx)
  cases this with
  | agg hl hc => exact ⟨hl, hc⟩
end Go.Isea
namespace Go.Proofs.YtnocdggngfiebaaGreatDoor
open Go Go.Isea
set_option maxRecDepth 100000
theorem s_l1Read (t : L8) (ht : t.length ≤ 4611686018427387904) (h : AH) : Good Tryz.prog 267 [str t] h [] (readV t) h := by
  have hx := typeOf_rd t
  refine good [8] [] Tryz.func267 rfl rfl Tryz.ntmps267 (by kernel_rfl) mixed (by kernel_rfl) ?_
  simp -dsimp only [go_sem]
  refine call_one (s_node (t.length + 1) (t := t) (k := 0) _ (by simp -dsimp only [go_sem]) (by simp -dsimp only [go_sem, rd]) (Nat.zero_le _) ht (by omega)) (by simp -dsimp only [go_sem]) (by simp -dsimp only [go_sem]) ?_
  generalize rdN (t.length + 1) t 0 = x at *
  obtain ⟨ty, k, bad⟩ := x
  simp only at hx
  have fin : readV t = .tup [.agg zNode, .v (.bool false)] → ∀ H : AH, h.n ≤ H.n → FinS [] h H (.tup [.agg [.v (.int .u8 0), .v (.slice none 0 0)], .v (.bool false)]) h (readV t) := fun e H hH => by
    rw [e]; exact fin_pure hH (by simp -dsimp only [go_sem, zNode])
  cases bad with
  | true =>
    have e : readV t = .tup [.agg zNode, .v (.bool false)] := by unfold readV; rw [hx, if_neg (by simp)]
    simp -dsimp only [go_sem, rd, Ty.cells_len, Ty.cells_one]
    exact fin e _ (by simp -dsimp only [go_sem])
  | false =>
    by_cases hk : k = t.length
    · by_cases h60 : (60 : Int) < (t.length : Nat)
      · have e : readV t = .tup [.agg zNode, .v (.bool false)] := by unfold readV; rw [hx, if_neg (by omega)]
        simp -dsimp only [go_sem, rd, Ty.cells_len, Ty.cells_one, hk, h60]
        exact fin e _ (by simp -dsimp only [go_sem])
      · have e : readV t = .tup [.agg ty.cells, .v (.bool true)] := by unfold readV; rw [hx, if_pos ⟨rfl, hk, by omega⟩]
        rw [e]
        simp -dsimp only [go_sem, rd, Ty.cells_len, Ty.cells_one, hk, h60]
        refine fin_pure (by simp -dsimp only [go_sem]) ?_
        simp -dsimp only [go_sem, ty.cells_ref]
    · have e : readV t = .tup [.agg zNode, .v (.bool false)] := by unfold readV; rw [hx, if_neg (by omega)]
      simp -dsimp only [go_sem, rd, Ty.cells_len, Ty.cells_one, hk]
      exact fin e _ (by simp -dsimp only [go_sem])
theorem s_TypeValid (t : L8) (ht : t.length ≤ 4611686018427387904) (h : AH) : Good Tryz.prog 244 [str t] h [] (.v (.bool (tv t))) h := by
  refine good [] [] Tryz.func244 rfl rfl Tryz.ntmps244 (by kernel_rfl) mixed (by kernel_rfl) ?_
  simp -dsimp only [go_sem]
  refine call_pure (s_l1Read t ht _) ?_
  unfold readV tv
  cases typeOf t <;> simp -dsimp only [go_sem, zNode] <;> exact fin_bool (by simp -dsimp only [go_sem]) rfl
theorem s_l1Text_step {n : Nat} (ih : ∀ (t : Ty) (h : AH), t.text.length ≤ n → Good Tryz.prog 270 [.agg t.cells] h [] (str t.text) h) (t : Ty) (h : AH) (hl : t.text.length ≤ n + 1) (hn : n ≤ 1000000) :
    Good Tryz.prog 270 [.agg t.cells] h [] (str t.text) h := by
  refine good [] [] Tryz.func270 rfl rfl Tryz.ntmps270 (by kernel_rfl) mixed (by kernel_rfl) ?_
  simp -dsimp only [go_sem]
  refine loop_ruleH [1, 9, 0] (fun (i : {i : Nat // i ≤ t.parts.length}) H => ([(3, str (preT t.head t.parts i.1)), (13, .v (.int .i64 (i.1 : Nat)))], H)) (fun i => t.parts.length - i.1) ⟨0, Nat.zero_le _⟩ ?_ ?_
  · exact weak_at rfl (Nat.le_refl _) (fun _ _ => rfl) (by simp -dsimp only [go_sem, preT])
  · rintro ⟨i, hi⟩
    have hpl := preT_le t hi
    by_cases hlt : i < t.parts.length
    · obtain ⟨p, hp⟩ : ∃ p, t.parts[i]? = some p := ⟨_, List.getElem?_eq_getElem hlt⟩
      obtain ⟨hp1, hp2⟩ := part_le t hp
      have h1 : i + 1 ≤ 9223372036854775807 := by omega
      have h2 : i + 1 ≤ 2 := by omega
      have h3 : (([40, 44] : L8).drop i).take (i + 1 - i) = [sep i] := by
        have : i = 0 ∨ i = 1 := by omega
        rcases this with rfl | rfl <;> rfl
      have h4 : (preT t.head t.parts i).length + 1 ≤ 9223372036854775807 := by omega
      have h5 : (preT t.head t.parts i).length + 1 + p.text.length ≤ 9223372036854775807 := by omega
      simp -dsimp only [go_sem, hlt, hp, h1, h2, h3, h4, h5]
      refine call_pure (ih p _ (by omega)) ?_
      simp -dsimp only [go_sem, hlt, hp, h1, h2, h3, h4, h5]
      have hpre : preT t.head t.parts (i + 1) = preT t.head t.parts i ++ [sep i] ++ p.text := by simp [preT, hp]
      exact round_to ⟨i + 1, hlt⟩ (by simp; omega) (weak_at rfl (by simp -dsimp only [go_sem]) (fun x hx => by simp -dsimp only [go_sem, hx]) (by simp -dsimp only [go_sem, hpre]))
    · have hil : i = t.parts.length := by omega
      subst hil
      have htx := text_pre t
      by_cases h0 : (0 : Int) < (t.parts.length : Nat)
      · have h1 : (preT t.head t.parts t.parts.length).length + 1 ≤ 9223372036854775807 := by omega
        rw [if_neg (by omega)] at htx
        simp -dsimp only [go_sem, hlt, h0, h1]
        exact fin_str (by simp -dsimp only [go_sem]) htx.symm
      · rw [if_pos (by omega)] at htx
        simp -dsimp only [go_sem, hlt, h0]
        exact fin_str (by simp -dsimp only [go_sem]) (by rw [htx]; simp)
theorem s_l1Text (t : Ty) (h : AH) (hl : t.text.length ≤ 1000000) : Good Tryz.prog 270 [.agg t.cells] h [] (str t.text) h := by
  have : ∀ n, n ≤ 1000000 → ∀ (t : Ty) (h : AH), t.text.length ≤ n → Good Tryz.prog 270 [.agg t.cells] h [] (str t.text) h := by
    intro n
    induction n with
    | zero => intro _ t h hl; have := t.text_pos; omega
    | succ n ih => intro hn t h hl; exact s_l1Text_step (ih (by omega)) t h hl (by omega)
  exact this 1000000 (Nat.le_refl _) t h hl
end Go.Proofs.YtnocdggngfiebaaGreatDoor

namespace Go.Isea
open Go
def Need.row (n : Need) : List AV := [str n.c, str n.t]
def Cls.row (c : Cls) : List AV := [str c.n, str c.s]
def Inst.row (i : Inst) : List AV := [str i.c, str i.t, .sl (i.ns.map Need.row)]
def Wld.row (w : Wld) : List AV := [.sl (w.cs.map Cls.row), .sl (w.is.map Inst.row)]
theorem Need.pu (n : Need) : PuL n.row := by simp -dsimp only [Need.row, go_sem]
theorem Cls.pu (n : Cls) : PuL n.row := by simp -dsimp only [Cls.row, go_sem]
@[go_sem] theorem puR_needs {l : List Need} : PuR (l.map Need.row) = True := puR_map Need.pu
@[go_sem] theorem puR_clss {l : List Cls} : PuR (l.map Cls.row) = True := puR_map Cls.pu
theorem Inst.pu (n : Inst) : PuL n.row := by simp -dsimp only [Inst.row, go_sem]
@[go_sem] theorem puR_insts {l : List Inst} : PuR (l.map Inst.row) = True := puR_map Inst.pu
theorem Wld.pu (n : Wld) : PuL n.row := by simp -dsimp only [Wld.row, go_sem]
/-- is each letter of the one in the other? -/
def within (a b : L8) : Bool := a.all fun c => decide (0 ≤ ix b c)
/-- the place of a class, or -1 -/
def clsIx : List Cls → L8 → Int
  | [], _ => -1
  | b :: l, c => if b.n = c then 0 else if clsIx l c < 0 then -1 else clsIx l c + 1
theorem clsIx_ge (l : List Cls) (c : L8) : -1 ≤ clsIx l c := by
  cases l with
  | nil => simp [clsIx]
  | cons b l => simp only [clsIx]; split <;> (try split) <;> omega
def CIxAt (l : List Cls) (c : L8) (k : Nat) : Prop := clsIx l c = if clsIx (l.drop k) c < 0 then -1 else k + clsIx (l.drop k) c
theorem cIxAt_zero (l : List Cls) (c : L8) : CIxAt l c 0 := by
  unfold CIxAt
  rw [List.drop_zero]
  have := clsIx_ge l c
  by_cases h : clsIx l c < 0
  · rw [if_pos h]; omega
  · rw [if_neg h]; simp
end Go.Isea
namespace Go.Proofs.YtnocdggngfiebaaGreatDoor
open Go Go.Isea
set_option maxRecDepth 100000
theorem s_l3Capital (s : L8) (h : AH) : Good Tryz.prog 260 [str s] h [] (.v (.bool (capital s))) h := by
  refine good [] [] Tryz.func260 rfl rfl Tryz.ntmps260 (by kernel_rfl) mixed (by kernel_rfl) ?_
  match s with
  | [] => simp -dsimp only [go_sem]; exact fin_bool (Nat.le_refl _) rfl
  | [c] =>
    simp -dsimp only [go_sem]
    refine call_pure (s_l1In _ _ _ _) ?_
    simp -dsimp only [go_sem]
    refine fin_bool (Nat.le_refl _) ?_
    show (decide ((65 : Int) ≤ (c.toNat : Nat)) && decide (((c.toNat : Nat) : Int) ≤ 84)) = (decide (65 ≤ c.toNat) && decide (c.toNat ≤ 84))
    congr 1 <;> (apply decide_eq_decide.2; omega)
  | c :: d :: l =>
    have : ¬ ((l.length + 1 + 1 : Nat) : Int) = 1 := by omega
    simp -dsimp only [go_sem, this]
    exact fin_bool (Nat.le_refl _) rfl
theorem s_l3Class (w : Wld) (c : L8) (h : AH) (hw : w.cs.length ≤ 4611686018427387904) : Good Tryz.prog 243 [.agg w.row, str c] h [] (.v (.int .i64 (clsIx w.cs c))) h := by
  refine good [] [] Tryz.func243 rfl rfl Tryz.ntmps243 (by kernel_rfl) mixed (by kernel_rfl) ?_
  simp -dsimp only [go_sem, Wld.row]
  refine loop_ruleH [1, 6, 0] (fun (k : { k : Nat // k ≤ w.cs.length ∧ CIxAt w.cs c k }) H => ([(10, .v (.int .i64 (k.1 : Nat)))], H)) (fun k => w.cs.length - k.1) ⟨0, Nat.zero_le _, cIxAt_zero _ _⟩ ?_ ?_
  · exact weak_at rfl (Nat.le_refl _) (fun _ _ => rfl) (by simp -dsimp only [go_sem])
  · rintro ⟨k, hk, hi⟩
    have h1 : k + 1 ≤ 9223372036854775807 := by omega
    by_cases hlt : k < w.cs.length
    · obtain ⟨b, hb⟩ : ∃ b, w.cs[k]? = some b := ⟨_, List.getElem?_eq_getElem hlt⟩
      have hd : w.cs.drop k = b :: w.cs.drop (k + 1) := by
        rw [List.drop_eq_getElem_cons hlt]; congr 1; exact Option.some.inj ((List.getElem?_eq_getElem hlt).symm.trans hb)
      by_cases hbc : b.n = c
      · simp -dsimp only [go_sem, hlt, hb, hbc, Cls.row]
        refine fin_int (by simp -dsimp only [go_sem]) ?_
        rw [hi, hd, clsIx, if_pos hbc]; simp
      · simp -dsimp only [go_sem, hlt, hb, hbc, h1, Cls.row]
        refine round_to ⟨k + 1, by omega, ?_⟩ (by simp; omega) (weak_at rfl (by simp -dsimp only [go_sem]) (fun x hx => by simp -dsimp only [go_sem, hx]) (by simp -dsimp only [go_sem]))
        rw [CIxAt, hi, hd, clsIx, if_neg hbc]
        have := clsIx_ge (w.cs.drop (k + 1)) c
        by_cases h0 : clsIx (w.cs.drop (k + 1)) c < 0
        · rw [if_pos h0, if_pos h0]; rfl
        · rw [if_neg h0, if_neg h0, if_neg (by omega)]; push_cast; omega
    · simp -dsimp only [go_sem, hlt]
      refine fin_int (Nat.le_refl _) ?_
      rw [hi, List.drop_of_length_le (by omega)]; rfl
theorem s_l3Within (a b : L8) (h : AH) (ha : a.length ≤ 4611686018427387904) (hb : b.length ≤ 4611686018427387904) : Good Tryz.prog 258 [str a, str b] h [] (.v (.bool (within a b))) h := by
  refine good [] [] Tryz.func258 rfl rfl Tryz.ntmps258 (by kernel_rfl) mixed (by kernel_rfl) ?_
  simp -dsimp only [go_sem]
  refine loop_ruleH [0, 0, 4, 0] (fun (k : { k : Nat // k ≤ a.length ∧ within a b = within (a.drop k) b }) H => ([(8, .v (.int .i64 (k.1 : Nat)))], H)) (fun k => a.length - k.1) ⟨0, Nat.zero_le _, rfl⟩ ?_ ?_
  · exact weak_at rfl (Nat.le_refl _) (fun _ _ => rfl) (by simp -dsimp only [go_sem])
  · rintro ⟨k, hk, hi⟩
    have h1 : k + 1 ≤ 9223372036854775807 := by omega
    by_cases hlt : k < a.length
    · obtain ⟨c, hc⟩ : ∃ c, a[k]? = some c := ⟨_, List.getElem?_eq_getElem hlt⟩
      rw [drop_some hc] at hi
      simp -dsimp only [go_sem, hlt, hc]
      refine call_pure (s_l13Find b c _ hb) ?_
      by_cases h0 : ix b c < 0
      · simp -dsimp only [go_sem, hlt, hc, h0]
        refine fin_bool (by simp -dsimp only [go_sem]) ?_
        rw [hi]
        have : ¬ 0 ≤ ix b c := by omega
        simp [within, this]
      · simp -dsimp only [go_sem, hlt, hc, h0, h1]
        refine round_to ⟨k + 1, hlt, ?_⟩ (by simp; omega) (weak_at rfl (by simp -dsimp only [go_sem]) (fun x hx => by simp -dsimp only [go_sem, hx]) (by simp -dsimp only [go_sem]))
        rw [hi]
        have : 0 ≤ ix b c := by omega
        simp [within, this]
    · simp -dsimp only [go_sem, hlt]
      refine fin_bool (by simp -dsimp only [go_sem]) ?_
      rw [hi, List.drop_of_length_le (by omega)]; rfl
theorem s_CountVar (t v : L8) (h : AH) (ht : t.length ≤ 4611686018427387904) (hv : v.length ≤ 4611686018427387904) : Good Tryz.prog 212 [str t, str v] h [] (.v (.int .i64 (countVar t v))) h := by
  refine good [] [] Tryz.func212 rfl rfl Tryz.ntmps212 (by kernel_rfl) mixed (by kernel_rfl) ?_
  simp -dsimp only [go_sem]
  refine call_pure (s_TypeValid t ht _) ?_
  cases htv : tv t with
  | false =>
    simp -dsimp only [go_sem]
    refine fin_int (Nat.le_refl _) ?_
    unfold countVar
    split <;> simp [htv]
  | true =>
    match v with
    | [] => simp -dsimp only [go_sem]; exact fin_int (Nat.le_refl _) rfl
    | c :: d :: l =>
      have : ¬ ((l.length + 1 + 1 : Nat) : Int) = 1 := by omega
      simp -dsimp only [go_sem, this]
      exact fin_int (Nat.le_refl _) rfl
    | [c] =>
      simp -dsimp only [go_sem]
      refine call_pure (s_l1Variable c _) ?_
      cases hvc : isV c with
      | false =>
        simp -dsimp only [go_sem]
        refine fin_int (Nat.le_refl _) ?_
        simp [countVar, hvc]
      | true =>
        simp -dsimp only [go_sem]
        refine loop_ruleH [0, 0, 20] (fun (k : { k : Nat // k ≤ t.length }) H => ([(5, .v (.int .i64 ((t.take k.1).count c : Nat))), (23, .v (.int .i64 (k.1 : Nat)))], H)) (fun k => t.length - k.1) ⟨0, Nat.zero_le _⟩ ?_ ?_
        · exact weak_at rfl (Nat.le_refl _) (fun _ _ => rfl) (by simp -dsimp only [go_sem, List.count_nil])
        · rintro ⟨k, hk⟩
          have h1 : k + 1 ≤ 9223372036854775807 := by omega
          by_cases hlt : k < t.length
          · obtain ⟨d, hd⟩ : ∃ d, t[k]? = some d := ⟨_, List.getElem?_eq_getElem hlt⟩
            have h2 : (t.take k).count c + 1 ≤ 9223372036854775807 := by
              have := List.count_le_length (a := c) (l := t.take k)
              simp at this; omega
            by_cases hdc : d = c
            · have h3 : (t.take (k + 1)).count c = (t.take k).count c + 1 := by simp [List.take_add_one, hd, hdc]
              simp -dsimp only [go_sem, hlt, hd, hdc, h1, h2]
              exact round_to ⟨k + 1, hlt⟩ (by simp; omega) (weak_at rfl (by simp -dsimp only [go_sem]) (fun x hx => by simp -dsimp only [go_sem, hx]) (by simp -dsimp only [go_sem, h3]))
            · have h3 : (t.take (k + 1)).count c = (t.take k).count c := by simp [List.take_add_one, hd, hdc]
              simp -dsimp only [go_sem, hlt, hd, hdc, h1, h2]
              exact round_to ⟨k + 1, hlt⟩ (by simp; omega) (weak_at rfl (by simp -dsimp only [go_sem]) (fun x hx => by simp -dsimp only [go_sem, hx]) (by simp -dsimp only [go_sem, h3]))
          · simp -dsimp only [go_sem, hlt]
            refine fin_int (by simp -dsimp only [go_sem]) ?_
            rw [List.take_of_length_le (by omega)]
            simp [countVar, htv, hvc]
theorem s_VarsOf (t : L8) (h : AH) (ht : t.length ≤ 4611686018427387904) : Good Tryz.prog 259 [str t] h [] (str (if tv t then varsIn t else [])) h := by
  refine good [] [] Tryz.func259 rfl rfl Tryz.ntmps259 (by kernel_rfl) mixed (by kernel_rfl) ?_
  simp -dsimp only [go_sem]
  let p : UInt8 → Bool := fun v => decide (0 < countVar t [v])
  refine loop_ruleH [0, 5, 0] (fun (k : { k : Nat // k ≤ 6 }) H => ([(3, str ((vars6.take k.1).filter p)), (8, .v (.int .i64 (k.1 : Nat)))], H)) (fun k => 6 - k.1) ⟨0, Nat.zero_le _⟩ ?_ ?_
  · exact weak_at rfl (Nat.le_refl _) (fun _ _ => rfl) (by simp -dsimp only [go_sem, List.filter_nil])
  · rintro ⟨k, hk⟩
    have h1 : k + 1 ≤ 9223372036854775807 := by omega
    by_cases hlt : k < 6
    · obtain ⟨v, hv⟩ : ∃ v, vars6[k]? = some v := ⟨_, List.getElem?_eq_getElem (by simpa [vars6] using hlt)⟩
      have hr : ([[str [88]], [str [89]], [str [90]], [str [120]], [str [121]], [str [122]]] : List (List AV))[k]? = some [str [v]] := by
        have : ([[str [88]], [str [89]], [str [90]], [str [120]], [str [121]], [str [122]]] : List (List AV)) = vars6.map fun v => [str [v]] := rfl
        rw [this, List.getElem?_map, hv]; rfl
      have h2 : ((vars6.take k).filter p).length + 1 ≤ 9223372036854775807 := by
        have := List.length_filter_le p (vars6.take k)
        have h4 : (vars6.take k).length ≤ 6 := by simp [vars6]; omega
        omega
      have h3 : (vars6.take (k + 1)).filter p = (vars6.take k).filter p ++ if p v then [v] else [] := by
        rw [List.take_add_one, hv, List.filter_append]
        cases h : p v <;> simp [h]
      simp -dsimp only [go_sem, hlt, hr]
      refine call_pure (s_CountVar t [v] _ ht (by simp)) ?_
      by_cases hc : 0 < countVar t [v]
      · have hp : p v = true := by simpa [p] using hc
        rw [hp, if_pos rfl] at h3
        simp -dsimp only [go_sem, hc, hr, h1, h2]
        exact round_to ⟨k + 1, hlt⟩ (by simp; omega) (weak_at rfl (by simp -dsimp only [go_sem]) (fun x hx => by simp -dsimp only [go_sem, hx]) (by simp -dsimp only [go_sem, h3]))
      · have hp : p v = false := by simpa [p] using hc
        rw [hp] at h3
        simp only [Bool.false_eq_true, if_false, List.append_nil] at h3
        simp -dsimp only [go_sem, hc, hr, h1, h2]
        exact round_to ⟨k + 1, hlt⟩ (by simp; omega) (weak_at rfl (by simp -dsimp only [go_sem]) (fun x hx => by simp -dsimp only [go_sem, hx]) (by simp -dsimp only [go_sem, h3]))
    · simp -dsimp only [go_sem, hlt]
      refine fin_str (by simp -dsimp only [go_sem]) ?_
      rw [List.take_of_length_le (by simp [vars6]; omega)]
      cases htv : tv t with
      | false => simp [p, countVar, htv]
      | true =>
        simp only [if_true, varsIn]
        refine List.filter_congr fun v hv => ?_
        have hvv : isV v = true := by
          revert hv; revert v
          exact fun v => forall_u8 (p := fun v => v ∈ vars6 → isV v = true) (by decide +kernel) v
        simp only [p, countVar, htv, hvv, Bool.and_self, if_true]
        by_cases hm : v ∈ t
        · have := List.count_pos_iff.2 hm
          simp [hm]
        · simp [hm, List.count_eq_zero_of_not_mem hm]
theorem s_l2Index (c : UInt8) (h : AH) : Good Tryz.prog 291 [.v (.int .u8 c.toNat)] h [] (.v (.int .i64 (vix c))) h := by
  refine good [] [] Tryz.func291 rfl rfl Tryz.ntmps291 (by kernel_rfl) mixed (by kernel_rfl) ?_
  simp -dsimp only [go_sem]
  refine call_pure (s_l13Find vars12 c _ (by decide)) ?_
  simp -dsimp only [go_sem]
  exact fin_int (Nat.le_refl _) rfl
theorem s_l2Length_step {n : Nat} (ih : ∀ (t : Ty) (h : AH), t.text.length ≤ n → Good Tryz.prog 269 [.agg t.cells] h [] (.v (.int .i64 (t.text.length : Nat))) h) (t : Ty) (h : AH) (hl : t.text.length ≤ n + 1) (hn : n ≤ 1000000) :
    Good Tryz.prog 269 [.agg t.cells] h [] (.v (.int .i64 (t.text.length : Nat))) h := by
  refine good [] [] Tryz.func269 rfl rfl Tryz.ntmps269 (by kernel_rfl) mixed (by kernel_rfl) ?_
  simp -dsimp only [go_sem]
  refine loop_ruleH [1, 5, 0] (fun (i : {i : Nat // i ≤ t.parts.length}) H => ([(3, .v (.int .i64 ((preT t.head t.parts i.1).length : Nat))), (9, .v (.int .i64 (i.1 : Nat)))], H)) (fun i => t.parts.length - i.1) ⟨0, Nat.zero_le _⟩ ?_ ?_
  · exact weak_at rfl (Nat.le_refl _) (fun _ _ => rfl) (by simp -dsimp only [go_sem, preT])
  · rintro ⟨i, hi⟩
    have hpl := preT_le t hi
    by_cases hlt : i < t.parts.length
    · obtain ⟨p, hp⟩ : ∃ p, t.parts[i]? = some p := ⟨_, List.getElem?_eq_getElem hlt⟩
      obtain ⟨hp1, hp2⟩ := part_le t hp
      have h1 : i + 1 ≤ 9223372036854775807 := by omega
      have h4 : (preT t.head t.parts i).length + 1 ≤ 9223372036854775807 := by omega
      have h5 : (preT t.head t.parts i).length + 1 + p.text.length ≤ 9223372036854775807 := by omega
      simp -dsimp only [go_sem, hlt, hp, h1, h4, h5]
      refine call_pure (ih p _ (by omega)) ?_
      simp -dsimp only [go_sem, hlt, hp, h1, h4, h5]
      have hpre : (preT t.head t.parts (i + 1)).length = (preT t.head t.parts i).length + 1 + p.text.length := by simp [preT, hp]; omega
      exact round_to ⟨i + 1, hlt⟩ (by simp; omega) (weak_at rfl (by simp -dsimp only [go_sem]) (fun x hx => by simp -dsimp only [go_sem, hx]) (by simp -dsimp only [go_sem, hpre]))
    · have hil : i = t.parts.length := by omega
      subst hil
      have htx := congrArg List.length (text_pre t)
      rw [List.length_append] at htx
      by_cases h0 : (0 : Int) < (t.parts.length : Nat)
      · have h1 : (preT t.head t.parts t.parts.length).length + 1 ≤ 9223372036854775807 := by omega
        rw [if_neg (by omega)] at htx
        simp -dsimp only [go_sem, hlt, h0, h1]
        exact fin_int (by simp -dsimp only [go_sem]) (by rw [htx]; rfl)
      · rw [if_pos (by omega)] at htx
        simp -dsimp only [go_sem, hlt, h0]
        exact fin_int (by simp -dsimp only [go_sem]) (by rw [htx]; rfl)
theorem s_l2Length (t : Ty) (h : AH) (hl : t.text.length ≤ 1000000) : Good Tryz.prog 269 [.agg t.cells] h [] (.v (.int .i64 (t.text.length : Nat))) h := by
  have : ∀ n, n ≤ 1000000 → ∀ (t : Ty) (h : AH), t.text.length ≤ n → Good Tryz.prog 269 [.agg t.cells] h [] (.v (.int .i64 (t.text.length : Nat))) h := by
    intro n
    induction n with
    | zero => intro _ t h hl; have := t.text_pos; omega
    | succ n ih => intro hn t h hl; exact s_l2Length_step (ih (by omega)) t h hl (by omega)
  exact this 1000000 (Nat.le_refl _) t h hl
end Go.Proofs.YtnocdggngfiebaaGreatDoor

namespace Go.Isea
open Go
/-- what a variable stands for, as cells -/
def nodeOf : Option Ty → List AV
  | some t => t.cells
  | none => zNode
theorem nodeOf_len (o : Option Ty) : (nodeOf o).length = 2 := by
  cases o with
  | none => rfl
  | some t => exact t.cells_len
/-- a map of twelve nodes -/
def mcells (σ : Sub) : List AV := vars12.flatMap fun c => nodeOf (σ c)
theorem mcells_len (σ : Sub) : (mcells σ).length = 24 := by
  simp [mcells, vars12, nodeOf_len]
theorem flat_drop {α : Type} (f : α → List AV) (hf : ∀ a, (f a).length = 2) : ∀ (l : List α) (k : Nat), (l.flatMap f).drop (k * 2) = (l.drop k).flatMap f
  | [], k => by simp
  | a :: l, 0 => by simp
  | a :: l, k + 1 => by
    have : (k + 1) * 2 = (f a).length + k * 2 := by rw [hf]; omega
    rw [List.flatMap_cons, this, ← List.drop_drop, List.drop_left' rfl, flat_drop f hf l k]; rfl
theorem mcells_at (σ : Sub) {k : Nat} {c : UInt8} (hk : vars12[k]? = some c) : ((mcells σ).drop (k * 2)).take 2 = nodeOf (σ c) := by
  unfold mcells
  rw [flat_drop _ (fun a => nodeOf_len _)]
  obtain ⟨hl, e⟩ := List.getElem?_eq_some_iff.1 hk
  rw [List.drop_eq_getElem_cons hl, List.flatMap_cons, e, List.take_left' (nodeOf_len _)]
theorem mcells_head (σ : Sub) {k : Nat} {c : UInt8} (hk : vars12[k]? = some c) : (mcells σ)[k * 2]? = (nodeOf (σ c))[0]? := by
  have := congrArg (fun l => l[0]?) (mcells_at σ hk)
  simpa [List.getElem?_take, List.getElem?_drop] using this
/-- what is put for what is no letter of a type does not matter -/
def Sub.Ok2 (σ : Sub) (n : Nat) : Prop := ∀ c t, σ c = some t → (isV c = true ∨ ar c < 0) ∧ t.wf ∧ t.text.length ≤ n
theorem Sub.Ok.ok2 {σ : Sub} {n : Nat} (h : σ.Ok n) : σ.Ok2 n := fun c t e => ⟨.inl (h c t e).1, (h c t e).2⟩
theorem put_someV {σ : Sub} {t u : Ty} (hv : isV t.head = true) (hw : t.wf) (h : σ t.head = some u) : put σ t = u := by
  have := isV_leaf hw hv
  rw [this]
  simp [put, h]
end Go.Isea
namespace Go.Proofs.YtnocdggngfiebaaGreatDoor
open Go Go.Isea
set_option maxRecDepth 100000
def PutOk (n : Nat) : Prop := ∀ {l : Nat} {σ : Sub} (t : Ty) (h : AH), l < h.n → h.o l = .cells (mcells σ) → σ.Ok2 60 → t.wf → t.text.length ≤ n →
    Good Tryz.prog 268 [.ptr l 0, .agg t.cells] h [] (.agg (put σ t).cells) h
theorem s_l2Put_step {n : Nat} (ih : PutOk n) : PutOk (n + 1) := by
  intro l σ t h hl ho hs hw ht
  have tail : ∀ (k : Int) (hk : k = vix t.head) (hno : σ t.head = none) (hkn : k = -1 ∨ ∃ j : Nat, j < 6 ∧ k = j ∧ vars12[j]? = some t.head), Good Tryz.prog 268 [.ptr l 0, .agg t.cells] h [] (.agg (put σ t).cells) h := by
    intro k hk hno hkn
    have hi := s_l2Index t.head
    rw [← hk] at hi
    have hpn := put_none hno
    have hcells := mkT_cells t.head (ps := t.parts.map (put σ)) (by simpa using parts_le t)
    rw [← hpn] at hcells
    refine good [] [] Tryz.func268 rfl rfl Tryz.ntmps268 (by kernel_rfl) mixed (by kernel_rfl) ?_
    simp -dsimp only [go_sem]
    refine call_pure (hi _) ?_
    rcases hkn with rfl | ⟨j, hj, rfl, hjv⟩
    case' inl => simp -dsimp only [go_sem]
    case' inr =>
      have e1 : (mcells σ)[j * 2]? = some (.v (.int .u8 0)) := by rw [mcells_head σ hjv, hno]; rfl
      have hj12 : j < 12 := by omega
      simp -dsimp only [go_sem, hl, ho, e1, hj12]
    all_goals
      refine loop_ruleH [0, 3, 1, 26, 0] (fun (i : {i : Nat // i ≤ t.parts.length}) H => ([(35, .v (.int .i64 (i.1 : Nat)))], ⟨H.n, upd (upd H.o (h.n + 1) (.rows 273 2 (((t.parts.take i.1).map (put σ)).map Ty.cells))) (h.n + 2) (.cells [.v (.int .u8 t.head.toNat), .so (h.n + 1) i.1 i.1])⟩)) (fun i => t.parts.length - i.1) ⟨0, Nat.zero_le _⟩ ?_ ?_
      · refine weak_objs [h.n, h.n + 1, h.n + 2] (by simp -dsimp only [go_sem]) (by simp -dsimp only [go_sem]) (by simp -dsimp only [go_sem, hl]) ?_ ?_ ?_
        · intro x h1 h2; simp -dsimp only [go_sem, h1]
        · intro x h1 h2; have h1 : x < h.n + 3 := h1; simp at h2 ⊢; omega
        · simp -dsimp only [go_sem, hl]
      · rintro ⟨i, hi'⟩
        have hlen : ((t.parts.take i).map (put σ)).length = i := by simp; omega
        have hpl := parts_le t
        by_cases hlt : i < t.parts.length
        · obtain ⟨p, hp⟩ : ∃ p, t.parts[i]? = some p := ⟨_, List.getElem?_eq_getElem hlt⟩
          obtain ⟨hp1, hp2⟩ := part_le t hp
          have h1 : i + 1 ≤ 9223372036854775807 := by omega
          have h2 : (i + 1) * 32 ≤ 140737488355328 := by omega
          have h3 : ((t.parts.take (i + 1)).map (put σ)) = (t.parts.take i).map (put σ) ++ [put σ p] := by rw [List.take_add_one, hp]; simp
          simp -dsimp only [go_sem, hlt, hp, h1, hl, ho]
          refine call_pure (ih p _ (by simp -dsimp only [go_sem, hl]) (by simp -dsimp only [go_sem, hl, ho]) hs (part_wf hw hp) (by omega)) ?_
          simp -dsimp only [go_sem, hlt, hp, h1, h2, hl, hlen]
          refine ⟨out_prS (by kernel_rfl), ?_⟩
          refine round_to ⟨i + 1, hlt⟩ (by simp; omega) ?_
          refine weak_objs [h.n, h.n + 1, h.n + 2] (by simp -dsimp only [go_sem]) (by simp -dsimp only [go_sem]) (by simp -dsimp only [go_sem, hl]) ?_ ?_ ?_
          · intro x h1 h2; simp -dsimp only [go_sem, h1]
          · intro x h1 h2; have h1 : x < h.n + 3 := h1; simp at h2 ⊢; omega
          · simp -dsimp only [go_sem, hl, h3]
        · have hil : i = t.parts.length := by omega
          simp -dsimp only [go_sem, hlt, hl, hlen]
          refine fin_pure (by simp -dsimp only [go_sem]) ?_
          rw [hcells]
          subst hil
          rw [List.take_length]
          simp -dsimp only [go_sem, hl, List.length_map]
  cases hno : σ t.head with
  | none =>
    cases hv : isV t.head with
    | false => exact tail _ rfl hno (.inl (vix_no hv (Ty.wf_head hw)))
    | true =>
      obtain ⟨j, h1, h2, h3⟩ := vix_var hv
      exact tail _ rfl hno (.inr ⟨j, h1, h2, h3⟩)
  | some u =>
    obtain ⟨hv0, hu1, hu2⟩ := hs _ _ hno
    have hv : isV t.head = true := hv0.resolve_right (by have := Ty.wf_head hw; omega)
    obtain ⟨j, hj, hjx, hjv⟩ := vix_var hv
    have hi := s_l2Index t.head
    rw [hjx] at hi
    have e1 : (mcells σ)[j * 2]? = some (.v (.int .u8 u.head.toNat)) := by rw [mcells_head σ hjv, hno]; exact Ty.cells_0
    have e2 : ((mcells σ).drop (j * 2)).take 2 = u.cells := by rw [mcells_at σ hjv, hno]; rfl
    have e3 : ¬ ((u.head.toNat : Nat) : Int) = 0 := Ty.head_ne0 hu1
    have e4 : j * 2 + 2 ≤ 24 := by omega
    have hj12 : j < 12 := by omega
    rw [put_someV hv hw hno]
    refine good [] [] Tryz.func268 rfl rfl Tryz.ntmps268 (by kernel_rfl) mixed (by kernel_rfl) ?_
    simp -dsimp only [go_sem]
    refine call_pure (hi _) ?_
    simp -dsimp only [go_sem, hl, ho, e1, e2, e3, e4, hj12, mcells_len]
    exact fin_pure (by simp -dsimp only [go_sem]) (by simp -dsimp only [go_sem, u.cells_ref])
theorem s_l2PutV : ∀ {l : Nat} {σ : Sub} (t : Ty) (h : AH), l < h.n → h.o l = .cells (mcells σ) → σ.Ok2 60 → t.wf → t.text.length ≤ 1000000 →
    Good Tryz.prog 268 [.ptr l 0, .agg t.cells] h [] (.agg (put σ t).cells) h := by
  have : ∀ n, PutOk n := by
    intro n
    induction n with
    | zero => intro l σ t h _ _ _ _ hl; have := t.text_pos; omega
    | succ n ih => exact s_l2Put_step ih
  intro l σ
  exact this 1000000
theorem s_l2Put {l : Nat} {σ : Sub} (t : Ty) (h : AH) (hl : l < h.n) (ho : h.o l = .cells (mcells σ)) (hs : σ.Ok 60) (hw : t.wf) (ht : t.text.length ≤ 1000000) :
    Good Tryz.prog 268 [.ptr l 0, .agg t.cells] h [] (.agg (put σ t).cells) h := s_l2PutV t h hl ho hs.ok2 hw ht
end Go.Proofs.YtnocdggngfiebaaGreatDoor

namespace Go.Isea
open Go
def node0 (o : Option Ty) : AV := (nodeOf o).getD 0 .junk
def node1 (o : Option Ty) : AV := (nodeOf o).getD 1 .junk
theorem node_two (o : Option Ty) : nodeOf o = [node0 o, node1 o] := by
  cases o with
  | none => rfl
  | some t => simp [node0, node1, nodeOf, t.cells_eq]
theorem mcells_paste (σ : Sub) {k : Nat} {c : UInt8} (hk : vars12[k]? = some c) (t : Ty) : paste (mcells σ) (k * 2) t.cells = mcells (σ.set c t) := by
  have hkl : k < 12 := (List.getElem?_eq_some_iff.1 hk).1
  have ht : t.cells = [node0 (some t), node1 (some t)] := node_two (some t)
  rw [ht]
  have : k = 0 ∨ k = 1 ∨ k = 2 ∨ k = 3 ∨ k = 4 ∨ k = 5 ∨ k = 6 ∨ k = 7 ∨ k = 8 ∨ k = 9 ∨ k = 10 ∨ k = 11 := by omega
  rcases this with rfl | rfl | rfl | rfl | rfl | rfl | rfl | rfl | rfl | rfl | rfl | rfl <;>
    (simp [vars12] at hk; subst hk; simp [mcells, vars12, node_two, paste, Sub.set])
@[go_sem] theorem fzL_pu {h : AH} {m : Nat} {cs : List AV} (hp : PuL cs) : FzL h m cs cs = True := by
  have := Fz.of_lo (h := h) (m := m) (x := .agg cs) (.agg fun x hx => hp m x hx)
  cases this with
  | agg hl hc => simp [FzL]; exact fun i x y h1 h2 => hc i x y h1 h2
@[go_sem] theorem puL_mcells {σ : Sub} : PuL (mcells σ) = True := by
  simp only [PuL, mcells, List.mem_flatMap, eq_iff_iff, iff_true]
  rintro n x ⟨c, _, hx⟩
  cases hc : σ c with
  | none =>
    rw [hc] at hx
    simp only [nodeOf, zNode, List.mem_cons, List.not_mem_nil, or_false] at hx
    rcases hx with rfl | rfl <;> exact .v _
  | some t => rw [hc] at hx; exact t.cells_pu n x hx
/-- part by part -/
def matchL : Sub → List Ty → List Ty → Sub × Bool
  | σ, [], _ => (σ, true)
  | σ, p :: ps, q :: qs => if (matchR σ p q).2 = true then matchL (matchR σ p q).1 ps qs else ((matchR σ p q).1, false)
  | σ, _ :: _, [] => (σ, false)
theorem matchR_L {σ : Sub} {a b : Ty} (ha : a.wf) (hb : b.wf) (hv : isV a.head = false) (he : a.head = b.head) : matchR σ a b = matchL σ a.parts b.parts ∧ a.parts.length = b.parts.length := by
  cases a with
  | leaf c =>
    simp only [Ty.head] at hv he
    have hb' := Ty.same_leaf ha hb he.symm
    subst hb'
    simp [matchR, hv, matchL, Ty.parts, Ty.head]
  | un c t =>
    simp only [Ty.head] at hv he
    obtain ⟨u, hb'⟩ := Ty.same_un ha.1 hb he.symm
    subst hb'
    simp only [matchR, if_true, Ty.parts, matchL, List.length_cons, List.length_nil, and_true]
    split
    · rename_i h; rw [← h]
    · rename_i h; simp only [Bool.not_eq_true] at h; rw [← h]
  | bin c t t2 =>
    simp only [Ty.head] at hv he
    obtain ⟨u, u2, hb'⟩ := Ty.same_bin ha.1 hb he.symm
    subst hb'
    simp only [matchR, if_true, Ty.parts, matchL, List.length_cons, List.length_nil, and_true]
    split
    · split
      · rename_i h; rw [← h]
      · rename_i h; simp only [Bool.not_eq_true] at h; rw [← h]
    · rfl
theorem text_dec {t u : Ty} (ht : t.wf) (hu : u.wf) : decide (t.text = u.text) = decide (t = u) := by
  by_cases h : t = u
  · simp [h]
  · have : ¬ t.text = u.text := fun e => h (text_inj ht hu e)
    simp [h, this]
end Go.Isea
namespace Go.Proofs.YtnocdggngfiebaaGreatDoor
open Go Go.Isea
set_option maxRecDepth 100000
def MatchOk (n : Nat) : Prop := ∀ {l : Nat} {σ : Sub} (a b : Ty) (h : AH), l < h.n → h.o l = .cells (mcells σ) → σ.Ok 60 → a.wf → b.wf → a.text.length ≤ n → b.text.length ≤ 60 →
    Good Tryz.prog 288 [.ptr l 0, .agg a.cells, .agg b.cells] h [l] (.v (.bool (matchR σ a b).2)) (h.set l (.cells (mcells (matchR σ a b).1)))
theorem s_l2Match_step {n : Nat} (ih : MatchOk n) : MatchOk (n + 1) := by
  intro l σ a b h hl ho hs ha hb han hbn
  have hi := s_l2Index a.head
  cases hv : isV a.head with
  | true =>
    obtain ⟨j, hj, hjx, hjv⟩ := vix_var hv
    rw [hjx] at hi
    have hj12 : j < 12 := by omega
    have e4 : j * 2 + 2 ≤ 24 := by omega
    have haL := isV_leaf ha hv
    cases hc : σ a.head with
    | none =>
      have e1 : (mcells σ)[j * 2]? = some (.v (.int .u8 0)) := by rw [mcells_head σ hjv, hc]; rfl
      have e5 : matchR σ a b = (σ.set a.head b, true) := (congrArg (fun x => matchR σ x b) haL).trans (by simp only [matchR, hv, hc, if_true])
      rw [e5]
      refine good [] [(6, OT.o 0 (OT.o 1 (OT.o 2 (OT.o 3 (OT.o 4 (OT.o 6 (OT.o 5 (OT.o 7 (OT.o 8 (OT.o 9 OT.e))))))))))] Tryz.func288 rfl rfl Tryz.ntmps288 (by kernel_rfl) mixed (by kernel_rfl) ?_
      simp -dsimp only [go_sem]
      refine call_pure (hi _) ?_
      simp -dsimp only [go_sem, hl, ho, e1, e4, hj12, mcells_len]
      refine fin_one (by simp -dsimp only [go_sem]) (by simp -dsimp only [go_sem]) ?_
      simp -dsimp only [go_sem, hl, mcells_paste σ hjv b]
    | some u =>
      obtain ⟨_, hu1, hu2⟩ := hs _ _ hc
      have e1 : (mcells σ)[j * 2]? = some (.v (.int .u8 u.head.toNat)) := by rw [mcells_head σ hjv, hc]; exact Ty.cells_0
      have e2 : ((mcells σ).drop (j * 2)).take 2 = u.cells := by rw [mcells_at σ hjv, hc]; rfl
      have e3 : ¬ ((u.head.toNat : Nat) : Int) = 0 := Ty.head_ne0 hu1
      have e5 : matchR σ a b = (σ, decide (u = b)) := (congrArg (fun x => matchR σ x b) haL).trans (by simp only [matchR, hv, hc, if_true])
      rw [e5]
      refine good [] [(6, OT.o 0 (OT.o 1 (OT.o 2 (OT.o 3 (OT.o 4 (OT.o 6 (OT.o 5 (OT.o 7 (OT.o 8 (OT.o 9 OT.e))))))))))] Tryz.func288 rfl rfl Tryz.ntmps288 (by kernel_rfl) mixed (by kernel_rfl) ?_
      simp -dsimp only [go_sem]
      refine call_pure (hi _) ?_
      simp -dsimp only [go_sem, hl, ho, e1, e2, e3, e4, hj12, mcells_len]
      refine call_pure (s_l1Text u _ (by omega)) ?_
      simp -dsimp only [go_sem]
      refine call_pure (s_l1Text b _ (by omega)) ?_
      simp -dsimp only [go_sem]
      rw [text_dec hu1 hb]
      exact fin_one (by simp -dsimp only [go_sem]) (by simp -dsimp only [go_sem]) (by simp -dsimp only [go_sem, ho])
  | false =>
    have hix := vix_no hv (Ty.wf_head ha)
    rw [hix] at hi
    refine good [] [(6, OT.o 0 (OT.o 1 (OT.o 2 (OT.o 3 (OT.o 4 (OT.o 6 (OT.o 5 (OT.o 7 (OT.o 8 (OT.o 9 OT.e))))))))))] Tryz.func288 rfl rfl Tryz.ntmps288 (by kernel_rfl) mixed (by kernel_rfl) ?_
    simp -dsimp only [go_sem]
    refine call_pure (hi _) ?_
    by_cases hab : a.head = b.head
    · simp -dsimp only [go_sem, hl, ho, hab]
      obtain ⟨hR, hlen⟩ := matchR_L (σ := σ) ha hb hv hab
      rw [hR]
      refine loop_ruleH [0, 3, 0, 36] (fun (z : {z : Nat × Sub // z.1 ≤ a.parts.length ∧ z.2.Ok 60 ∧ matchL z.2 (a.parts.drop z.1) (b.parts.drop z.1) = matchL σ a.parts b.parts}) H => ([(43, .v (.int .i64 (z.1.1 : Nat)))], ⟨H.n, upd H.o l (.cells (mcells z.1.2))⟩)) (fun z => a.parts.length - z.1.1) ⟨(0, σ), Nat.zero_le _, hs, rfl⟩ ?_ ?_
      · refine weak_objs [l] (by simp -dsimp only [go_sem]) (by simp -dsimp only [go_sem]) (by simp -dsimp only [go_sem, hl]) ?_ ?_ ?_
        · intro x h1 h2; simp at h2; simp -dsimp only [go_sem, h1, h2]
        · intro x h1 h2; have h1 : x < h.n := h1; simp at h2 ⊢; omega
        · simp -dsimp only [go_sem, hl, ho]
      · rintro ⟨⟨i, τ⟩, hi', ht, hm⟩
        simp only at hi' ht hm
        have hpl := parts_le a
        by_cases hlt : i < a.parts.length
        · obtain ⟨p, hp⟩ : ∃ p, a.parts[i]? = some p := ⟨_, List.getElem?_eq_getElem hlt⟩
          obtain ⟨q, hq⟩ : ∃ q, b.parts[i]? = some q := ⟨_, List.getElem?_eq_getElem (by omega)⟩
          have hd1 : a.parts.drop i = p :: a.parts.drop (i + 1) := by
            obtain ⟨h1, h2⟩ := List.getElem?_eq_some_iff.1 hp
            rw [List.drop_eq_getElem_cons h1, h2]
          have hd2 : b.parts.drop i = q :: b.parts.drop (i + 1) := by
            obtain ⟨h1, h2⟩ := List.getElem?_eq_some_iff.1 hq
            rw [List.drop_eq_getElem_cons h1, h2]
          obtain ⟨hp1, hp2⟩ := part_le a hp
          obtain ⟨hq1, hq2⟩ := part_le b hq
          have h1 : i + 1 ≤ 9223372036854775807 := by omega
          rw [hd1, hd2, matchL] at hm
          simp -dsimp only [go_sem, hlt, hp, hq, hl]
          refine call_one (ih (σ := τ) p q _ (by simp -dsimp only [go_sem, hl]) (by simp -dsimp only [go_sem, hl]) ht (part_wf ha hp) (part_wf hb hq) (by omega) (by omega)) (by simp -dsimp only [go_sem]) (by simp -dsimp only [go_sem]) ?_
          have hok := matchR_ok p q τ ht (part_wf hb hq) (by omega)
          generalize matchR τ p q = x at *
          obtain ⟨ρ, y⟩ := x
          cases y with
          | true =>
            simp only [if_true] at hm
            simp -dsimp only [go_sem, hlt, hp, hq, hl, h1]
            refine round_to ⟨(i + 1, ρ), hlt, hok, hm⟩ (by simp; omega) ?_
            refine weak_objs [l] (by simp -dsimp only [go_sem]) (by simp -dsimp only [go_sem]) (by simp -dsimp only [go_sem, hl]) ?_ ?_ ?_
            · intro x h1 h2; simp at h2; simp -dsimp only [go_sem, h1, h2]
            · intro x h1 h2; have h1 : x < h.n := h1; simp at h2 ⊢; omega
            · simp -dsimp only [go_sem, hl]
          | false =>
            simp only [Bool.false_eq_true, if_false] at hm
            simp -dsimp only [go_sem, hlt, hp, hq, hl, h1]
            rw [← hm]
            exact fin_one (by simp -dsimp only [go_sem]) (by simp -dsimp only [go_sem]) (by simp -dsimp only [go_sem, hl])
        · have hil : i = a.parts.length := by omega
          rw [List.drop_of_length_le (by omega)] at hm
          simp only [matchL] at hm
          simp -dsimp only [go_sem, hlt, hl]
          rw [← hm]
          exact fin_one (by simp -dsimp only [go_sem]) (by simp -dsimp only [go_sem]) (by simp -dsimp only [go_sem, hl])
    · have e5 : matchR σ a b = (σ, false) := by
        cases a with
        | leaf c =>
          have hab' : ¬ b.head = c := fun e => hab e.symm
          simp only [Ty.head] at hv; simp only [matchR, hv, Bool.false_eq_true, if_false]; simp [hab']
        | un c t => cases b <;> simp only [matchR] <;> simp only [Ty.head] at hab <;> simp [hab]
        | bin c t t2 => cases b <;> simp only [matchR] <;> simp only [Ty.head] at hab <;> simp [hab]
      rw [e5]
      simp -dsimp only [go_sem, hl, ho, hab]
      exact fin_one (by simp -dsimp only [go_sem]) (by simp -dsimp only [go_sem]) (by simp -dsimp only [go_sem, ho])
theorem s_l2Match {l : Nat} {σ : Sub} (a b : Ty) (h : AH) : l < h.n → h.o l = .cells (mcells σ) → σ.Ok 60 → a.wf → b.wf → a.text.length ≤ 1000000 → b.text.length ≤ 60 →
    Good Tryz.prog 288 [.ptr l 0, .agg a.cells, .agg b.cells] h [l] (.v (.bool (matchR σ a b).2)) (h.set l (.cells (mcells (matchR σ a b).1))) := by
  have : ∀ n, MatchOk n := by
    intro n
    induction n with
    | zero => intro l σ a b h _ _ _ _ _ hl; have := a.text_pos; omega
    | succ n ih => exact s_l2Match_step ih
  exact this 1000000 a b h
end Go.Proofs.YtnocdggngfiebaaGreatDoor

namespace Go.Isea
open Go
def Bnd.row (b : Bnd) : List AV := [str b.v, str b.t]
theorem Bnd.pu (n : Bnd) : PuL n.row := by simp -dsimp only [Bnd.row, go_sem]
@[go_sem] theorem puR_bnds {l : List Bnd} : PuR (l.map Bnd.row) = True := puR_map Bnd.pu
end Go.Isea
namespace Go.Proofs.YtnocdggngfiebaaGreatDoor
open Go Go.Isea
set_option maxRecDepth 100000
theorem s_l2Told {l : Nat} {σ : Sub} (h : AH) (hl : l < h.n) (ho : h.o l = .cells (mcells σ)) (hs : σ.Ok 60) : Good Tryz.prog 289 [.ptr l 0] h [] (.tup [.sl ((bnds σ).map Bnd.row), .v (.bool true)]) h := by
  refine good [] [] Tryz.func289 rfl rfl Tryz.ntmps289 (by kernel_rfl) mixed (by kernel_rfl) ?_
  simp -dsimp only [go_sem, hl, ho]
  refine loop_ruleH [8] (fun (k : {k : Nat // k ≤ 12}) H => ([(4, .so h.n (bndsTake σ k.1).length (bndsTake σ k.1).length), (10, .v (.int .i64 (k.1 : Nat)))], ⟨H.n, upd H.o h.n (.rows 297 2 ((bndsTake σ k.1).map Bnd.row))⟩)) (fun k => 12 - k.1) ⟨0, Nat.zero_le _⟩ ?_ ?_
  · refine weak_objs [h.n] (by simp -dsimp only [go_sem]) (by simp -dsimp only [go_sem]) ?_ ?_ ?_ ?_
    · have : (bndsTake σ 0) = [] := rfl
      simp -dsimp only [go_sem, hl, this]
    · intro x h1 h2; simp -dsimp only [go_sem, h1]
    · intro x h1 h2; have h1 : x < h.n + 1 := h1; simp at h2 ⊢; omega
    · have : (bndsTake σ 0) = [] := rfl
      simp -dsimp only [go_sem, hl, this]
  · rintro ⟨k, hk⟩
    have hbl := bndsTake_len σ k
    by_cases hlt : k < 12
    · obtain ⟨c, hc⟩ : ∃ c, vars12[k]? = some c := ⟨_, List.getElem?_eq_getElem (by simpa [vars12] using hlt)⟩
      have h1 : k + 1 ≤ 9223372036854775807 := by omega
      have h12 : k + 1 ≤ 12 := by omega
      have hlt' : ((k : Nat) : Int) < 12 := by omega
      have e2 : ((mcells σ).drop (k * 2)).take 2 = nodeOf (σ c) := mcells_at σ hc
      have e4 : k * 2 + 2 ≤ 24 := by omega
      cases hs' : σ c with
      | none =>
        rw [hs'] at e2
        have h3 := bndsTake_none σ hc hs'
        simp -dsimp only [go_sem, hl, ho, hlt, hlt', e2, e4, mcells_len, nodeOf, zNode, h1]
        refine round_to ⟨k + 1, hlt⟩ (by simp; omega) ?_
        refine weak_objs [h.n] (by simp -dsimp only [go_sem]) (by simp -dsimp only [go_sem]) (by simp -dsimp only [go_sem, hl, h3]) ?_ ?_ ?_
        · intro x h1 h2; simp -dsimp only [go_sem, h1]
        · intro x h1 h2; have h1 : x < h.n + 1 := h1; simp at h2 ⊢; omega
        · simp -dsimp only [go_sem, hl, h3, Bnd.row]
      | some t =>
        rw [hs'] at e2
        obtain ⟨hv, ht1, ht2⟩ := hs _ _ hs'
        have h6 := vars12_six hc hv
        have h3 := bndsTake_some σ hc h6 hs'
        have h60 : ¬ (60 : Int) < (t.text.length : Nat) := by omega
        have h6' : ¬ (6 : Int) ≤ (k : Nat) := by omega
        have e3 : ¬ ((t.head.toNat : Nat) : Int) = 0 := Ty.head_ne0 ht1
        have e5 : (([88, 89, 90, 120, 121, 122, 49, 50, 51, 52, 53, 54] : L8).drop k).take (k + 1 - k) = [c] := by
          have := vars12_slice hc
          have h7 : k = 0 ∨ k = 1 ∨ k = 2 ∨ k = 3 ∨ k = 4 ∨ k = 5 := by omega
          rcases h7 with rfl | rfl | rfl | rfl | rfl | rfl <;> (simp [vars12] at hc; subst hc; rfl)
        have e6 : ((bndsTake σ k).length + 1) * 32 ≤ 140737488355328 := by omega
        simp -dsimp only [go_sem, hl, ho, hlt, hlt', e2, e3, e4, e5, h6', h12, mcells_len, nodeOf, h1]
        refine call_pure (s_l2Length t _ (by omega)) ?_
        simp -dsimp only [go_sem, hl, h60, e5, h12, h1]
        refine call_pure (s_l1Text t _ (by omega)) ?_
        simp -dsimp only [go_sem, hl, e6, h1, List.length_map]
        refine round_to ⟨k + 1, hlt⟩ (by simp; omega) ?_
        refine weak_objs [h.n] (by simp -dsimp only [go_sem]) (by simp -dsimp only [go_sem]) (by simp -dsimp only [go_sem, hl, h3]) ?_ ?_ ?_
        · intro x h1 h2; simp -dsimp only [go_sem, h1]
        · intro x h1 h2; have h1 : x < h.n + 1 := h1; simp at h2 ⊢; omega
        · simp -dsimp only [go_sem, hl, h3, Bnd.row]
    · have hlt' : ¬ ((k : Nat) : Int) < 12 := by omega
      simp -dsimp only [go_sem, hl, hlt, hlt']
      refine fin_pure (by simp -dsimp only [go_sem]) ?_
      rw [bndsTake_all σ (by omega)]
      simp -dsimp only [go_sem, List.length_map]
end Go.Proofs.YtnocdggngfiebaaGreatDoor
namespace Go.Isea
open Go
def matchV (p t : L8) : AV := match matchType p t with
  | some l => .tup [.sl (l.map Bnd.row), .v (.bool true)]
  | none => .tup [.sl [], .v (.bool false)]
end Go.Isea
namespace Go.Proofs.YtnocdggngfiebaaGreatDoor
open Go Go.Isea
set_option maxRecDepth 100000
theorem s_MatchType (p t : L8) (h : AH) (hp : p.length ≤ 4611686018427387904) (ht : t.length ≤ 4611686018427387904) : Good Tryz.prog 245 [str p, str t] h [] (matchV p t) h := by
  refine good [22] [] Tryz.func245 rfl rfl Tryz.ntmps245 (by kernel_rfl) mixed (by kernel_rfl) ?_
  simp -dsimp only [go_sem]
  refine call_pure (s_l1Read p hp _) ?_
  have fin0 : matchType p t = none → ∀ H : AH, h.n + 2 < H.n → H.o (h.n + 3) = .rows 297 2 [] → FinS [] h H (.tup [.so (h.n + 3) 0 0, .v (.bool false)]) h (matchV p t) := fun e H hH ho => by
    unfold matchV; rw [e]
    refine fin_pure (by omega) ?_
    simp -dsimp only [go_sem, ho]
  cases ha : typeOf p with
  | none =>
    have e0 : matchType p t = none := by simp [matchType, ha]
    simp -dsimp only [go_sem, readV, ha, zNode]
    refine call_pure (s_l1Read t ht _) ?_
    cases hb : typeOf t <;> simp -dsimp only [go_sem, readV, hb, zNode] <;> exact fin0 e0 _ (by simp) (by simp [upd])
  | some a =>
    obtain ⟨ea, hwa, hla⟩ := typeOf_some ha
    simp -dsimp only [go_sem, readV, ha, zNode]
    refine call_pure (s_l1Read t ht _) ?_
    cases hb : typeOf t with
    | none =>
      have e0 : matchType p t = none := by simp [matchType, ha, hb]
      simp -dsimp only [go_sem, readV, hb, zNode]
      exact fin0 e0 _ (by simp) (by simp [upd])
    | some b =>
      obtain ⟨eb, hwb, hlb⟩ := typeOf_some hb
      rw [ea] at hla
      rw [eb] at hlb
      have hok := matchR_ok a b Sub.none' (Sub.none_ok 60) hwb hlb
      simp -dsimp only [go_sem, readV, hb, zNode]
      refine call_one (s_l2Match (σ := Sub.none') a b _ (by simp -dsimp only [go_sem]) (by simp -dsimp only [go_sem]; rfl) (Sub.none_ok 60) hwa hwb (by omega) hlb) (by simp -dsimp only [go_sem]) (by simp -dsimp only [go_sem]) ?_
      have hm := matchT_R a b Sub.none'
      cases hr : (matchR Sub.none' a b).2 with
      | false =>
        have e0 : matchType p t = none := by simp [matchType, ha, hb, hm, hr]
        simp -dsimp only [go_sem, hr]
        exact fin0 e0 _ (by simp) (by simp [upd])
      | true =>
        have e1 : matchType p t = some (bnds (matchR Sub.none' a b).1) := by simp [matchType, ha, hb, hm, hr]
        simp -dsimp only [go_sem, hr]
        refine call_pure (s_l2Told (σ := (matchR Sub.none' a b).1) _ (by simp -dsimp only [go_sem]) (by simp -dsimp only [go_sem]) hok) ?_
        simp -dsimp only [go_sem]
        unfold matchV
        rw [e1]
        exact fin_pure (by simp -dsimp only [go_sem]) (by simp -dsimp only [go_sem])
end Go.Proofs.YtnocdggngfiebaaGreatDoor

namespace Go.Isea
open Go
structure BsOk (l : List Bnd) : Prop where
  one : ∀ (k : Nat) (b : Bnd), l[k]? = some b → ∃ (c : UInt8) (t : Ty), b = ⟨[c], t.text⟩ ∧ isV c = true ∧ t.wf ∧ t.text.length ≤ 60
  lt : ∀ (k : Nat) (a b : Bnd), l[k]? = some a → l[k + 1]? = some b → Op.bytesLess a.v b.v = true
  len : l.length ≤ 6
theorem pair_next {α : Type} {R : α → α → Prop} : ∀ {l : List α}, l.Pairwise R → ∀ (k : Nat) (a b : α), l[k]? = some a → l[k + 1]? = some b → R a b
  | [], _, k, a, b, h, _ => by simp at h
  | x :: l, hp, 0, a, b, h, g => by
    simp at h g; subst h
    rw [List.pairwise_cons] at hp
    exact hp.1 _ (List.mem_of_getElem? g)
  | x :: l, hp, k + 1, a, b, h, g => by
    rw [List.pairwise_cons] at hp
    exact pair_next hp.2 k a b (by simpa using h) (by simpa using g)
theorem bnds_ok {σ : Sub} (hs : σ.Ok 60) : BsOk (bnds σ) where
  one k b hb := by
    have := List.mem_of_getElem? hb
    unfold bnds at this
    rw [List.mem_filterMap] at this
    obtain ⟨c, hc, e⟩ := this
    cases ht : σ c with
    | none => rw [ht] at e; cases e
    | some t =>
      rw [ht] at e
      obtain ⟨h1, h2, h3⟩ := hs c t ht
      exact ⟨c, t, (Option.some.inj e).symm, h1, h2, h3⟩
  lt := by
    have hp : (bnds σ).Pairwise fun a b => Op.bytesLess a.v b.v = true := by
      unfold bnds
      rw [List.pairwise_filterMap]
      have hv : vars6.Pairwise fun c d => Op.bytesLess [c] [d] = true := by decide
      refine hv.imp fun {c d} hcd b hb b' hb' => ?_
      cases h1 : σ c with
      | none => rw [h1] at hb; cases hb
      | some t =>
        cases h2 : σ d with
        | none => rw [h2] at hb'; cases hb'
        | some u =>
          rw [h1] at hb; rw [h2] at hb'
          rw [← Option.some.inj hb, ← Option.some.inj hb']
          exact hcd
    exact pair_next hp
  len := by rw [← bndsTake_all σ (Nat.le_refl 6)]; exact bndsTake_len σ 6
end Go.Isea
namespace Go.Proofs.YtnocdggngfiebaaGreatDoor
open Go Go.Isea
set_option maxRecDepth 100000
theorem s_BindingsValid {l : List Bnd} (hl : BsOk l) (h : AH) : Good Tryz.prog 290 [.sl (l.map Bnd.row)] h [] (.v (.bool true)) h := by
  have hlen := hl.len
  refine good [] [] Tryz.func290 rfl rfl Tryz.ntmps290 (by kernel_rfl) mixed (by kernel_rfl) ?_
  simp -dsimp only [go_sem]
  refine loop_ruleH [0, 4, 0] (fun (k : {k : Nat // k ≤ l.length}) H => ([(7, .v (.int .i64 (k.1 : Nat)))], H)) (fun k => l.length - k.1) ⟨0, Nat.zero_le _⟩ ?_ ?_
  · exact weak_at rfl (Nat.le_refl _) (fun _ _ => rfl) (by simp -dsimp only [go_sem])
  · rintro ⟨k, hk⟩
    have h1 : k + 1 ≤ 9223372036854775807 := by omega
    by_cases hlt : k < l.length
    · obtain ⟨b, hb⟩ : ∃ b, l[k]? = some b := ⟨_, List.getElem?_eq_getElem hlt⟩
      obtain ⟨c, t, rfl, hv, hw, ht⟩ := hl.one k b hb
      have htv : tv t.text = true := by simp [tv, typeOf_text hw ht]
      simp -dsimp only [go_sem, hlt, hb, Bnd.row]
      refine call_pure (s_l1Variable c _) ?_
      simp -dsimp only [go_sem, hv]
      refine call_pure (s_TypeValid t.text (by omega) _) ?_
      cases k with
      | zero =>
        simp -dsimp only [go_sem, htv, h1]
        exact round_to ⟨0 + 1, hlt⟩ (by simp; omega) (weak_at rfl (by simp -dsimp only [go_sem]) (fun x hx => by simp -dsimp only [go_sem, hx]) (by simp -dsimp only [go_sem]))
      | succ j =>
        obtain ⟨a, ha⟩ : ∃ a, l[j]? = some a := ⟨_, List.getElem?_eq_getElem (by omega)⟩
        have hlt2 := hl.lt j a _ ha hb
        obtain ⟨c', t', rfl, _, _, _⟩ := hl.one j a ha
        simp -dsimp only at hlt2
        have h0 : (0 : Int) < ((j + 1 : Nat) : Int) := by omega
        have h2 : j ≤ 9223372036854775807 := by omega
        simp -dsimp only [go_sem, htv, h1, ha, Bnd.row, h0, h2, hlt2]
        exact round_to ⟨j + 1 + 1, hlt⟩ (by simp; omega) (weak_at rfl (by simp -dsimp only [go_sem]) (fun x hx => by simp -dsimp only [go_sem, hx]) (by simp -dsimp only [go_sem]))
    · simp -dsimp only [go_sem, hlt]
      exact fin_bool (Nat.le_refl _) rfl
end Go.Proofs.YtnocdggngfiebaaGreatDoor

namespace Go.Isea
open Go
def applyB (σ : Sub) (t : L8) : Option L8 := match typeOf t with
  | some n => if (put σ n).text.length ≤ 60 then some (put σ n).text else none
  | none => none
def textV : Option L8 → AV
  | some s => .tup [str s, .v (.bool true)]
  | none => .tup [str [], .v (.bool false)]
theorem subOf_take {l : List Bnd} {k : Nat} {c : UInt8} {t : Ty} (hb : l[k]? = some ⟨[c], t.text⟩) (hw : t.wf) (ht : t.text.length ≤ 60) : subOf (l.take (k + 1)) = (subOf (l.take k)).set c t := by
  obtain ⟨hl, e⟩ := List.getElem?_eq_some_iff.1 hb
  rw [List.take_succ_eq_append_getElem hl, e]
  unfold subOf
  rw [List.foldl_append]
  exact stepB_of _ (typeOf_text hw ht)
end Go.Isea
namespace Go.Proofs.YtnocdggngfiebaaGreatDoor
open Go Go.Isea
set_option maxRecDepth 100000
theorem s_ApplyBindings {σ : Sub} (hs : σ.Ok 60) (t : L8) (h : AH) (ht : t.length ≤ 4611686018427387904) : Good Tryz.prog 246 [.sl ((bnds σ).map Bnd.row), str t] h [] (textV (applyB σ t)) h := by
  have hbs := bnds_ok hs
  have hlen := hbs.len
  have hsub := subOf_bnds hs
  generalize bnds σ = l at hbs hlen hsub
  refine good [25] [(8, OT.o 0 (OT.o 1 (OT.o 2 (OT.o 3 (OT.o 5 (OT.o 6 (OT.o 11 (OT.o 4 (OT.o 7 (OT.o 8 (OT.o 9 (OT.o 10 (OT.o 12 (OT.o 13 OT.e))))))))))))))] Tryz.func246 rfl rfl Tryz.ntmps246 (by kernel_rfl) mixed (by kernel_rfl) ?_
  simp -dsimp only [go_sem]
  refine call_pure (s_l1Read t ht _) ?_
  cases ha : typeOf t with
  | none =>
    have e0 : applyB σ t = none := by simp [applyB, ha]
    simp -dsimp only [go_sem, readV, ha, zNode]
    rw [e0]
    exact fin_pure (by simp -dsimp only [go_sem]) (by simp -dsimp only [go_sem, textV])
  | some n =>
    obtain ⟨ea, hwa, hla⟩ := typeOf_some ha
    rw [ea] at hla
    simp -dsimp only [go_sem, readV, ha]
    refine call_pure (s_BindingsValid hbs _) ?_
    simp -dsimp only [go_sem]
    refine loop_ruleH [6, 1, 17, 0] (fun (k : {k : Nat // k ≤ l.length}) H => ([(28, .v (.int .i64 (k.1 : Nat)))], ⟨H.n, upd H.o (h.n + 1) (.cells (mcells (subOf (l.take k.1))))⟩)) (fun k => l.length - k.1) ⟨0, Nat.zero_le _⟩ ?_ ?_
    · refine weak_objs [h.n, h.n + 1] (by simp -dsimp only [go_sem]) (by simp -dsimp only [go_sem]) (by simp -dsimp only [go_sem]) ?_ ?_ ?_
      · intro x h1 h2; simp -dsimp only [go_sem, h1]
      · intro x h1 h2; have h1 : x < h.n + 2 := h1; simp at h2 ⊢; omega
      · have : mcells (subOf ([] : List Bnd)) = [.v (.int .u8 0), .v (.slice none 0 0), .v (.int .u8 0), .v (.slice none 0 0), .v (.int .u8 0), .v (.slice none 0 0), .v (.int .u8 0), .v (.slice none 0 0), .v (.int .u8 0), .v (.slice none 0 0), .v (.int .u8 0), .v (.slice none 0 0), .v (.int .u8 0), .v (.slice none 0 0), .v (.int .u8 0), .v (.slice none 0 0), .v (.int .u8 0), .v (.slice none 0 0), .v (.int .u8 0), .v (.slice none 0 0), .v (.int .u8 0), .v (.slice none 0 0), .v (.int .u8 0), .v (.slice none 0 0)] := rfl
        simp -dsimp only [go_sem, this]
    · rintro ⟨k, hk⟩
      have h1 : k + 1 ≤ 9223372036854775807 := by omega
      by_cases hlt : k < l.length
      · obtain ⟨b, hb⟩ : ∃ b, l[k]? = some b := ⟨_, List.getElem?_eq_getElem hlt⟩
        obtain ⟨c, u, rfl, hv, hw, hu⟩ := hbs.one k b hb
        have hr : readV u.text = .tup [.agg u.cells, .v (.bool true)] := by simp [readV, typeOf_text hw hu]
        obtain ⟨j, hj, hvj, hjv⟩ := vix_var hv
        have hj12 : j < 12 := by omega
        have htk := subOf_take hb hw hu
        simp -dsimp only [go_sem, hlt, hb, Bnd.row]
        refine call_pure (s_l2Index c _) ?_
        simp -dsimp only [go_sem, hvj]
        refine call_pure (s_l1Read u.text (by omega) _) ?_
        have h22 : j * 2 ≤ 22 := by omega
        simp -dsimp only [go_sem, hr, h1, hj12, mcells_len, h22, mcells_paste _ hjv u, ← htk]
        refine round_to ⟨k + 1, hlt⟩ (by simp; omega) ?_
        refine weak_objs [h.n, h.n + 1] (by simp -dsimp only [go_sem]) (by simp -dsimp only [go_sem]) (by simp -dsimp only [go_sem]) ?_ ?_ ?_
        · intro x h1 h2; simp -dsimp only [go_sem, h1]
        · intro x h1 h2; have h1 : x < h.n + 2 := h1; simp at h2 ⊢; omega
        · simp -dsimp only [go_sem]
      · have e9 : l.take k = l := List.take_of_length_le (by omega)
        simp -dsimp only [go_sem, hlt, e9, hsub]
        refine call_pure (s_l2Put (σ := σ) n _ (by simp -dsimp only [go_sem]) (by simp -dsimp only [go_sem]) hs hwa (by omega)) ?_
        have hpl := put_len hs (t := n)
        simp -dsimp only [go_sem]
        refine call_pure (s_l2Length (put σ n) _ (by omega)) ?_
        by_cases h60 : (put σ n).text.length ≤ 60
        · have e0 : applyB σ t = some (put σ n).text := by simp [applyB, ha, h60]
          have h60' : ¬ (60 : Int) < ((put σ n).text.length : Nat) := by omega
          simp -dsimp only [go_sem, h60']
          refine call_pure (s_l1Text (put σ n) _ (by omega)) ?_
          simp -dsimp only [go_sem]
          rw [e0]
          exact fin_pure (by simp -dsimp only [go_sem]) (by simp -dsimp only [go_sem, textV])
        · have e0 : applyB σ t = none := by simp [applyB, ha, h60]
          have h60' : (60 : Int) < ((put σ n).text.length : Nat) := by omega
          simp -dsimp only [go_sem, h60']
          rw [e0]
          exact fin_pure (by simp -dsimp only [go_sem]) (by simp -dsimp only [go_sem, textV])
end Go.Proofs.YtnocdggngfiebaaGreatDoor

namespace Go.Isea
open Go
theorem drop_get {α : Type} {l : List α} {k : Nat} {x : α} (h : l[k]? = some x) : l.drop k = x :: l.drop (k + 1) := by
  obtain ⟨hl, e⟩ := List.getElem?_eq_some_iff.1 h
  rw [List.drop_eq_getElem_cons hl, e]
theorem get_some {α : Type} {l : List α} {k : Nat} (h : k < l.length) : ∃ x, l[k]? = some x := ⟨_, List.getElem?_eq_getElem h⟩
theorem all_range {n : Nat} {f : Nat → Bool} : (List.range n).all f = true ↔ ∀ j, j < n → f j = true := by simp
theorem not_all {n : Nat} {f : Nat → Bool} {k : Nat} (hk : k < n) (h : f k = false) : (List.range n).all f = false := by
  rw [Bool.eq_false_iff]
  intro e
  rw [all_range.1 e k hk] at h; cases h
theorem all_upto {f : Nat → Bool} {k : Nat} (h : ∀ j, j < k → f j = true) (hk : f k = true) : ∀ j, j < k + 1 → f j = true := fun j hj => by
  rcases Nat.lt_or_eq_of_le (Nat.le_of_lt_succ hj) with g | rfl
  · exact h j g
  · exact hk
/-- a class of supers: is it known and above the one before it? -/
def supAt (cs : List Cls) (s : L8) (k : Nat) : Bool := decide (0 ≤ clsIx cs ((s.drop k).take 1)) && (match k with
  | 0 => true
  | j + 1 => match s[j]?, s[j + 1]? with
    | some a, some b => decide (a.toNat < b.toNat)
    | _, _ => true)
def clsAt (cs : List Cls) (i : Nat) : Bool := match cs[i]? with
  | none => true
  | some c => capital c.n && (match i with
      | 0 => true
      | j + 1 => match cs[j]? with | some b => Op.bytesLess b.n c.n | none => true) && (List.range c.s.length).all (supAt (cs.take i) c.s)
def classesOk (cs : List Cls) : Bool := decide (1 ≤ cs.length) && decide (cs.length ≤ 4) && (List.range cs.length).all (clsAt cs)
def needIn (cs : List Cls) (t : L8) (n : Need) : Bool := decide (0 ≤ clsIx cs n.c) && tv n.t && decide (n.t.length ≤ 20) && within (varsIn n.t) (varsIn t)
def instOk (cs : List Cls) (i : Inst) : Bool :=
  classesOk cs && decide (0 ≤ clsIx cs i.c) && tv i.t && decide (i.t.length ≤ 20) && !isV (i.t.headD 0) && decide (i.ns.length ≤ 3) && i.ns.all (needIn cs i.t)
def worldOk (w : Wld) : Bool := w.is.all (instOk w.cs) && classesOk w.cs && decide (w.is.length ≤ 10)
def hasClass (w : Wld) (c : L8) : Bool := worldOk w && decide (0 ≤ clsIx w.cs c)
/-- small enough for the machine's numbers -/
def Need.Sm (n : Need) : Prop := n.c.length ≤ 4611686018427387904 ∧ n.t.length ≤ 4611686018427387904
def Cls.Sm (n : Cls) : Prop := n.n.length ≤ 4611686018427387904 ∧ n.s.length ≤ 4611686018427387904
def Inst.Sm (i : Inst) : Prop := i.c.length ≤ 4611686018427387904 ∧ i.t.length ≤ 4611686018427387904 ∧ i.ns.length ≤ 4611686018427387904 ∧ ∀ n ∈ i.ns, n.Sm
structure Wld.Sm (w : Wld) : Prop where
  cl : w.cs.length ≤ 4611686018427387904
  c : ∀ c ∈ w.cs, c.Sm
  il : w.is.length ≤ 4611686018427387904
  i : ∀ i ∈ w.is, i.Sm
@[go_sem] theorem al_need {l : List Need} : AllLen 2 (l.map Need.row) = True := allLen_map fun _ => rfl
@[go_sem] theorem al_cls {l : List Cls} : AllLen 2 (l.map Cls.row) = True := allLen_map fun _ => rfl
@[go_sem] theorem al_inst {l : List Inst} : AllLen 3 (l.map Inst.row) = True := allLen_map fun _ => rfl
@[go_sem] theorem al_bnd {l : List Bnd} : AllLen 2 (l.map Bnd.row) = True := allLen_map fun _ => rfl
theorem tv_cons {t : L8} (h : tv t = true) : ∃ c l, t = c :: l ∧ t[0]? = some c ∧ t.headD 0 = c := by
  cases t with
  | nil => simp [tv, typeOf, parse] at h
  | cons c l => exact ⟨c, l, rfl, rfl, rfl⟩
end Go.Isea

namespace Go.Isea
open Go
def isInst (p t : L8) : Bool := (matchType p t).isSome
end Go.Isea
namespace Go.Proofs.YtnocdggngfiebaaGreatDoor
open Go Go.Isea
set_option maxRecDepth 100000
theorem s_IsInstance (p t : L8) (h : AH) (hp : p.length ≤ 4611686018427387904) (ht : t.length ≤ 4611686018427387904) : Good Tryz.prog 205 [str p, str t] h [] (.v (.bool (isInst p t))) h := by
  refine good [] [] Tryz.func205 rfl rfl Tryz.ntmps205 (by kernel_rfl) mixed (by kernel_rfl) ?_
  simp -dsimp only [go_sem]
  refine call_pure (s_MatchType p t _ hp ht) ?_
  unfold isInst
  cases hm : matchType p t <;> simp -dsimp only [go_sem, matchV, hm] <;> exact fin_bool (by simp -dsimp only [go_sem]) rfl
theorem s_l3Classes (cs : List Cls) (h : AH) (hcs : cs.length ≤ 4611686018427387904) (hc : ∀ c ∈ cs, c.Sm) : Good Tryz.prog 190 [.sl (cs.map Cls.row)] h [] (.v (.bool (classesOk cs))) h := by
  refine good [] [] Tryz.func190 rfl rfl Tryz.ntmps190 (by kernel_rfl) mixed (by kernel_rfl) ?_
  simp -dsimp only [go_sem]
  refine loop_ruleH [0, 5, 0] (fun (k : {k : Nat // k ≤ cs.length ∧ ∀ j, j < k → clsAt cs j = true}) H => ([(8, .v (.int .i64 (k.1 : Nat)))], H)) (fun k => cs.length - k.1) ⟨0, Nat.zero_le _, fun j hj => absurd hj (Nat.not_lt_zero _)⟩ ?_ ?_
  · exact weak_at rfl (Nat.le_refl _) (fun _ _ => rfl) (by simp -dsimp only [go_sem])
  · rintro ⟨k, hk, hi⟩
    have h1 : k + 1 ≤ 9223372036854775807 := by omega
    by_cases hlt : k < cs.length
    · obtain ⟨c, hb⟩ := get_some hlt
      have hsm := hc c (List.mem_of_getElem? hb)
      have bad : clsAt cs k = false → ∀ H : AH, h.n ≤ H.n → FinS [] h H (.v (.bool false)) h (.v (.bool (classesOk cs))) := fun e H hH => by
        refine fin_bool hH ?_
        simp [classesOk, not_all hlt e]
      simp -dsimp only [go_sem, hlt, hb, Cls.row]
      refine call_pure (s_l3Capital c.n _) ?_
      cases hcap : capital c.n with
      | false =>
        simp -dsimp only [go_sem]
        exact bad (by simp [clsAt, hb, hcap]) _ (by simp -dsimp only [go_sem])
      | true =>
        have two : (k = 0 ∧ ¬ (0 : Int) < (k : Nat)) ∨ (∃ j a, k = j + 1 ∧ (0 : Int) < (k : Nat) ∧ IntKind.i64.wrap (((k : Nat) : Int) - 1) = (j : Nat) ∧ cs[j]? = some a) := by
          cases k with
          | zero => exact .inl ⟨rfl, by omega⟩
          | succ j => obtain ⟨a, ha⟩ := get_some (l := cs) (k := j) (by omega); exact .inr ⟨j, a, rfl, by omega, wrap_pred (by omega), ha⟩
        have three : (Op.bytesLess ((cs[k - 1]?.map Cls.n).getD []) c.n = false ∧ 0 < k) ∨ clsAt cs k = (List.range c.s.length).all (supAt (cs.take k) c.s) := by
          rcases two with ⟨rfl, _⟩ | ⟨j, a, rfl, _, _, ha⟩
          · right; simp [clsAt, hb, hcap]
          · cases hl : Op.bytesLess a.n c.n with
            | false => left; simp [ha, hl]
            | true => right; simp only [clsAt, hb, hcap, ha, hl, Bool.true_and]
        rcases two with ⟨hk0, h0⟩ | ⟨j, a, hk0, h0, hwj, ha⟩
        case' inl =>
          have three := three.resolve_left (by omega)
          simp -dsimp only [go_sem, h0]
        case' inr =>
          have hsa : a.Sm := hc a (List.mem_of_getElem? ha)
          cases hl : Op.bytesLess a.n c.n
          case false =>
            simp -dsimp only [go_sem, h0, hwj, ha, hl, Cls.row]
            exact bad (by rw [hk0] at hb ⊢; simp only [clsAt, hb, hcap, ha, hl]; rfl) _ (by simp -dsimp only [go_sem])
          have three := three.resolve_left (by rw [hk0]; simp [ha, hl])
          simp -dsimp only [go_sem, h0, hwj, ha, hl, Cls.row]
        all_goals
          refine loop_ruleH [0, 2, 0, 1, 0, 0, 25] (fun (m : {m : Nat // m ≤ c.s.length ∧ ∀ j, j < m → supAt (cs.take k) c.s j = true}) H => ([(35, .v (.int .i64 (m.1 : Nat)))], H)) (fun m => c.s.length - m.1) ⟨0, Nat.zero_le _, fun j hj => absurd hj (Nat.not_lt_zero _)⟩ ?_ ?_
          · refine weak_objs [h.n] (by simp -dsimp only [go_sem]) (by simp -dsimp only [go_sem]) (by simp -dsimp only [go_sem]) ?_ ?_ ?_
            · intro x h1 h2; simp -dsimp only [go_sem, h1]
            · intro x h1 h2; have h1 : x < h.n + 1 := h1; simp at h2 ⊢; omega
            · simp -dsimp only [go_sem]
          · rintro ⟨m, hm, hj⟩
            have hsl := hsm.2
            have h2 : m + 1 ≤ 9223372036854775807 := by omega
            by_cases hmt : m < c.s.length
            · obtain ⟨d, hd⟩ := get_some hmt
              have e5 : (c.s.drop m).take (m + 1 - m) = [d] := by rw [drop_get hd, Nat.add_sub_cancel_left]; rfl
              have e6 : (c.s.drop m).take 1 = [d] := by rw [drop_get hd]; rfl
              have hm1 : m + 1 ≤ c.s.length := hmt
              have sbad : supAt (cs.take k) c.s m = false → clsAt cs k = false := fun e => three.trans (not_all hmt e)
              simp -dsimp only [go_sem, hmt, hk, h2, e5, hm1]
              refine call_pure ((s_l3Class ⟨cs.take k, []⟩ [d] _ (by simp; omega)).weak (by simp -dsimp only [go_sem, Wld.row, List.map_nil])) ?_
              by_cases hcx : clsIx (cs.take k) [d] < 0
              · have e0 : supAt (cs.take k) c.s m = false := by
                  have : ¬ 0 ≤ clsIx (cs.take k) [d] := by omega
                  simp [supAt, e6, this]
                simp -dsimp only [go_sem, hcx]
                exact bad (sbad e0) _ (by simp -dsimp only [go_sem])
              · have hcx' : 0 ≤ clsIx (cs.take k) [d] := by omega
                have mcase : (m = 0 ∧ ¬ (0 : Int) < (m : Nat)) ∨ (∃ j e, m = j + 1 ∧ (0 : Int) < (m : Nat) ∧ IntKind.i64.wrap (((m : Nat) : Int) - 1) = (j : Nat) ∧ c.s[j]? = some e) := by
                  cases m with
                  | zero => exact .inl ⟨rfl, by omega⟩
                  | succ j => obtain ⟨a, ha⟩ := get_some (l := c.s) (k := j) (by omega); exact .inr ⟨j, a, rfl, by omega, wrap_pred (by omega), ha⟩
                rcases mcase with ⟨hm0, hz⟩ | ⟨j', e, hm0, hz, hwj', he⟩
                · have e0 : supAt (cs.take k) c.s m = true := by
                    rw [hm0] at e6 ⊢
                    rw [List.drop_zero] at e6
                    simp [supAt, e6, hcx']
                  simp -dsimp only [go_sem, hcx, hz, h2]
                  refine round_to ⟨m + 1, hmt, all_upto hj e0⟩ (by simp; omega) ?_
                  refine weak_objs [h.n] (by simp -dsimp only [go_sem]) (by simp -dsimp only [go_sem]) (by simp -dsimp only [go_sem]) ?_ ?_ ?_
                  · intro x h1 h2; simp -dsimp only [go_sem, h1]
                  · intro x h1 h2; have h1 : x < h.n + 1 := h1; simp at h2 ⊢; omega
                  · simp -dsimp only [go_sem]
                · have e0 : supAt (cs.take k) c.s m = decide (e.toNat < d.toNat) := by
                    rw [hm0] at hd e6 ⊢
                    simp [supAt, e6, hcx', he, hd]
                  by_cases hge : ((d.toNat : Nat) : Int) ≤ ((e.toNat : Nat) : Int)
                  · simp -dsimp only [go_sem, hcx, hz, hwj', he, hd, hge]
                    exact bad (sbad (by rw [e0]; simp; omega)) _ (by simp -dsimp only [go_sem])
                  · simp -dsimp only [go_sem, hcx, hz, hwj', he, hd, hge, h2]
                    refine round_to ⟨m + 1, hmt, all_upto hj (by rw [e0]; simp; omega)⟩ (by simp; omega) ?_
                    refine weak_objs [h.n] (by simp -dsimp only [go_sem]) (by simp -dsimp only [go_sem]) (by simp -dsimp only [go_sem]) ?_ ?_ ?_
                    · intro x h1 h2; simp -dsimp only [go_sem, h1]
                    · intro x h1 h2; have h1 : x < h.n + 1 := h1; simp at h2 ⊢; omega
                    · simp -dsimp only [go_sem]
            · simp -dsimp only [go_sem, hmt, h1]
              refine round_to ⟨k + 1, hlt, all_upto hi ?_⟩ (by simp; omega) ?_
              · rw [three, all_range]
                exact fun j h => hj j (by omega)
              · exact weak_at rfl (by simp -dsimp only [go_sem]) (fun x hx => by simp -dsimp only [go_sem, hx]) (by simp -dsimp only [go_sem])
    · simp -dsimp only [go_sem, hlt]
      refine call_pure (s_l1In _ _ _ _) ?_
      simp -dsimp only [go_sem]
      refine fin_bool (Nat.le_refl _) ?_
      have e1 : (List.range cs.length).all (clsAt cs) = true := all_range.2 fun j hj => hi j (by omega)
      unfold classesOk
      rw [e1, Bool.and_true]
      congr 1 <;> (apply decide_eq_decide.2; omega)
end Go.Proofs.YtnocdggngfiebaaGreatDoor

namespace Go.Isea
open Go
def capsL : L8 := [65, 66, 67, 68, 69, 70, 71, 72, 73, 74, 75, 76, 77, 78, 79, 80, 81, 82, 83, 84]
def sortL (s : L8) (k : Nat) : L8 := (capsL.take k).filter fun c => decide (0 ≤ ix s c)
def sorted (s : L8) : L8 := capsL.filter fun c => decide (0 ≤ ix s c)
theorem sortL_all (s : L8) {k : Nat} (h : 20 ≤ k) : sortL s k = sorted s := by
  unfold sortL sorted
  rw [List.take_of_length_le (by simpa [capsL] using h)]
theorem sortL_succ (s : L8) {k : Nat} {c : UInt8} (hc : capsL[k]? = some c) : sortL s (k + 1) = if 0 ≤ ix s c then sortL s k ++ [c] else sortL s k := by
  obtain ⟨hl, e⟩ := List.getElem?_eq_some_iff.1 hc
  unfold sortL
  rw [List.take_succ_eq_append_getElem hl, List.filter_append, e]
  by_cases h : 0 ≤ ix s c <;> simp [h]
theorem sortL_len (s : L8) (k : Nat) : (sortL s k).length ≤ 20 := by
  unfold sortL
  refine Nat.le_trans (List.length_filter_le _ _) ?_
  simp [capsL]; omega
theorem sorted_len (s : L8) : (sorted s).length ≤ 20 := by rw [← sortL_all s (Nat.le_refl 20)]; exact sortL_len s 20
theorem capsL_at {k : Nat} (h : k < 20) : ∃ c, capsL[k]? = some c ∧ c.toNat = 65 + k := by
  have : ∀ k : _root_.Fin 20, ∃ c, capsL[k.val]? = some c ∧ c.toNat = 65 + k.val := by decide
  exact this ⟨k, h⟩
/-- the classes above one, as they stand -/
def supersAt (cs : List Cls) (c : L8) : L8 := match cs[(clsIx cs c).toNat]? with
  | some x => x.s
  | none => []
def expandL (cs : List Cls) (a : L8) (k : Nat) : L8 := a ++ (a.take k).flatMap fun c => supersAt cs [c]
def stepS (cs : List Cls) (a : L8) : L8 := sorted (expandL cs a a.length)
def itS (cs : List Cls) (a : L8) : Nat → L8
  | 0 => a
  | k + 1 => stepS cs (itS cs a k)
def supersOf (w : Wld) (c : L8) : L8 := if hasClass w c then itS w.cs (supersAt w.cs c) w.cs.length else []
theorem clsIx_lt : ∀ (cs : List Cls) (c : L8), 0 ≤ clsIx cs c → ∃ x, cs[(clsIx cs c).toNat]? = some x ∧ x.n = c ∧ (clsIx cs c).toNat < cs.length
  | [], c, h => by simp [clsIx] at h
  | b :: l, c, h => by
    unfold clsIx at h ⊢
    by_cases hb : b.n = c
    · rw [if_pos hb] at h ⊢; exact ⟨b, rfl, hb, by simp⟩
    · rw [if_neg hb] at h ⊢
      by_cases h0 : clsIx l c < 0
      · rw [if_pos h0] at h; omega
      · rw [if_neg h0] at h ⊢
        obtain ⟨x, h1, h2, h3⟩ := clsIx_lt l c (by omega)
        have e : (clsIx l c + 1).toNat = (clsIx l c).toNat + 1 := by omega
        rw [e]
        exact ⟨x, by simpa using h1, h2, by simpa using h3⟩
theorem clsIx_mem : ∀ {cs : List Cls} {c : L8}, 0 ≤ clsIx cs c ↔ ∃ x ∈ cs, x.n = c
  | [], c => by simp [clsIx]
  | b :: l, c => by
    have ih := clsIx_mem (cs := l) (c := c)
    unfold clsIx
    by_cases hb : b.n = c
    · rw [if_pos hb]; simp [hb]
    · rw [if_neg hb]
      simp only [List.mem_cons, exists_eq_or_imp, hb, false_or]
      rw [← ih]
      have := clsIx_ge l c
      by_cases h0 : clsIx l c < 0
      · rw [if_pos h0]; omega
      · rw [if_neg h0]; omega
theorem classesOk_at {cs : List Cls} (h : classesOk cs = true) : cs.length ≤ 4 ∧ 1 ≤ cs.length ∧ ∀ j, j < cs.length → clsAt cs j = true := by
  simp only [classesOk, Bool.and_eq_true, decide_eq_true_eq] at h
  exact ⟨h.1.2, h.1.1, all_range.1 h.2⟩
/-- what a valid class is -/
theorem cls_ok {cs : List Cls} (h : classesOk cs = true) {k : Nat} {c : Cls} (hc : cs[k]? = some c) :
    capital c.n = true ∧ (∀ j a, c.s[j]? = some a → 0 ≤ clsIx (cs.take k) [a] ∧ j ≤ a.toNat) := by
  obtain ⟨_, _, h3⟩ := classesOk_at h
  have hk := (List.getElem?_eq_some_iff.1 hc).1
  have := h3 k hk
  unfold clsAt at this
  rw [hc] at this
  simp only [Bool.and_eq_true] at this
  obtain ⟨⟨h1, _⟩, h2⟩ := this
  rw [all_range] at h2
  refine ⟨h1, fun j => ?_⟩
  induction j with
  | zero =>
    intro a ha
    have := h2 0 (List.getElem?_eq_some_iff.1 ha).1
    have e : (c.s.drop 0).take 1 = [a] := by rw [drop_get ha]; rfl
    simp only [supAt, e, Bool.and_true, decide_eq_true_eq] at this
    exact ⟨this, Nat.zero_le _⟩
  | succ j ih =>
    intro a ha
    have hl := (List.getElem?_eq_some_iff.1 ha).1
    obtain ⟨b, hb⟩ := get_some (l := c.s) (k := j) (by omega)
    have := h2 (j + 1) hl
    have e : (c.s.drop (j + 1)).take 1 = [a] := by rw [drop_get ha]; rfl
    simp only [supAt, e, hb, ha, Bool.and_eq_true, decide_eq_true_eq] at this
    have := (ih b hb).2
    exact ⟨by omega, by omega⟩
theorem clsIx_take {cs : List Cls} {k : Nat} {c : L8} (h : 0 ≤ clsIx (cs.take k) c) : 0 ≤ clsIx cs c := by
  rw [clsIx_mem] at h ⊢
  obtain ⟨x, hx, e⟩ := h
  exact ⟨x, List.mem_of_mem_take hx, e⟩
theorem cls_len {cs : List Cls} (h : classesOk cs = true) {k : Nat} {c : Cls} (hc : cs[k]? = some c) : c.s.length ≤ 256 := by
  rcases Nat.eq_zero_or_pos c.s.length with h0 | h0
  · omega
  · obtain ⟨a, ha⟩ := get_some (l := c.s) (k := c.s.length - 1) (by omega)
    have := ((cls_ok h hc).2 _ a ha).2
    have := UInt8.toNat_lt a
    omega
/-- all letters are classes -/
def Known (cs : List Cls) (a : L8) : Prop := ∀ c ∈ a, 0 ≤ clsIx cs [c]
theorem supersAt_known {cs : List Cls} (h : classesOk cs = true) (c : L8) : Known cs (supersAt cs c) ∧ (supersAt cs c).length ≤ 256 := by
  unfold supersAt
  split
  · rename_i x hx
    refine ⟨fun a ha => ?_, cls_len h hx⟩
    obtain ⟨j, hj⟩ := List.getElem?_of_mem ha
    exact clsIx_take ((cls_ok h hx).2 j a hj).1
  · exact ⟨fun a ha => by simp at ha, by simp⟩
theorem ix_mem : ∀ {l : L8} {c : UInt8}, 0 ≤ ix l c ↔ c ∈ l
  | [], c => by simp [ix]
  | b :: l, c => by
    have ih := ix_mem (l := l) (c := c)
    unfold ix
    by_cases hb : b = c
    · rw [if_pos hb]; simp [hb]
    · rw [if_neg hb]
      have := ix_ge l c
      simp only [List.mem_cons, show (c = b) = False by simpa using fun e => hb e.symm, false_or]
      rw [← ih]
      by_cases h0 : ix l c < 0
      · rw [if_pos h0]; omega
      · rw [if_neg h0]; omega
theorem flat_len {f : UInt8 → L8} {n : Nat} (hf : ∀ c, (f c).length ≤ n) : ∀ (l : L8), (l.flatMap f).length ≤ l.length * n
  | [] => by simp
  | c :: l => by
    rw [List.flatMap_cons, List.length_append, List.length_cons, Nat.succ_mul]
    have := hf c; have := flat_len hf l; omega
theorem expandL_len {cs : List Cls} (h : classesOk cs = true) {a : L8} (ha : a.length ≤ 256) (k : Nat) : (expandL cs a k).length ≤ 100000 := by
  unfold expandL
  rw [List.length_append]
  have := flat_len (f := fun c => supersAt cs [c]) (n := 256) (fun c => (supersAt_known h [c]).2) (a.take k)
  have hl : (a.take k).length ≤ 256 := by rw [List.length_take]; omega
  have := Nat.mul_le_mul_right 256 hl
  omega
theorem expandL_known {cs : List Cls} (h : classesOk cs = true) {a : L8} (ha : Known cs a) (k : Nat) : Known cs (expandL cs a k) := by
  intro c hc
  unfold expandL at hc
  rw [List.mem_append, List.mem_flatMap] at hc
  rcases hc with hc | ⟨b, _, hb⟩
  · exact ha c hc
  · exact (supersAt_known h [b]).1 c hb
theorem expandL_succ {cs : List Cls} {a : L8} {k : Nat} {c : UInt8} (hc : a[k]? = some c) : expandL cs a (k + 1) = expandL cs a k ++ supersAt cs [c] := by
  obtain ⟨hl, e⟩ := List.getElem?_eq_some_iff.1 hc
  unfold expandL
  rw [List.take_succ_eq_append_getElem hl, e, List.flatMap_append, List.append_assoc]
  simp
theorem sorted_known {cs : List Cls} {a : L8} (ha : Known cs a) : Known cs (sorted a) := fun c hc => by
  unfold sorted at hc
  rw [List.mem_filter] at hc
  exact ha c (ix_mem.1 (by simpa using hc.2))
theorem itS_ok {cs : List Cls} (h : classesOk cs = true) {a : L8} (ha : Known cs a) (hl : a.length ≤ 256) : ∀ k, Known cs (itS cs a k) ∧ (itS cs a k).length ≤ 256
  | 0 => ⟨ha, hl⟩
  | k + 1 => ⟨sorted_known (expandL_known h (itS_ok h ha hl k).1 _), Nat.le_trans (sorted_len _) (by decide)⟩
end Go.Isea

namespace Go.Isea
open Go
def matchS (p t : L8) : Option Sub := match typeOf p, typeOf t with
  | some a, some b => matchT Sub.none' a b
  | _, _ => none
theorem matchType_S (p t : L8) : matchType p t = (matchS p t).map bnds := by
  unfold matchType matchS
  cases typeOf p <;> cases typeOf t <;> rfl
theorem matchS_ok {p t : L8} {σ : Sub} (h : matchS p t = some σ) : σ.Ok 60 := by
  unfold matchS at h
  cases ha : typeOf p with
  | none => simp [ha] at h
  | some a =>
    cases hb : typeOf t with
    | none => simp [ha, hb] at h
    | some b =>
      rw [ha, hb] at h
      obtain ⟨e, hw, hl⟩ := typeOf_some hb
      exact matchT_ok h (Sub.none_ok 60) hw (by rw [← e]; exact hl)
theorem matchV_S (p t : L8) : matchV p t = match matchS p t with | some σ => .tup [.sl ((bnds σ).map Bnd.row), .v (.bool true)] | none => .tup [.sl [], .v (.bool false)] := by
  unfold matchV
  rw [matchType_S]
  cases matchS p t <;> rfl
theorem isInst_S (p t : L8) : isInst p t = (matchS p t).isSome := by
  unfold isInst
  rw [matchType_S]
  cases matchS p t <;> rfl
def iRow (k : Nat) : List AV := [.v (.int .i64 (k : Nat))]
@[go_sem] theorem puR_ints {l : List Nat} : PuR (l.map iRow) = True := puR_map fun n => by simp -dsimp only [iRow, go_sem]
@[go_sem] theorem al_ints {l : List Nat} : AllLen 1 (l.map iRow) = True := allLen_map fun _ => rfl
def candAt (w : Wld) (n : Need) (k : Nat) : Bool := match w.is[k]? with
  | some i => decide (i.c = n.c) && isInst i.t n.t
  | none => false
def candTake (w : Wld) (n : Need) (k : Nat) : List Nat := (List.range k).filter (candAt w n)
def candIx (w : Wld) (n : Need) : List Nat := candTake w n w.is.length
theorem candTake_succ (w : Wld) (n : Need) (k : Nat) : candTake w n (k + 1) = if candAt w n k = true then candTake w n k ++ [k] else candTake w n k := by
  unfold candTake
  rw [List.range_succ, List.filter_append]
  cases h : candAt w n k <;> simp [h]
theorem candTake_len (w : Wld) (n : Need) (k : Nat) : (candTake w n k).length ≤ k := by
  unfold candTake
  refine Nat.le_trans (List.length_filter_le _ _) ?_
  simp
theorem cand_mem {w : Wld} {n : Need} {k : Nat} (h : k ∈ candIx w n) : ∃ i, w.is[k]? = some i ∧ i.c = n.c ∧ (matchS i.t n.t).isSome = true := by
  unfold candIx candTake at h
  rw [List.mem_filter] at h
  obtain ⟨_, h⟩ := h
  unfold candAt at h
  split at h
  · rename_i i hi
    simp only [Bool.and_eq_true, decide_eq_true_eq, isInst_S] at h
    exact ⟨i, hi, h.1, h.2⟩
  · cases h
def needsA (σ : Sub) : List Need → Option (List Need)
  | [] => some []
  | n :: l => match applyB σ n.t with
    | some u => (needsA σ l).map fun r => ⟨n.c, u⟩ :: r
    | none => none
theorem needsA_app (σ : Sub) : ∀ (a b : List Need), needsA σ (a ++ b) = match needsA σ a with | some r => (needsA σ b).map (r ++ ·) | none => none
  | [], b => by simp only [List.nil_append, needsA]; cases needsA σ b <;> rfl
  | n :: a, b => by
    simp only [List.cons_append, needsA, needsA_app σ a b]
    cases applyB σ n.t with
    | none => rfl
    | some u =>
      cases needsA σ a with
      | none => rfl
      | some r => cases needsA σ b <;> rfl
theorem needsA_some {σ : Sub} {ns out : List Need} {k : Nat} {n : Need} {u : L8} (h : needsA σ (ns.take k) = some out) (hn : ns[k]? = some n) (hu : applyB σ n.t = some u) : needsA σ (ns.take (k + 1)) = some (out ++ [⟨n.c, u⟩]) := by
  obtain ⟨hl, e⟩ := List.getElem?_eq_some_iff.1 hn
  rw [List.take_succ_eq_append_getElem hl, e, needsA_app, h]
  simp [needsA, hu]
theorem needsA_none {σ : Sub} {ns out : List Need} {k : Nat} {n : Need} (h : needsA σ (ns.take k) = some out) (hn : ns[k]? = some n) (hu : applyB σ n.t = none) : needsA σ ns = none := by
  have e := List.take_append_drop k ns
  rw [drop_get hn] at e
  rw [← e, needsA_app, h]
  simp [needsA, hu]
theorem needsA_len {σ : Sub} : ∀ {ns out : List Need}, needsA σ ns = some out → out.length = ns.length
  | [], out, h => by simp only [needsA, Option.some.injEq] at h; rw [← h]
  | n :: l, out, h => by
    simp only [needsA] at h
    split at h
    · cases hl : needsA σ l with
      | none => simp [hl] at h
      | some r =>
        rw [hl] at h
        simp only [Option.map_some, Option.some.injEq] at h
        rw [← h, List.length_cons, List.length_cons, needsA_len hl]
    · cases h
theorem needsA_mem {σ : Sub} : ∀ {ns out : List Need}, needsA σ ns = some out → ∀ m ∈ out, ∃ n ∈ ns, m.c = n.c ∧ applyB σ n.t = some m.t
  | [], out, h, m, hm => by simp only [needsA, Option.some.injEq] at h; rw [← h] at hm; cases hm
  | n :: l, out, h, m, hm => by
    simp only [needsA] at h
    split at h
    · rename_i u hu
      cases hl : needsA σ l with
      | none => simp [hl] at h
      | some r =>
        rw [hl] at h
        simp only [Option.map_some, Option.some.injEq] at h
        rw [← h] at hm
        rcases List.mem_cons.1 hm with rfl | hm
        · exact ⟨n, List.mem_cons_self .., rfl, hu⟩
        · obtain ⟨n', h1, h2⟩ := needsA_mem hl m hm
          exact ⟨n', List.mem_cons_of_mem _ h1, h2⟩
    · cases h
theorem applyB_ok {σ : Sub} (hs : σ.Ok 60) {t u : L8} (h : applyB σ t = some u) : u.length ≤ 60 ∧ tv u = true := by
  unfold applyB at h
  split at h
  · rename_i n hn
    split at h
    · rename_i hl
      injection h with h
      subst h
      exact ⟨hl, by simp [tv, typeOf_text (put_wf hs (typeOf_some hn).2.1) hl]⟩
    · cases h
  · cases h
def needsOf (i : Inst) (t : L8) : Option (List Need) := match matchS i.t t with
  | some σ => needsA σ i.ns
  | none => none
def needsV : Option (List Need) → AV
  | some l => .tup [.sl (l.map Need.row), .v (.bool true)]
  | none => .tup [.sl [], .v (.bool false)]
/-- the first number for which something holds -/
def firstK (p : Nat → Bool) (n : Nat) : Option Nat := (List.range n).find? p
theorem firstK_some {p : Nat → Bool} {n k : Nat} (hk : k < n) (h : ∀ j, j < k → p j = false) (hp : p k = true) : firstK p n = some k := by
  unfold firstK
  rw [List.find?_range_eq_some]
  exact ⟨hp, by simpa using hk, fun j hj => by simp [h j hj]⟩
theorem firstK_none {p : Nat → Bool} {n : Nat} (h : ∀ j, j < n → p j = false) : firstK p n = none := by
  unfold firstK
  rw [List.find?_range_eq_none]
  intro j hj
  simp [h j (by simpa using hj)]
def abc : L8 := [97, 98, 99, 100, 101, 102]
def letterL (k : Nat) : L8 := (abc.drop k).take 1
def givenEqAt (gs : List Need) (n : Need) (k : Nat) : Bool := decide (gs[k]? = some n)
def givenUpAt (w : Wld) (gs : List Need) (n : Need) (k : Nat) : Bool := match gs[k]? with
  | some g => decide (g.t = n.t) && decide (0 ≤ ix (supersOf w g.c) (n.c.headD 0))
  | none => false
def givenL (w : Wld) (gs : List Need) (n : Need) : L8 := match firstK (givenEqAt gs n) gs.length with
  | some k => letterL k
  | none => match firstK (givenUpAt w gs n) gs.length with
    | some k => letterL k ++ n.c
    | none => []
def digitL (k : Nat) : L8 := [UInt8.ofNat (48 + k)]
def longL : L8 := [108, 111, 110, 103]
def deepL : L8 := [100, 101, 101, 112]
def noneL : L8 := [110, 111, 110, 101]
def manyL : L8 := [109, 97, 110, 121]
def bigL : L8 := [98, 105, 103]
def wrongL : L8 := [119, 114, 111, 110, 103]
def findL (fd : Need → Nat → L8 × Nat × L8) : List Need → Nat → L8 → Nat → L8 × Nat × L8
  | [], _, out, a => (out, a, [])
  | m :: ms, k, out, a => if (fd m a).2.2 = [] then findL fd ms (k + 1) (out ++ [sep k] ++ (fd m a).1) (fd m a).2.1 else ([], (fd m a).2.1, (fd m a).2.2)
def closeL (ms : List Need) (x : L8 × Nat × L8) : L8 × Nat × L8 := if x.2.2 = [] then (x.1 ++ (if ms.length = 0 then [] else [41]), x.2.1, []) else ([], x.2.1, x.2.2)
/-- what stands behind the givens -/
def findB (fd : Need → Nat → L8 × Nat × L8) (w : Wld) (n : Need) (a : Nat) : L8 × Nat × L8 := match candIx w n with
  | [] => ([], a, noneL)
  | [k] => (match w.is[k]? with
    | some i => (match needsOf i n.t with
      | some ms => closeL ms (findL fd ms 0 (digitL k) (a + 1))
      | none => ([], a + 1, bigL))
    | none => ([], a, noneL))
  | _ :: _ :: _ => ([], a, manyL)
def findS (w : Wld) (gs : List Need) : Nat → Need → Nat → L8 × Nat × L8
  | 0, n, a => if givenL w gs n ≠ [] then (givenL w gs n, a, []) else if 300 ≤ a then ([], a, longL) else ([], a, deepL)
  | f + 1, n, a => if givenL w gs n ≠ [] then (givenL w gs n, a, []) else if 300 ≤ a then ([], a, longL) else findB (findS w gs f) w n a
def needOk (w : Wld) (n : Need) : Bool := decide (0 ≤ clsIx w.cs n.c) && tv n.t
def givensOk (w : Wld) (gs : List Need) : Bool := gs.all (fun g => worldOk w && needOk w g) && worldOk w && decide (gs.length ≤ 6)
end Go.Isea
