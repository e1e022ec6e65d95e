/- Contracts of functions of this program, for all arguments that satisfy what each lemma asks for. -/
import Derived.Test.YtiphcdmjlkngfaaGreatDoorMc
import Derived.Test.YtiphcdmjlkngfaaGreatDoorMB
import Derived.Test.YtiphcdmjlkngfaaGreatDoorMd
import Derived.Test.YtiphcdmjlkngfaaGreatDoorMC
set_option linter.all false
namespace Go.Isea
open Go
mutual
/-- a dictionary, as cells -/
def Dct.cells : Dct → List AV
  | .mk i ps => [.v (.int .i64 (i : Nat)), .sl (cellsB ps)]
def cellsB : List Dct → List (List AV)
  | [] => []
  | p :: ps => p.cells :: cellsB ps
end
theorem cellsB_map : ∀ ps : List Dct, cellsB ps = ps.map Dct.cells
  | [] => by rw [cellsB]; rfl
  | p :: ps => by rw [cellsB, cellsB_map ps]; rfl
theorem Dct.cells_mk (i : Nat) (ps : List Dct) : (Dct.mk i ps).cells = [.v (.int .i64 (i : Nat)), .sl (ps.map Dct.cells)] := by rw [Dct.cells, cellsB_map]
theorem Dct.cells_eq (d : Dct) : d.cells = [.v (.int .i64 (d.i : Nat)), .sl (d.ps.map Dct.cells)] := by cases d; exact Dct.cells_mk _ _
mutual
theorem Dct.cells_pu : ∀ d : Dct, PuL d.cells
  | .mk i ps => by
    have := cellsB_pu ps
    simp -dsimp only [Dct.cells, go_sem, this]
theorem cellsB_pu : ∀ ps : List Dct, PuR (cellsB ps)
  | [] => by simp -dsimp only [cellsB, go_sem]
  | p :: ps => by
    have := p.cells_pu
    have := cellsB_pu ps
    simp -dsimp only [cellsB, go_sem, *]
end
@[go_sem] theorem puR_dct {ps : List Dct} : PuR (ps.map Dct.cells) = True := puR_map Dct.cells_pu
@[go_sem] theorem puL_dct {d : Dct} : PuL d.cells = True := by simp [d.cells_pu]
@[go_sem] theorem Dct.cells_0 {d : Dct} : d.cells[0]? = some (.v (.int .i64 (d.i : Nat))) := by rw [d.cells_eq]; rfl
@[go_sem] theorem Dct.cells_1 {d : Dct} : d.cells[1]? = some (.sl (d.ps.map Dct.cells)) := by rw [d.cells_eq]; rfl
@[go_sem] theorem paste_dct {d : Dct} {a b : AV} : paste [a, b] 0 d.cells = d.cells := by rw [d.cells_eq]; rfl
@[go_sem] theorem take_dct {d : Dct} : List.take 2 d.cells = d.cells := by rw [d.cells_eq]; rfl
@[go_sem] theorem Dct.cells_len (d : Dct) : d.cells.length = 2 := by rw [d.cells_eq]; rfl
@[go_sem] theorem Dct.cells_one {h : AH} (d : Dct) : d.cells.all (AV.one h) = true := by rw [d.cells_eq]; rfl
@[go_sem] theorem al_dct {l : List Dct} : AllLen 2 (l.map Dct.cells) = True := allLen_map fun d => d.cells_len
theorem Dct.cells_ref {h : AH} {m : Nat} (d : Dct) : FzL h m d.cells d.cells := by
  have := Fz.of_lo (h := h) (m := m) (x := .agg d.cells) (.agg fun x hx => d.cells_pu m x hx)
  cases this with
  | agg hl hc => exact ⟨hl, hc⟩
theorem suf_drop {s t : L8} (h : s <:+ t) : t.drop (t.length - s.length) = s := (List.suffix_iff_eq_drop.1 h).symm
theorem suf_at {t : L8} {c : UInt8} {s : L8} (h : (c :: s) <:+ t) : t.length - s.length = t.length - (c :: s).length + 1 := by
  have := h.length_le
  simp only [List.length_cons] at this ⊢
  omega
end Go.Isea
namespace Go.Proofs.YtiphcdmjlkngfaaGreatDoor
open Go Go.Isea
set_option maxRecDepth 100000
set_option maxHeartbeats 8000000
theorem s_l6is {l : Nat} {t : L8} {k : Nat} {bad : Bool} (c : UInt8) (h : AH) (hl : l < h.n) (ho : h.o l = .cells (rd t k bad)) (hk : k ≤ t.length) (ht : t.length ≤ 4611686018427387904) :
    Isea.Good Tryz.prog 217 [.ptr l 0, .v (.int .u8 c.toNat)] h [l] (.v (.bool (pfx (t.drop k) c))) (h.set l (.cells (rd t (if pfx (t.drop k) c = true then k + 1 else k) bad))) := by
  have h1 : k + 1 ≤ 9223372036854775807 := by omega
  by_cases hlt : k < t.length
  · obtain ⟨b, hb⟩ := get_some hlt
    have hd : t.drop k = b :: t.drop (k + 1) := drop_some hb
    by_cases hbc : b = c
    · subst hbc
      have e : pfx (t.drop k) b = true := by rw [hd]; simp [pfx]
      rw [e]
      refine good [] [] Tryz.func217 rfl rfl Tryz.ntmps217 (by kernel_rfl) mixed (by kernel_rfl) ?_
      simp -dsimp only [go_sem, ho, rd, hlt, hl, hb, h1]
      refine fin_one (Nat.le_refl _) ?_ ?_ <;> simp -dsimp only [go_sem]
    · have e : pfx (t.drop k) c = false := by rw [hd]; simp [pfx, hbc]
      rw [e]
      refine good [] [] Tryz.func217 rfl rfl Tryz.ntmps217 (by kernel_rfl) mixed (by kernel_rfl) ?_
      simp -dsimp only [go_sem, ho, rd, hlt, hl, hb, hbc, h1]
      refine fin_one (Nat.le_refl _) ?_ ?_ <;> simp -dsimp only [go_sem, ho, rd]
  · have e : pfx (t.drop k) c = false := by rw [List.drop_of_length_le (by omega)]; rfl
    rw [e]
    refine good [] [] Tryz.func217 rfl rfl Tryz.ntmps217 (by kernel_rfl) mixed (by kernel_rfl) ?_
    simp -dsimp only [go_sem, ho, rd, hlt, hl, h1]
    refine fin_one (Nat.le_refl _) ?_ ?_ <;> simp -dsimp only [go_sem, ho, rd]
def DNodeOk (f : Nat) : Prop := ∀ {l : Nat} {t s : L8} {k : Nat} (h : AH), l < h.n → h.o l = .cells (rd t k false) → k ≤ t.length → t.drop k = s → t.length ≤ 1200 → s.length < f →
    Isea.Good Tryz.prog 162 [.ptr l 0] h [l] (.agg (readDS f s).1.cells) (h.set l (.cells (rd t (t.length - (readDS f s).2.1.length) (readDS f s).2.2)))
theorem s_l6node_step {f : Nat} (ih : DNodeOk f) : DNodeOk (f + 1) := by
  intro l t s k h hl ho hk hs ht hf
  have hsl : s.length = t.length - k := by rw [← hs, List.length_drop]
  have hsf : s <:+ t := hs ▸ List.drop_suffix k t
  have n0 : ¬ l = h.n := by omega
  have n1 : ¬ l = h.n + 1 := by omega
  have n2 : ¬ l = h.n + 2 := by omega
  cases s with
  | nil =>
    have hk0 : k = t.length := by simp at hsl; omega
    have hlt : ((t.length : Nat) : Int) ≤ ((k : Nat) : Int) := by omega
    refine good [] [(4, OT.o 0 (OT.o 1 (OT.o 2 (OT.o 3 (OT.o 4 (OT.o 5 (OT.o 6 (OT.o 7 (OT.o 8 (OT.o 9 (OT.o 10 ((OT.o 11 (OT.o 12 (OT.o 13 (OT.o 14 OT.e)))).f (OT.o 13 (OT.o 11 (OT.o 12 (OT.o 14 OT.e))))))))))))))))] Tryz.func162 rfl rfl Tryz.ntmps162 (by kernel_rfl) mixed (by kernel_rfl) ?_
    simp -dsimp only [go_sem, ho, rd, hlt, hl, n0]
    refine fin_one (by simp -dsimp only [go_sem]) ?_ ?_
    · simp -dsimp only [go_sem, readDS, Dct.cells_mk, List.map_nil]
    · simp -dsimp only [go_sem, readDS, hk0, ho, rd, hl]
  | cons c r =>
    have hklt : k < t.length := by simp at hsl; omega
    have hlt : ¬ ((t.length : Nat) : Int) ≤ ((k : Nat) : Int) := by omega
    have hb : t[k]? = some c := by
      rw [← List.head?_drop, hs]; rfl
    have hIn := fun H => s_l1In ((c.toNat : Nat) : Int) 48 57 H
    have hD : (decide ((48 : Int) ≤ ((c.toNat : Nat) : Int)) && decide (((c.toNat : Nat) : Int) ≤ 57)) = isDig c := by
      unfold isDig
      congr 1 <;> (apply decide_eq_decide.2; omega)
    rw [hD] at hIn
    have hdr : t.drop (k + 1) = r := by rw [← List.drop_drop, hs]; rfl
    cases hdig : isDig c with
    | false =>
      have er : readDS (f + 1) (c :: r) = (.mk 0 [], c :: r, true) := by rw [readDS, if_neg (by rw [hdig]; simp)]
      have ek : t.length - (c :: r).length = k := by omega
      rw [hdig] at hIn
      rw [er]
      simp only [ek]
      refine good [] [(4, OT.o 0 (OT.o 1 (OT.o 2 (OT.o 3 (OT.o 4 (OT.o 5 (OT.o 6 (OT.o 7 (OT.o 8 (OT.o 9 (OT.o 10 ((OT.o 11 (OT.o 12 (OT.o 13 (OT.o 14 OT.e)))).f (OT.o 13 (OT.o 11 (OT.o 12 (OT.o 14 OT.e))))))))))))))))] Tryz.func162 rfl rfl Tryz.ntmps162 (by kernel_rfl) mixed (by kernel_rfl) ?_
      simp -dsimp only [go_sem, ho, rd, hlt, hl, n0, hb]
      refine call_pure (hIn _) ?_
      simp -dsimp only [go_sem, ho, rd, hlt, hl, n0, hb]
      refine fin_one (by simp -dsimp only [go_sem]) ?_ ?_
      · simp -dsimp only [go_sem, Dct.cells_mk, List.map_nil]
      · simp -dsimp only [go_sem, ho, rd, hl]
    | true =>
      have hdw : IntKind.i64.wrap (((c.toNat : Nat) : Int) - 48) = ((c.toNat - 48 : Nat) : Int) := by
        unfold isDig at hdig
        rw [Bool.and_eq_true, decide_eq_true_eq, decide_eq_true_eq] at hdig
        rw [wrap_i64] <;> omega
      have hk1 : k + 1 ≤ 9223372036854775807 := by omega
      rw [hdig] at hIn
      have hrl : r.length < f := by simp at hf; omega
      have hIs := fun (H : AH) h1 h2 => s_l6is (l := l) (t := t) (k := k + 1) (bad := false) 40 H h1 h2 (by omega) (by omega)
      rw [hdr] at hIs
      cases hp : pfx r 40 with
      | false =>
        have er : readDS (f + 1) (c :: r) = (.mk (c.toNat - 48) [], r, false) := by rw [readDS, if_pos hdig, if_neg (by rw [hp]; simp)]
        have ek : t.length - r.length = k + 1 := by simp at hsl; omega
        rw [er]
        simp only [ek]
        rw [hp] at hIs
        simp only [Bool.false_eq_true, if_false] at hIs
        refine good [] [(4, OT.o 0 (OT.o 1 (OT.o 2 (OT.o 3 (OT.o 4 (OT.o 5 (OT.o 6 (OT.o 7 (OT.o 8 (OT.o 9 (OT.o 10 ((OT.o 11 (OT.o 12 (OT.o 13 (OT.o 14 OT.e)))).f (OT.o 13 (OT.o 11 (OT.o 12 (OT.o 14 OT.e))))))))))))))))] Tryz.func162 rfl rfl Tryz.ntmps162 (by kernel_rfl) mixed (by kernel_rfl) ?_
        simp -dsimp only [go_sem, ho, rd, hlt, hl, n0, n1, n2, hb]
        refine call_pure (hIn _) ?_
        simp -dsimp only [go_sem, ho, rd, hlt, hl, n0, n1, n2, hb, hdw, hk1]
        constructor
        · refine call_one (hIs _ (by simp -dsimp only [go_sem, hl]) (by simp -dsimp only [go_sem, rd, n0, n1, n2])) (by simp -dsimp only [go_sem]) (by simp -dsimp only [go_sem]) ?_
          simp -dsimp only [go_sem, rd, hl, n0, n1, n2]
          refine fin_one (by simp -dsimp only [go_sem]) ?_ ?_
          · simp -dsimp only [go_sem, Dct.cells_mk, List.map_nil, n0, n1, n2, hl]
          · simp -dsimp only [go_sem, rd, hl, n0, n1, n2]
        · refine call_one (hIs _ (by simp -dsimp only [go_sem, hl]) (by simp -dsimp only [go_sem, rd, n0, n1, n2])) (by simp -dsimp only [go_sem]) (by simp -dsimp only [go_sem]) ?_
          simp -dsimp only [go_sem, rd, hl, n0, n1, n2]
          refine fin_one (by simp -dsimp only [go_sem]) ?_ ?_
          · simp -dsimp only [go_sem, Dct.cells_mk, List.map_nil, n0, n1, n2, hl]
          · simp -dsimp only [go_sem, rd, hl, n0, n1, n2]
      | true =>
        obtain ⟨r1, rfl⟩ := pfx_t hp
        have er : readDS (f + 1) (c :: 40 :: r1) = endDS (c.toNat - 48) (lpDS (readDS f) f [(readDS f r1).1] (readDS f r1).2.1 (readDS f r1).2.2) := by
          rw [readDS, if_pos hdig, if_pos hp]; rfl
        have hdr2 : t.drop (k + 1 + 1) = r1 := by rw [← List.drop_drop, hdr]; rfl
        have hsf1 : r1 <:+ t := hdr2 ▸ List.drop_suffix _ t
        have hk2 : k + 1 + 1 ≤ t.length := by simp at hsl; omega
        simp only [List.length_cons] at hrl
        rw [hp] at hIs
        simp only [if_true] at hIs
        have hN1 := fun (H : AH) h1 h2 => ih (l := l) (t := t) (k := k + 1 + 1) (s := r1) H h1 h2 hk2 hdr2 ht (by omega)
        rw [er]
        have hsf2 := readDS_suf f r1
        generalize readDS f r1 = x1 at hN1 hsf2 ⊢
        obtain ⟨p1, s1, b1⟩ := x1
        simp only at hN1 hsf2 ⊢
        have hs1l0 := hsf2.length_le
        have hs1f : s1.length < f := by omega
        have hs1t : s1 <:+ t := hsf2.trans hsf1
        have hs1l : [p1].length + s1.length ≤ t.length := by simp at hsl ⊢; omega
        obtain ⟨d, hd⟩ : ∃ d, c.toNat - 48 = d := ⟨_, rfl⟩
        rw [hd] at hdw ⊢
        generalize hY : lpDS (readDS f) f [p1] s1 b1 = Y
        refine good [] [(4, OT.o 0 (OT.o 1 (OT.o 2 (OT.o 3 (OT.o 4 (OT.o 5 (OT.o 6 (OT.o 7 (OT.o 8 (OT.o 9 (OT.o 10 ((OT.o 11 (OT.o 12 (OT.o 13 (OT.o 14 OT.e)))).f (OT.o 13 (OT.o 11 (OT.o 12 (OT.o 14 OT.e))))))))))))))))] Tryz.func162 rfl rfl Tryz.ntmps162 (by kernel_rfl) mixed (by kernel_rfl) ?_
        simp -dsimp only [go_sem, ho, rd, hlt, hl, n0, n1, n2, hb]
        refine call_pure (hIn _) ?_
        simp -dsimp only [go_sem, ho, rd, hlt, hl, n0, n1, n2, hb, hdw, hk1]
        constructor
        · refine call_one (hIs _ (by simp -dsimp only [go_sem, hl]) (by simp -dsimp only [go_sem, rd, n0, n1, n2])) (by simp -dsimp only [go_sem]) (by simp -dsimp only [go_sem]) ?_
          simp -dsimp only [go_sem, rd, hl, n0, n1, n2]
          refine call_one (hN1 _ (by simp -dsimp only [go_sem, hl]) (by simp -dsimp only [go_sem, rd, n0, n1, n2])) (by simp -dsimp only [go_sem]) (by simp -dsimp only [go_sem, hl, not_false_eq_true]) ?_
          simp -dsimp only [go_sem, rd, hl, n0, n1, n2, Dct.cells_len, Dct.cells_one]
          refine ⟨out_prS (by kernel_rfl), ?_⟩
          refine loop_ruleH [0, 1, 0] (fun (z : {z : Nat × List Dct × L8 × Bool // Y = lpDS (readDS f) z.1 z.2.1 z.2.2.1 z.2.2.2 ∧ z.2.2.1.length < z.1 ∧ z.2.2.1 <:+ t ∧ z.2.1.length + z.2.2.1.length ≤ t.length ∧ z.2.2.1.length < f}) H =>
              ([], ⟨h.n + 3, upd (upd (upd H.o l (.cells (rd t (t.length - z.1.2.2.1.length) z.1.2.2.2))) (h.n + 1) (.rows 137 2 (z.1.2.1.map Dct.cells))) (h.n + 2) (.cells [.v (.int .i64 (d : Nat)), .so (h.n + 1) z.1.2.1.length z.1.2.1.length])⟩))
            (fun z => z.1.1) ⟨(f, [p1], s1, b1), hY.symm, hs1f, hs1t, hs1l, hs1f⟩ ?_ ?_
          · refine weak_objs [l, h.n, h.n + 1, h.n + 2] (by simp -dsimp only [go_sem]) (Nat.le_refl _) (by simp -dsimp only [go_sem, hl]) ?_ ?_ ?_
            · intro x h1 h2; simp at h2; simp -dsimp only [go_sem, h1, h2]
            · intro x h1 h2; have h1 : x < h.n + 3 := h1; simp at h2 ⊢; omega
            · simp -dsimp only [go_sem, hl, rd, List.map_cons, List.map_nil, List.length_cons, List.length_nil]
          · rintro ⟨⟨m, ps, s, b⟩, hz, hsm, hst, hpl, hsF⟩
            have hz : Y = lpDS (readDS f) m ps s b := hz
            have hsm : s.length < m := hsm
            have hst : s <:+ t := hst
            have hpl : ps.length + s.length ≤ t.length := hpl
            have hsF : s.length < f := hsF
            clear hY
            have hstl := hst.length_le
            obtain ⟨m, rfl⟩ : ∃ m', m = m' + 1 := ⟨m - 1, by omega⟩
            have e6 : (ps.length + 1) * 32 ≤ 140737488355328 := by omega
            have hcellz := Dct.cells_mk d ps
            cases b with
            | true =>
              rw [lpDS_bad] at hz
              subst hz
              simp -dsimp only [go_sem, hl, rd, n0, n1, n2]
              refine fin_one (by simp -dsimp only [go_sem]) ?_ ?_
              · simp -dsimp only [go_sem, hl, endDS, hcellz, n0, n1, n2, List.length_map]
              · simp -dsimp only [go_sem, hl, rd, endDS, Bool.true_or, Bool.true_eq_false, false_and, if_false]
            | false =>
              have hk3 : t.length - s.length ≤ t.length := Nat.sub_le _ _
              have hI4 := fun (H : AH) h1 h2 => s_l6is (l := l) (t := t) (k := t.length - s.length) (bad := false) 44 H h1 h2 hk3 (by omega)
              rw [suf_drop hst] at hI4
              obtain ⟨b44, h44⟩ : ∃ b, pfx s 44 = b := ⟨_, rfl⟩
              rw [h44] at hI4
              cases b44 with
              | true =>
                obtain ⟨s2, rfl⟩ := pfx_t h44
                have hz2 : Y = lpDS (readDS f) m (ps ++ [(readDS f s2).1]) (readDS f s2).2.1 (readDS f s2).2.2 := by
                  rw [hz, lpDS, if_pos ⟨rfl, h44⟩]; rfl
                clear hz
                have hat := suf_at hst
                have hst2 : s2 <:+ t := (List.suffix_cons 44 s2).trans hst
                have hsf2 := (readDS_suf f s2)
                simp only [List.length_cons] at hsm hpl hsF
                have hN2 := fun (H : AH) h1 h2 => ih (l := l) (t := t) (k := t.length - s2.length) (s := s2) H h1 h2 (Nat.sub_le _ _) (suf_drop hst2) ht (by omega)
                simp only [if_true, ← hat] at hI4
                generalize readDS f s2 = x2 at hN2 hz2 hsf2
                obtain ⟨p2, s3, b3⟩ := x2
                simp only at hN2 hz2 hsf2
                have hs3l := hsf2.length_le
                simp -dsimp only [go_sem, hl, rd, n0, n1, n2]
                refine call_one (hI4 _ (by simp -dsimp only [go_sem, hl]) (by simp -dsimp only [go_sem, rd, n0, n1, n2])) (by simp -dsimp only [go_sem]) (by simp -dsimp only [go_sem]) ?_
                simp -dsimp only [go_sem, hl, rd, n0, n1, n2]
                refine call_one (hN2 _ (by simp -dsimp only [go_sem, hl]) (by simp -dsimp only [go_sem, rd, n0, n1, n2])) (by simp -dsimp only [go_sem]) (by simp -dsimp only [go_sem, hl, not_false_eq_true]) ?_
                simp -dsimp only [go_sem, hl, rd, n0, n1, n2, Dct.cells_len, Dct.cells_one, e6, List.length_map]
                refine ⟨out_prS (by kernel_rfl), ?_⟩
                refine round_to ⟨(m, ps ++ [p2], s3, b3), hz2, by show s3.length < m; omega, hsf2.trans hst2, by show (ps ++ [p2]).length + s3.length ≤ t.length; simp; omega, by show s3.length < f; omega⟩ (by show m < m + 1; omega) ?_
                refine weak_objs [l, h.n, h.n + 1, h.n + 2] (by simp -dsimp only [go_sem]) (Nat.le_refl _) (by simp -dsimp only [go_sem, hl]) ?_ ?_ ?_
                · intro x h1 h2; simp at h2; simp -dsimp only [go_sem, h1, h2]
                · intro x h1 h2; have h1 : x < h.n + 3 := h1; simp at h2 ⊢; omega
                · simp -dsimp only [go_sem, hl, rd, List.map_append, List.map_cons, List.map_nil, List.length_append, List.length_cons, List.length_nil]
              | false =>
                have hz2 : Y = (ps, s, false) := by
                  rw [hz, lpDS, if_neg (fun x => by rw [h44] at x; exact absurd x.2 (by simp))]
                clear hz
                subst hz2
                simp only [Bool.false_eq_true, if_false] at hI4
                have hI5 := fun (H : AH) h1 h2 => s_l6is (l := l) (t := t) (k := t.length - s.length) (bad := false) 41 H h1 h2 hk3 (by omega)
                rw [suf_drop hst] at hI5
                obtain ⟨b41, h41⟩ : ∃ b, pfx s 41 = b := ⟨_, rfl⟩
                rw [h41] at hI5
                simp -dsimp only [go_sem, hl, rd, n0, n1, n2]
                refine call_one (hI4 _ (by simp -dsimp only [go_sem, hl]) (by simp -dsimp only [go_sem, rd, n0, n1, n2])) (by simp -dsimp only [go_sem]) (by simp -dsimp only [go_sem]) ?_
                simp -dsimp only [go_sem, hl, rd, n0, n1, n2]
                refine call_one (hI5 _ (by simp -dsimp only [go_sem, hl]) (by simp -dsimp only [go_sem, rd, n0, n1, n2])) (by simp -dsimp only [go_sem]) (by simp -dsimp only [go_sem]) ?_
                cases b41 with
                | true =>
                  obtain ⟨s2, rfl⟩ := pfx_t h41
                  have hat := suf_at hst
                  by_cases h3 : 3 < ps.length
                  · have h3' : (3 : Int) < ((ps.length : Nat) : Int) := by omega
                    simp -dsimp only [go_sem, hl, rd, n0, n1, n2, h3', List.length_map]
                    refine fin_one (by simp -dsimp only [go_sem]) ?_ ?_
                    · simp -dsimp only [go_sem, hl, endDS, hcellz, n0, n1, n2, List.length_map]
                    · simp -dsimp only [go_sem, hl, rd, endDS, h41, h3, hat, List.tail_cons, and_self, if_true, decide_true, Bool.or_true]
                  · have h3' : ¬ (3 : Int) < ((ps.length : Nat) : Int) := by omega
                    simp -dsimp only [go_sem, hl, rd, n0, n1, n2, h3', List.length_map]
                    refine fin_one (by simp -dsimp only [go_sem]) ?_ ?_
                    · simp -dsimp only [go_sem, hl, endDS, hcellz, n0, n1, n2, List.length_map]
                    · simp -dsimp only [go_sem, hl, rd, endDS, h41, h3, hat, List.tail_cons, and_self, if_true, decide_false, Bool.or_false, Bool.not_true]
                | false =>
                  simp -dsimp only [go_sem, hl, rd, n0, n1, n2, List.length_map]
                  refine fin_one (by simp -dsimp only [go_sem]) ?_ ?_
                  · simp -dsimp only [go_sem, hl, endDS, hcellz, n0, n1, n2, List.length_map]
                  · simp -dsimp only [go_sem, hl, rd, endDS, h41, Bool.false_eq_true, and_false, if_false, Bool.not_false, Bool.true_or, Bool.or_true]
        · refine call_one (hIs _ (by simp -dsimp only [go_sem, hl]) (by simp -dsimp only [go_sem, rd, n0, n1, n2])) (by simp -dsimp only [go_sem]) (by simp -dsimp only [go_sem]) ?_
          simp -dsimp only [go_sem, rd, hl, n0, n1, n2]
          refine call_one (hN1 _ (by simp -dsimp only [go_sem, hl]) (by simp -dsimp only [go_sem, rd, n0, n1, n2])) (by simp -dsimp only [go_sem]) (by simp -dsimp only [go_sem, hl, not_false_eq_true]) ?_
          simp -dsimp only [go_sem, rd, hl, n0, n1, n2, Dct.cells_len, Dct.cells_one]
          refine ⟨out_prS (by kernel_rfl), ?_⟩
          refine loop_ruleH [0, 1, 0] (fun (z : {z : Nat × List Dct × L8 × Bool // Y = lpDS (readDS f) z.1 z.2.1 z.2.2.1 z.2.2.2 ∧ z.2.2.1.length < z.1 ∧ z.2.2.1 <:+ t ∧ z.2.1.length + z.2.2.1.length ≤ t.length ∧ z.2.2.1.length < f}) H =>
              ([], ⟨h.n + 3, upd (upd (upd H.o l (.cells (rd t (t.length - z.1.2.2.1.length) z.1.2.2.2))) (h.n + 2) (.rows 137 2 (z.1.2.1.map Dct.cells))) (h.n + 1) (.cells [.v (.int .i64 (d : Nat)), .so (h.n + 2) z.1.2.1.length z.1.2.1.length])⟩))
            (fun z => z.1.1) ⟨(f, [p1], s1, b1), hY.symm, hs1f, hs1t, hs1l, hs1f⟩ ?_ ?_
          · refine weak_objs [l, h.n, h.n + 1, h.n + 2] (by simp -dsimp only [go_sem]) (Nat.le_refl _) (by simp -dsimp only [go_sem, hl]) ?_ ?_ ?_
            · intro x h1 h2; simp at h2; simp -dsimp only [go_sem, h1, h2]
            · intro x h1 h2; have h1 : x < h.n + 3 := h1; simp at h2 ⊢; omega
            · simp -dsimp only [go_sem, hl, rd, List.map_cons, List.map_nil, List.length_cons, List.length_nil]
          · rintro ⟨⟨m, ps, s, b⟩, hz, hsm, hst, hpl, hsF⟩
            have hz : Y = lpDS (readDS f) m ps s b := hz
            have hsm : s.length < m := hsm
            have hst : s <:+ t := hst
            have hpl : ps.length + s.length ≤ t.length := hpl
            have hsF : s.length < f := hsF
            clear hY
            have hstl := hst.length_le
            obtain ⟨m, rfl⟩ : ∃ m', m = m' + 1 := ⟨m - 1, by omega⟩
            have e6 : (ps.length + 1) * 32 ≤ 140737488355328 := by omega
            have hcellz := Dct.cells_mk d ps
            cases b with
            | true =>
              rw [lpDS_bad] at hz
              subst hz
              simp -dsimp only [go_sem, hl, rd, n0, n1, n2]
              refine fin_one (by simp -dsimp only [go_sem]) ?_ ?_
              · simp -dsimp only [go_sem, hl, endDS, hcellz, n0, n1, n2, List.length_map]
              · simp -dsimp only [go_sem, hl, rd, endDS, Bool.true_or, Bool.true_eq_false, false_and, if_false]
            | false =>
              have hk3 : t.length - s.length ≤ t.length := Nat.sub_le _ _
              have hI4 := fun (H : AH) h1 h2 => s_l6is (l := l) (t := t) (k := t.length - s.length) (bad := false) 44 H h1 h2 hk3 (by omega)
              rw [suf_drop hst] at hI4
              obtain ⟨b44, h44⟩ : ∃ b, pfx s 44 = b := ⟨_, rfl⟩
              rw [h44] at hI4
              cases b44 with
              | true =>
                obtain ⟨s2, rfl⟩ := pfx_t h44
                have hz2 : Y = lpDS (readDS f) m (ps ++ [(readDS f s2).1]) (readDS f s2).2.1 (readDS f s2).2.2 := by
                  rw [hz, lpDS, if_pos ⟨rfl, h44⟩]; rfl
                clear hz
                have hat := suf_at hst
                have hst2 : s2 <:+ t := (List.suffix_cons 44 s2).trans hst
                have hsf2 := (readDS_suf f s2)
                simp only [List.length_cons] at hsm hpl hsF
                have hN2 := fun (H : AH) h1 h2 => ih (l := l) (t := t) (k := t.length - s2.length) (s := s2) H h1 h2 (Nat.sub_le _ _) (suf_drop hst2) ht (by omega)
                simp only [if_true, ← hat] at hI4
                generalize readDS f s2 = x2 at hN2 hz2 hsf2
                obtain ⟨p2, s3, b3⟩ := x2
                simp only at hN2 hz2 hsf2
                have hs3l := hsf2.length_le
                simp -dsimp only [go_sem, hl, rd, n0, n1, n2]
                refine call_one (hI4 _ (by simp -dsimp only [go_sem, hl]) (by simp -dsimp only [go_sem, rd, n0, n1, n2])) (by simp -dsimp only [go_sem]) (by simp -dsimp only [go_sem]) ?_
                simp -dsimp only [go_sem, hl, rd, n0, n1, n2]
                refine call_one (hN2 _ (by simp -dsimp only [go_sem, hl]) (by simp -dsimp only [go_sem, rd, n0, n1, n2])) (by simp -dsimp only [go_sem]) (by simp -dsimp only [go_sem, hl, not_false_eq_true]) ?_
                simp -dsimp only [go_sem, hl, rd, n0, n1, n2, Dct.cells_len, Dct.cells_one, e6, List.length_map]
                refine ⟨out_prS (by kernel_rfl), ?_⟩
                refine round_to ⟨(m, ps ++ [p2], s3, b3), hz2, by show s3.length < m; omega, hsf2.trans hst2, by show (ps ++ [p2]).length + s3.length ≤ t.length; simp; omega, by show s3.length < f; omega⟩ (by show m < m + 1; omega) ?_
                refine weak_objs [l, h.n, h.n + 1, h.n + 2] (by simp -dsimp only [go_sem]) (Nat.le_refl _) (by simp -dsimp only [go_sem, hl]) ?_ ?_ ?_
                · intro x h1 h2; simp at h2; simp -dsimp only [go_sem, h1, h2]
                · intro x h1 h2; have h1 : x < h.n + 3 := h1; simp at h2 ⊢; omega
                · simp -dsimp only [go_sem, hl, rd, List.map_append, List.map_cons, List.map_nil, List.length_append, List.length_cons, List.length_nil]
              | false =>
                have hz2 : Y = (ps, s, false) := by
                  rw [hz, lpDS, if_neg (fun x => by rw [h44] at x; exact absurd x.2 (by simp))]
                clear hz
                subst hz2
                simp only [Bool.false_eq_true, if_false] at hI4
                have hI5 := fun (H : AH) h1 h2 => s_l6is (l := l) (t := t) (k := t.length - s.length) (bad := false) 41 H h1 h2 hk3 (by omega)
                rw [suf_drop hst] at hI5
                obtain ⟨b41, h41⟩ : ∃ b, pfx s 41 = b := ⟨_, rfl⟩
                rw [h41] at hI5
                simp -dsimp only [go_sem, hl, rd, n0, n1, n2]
                refine call_one (hI4 _ (by simp -dsimp only [go_sem, hl]) (by simp -dsimp only [go_sem, rd, n0, n1, n2])) (by simp -dsimp only [go_sem]) (by simp -dsimp only [go_sem]) ?_
                simp -dsimp only [go_sem, hl, rd, n0, n1, n2]
                refine call_one (hI5 _ (by simp -dsimp only [go_sem, hl]) (by simp -dsimp only [go_sem, rd, n0, n1, n2])) (by simp -dsimp only [go_sem]) (by simp -dsimp only [go_sem]) ?_
                cases b41 with
                | true =>
                  obtain ⟨s2, rfl⟩ := pfx_t h41
                  have hat := suf_at hst
                  by_cases h3 : 3 < ps.length
                  · have h3' : (3 : Int) < ((ps.length : Nat) : Int) := by omega
                    simp -dsimp only [go_sem, hl, rd, n0, n1, n2, h3', List.length_map]
                    refine fin_one (by simp -dsimp only [go_sem]) ?_ ?_
                    · simp -dsimp only [go_sem, hl, endDS, hcellz, n0, n1, n2, List.length_map]
                    · simp -dsimp only [go_sem, hl, rd, endDS, h41, h3, hat, List.tail_cons, and_self, if_true, decide_true, Bool.or_true]
                  · have h3' : ¬ (3 : Int) < ((ps.length : Nat) : Int) := by omega
                    simp -dsimp only [go_sem, hl, rd, n0, n1, n2, h3', List.length_map]
                    refine fin_one (by simp -dsimp only [go_sem]) ?_ ?_
                    · simp -dsimp only [go_sem, hl, endDS, hcellz, n0, n1, n2, List.length_map]
                    · simp -dsimp only [go_sem, hl, rd, endDS, h41, h3, hat, List.tail_cons, and_self, if_true, decide_false, Bool.or_false, Bool.not_true]
                | false =>
                  simp -dsimp only [go_sem, hl, rd, n0, n1, n2, List.length_map]
                  refine fin_one (by simp -dsimp only [go_sem]) ?_ ?_
                  · simp -dsimp only [go_sem, hl, endDS, hcellz, n0, n1, n2, List.length_map]
                  · simp -dsimp only [go_sem, hl, rd, endDS, h41, Bool.false_eq_true, and_false, if_false, Bool.not_false, Bool.true_or, Bool.or_true]
theorem s_l6node : ∀ f, DNodeOk f
  | 0 => fun h _ _ _ _ _ hf => absurd hf (Nat.not_lt_zero _)
  | f + 1 => s_l6node_step (s_l6node f)
end Go.Proofs.YtiphcdmjlkngfaaGreatDoor

namespace Go.Isea
open Go
def zDct : List AV := [.v (.int .i64 0), .v (.slice none 0 0)]
def readDV (s : L8) : AV := match dictOf s with
  | some d => .tup [.agg d.cells, .v (.bool true)]
  | none => .tup [.agg zDct, .v (.bool false)]
end Go.Isea
namespace Go.Proofs.YtiphcdmjlkngfaaGreatDoor
open Go Go.Isea
set_option maxRecDepth 100000
set_option maxHeartbeats 8000000
theorem s_l6Read (s : L8) (h : AH) (hs : s.length ≤ 4611686018427387904) : Isea.Good Tryz.prog 99 [str s] h [] (readDV s) h := by
  have e := dictOf_readDS s
  by_cases hl : 1200 < s.length
  · rw [if_pos hl] at e
    have hl' : (1200 : Int) < (s.length : Nat) := by omega
    unfold readDV
    rw [e]
    refine good [12] [] Tryz.func99 rfl rfl Tryz.ntmps99 (by kernel_rfl) mixed (by kernel_rfl) ?_
    simp -dsimp only [go_sem, hl']
    exact fin_pure (by simp -dsimp only [go_sem]) (by simp -dsimp only [go_sem, zDct])
  · rw [if_neg hl] at e
    have hl' : ¬ (1200 : Int) < (s.length : Nat) := by omega
    have hsuf := (readDS_suf (s.length + 1) s).length_le
    have hN := fun H l (h1 : l < H.n) (h2 : H.o l = .cells (rd s 0 false)) => s_l6node (s.length + 1) (l := l) (t := s) (s := s) (k := 0) H h1 h2 (Nat.zero_le _) rfl (by omega) (Nat.lt_succ_self _)
    unfold readDV
    generalize readDS (s.length + 1) s = x at e hN hsuf
    obtain ⟨d, rest, bad⟩ := x
    simp only at e hN hsuf
    refine good [12] [] Tryz.func99 rfl rfl Tryz.ntmps99 (by kernel_rfl) mixed (by kernel_rfl) ?_
    simp -dsimp only [go_sem, hl']
    refine call_one (hN _ _ (by simp -dsimp only [go_sem]) (by simp -dsimp only [go_sem, rd])) (by simp -dsimp only [go_sem]) (by simp -dsimp only [go_sem]) ?_
    cases bad with
    | true =>
      rw [if_neg (by simp)] at e
      rw [e]
      simp -dsimp only [go_sem, rd]
      exact fin_pure (by simp -dsimp only [go_sem]) (by simp -dsimp only [go_sem, zDct])
    | false =>
      by_cases hr : rest = []
      · rw [if_pos ⟨rfl, hr⟩] at e
        rw [e]
        have hk : s.length - rest.length = s.length := by rw [hr]; rfl
        simp -dsimp only [go_sem, rd, hk]
        exact fin_pure (by simp -dsimp only [go_sem]) (by simp -dsimp only [go_sem, d.cells_ref])
      · rw [if_neg (fun x => hr x.2)] at e
        rw [e]
        have hrl : 0 < rest.length := List.length_pos_iff.2 hr
        have hk : ¬ s.length - rest.length = s.length := by omega
        simp -dsimp only [go_sem, rd, hk]
        exact fin_pure (by simp -dsimp only [go_sem]) (by simp -dsimp only [go_sem, zDct])
end Go.Proofs.YtiphcdmjlkngfaaGreatDoor

namespace Go.Proofs.YtiphcdmjlkngfaaGreatDoor
open Go Go.Isea
set_option maxRecDepth 100000
set_option maxHeartbeats 8000000
theorem s_l6Check_step {w : Wld} (hok : worldOk w = true) (hw : w.Sm) {i : Nat} {ps : List Dct} {n : Need} (hn : n.Sm) (ih : ∀ p ∈ ps, ∀ (m : Need) (h : AH), m.Sm → Isea.Good Tryz.prog 101 [.agg w.row, .agg m.row, .agg p.cells] h [] (str (chkD w p m)) h) (h : AH) :
    Isea.Good Tryz.prog 101 [.agg w.row, .agg n.row, .agg (Dct.mk i ps).cells] h [] (str (chkD w (.mk i ps) n)) h := by
  cases hx : w.is[i]? with
  | none =>
    have e : chkD w (.mk i ps) n = instanceW := by rw [chkD, hx]
    have hge : ((w.is.length : Nat) : Int) ≤ ((i : Nat) : Int) := by
      have := List.getElem?_eq_none_iff.1 hx; omega
    rw [e]
    refine good [] [] Tryz.func101 rfl rfl Tryz.ntmps101 (by kernel_rfl) mixed (by kernel_rfl) ?_
    simp -dsimp only [go_sem, Dct.cells_mk, Wld.row, Need.row, List.length_map, hge]
    exact fin_str (by simp -dsimp only [go_sem]) rfl
  | some x =>
    have hlt := (List.getElem?_eq_some_iff.1 hx).1
    have hge : ¬ ((w.is.length : Nat) : Int) ≤ ((i : Nat) : Int) := by omega
    have hxm := List.mem_of_getElem? hx
    have hxs := hw.i x hxm
    have hns : x.ns.length ≤ 1000 := by have := (world_inst hok hx).2.2.2.2.2.1; omega
    have hI := fun H => s_IsInstance x.t n.t H hxs.2.1 hn.2
    have hN := fun H => s_l4Needs x n.t H hxs hn.2 hns
    have hnk := fun ms (e : needsOf x n.t = some ms) => needs_ok hok hw hx e
    by_cases hc : x.c = n.c
    · cases hin : isInst x.t n.t with
      | false =>
        have e : chkD w (.mk i ps) n = formW := by rw [chkD, hx]; simp [hc, hin]
        rw [e]
        rw [hin] at hI
        refine good [] [] Tryz.func101 rfl rfl Tryz.ntmps101 (by kernel_rfl) mixed (by kernel_rfl) ?_
        simp -dsimp only [go_sem, Dct.cells_mk, Wld.row, Need.row, Inst.row, List.length_map, hge, hx, hc]
        refine call_pure (hI _) ?_
        simp -dsimp only [go_sem]
        exact fin_str (by simp -dsimp only [go_sem]) rfl
      | true =>
        rw [hin] at hI
        simp -dsimp only [Inst.row, hc] at hN
        cases hm : needsOf x n.t with
        | none =>
          have e : chkD w (.mk i ps) n = bigL := by rw [chkD, hx]; simp [hc, hin, hm]
          rw [e]
          rw [hm] at hN
          refine good [] [] Tryz.func101 rfl rfl Tryz.ntmps101 (by kernel_rfl) mixed (by kernel_rfl) ?_
          simp -dsimp only [go_sem, Dct.cells_mk, Wld.row, Need.row, Inst.row, List.length_map, hge, hx, hc]
          refine call_pure (hI _) ?_
          simp -dsimp only [go_sem, hc]
          refine call_pure (hN _) ?_
          simp -dsimp only [go_sem, needsV]
          exact fin_str (by simp -dsimp only [go_sem]) rfl
        | some ms =>
          obtain ⟨k1, k2⟩ := hnk ms hm
          rw [hm] at hN
          by_cases hl : ms.length = ps.length
          · have e : chkD w (.mk i ps) n = chkB w ps ms := by rw [chkD, hx]; simp [hc, hin, hm, hl]
            rw [e]
            refine good [] [] Tryz.func101 rfl rfl Tryz.ntmps101 (by kernel_rfl) mixed (by kernel_rfl) ?_
            simp -dsimp only [go_sem, Dct.cells_mk, Wld.row, Need.row, Inst.row, List.length_map, hge, hx, hc]
            refine call_pure (hI _) ?_
            simp -dsimp only [go_sem, hc]
            refine call_pure (hN _) ?_
            simp -dsimp only [go_sem, needsV, List.length_map, hl]
            generalize hT : chkB w ps ms = T
            refine loop_ruleH [3, 1, 49, 0] (fun (k : {k : Nat // k ≤ ps.length ∧ T = chkB w (ps.drop k) (ms.drop k)}) _ => ([(57, .v (.int .i64 (k.1 : Nat)))], h)) (fun k => ps.length - k.1) ⟨0, Nat.zero_le _, hT.symm⟩ ?_ ?_
            · exact weak_at rfl (by simp -dsimp only [go_sem]) (fun x hx => by simp -dsimp only [go_sem, hx]) (by simp -dsimp only [go_sem])
            · rintro ⟨k, hk, hinv⟩
              have hinv : T = chkB w (ps.drop k) (ms.drop k) := hinv
              clear hT
              have h1 : k + 1 ≤ 9223372036854775807 := by omega
              by_cases hkl : k < ps.length
              · obtain ⟨p, hp⟩ := get_some hkl
                obtain ⟨m, hmm⟩ := get_some (l := ms) (k := k) (by omega)
                have hmem := List.mem_of_getElem? hmm
                rw [drop_get hp, drop_get hmm, chkB] at hinv
                have hih := fun H => ih p (List.mem_of_getElem? hp) m H (k2 m hmem).1.2
                by_cases hokk : chkD w p m = okW
                · rw [if_pos hokk] at hinv
                  rw [hokk] at hih
                  simp -dsimp only [go_sem, hkl, hp, hmm, Wld.row, Need.row] at hih ⊢
                  refine call_pure (hih _) ?_
                  simp -dsimp only [go_sem, okW, h1]
                  exact round_to ⟨k + 1, hkl, hinv⟩ (by simp; omega) (weak_at rfl (by simp -dsimp only [go_sem]) (fun x hx => by simp -dsimp only [go_sem, hx]) (by simp -dsimp only [go_sem]))
                · rw [if_neg hokk] at hinv
                  have hokk' : ¬ chkD w p m = [111, 107] := hokk
                  simp -dsimp only [go_sem, hkl, hp, hmm, Wld.row, Need.row] at hih ⊢
                  refine call_pure (hih _) ?_
                  simp -dsimp only [go_sem, hokk', h1]
                  exact fin_str (by simp -dsimp only [go_sem]) hinv.symm
              · have hke : k = ps.length := by omega
                subst hke
                rw [List.drop_length, chkB] at hinv
                simp -dsimp only [go_sem, hkl]
                exact fin_str (by simp -dsimp only [go_sem]) hinv.symm
          · have e : chkD w (.mk i ps) n = partsW := by rw [chkD, hx]; simp [hc, hin, hm, hl]
            rw [e]
            refine good [] [] Tryz.func101 rfl rfl Tryz.ntmps101 (by kernel_rfl) mixed (by kernel_rfl) ?_
            simp -dsimp only [go_sem, Dct.cells_mk, Wld.row, Need.row, Inst.row, List.length_map, hge, hx, hc]
            refine call_pure (hI _) ?_
            simp -dsimp only [go_sem, hc]
            refine call_pure (hN _) ?_
            simp -dsimp only [go_sem, needsV, List.length_map, hl]
            exact fin_str (by simp -dsimp only [go_sem]) rfl
    · have e : chkD w (.mk i ps) n = classW := by rw [chkD, hx]; simp [hc]
      rw [e]
      refine good [] [] Tryz.func101 rfl rfl Tryz.ntmps101 (by kernel_rfl) mixed (by kernel_rfl) ?_
      simp -dsimp only [go_sem, Dct.cells_mk, Wld.row, Need.row, Inst.row, List.length_map, hge, hx, hc]
      exact fin_str (by simp -dsimp only [go_sem]) rfl
theorem s_l6Check {w : Wld} (hok : worldOk w = true) (hw : w.Sm) : ∀ (d : Dct) (n : Need) (h : AH), n.Sm → Isea.Good Tryz.prog 101 [.agg w.row, .agg n.row, .agg d.cells] h [] (str (chkD w d n)) h
  | .mk i ps, n, h, hn => s_l6Check_step hok hw hn (fun p hp m h hm => s_l6Check hok hw p m h hm) h
termination_by d => SizeOf.sizeOf d
decreasing_by
  have := List.sizeOf_lt_of_mem hp
  simp
  omega
theorem s_CheckDict (w : Wld) (n : Need) (s : L8) (h : AH) (hw : w.Sm) (hn : n.Sm) (hs : s.length ≤ 4611686018427387904) : Isea.Good Tryz.prog 39 [.agg w.row, .agg n.row, str s] h [] (str (checkDict w n s)) h := by
  have hV := fun H => s_NeedValid w n H hw hn
  have hC := fun d H (hok : worldOk w = true) => s_l6Check hok hw d n H hn
  refine good [] [] Tryz.func39 rfl rfl Tryz.ntmps39 (by kernel_rfl) mixed (by kernel_rfl) ?_
  simp -dsimp only [go_sem, Wld.row, Need.row] at hV hC ⊢
  refine call_pure (s_l6Read s _ hs) ?_
  unfold readDV checkDict
  cases hd : dictOf s with
  | none =>
    simp -dsimp only [go_sem, zDct]
    exact fin_str (by simp -dsimp only [go_sem]) rfl
  | some d =>
    simp -dsimp only [go_sem]
    refine call_pure (hV _) ?_
    cases hv : (worldOk w && needOk w n) with
    | false =>
      simp -dsimp only [go_sem]
      exact fin_str (by simp -dsimp only [go_sem]) rfl
    | true =>
      rw [Bool.and_eq_true] at hv
      simp -dsimp only [go_sem]
      refine call_pure (hC d _ hv.1) ?_
      simp -dsimp only [go_sem]
      exact fin_str (by simp -dsimp only [go_sem]) rfl
end Go.Proofs.YtiphcdmjlkngfaaGreatDoor
