/- Contracts of functions of this program, for all arguments that satisfy what each lemma asks for. -/
import Derived.Test.YtnocdggngfiebaaGreatDoorMe
import Derived.Test.YtnocdggngfiebaaGreatDoorMB
import Derived.Test.YtnocdggngfiebaaGreatDoorMz
import Derived.Test.YtnocdggngfiebaaGreatDoorMf
import Derived.Test.YtnocdggngfiebaaGreatDoorMj
set_option linter.all false
namespace Go.Isea
open Go
mutual
/-- a dictionary, as the cells that its pointer leads to -/
def Dct.pc : Dct → List AV
  | .mk i ps => [.v (.int .i64 (i : Nat)), .sl (pcB ps)]
def pcB : List Dct → List (List AV)
  | [] => []
  | p :: ps => [.ref p.pc 0] :: pcB ps
end
def pcRow (d : Dct) : List AV := [.ref d.pc 0]
theorem pcB_map : ∀ ps : List Dct, pcB ps = ps.map pcRow
  | [] => by rw [pcB]; rfl
  | p :: ps => by rw [pcB, pcB_map ps]; rfl
theorem Dct.pc_mk (i : Nat) (ps : List Dct) : (Dct.mk i ps).pc = [.v (.int .i64 (i : Nat)), .sl (ps.map pcRow)] := by rw [Dct.pc, pcB_map]
theorem Dct.pc_eq (d : Dct) : d.pc = [.v (.int .i64 (d.i : Nat)), .sl (d.ps.map pcRow)] := by cases d; exact Dct.pc_mk _ _
mutual
theorem Dct.pc_pu : ∀ d : Dct, PuL d.pc
  | .mk i ps => by
    have := pcB_pu ps
    simp -dsimp only [Dct.pc, go_sem, this]
theorem pcB_pu : ∀ ps : List Dct, PuR (pcB ps)
  | [] => by simp -dsimp only [pcB, go_sem]
  | p :: ps => by
    have := p.pc_pu
    have := pcB_pu ps
    simp -dsimp only [pcB, go_sem, *]
end
theorem pcRow_pu (d : Dct) : PuL (pcRow d) := by
  have := d.pc_pu
  simp -dsimp only [pcRow, go_sem, this]
@[go_sem] theorem puR_pc {ps : List Dct} : PuR (ps.map pcRow) = True := puR_map pcRow_pu
@[go_sem] theorem puL_pc {d : Dct} : PuL d.pc = True := by simp [d.pc_pu]
@[go_sem] theorem al_pc {l : List Dct} : AllLen 1 (l.map pcRow) = True := allLen_map fun _ => rfl
@[go_sem] theorem Dct.pc_len (d : Dct) : d.pc.length = 2 := by rw [d.pc_eq]; rfl
def dcO : Option Dct → AV
  | none => .v (.pointer none)
  | some d => .ref d.pc 0
def dSt (i n : Nat) (T : TypeId) (ps : List Dct) (s : L8) (H : AH) : List (Nat × AV) × AH := match ps with
  | [] => ([(0, str s)], ⟨H.n, upd H.o n (.cells [.v (.int .i64 (i : Nat)), .v (.slice none 0 0)])⟩)
  | p :: q => ([(0, str s)], ⟨H.n + 1, upd (upd H.o n (.cells [.v (.int .i64 (i : Nat)), .so (n + 1) (p :: q).length (p :: q).length])) (n + 1) (.rows T 1 ((p :: q).map pcRow))⟩)
theorem dSt_0 {i n : Nat} {T : TypeId} {s : L8} {H : AH} : dSt i n T [] s H = ([(0, str s)], ⟨H.n, upd H.o n (.cells [.v (.int .i64 (i : Nat)), .v (.slice none 0 0)])⟩) := rfl
theorem dSt_s {i n : Nat} {T : TypeId} {p : Dct} {q : List Dct} {s : L8} {H : AH} : dSt i n T (p :: q) s H = ([(0, str s)], ⟨H.n + 1, upd (upd H.o n (.cells [.v (.int .i64 (i : Nat)), .so (n + 1) (p :: q).length (p :: q).length])) (n + 1) (.rows T 1 ((p :: q).map pcRow))⟩) := rfl
end Go.Isea
namespace Go.Proofs.YtnocdggngfiebaaGreatDoor
open Go Go.Isea
set_option maxRecDepth 100000
set_option maxHeartbeats 8000000
def DReadOk (f : Nat) : Prop := ∀ (s : L8) (h : AH), s.length < f → s.length ≤ 1200 → Isea.Good Tryz.prog 240 [str s] h [] (.tup [dcO (readDI f s).1, str (readDI f s).2]) h
theorem i_readDict_step {f : Nat} (ih : DReadOk f) : DReadOk (f + 1) := by
  intro s h hl hm
  refine good [25] [] Tryz.func240 rfl rfl Tryz.ntmps240 (by kernel_rfl) mixed (by kernel_rfl) ?_
  cases s with
  | nil =>
    simp -dsimp only [go_sem]
    exact fin_pure (by simp -dsimp only [go_sem]) (by simp -dsimp only [go_sem, readDI, dcO])
  | cons c r =>
    have h1 : 1 ≤ r.length + 1 := by omega
    have h48 : (((c.toNat : Nat) : Int) < 48) = ¬ 48 ≤ c.toNat := by apply propext; omega
    have h57 : ((57 : Int) < ((c.toNat : Nat) : Int)) = ¬ c.toNat ≤ 57 := by apply propext; omega
    cases hdig : isDig c with
    | false =>
      have e : readDI (f + 1) (c :: r) = (none, c :: r) := by rw [readDI, if_neg (by rw [hdig]; simp)]
      rw [e]
      unfold isDig at hdig
      by_cases h4 : 48 ≤ c.toNat
      · have h5 : ¬ c.toNat ≤ 57 := fun x => by simp [h4, x] at hdig
        have h48' : ¬ (((c.toNat : Nat) : Int) < 48) := by omega
        have h57' : (57 : Int) < ((c.toNat : Nat) : Int) := by omega
        simp -dsimp only [go_sem, h1, h48', h57']
        exact fin_pure (by simp -dsimp only [go_sem]) (by simp -dsimp only [go_sem, dcO])
      · have h48' : (((c.toNat : Nat) : Int) < 48) := by omega
        simp -dsimp only [go_sem, h1, h48']
        exact fin_pure (by simp -dsimp only [go_sem]) (by simp -dsimp only [go_sem, dcO])
    | true =>
      have hd2 := hdig
      unfold isDig at hd2
      rw [Bool.and_eq_true, decide_eq_true_eq, decide_eq_true_eq] at hd2
      have h48' : ¬ (((c.toNat : Nat) : Int) < 48) := by omega
      have h57' : ¬ (57 : Int) < ((c.toNat : Nat) : Int) := by omega
      obtain ⟨d, hd⟩ : ∃ d, c.toNat - 48 = d := ⟨_, rfl⟩
      have hw1 : IntKind.u8.wrap (((c.toNat : Nat) : Int) - 48) = (d : Int) := by rw [wrap_u8] <;> omega
      have hw2 : IntKind.i64.wrap ((d : Nat) : Int) = ((d : Nat) : Int) := by rw [wrap_i64] <;> omega
      have hrl : r.length < f := by simp only [List.length_cons] at hl; omega
      have hrm : r.length ≤ 1200 := by simp only [List.length_cons] at hm; omega
      simp -dsimp only [go_sem, h1, h48', h57', hw1, hw2]
      refine call_pure (l_HasPrefix r 40 _) ?_
      cases hp : pfx r 40 with
      | false =>
        have e : readDI (f + 1) (c :: r) = (some (.mk d []), r) := by rw [readDI, if_pos hdig, if_neg (by rw [hp]; simp), hd]
        rw [e]
        simp -dsimp only [go_sem]
        exact fin_pure (by simp -dsimp only [go_sem]) (by simp -dsimp only [go_sem, dcO, Dct.pc_mk, List.map_nil])
      | true =>
        have e : readDI (f + 1) (c :: r) = finDI d (lpDI (readDI f) f [] r) := by rw [readDI, if_pos hdig, if_pos hp, hd]
        rw [e]
        simp -dsimp only [go_sem]
        generalize hT : lpDI (readDI f) f [] r = T
        refine loop_ruleH [4] (fun (x : {x : Nat × List Dct × L8 // T = lpDI (readDI f) x.1 x.2.1 x.2.2 ∧ x.2.2.length < x.1 ∧ x.2.1.length + x.2.2.length ≤ r.length ∧ (x.2.1 = [] → pfx x.2.2 40 = true)}) H => dSt d h.n 175 x.1.2.1 x.1.2.2 H) (fun x => x.1.1) ⟨(f, [], r), hT.symm, hrl, by simp, fun _ => hp⟩ ?_ ?_
        · rw [dSt_0]
          refine weak_objs [h.n] (by simp -dsimp only [go_sem]) (by simp -dsimp only [go_sem]) (by simp -dsimp only [go_sem]) ?_ ?_ ?_
          · intro x h1 h2; simp -dsimp only [go_sem, h1]
          · intro x h1 h2; have h1 : x < h.n + 1 := h1; simp at h2 ⊢; omega
          · simp -dsimp only [go_sem]
        · rintro ⟨⟨m, ps, s⟩, heq, hsm, hlen, hemp⟩
          have heq : T = lpDI (readDI f) m ps s := heq
          clear hT
          have hsm : s.length < m := hsm
          have hlen : ps.length + s.length ≤ r.length := hlen
          have hemp : ps = [] → pfx s 40 = true := hemp
          obtain ⟨m, rfl⟩ : ∃ m', m = m' + 1 := ⟨m - 1, by omega⟩
          have hps6 : (ps.length + 1) * 8 ≤ 140737488355328 := by omega
          cases ps with
          | nil =>
            have hp0 := hemp rfl
            obtain ⟨s1, rfl⟩ := pfx_t hp0
            have heq2 : T = match readDI f s1 with | (some p, r') => lpDI (readDI f) m ([] ++ [p]) r' | (none, _) => (none, 40 :: s1) := by
              rw [heq, lpDI, if_pos (by simp [pfx])]; rfl
            have h1' : 1 ≤ s1.length + 1 := by omega
            simp only [List.length_cons, List.length_nil] at hlen hsm
            have hrn := readDI_len f s1
            have H40 := fun H => l_HasPrefix (40 :: s1) 40 H
            rw [hp0] at H40
            simp -dsimp only [dSt_0, go_sem]
            refine call_pure (H40 _) ?_
            simp -dsimp only [go_sem, h1']
            refine call_pure (ih s1 _ (by omega) (by omega)) ?_
            cases hy : readDI f s1 with
            | mk o rest =>
              rw [hy] at heq2 hrn
              cases o with
              | none =>
                simp only at heq2
                subst heq2
                simp -dsimp only [go_sem, dcO]
                exact fin_pure (by simp -dsimp only [go_sem]) (by simp -dsimp only [go_sem, finDI, dcO])
              | some p =>
                simp only at heq2 hrn
                simp -dsimp only [go_sem, dcO]
                refine round_to ⟨(m, [] ++ [p], rest), heq2, by show rest.length < m; omega, by show 1 + rest.length ≤ r.length; omega, fun e => (by cases e)⟩ (by show m < m + 1; omega) ?_
                show Weak _ _ (atS _ _ (dSt d h.n _ (p :: []) rest _))
                rw [dSt_s]
                refine weak_objs [h.n, h.n + 1] (by simp -dsimp only [go_sem]) (by simp -dsimp only [go_sem]) (by simp -dsimp only [go_sem, List.length_cons, List.length_nil]) ?_ ?_ ?_
                · intro x h1 h2; simp -dsimp only [go_sem, h1]
                · intro x h1 h2; have h1 : x < h.n + 2 := h1; simp at h2 ⊢; omega
                · simp -dsimp only [go_sem, List.map_cons, List.map_nil, pcRow, Dct.pc_pu, List.length_cons, List.length_nil]
          | cons q qs =>
            have hne : ¬ (((q :: qs).length : Nat) : Int) = 0 := by simp; omega
            have hne0 : ¬ (q :: qs).length = 0 := by simp
            generalize hQ : q :: qs = ps at *
            have hdS : ∀ H, dSt d h.n 175 ps s H = ([(0, str s)], ⟨H.n + 1, upd (upd H.o h.n (.cells [.v (.int .i64 (d : Nat)), .so (h.n + 1) ps.length ps.length])) (h.n + 1) (.rows 175 1 (ps.map pcRow))⟩) := fun H => by rw [← hQ, dSt_s]
            cases hc : pfx s 44 with
            | true =>
              obtain ⟨s1, rfl⟩ := pfx_t hc
              have hno : pfx (44 :: s1) 40 = false := by simp [pfx]
              have heq2 : T = match readDI f s1 with | (some p, r') => lpDI (readDI f) m (ps ++ [p]) r' | (none, _) => (none, 44 :: s1) := by
                rw [heq, lpDI, if_pos (by simp [pfx])]; rfl
              have h1' : 1 ≤ s1.length + 1 := by omega
              simp only [List.length_cons] at hlen hsm
              have hrn := readDI_len f s1
              have H40 := fun H => l_HasPrefix (44 :: s1) 40 H
              have H44 := fun H => l_HasPrefix (44 :: s1) 44 H
              rw [hno] at H40
              rw [hc] at H44
              simp -dsimp only [hdS, go_sem]
              refine call_pure (H40 _) ?_
              simp -dsimp only [go_sem]
              refine call_pure (H44 _) ?_
              simp -dsimp only [go_sem, h1']
              refine call_pure (ih s1 _ (by omega) (by omega)) ?_
              cases hy : readDI f s1 with
              | mk o rest =>
                rw [hy] at heq2 hrn
                cases o with
                | none =>
                  simp only at heq2
                  subst heq2
                  simp -dsimp only [go_sem, dcO]
                  exact fin_pure (by simp -dsimp only [go_sem]) (by simp -dsimp only [go_sem, finDI, dcO])
                | some p =>
                  simp only at heq2 hrn
                  simp -dsimp only [go_sem, dcO, hps6, List.length_map]
                  have hdS2 : ∀ H, dSt d h.n 175 (ps ++ [p]) rest H = ([(0, str rest)], ⟨H.n + 1, upd (upd H.o h.n (.cells [.v (.int .i64 (d : Nat)), .so (h.n + 1) (ps.length + 1) (ps.length + 1)])) (h.n + 1) (.rows 175 1 (ps.map pcRow ++ [[.ref p.pc 0]]))⟩) := fun H => by
                    rw [← hQ, List.cons_append, dSt_s]
                    simp [pcRow]
                  refine round_to ⟨(m, ps ++ [p], rest), heq2, by show rest.length < m; omega, by show (ps ++ [p]).length + rest.length ≤ r.length; simp; omega, fun e => absurd e (by simp)⟩ (by show m < m + 1; omega) ?_
                  show Weak _ _ (atS _ _ (dSt d h.n _ (ps ++ [p]) rest _))
                  rw [hdS2]
                  refine weak_objs [h.n, h.n + 1] (by simp -dsimp only [go_sem]) (by simp -dsimp only [go_sem]) (by simp -dsimp only [go_sem]) ?_ ?_ ?_
                  · intro x h1 h2; simp -dsimp only [go_sem, h1]
                  · intro x h1 h2; have h1 : x < h.n + 2 := h1; simp at h2 ⊢; omega
                  · simp -dsimp only [go_sem, Dct.pc_pu]
            | false =>
              have heq2 : T = (some ps, s) := by
                rw [heq, lpDI, if_neg (by rw [hc]; simp [hne0])]
              have e41 : finDI d (some ps, s) = if pfx s 41 = true ∧ ps.length ≤ 3 then (some (.mk d ps), s.tail) else (none, s) := rfl
              subst heq2
              have H40 := fun H => l_HasPrefix s 40 H
              have H44 := fun H => l_HasPrefix s 44 H
              rw [hc] at H44
              obtain ⟨b40, h40⟩ : ∃ b, pfx s 40 = b := ⟨_, rfl⟩
              rw [h40] at H40
              cases b40 <;> (
                simp -dsimp only [hdS, go_sem]
                refine call_pure (H40 _) ?_
                simp -dsimp only [go_sem, hne]
                refine call_pure (H44 _) ?_
                simp -dsimp only [go_sem, hne]
                refine call_pure (l_HasPrefix s 41 _) ?_
                cases h41 : pfx s 41 with
                | false =>
                  simp -dsimp only [go_sem]
                  exact fin_pure (by simp -dsimp only [go_sem]) (by simp -dsimp only [go_sem, e41, h41, dcO, Bool.false_eq_true, false_and, if_false])
                | true =>
                  obtain ⟨s1, rfl⟩ := pfx_t h41
                  by_cases h3 : ps.length ≤ 3
                  · have h3' : ¬ (3 : Int) < ((ps.length : Nat) : Int) := by omega
                    have h1' : 1 ≤ s1.length + 1 := by omega
                    simp -dsimp only [go_sem, h3', h1']
                    exact fin_pure (by simp -dsimp only [go_sem]) (by simp -dsimp only [go_sem, e41, pfx, dcO, h3, Dct.pc_mk, List.length_map, and_self, if_true, List.tail_cons])
                  · have h3' : (3 : Int) < ((ps.length : Nat) : Int) := by omega
                    simp -dsimp only [go_sem, h3']
                    exact fin_pure (by simp -dsimp only [go_sem]) (by simp -dsimp only [go_sem, e41, dcO, h3, and_false, if_false]))
theorem i_readDict (s : L8) (h : AH) (hs : s.length ≤ 1200) : Isea.Good Tryz.prog 240 [str s] h [] (.tup [dcO (readDI (s.length + 1) s).1, str (readDI (s.length + 1) s).2]) h := by
  have : ∀ f, DReadOk f := by
    intro f
    induction f with
    | zero => intro s h hl; omega
    | succ f ih => exact i_readDict_step ih
  exact this (s.length + 1) s h (Nat.lt_succ_self _) hs
theorem i_dictOf (s : L8) (h : AH) (hs : s.length ≤ 4611686018427387904) : Isea.Good Tryz.prog 158 [str s] h [] (dcO (dictOf s)) h := by
  have e := dictOf_readDI s
  refine good [] [] Tryz.func158 rfl rfl Tryz.ntmps158 (by kernel_rfl) mixed (by kernel_rfl) ?_
  by_cases hl : 1200 < s.length
  · rw [if_pos hl] at e
    have hl' : (1200 : Int) < (s.length : Nat) := by omega
    rw [e]
    simp -dsimp only [go_sem, hl']
    exact fin_pure (Nat.le_refl _) (by simp -dsimp only [go_sem, dcO])
  · rw [if_neg hl] at e
    have hl' : ¬ (1200 : Int) < (s.length : Nat) := by omega
    simp -dsimp only [go_sem, hl']
    refine call_pure (i_readDict s _ (by omega)) ?_
    cases hy : readDI (s.length + 1) s with
    | mk o rest =>
      rw [hy] at e
      by_cases hr : rest = []
      · rw [if_pos hr] at e
        rw [e]
        cases o with
        | none =>
          simp -dsimp only [go_sem, hr, dcO]
          exact fin_pure (Nat.le_refl _) (by simp -dsimp only [go_sem])
        | some t =>
          simp -dsimp only [go_sem, hr, dcO]
          exact fin_pure (Nat.le_refl _) (by simp -dsimp only [go_sem, Dct.pc_pu])
      · rw [if_neg hr] at e
        rw [e]
        cases o <;> simp -dsimp only [go_sem, hr, dcO] <;> exact fin_pure (Nat.le_refl _) (by simp -dsimp only [go_sem])
theorem i_DictValid (s : L8) (h : AH) (hs : s.length ≤ 4611686018427387904) : Isea.Good Tryz.prog 122 [str s] h [] (.v (.bool (dictOf s).isSome)) h := by
  refine good [] [] Tryz.func122 rfl rfl Tryz.ntmps122 (by kernel_rfl) mixed (by kernel_rfl) ?_
  simp -dsimp only [go_sem]
  refine call_pure (i_dictOf s _ hs) ?_
  cases dictOf s <;> simp -dsimp only [go_sem, dcO] <;> exact fin_bool (Nat.le_refl _) rfl
def instD (s : L8) : Int := match dictOf s with
  | some d => (d.i : Nat)
  | none => -1
end Go.Proofs.YtnocdggngfiebaaGreatDoor

namespace Go.Isea
open Go
set_option maxRecDepth 100000
def partsD (s : L8) : List L8 := match dictOf s with
  | some d => d.ps.map Dct.text
  | none => []
/-- how many brackets lie within each other at most: what was most, what is open -/
def dpS : L8 → Int × Int → Int × Int
  | [], s => s
  | c :: r, s => dpS r (if c = 40 then (max s.1 (s.2 + 1), s.2 + 1) else if c = 41 then (s.1, s.2 - 1) else s)
theorem dpS_app (a b : L8) (s : Int × Int) : dpS (a ++ b) s = dpS b (dpS a s) := by
  induction a generalizing s with
  | nil => rfl
  | cons c a ih => exact ih _
theorem dig_par : ∀ k, k ≤ 9 → ¬ UInt8.ofNat (48 + k) = 40 ∧ ¬ UInt8.ofNat (48 + k) = 41 := by
  intro k hk
  have : ∀ k : _root_.Fin 10, ¬ UInt8.ofNat (48 + k.val) = 40 ∧ ¬ UInt8.ofNat (48 + k.val) = 41 := by decide
  exact this ⟨k, by omega⟩
theorem dp_dig {c : UInt8} (h1 : ¬ c = 40) (h2 : ¬ c = 41) (s : Int × Int) : dpS [c] s = s := by simp [dpS, h1, h2]
mutual
theorem dp_text : ∀ (d : Dct) (m o : Int), d.wf → dpS d.text (m, o) = (max m (if d.depth = 0 then m else o + (d.depth : Nat)), o)
  | .mk i ps, m, o, h => by
    have hp := dpart_wf h
    obtain ⟨d1, d2⟩ := dig_par i hp.1
    rw [Dct.depth]
    cases ps with
    | nil =>
      have e : (Dct.mk i []).text = [UInt8.ofNat (48 + i)] := by simp [Dct.text, textB, digitL]
      rw [e, dp_dig d1 d2, depthB, if_pos rfl]
      simp only [Prod.mk.injEq, and_true]
      omega
    | cons p ps =>
      have hB := dp_B (p :: ps) m (o + 1) (wfB_iff.2 hp.2.2)
      have e : (Dct.mk i (p :: ps)).text = [UInt8.ofNat (48 + i)] ++ (textB 0 (p :: ps) ++ [41]) := by simp [Dct.text, digitL]
      have e0 : textB 0 (p :: ps) = [40] ++ (p.text ++ textB 1 ps) := by simp [textB, sep]
      have e1 : textB 1 (p :: ps) = [44] ++ (p.text ++ textB 1 ps) := by
        have : textB 2 ps = textB 1 ps := textB_same ps 2 1 (by decide) (by decide)
        simp [textB, sep, this]
      have h40 : dpS [40] (m, o) = (max m (o + 1), o + 1) := by simp [dpS]
      have h44 : ∀ s, dpS [44] s = s := fun s => by simp [dpS]
      have hdig : dpS [UInt8.ofNat (48 + i)] (m, o) = (m, o) := dp_dig d1 d2 _
      rw [e1, dpS_app, h44] at hB
      rw [e, dpS_app, hdig, dpS_app, e0, dpS_app, h40, hB]
      have hpos : 1 ≤ depthB (p :: ps) := by rw [depthB]; omega
      rw [if_neg (by omega)]
      show dpS [41] _ = _
      simp only [dpS]
      rw [if_neg (by decide), if_pos trivial]
      simp only [Prod.mk.injEq]
      constructor
      · omega
      · omega
theorem dp_B : ∀ (ps : List Dct) (m o : Int), wfB ps → dpS (textB 1 ps) (max m o, o) = (max (max m o) (o + (depthB ps : Nat) - 1), o)
  | [], m, o, _ => by
    rw [textB, depthB]
    show (max m o, o) = _
    simp only [Prod.mk.injEq, and_true]
    omega
  | p :: ps, m, o, h => by
    rw [wfB] at h
    have h1 := dp_text p (max m o) o h.1
    have h2 : textB 2 ps = textB 1 ps := textB_same ps 2 1 (by decide) (by decide)
    have e : textB 1 (p :: ps) = [44] ++ (p.text ++ textB 1 ps) := by simp [textB, sep, h2]
    have h44 : ∀ s, dpS [44] s = s := fun s => by simp [dpS]
    rw [e, dpS_app, h44, dpS_app, h1, depthB]
    have e3 : (max (max m o) (if p.depth = 0 then max m o else o + (p.depth : Nat))) = max (max m (o + (p.depth : Nat))) o := by
      by_cases hz : p.depth = 0
      · rw [if_pos hz, hz]; omega
      · rw [if_neg hz]; omega
    rw [e3, dp_B ps (max m (o + (p.depth : Nat))) o h.2]
    simp only [Prod.mk.injEq, and_true]
    omega
end
theorem dp_zero {d : Dct} (h : d.wf) : (dpS d.text (0, 0)).1 = (d.depth : Nat) := by
  rw [dp_text d 0 0 h]
  simp only
  split <;> omega
theorem dp_rng : ∀ (a : L8) (k : Nat) (m o : Int), -(k : Int) ≤ o → o ≤ k → 0 ≤ m → m ≤ k → -((k + a.length : Nat) : Int) ≤ (dpS a (m, o)).2 ∧ (dpS a (m, o)).2 ≤ ((k + a.length : Nat) : Int) ∧ 0 ≤ (dpS a (m, o)).1 ∧ (dpS a (m, o)).1 ≤ ((k + a.length : Nat) : Int)
  | [], k, m, o, h1, h2, h3, h4 => ⟨h1, h2, h3, h4⟩
  | c :: a, k, m, o, h1, h2, h3, h4 => by
    have e : k + (c :: a).length = k + 1 + a.length := by simp; omega
    rw [e, dpS]
    split
    · exact dp_rng a (k + 1) _ _ (by push_cast; omega) (by push_cast; omega) (by omega) (by push_cast; omega)
    · split
      · exact dp_rng a (k + 1) _ _ (by push_cast; omega) (by push_cast; omega) (by omega) (by push_cast; omega)
      · exact dp_rng a (k + 1) _ _ (by push_cast; omega) (by push_cast; omega) (by omega) (by push_cast; omega)
theorem dp_take {s : L8} {k : Nat} {c : UInt8} (h : s[k]? = some c) (x : Int × Int) : dpS (s.take (k + 1)) x = dpS [c] (dpS (s.take k) x) := by
  obtain ⟨hl, e⟩ := List.getElem?_eq_some_iff.1 h
  rw [List.take_succ_eq_append_getElem hl, e, dpS_app]
def sizeD (s : L8) : Int := match dictOf s with
  | some d => (d.size : Nat)
  | none => -1
def depthD (s : L8) : Int := match dictOf s with
  | some d => (d.depth : Nat)
  | none => -1
end Go.Isea

namespace Go.Proofs.YtnocdggngfiebaaGreatDoor
open Go Go.Isea
set_option maxRecDepth 100000
set_option maxHeartbeats 8000000
end Go.Proofs.YtnocdggngfiebaaGreatDoor

namespace Go.Proofs.YtnocdggngfiebaaGreatDoor
open Go Go.Isea
set_option maxRecDepth 100000
set_option maxHeartbeats 8000000
end Go.Proofs.YtnocdggngfiebaaGreatDoor
