/- Contracts of functions of this program, for all arguments that satisfy what each lemma asks for. -/
import Derived.Test.YtiphcdmjlkngfaaGreatDoorMv
import Derived.Test.YtiphcdmjlkngfaaGreatDoorMx
import Derived.Test.YtiphcdmjlkngfaaGreatDoorMe
import Derived.Lib.Join
set_option linter.all false
namespace Go.Isea
open Go
theorem joinB_tail : ∀ (k : Nat) (r : List L8), joinB (k + 1) r = Lib.joinTail [44] r
  | _, [] => rfl
  | k, p :: r => by
    show [sep (k + 1)] ++ p ++ joinB (k + 1 + 1) r = _
    rw [joinB_tail (k + 1) r]
    show [44] ++ p ++ Lib.joinTail [44] r = (((p :: r).map ([44] ++ ·)).flatten)
    simp [Lib.joinTail]
theorem joinB_join (p : L8) (r : List L8) : joinB 0 (p :: r) = [40] ++ Lib.join (p :: r) [44] := by
  show [sep 0] ++ p ++ joinB (0 + 1) r = _
  rw [joinB_tail, Lib.join_cons]
  show [40] ++ p ++ _ = [40] ++ (p ++ _)
  simp
/-- the entries that tell something, as the program keeps them -/
def mapI (S : TbL) : List (AV × AV) := S.filterMap fun e => e.2.map fun l => (str (Isea.keyL e.1.1 e.1.2), .sl (l.map sRow))
theorem mapI_app (S R : TbL) : mapI (S ++ R) = mapI S ++ mapI R := List.filterMap_append
theorem mapI_none (S : TbL) (n : Need) (d : Nat) : mapI (S ++ [((n, d), none)]) = mapI S := by rw [mapI_app]; simp [mapI]
theorem mapI_some (S : TbL) (n : Need) (d : Nat) (l : List L8) : mapI (S ++ [((n, d), some l)]) = mapI S ++ [(str (Isea.keyL n d), .sl (l.map sRow))] := by rw [mapI_app]; rfl
/-- all entries tell something -/
def AllS (S : TbL) : Prop := ∀ e ∈ S, e.2.isSome = true
theorem AllS.nil : AllS [] := fun e h => by cases h
theorem mfind_mapI {n : Need} {d : Nat} : ∀ {S : TbL}, AllS S → (∀ e ∈ S, Isea.keyL e.1.1 e.1.2 = Isea.keyL n d ↔ e.1 = (n, d)) →
    mfind (mapI S) (bs (Isea.keyL n d)) = some ((tbF S n d).map fun r => AV.sl ((r.getD []).map sRow))
  | [], _, _ => rfl
  | ((m, e), r) :: es, hs, hk => by
    have h1 := hs _ (List.mem_cons_self ..)
    have h2 := hk _ (List.mem_cons_self ..)
    obtain ⟨l, rfl⟩ := Option.isSome_iff_exists.1 h1
    have ih := mfind_mapI (S := es) (fun x hx => hs x (List.mem_cons_of_mem _ hx)) (fun x hx => hk x (List.mem_cons_of_mem _ hx))
    show (if bs (Isea.keyL m e) = bs (Isea.keyL n d) then some (some (AV.sl (l.map sRow))) else mfind (mapI es) (bs (Isea.keyL n d))) = _
    unfold tbF
    by_cases hc : (m, e) = (n, d)
    · rw [if_pos (by rw [h2.2 hc]), if_pos hc]; rfl
    · rw [if_neg (fun hh => hc (h2.1 (bs_inj hh))), if_neg hc, ih]
theorem mput_mapI {n : Need} {d : Nat} {x : AV} : ∀ {S : TbL}, AllS S → (∀ e ∈ S, Isea.keyL e.1.1 e.1.2 = Isea.keyL n d ↔ e.1 = (n, d)) → tbF S n d = none →
    mput (mapI S) (bs (Isea.keyL n d)) x = mapI S ++ [(.v (.string (bs (Isea.keyL n d))), x)]
  | [], _, _, _ => rfl
  | ((m, e), r) :: es, hs, hk, hf => by
    have h1 := hs _ (List.mem_cons_self ..)
    have h2 := hk _ (List.mem_cons_self ..)
    obtain ⟨l, rfl⟩ := Option.isSome_iff_exists.1 h1
    unfold tbF at hf
    split at hf
    · cases hf
    · rename_i hc
      have ih := mput_mapI (x := x) (S := es) (fun y hy => hs y (List.mem_cons_of_mem _ hy)) (fun y hy => hk y (List.mem_cons_of_mem _ hy)) hf
      show (if bs (Isea.keyL m e) = bs (Isea.keyL n d) then (.v (.string (bs (Isea.keyL n d))), x) :: mapI es else (str (Isea.keyL m e), AV.sl (l.map sRow)) :: mput (mapI es) (bs (Isea.keyL n d)) x) = _
      rw [if_neg (fun hh => hc (h2.1 (bs_inj hh))), ih]
      rfl
/-- a table all of whose entries tell something stays so where a list is told -/
def FdS (fd : FdT) : Prop := ∀ n S, AllS S → (fd n S).1.isSome = true → AllS (fd n S).2
section
variable {w : Wld} {fd : FdT}
theorem partsT_S (h : FdS fd) : ∀ (ms : List Need) (rows : List (List L8)) (S : TbL), AllS S → (partsT fd ms rows S).1.isSome = true → AllS (partsT fd ms rows S).2
  | [], rows, S, hS, _ => hS
  | m :: ms, rows, S, hS, hr => by
    rcases opt_cases (fd m S).1 with e | ⟨parts, e⟩
    · rw [partsT_bad e] at hr; cases hr
    · by_cases hl : (crossL rows parts).length ≤ 60
      · rw [partsT_one e hl] at hr ⊢
        exact partsT_S h ms _ _ (h m S hS (by rw [e]; rfl)) hr
      · rw [partsT_many e hl] at hr; cases hr
theorem addT_S (h : FdS fd) {d i : Nat} {n : Need} {S : TbL} (hS : AllS S) (hr : (addT w fd d n i S).1.isSome = true) : AllS (addT w fd d n i S).2 := by
  rcases opt_cases (w.is[i]?) with e | ⟨x, e⟩
  · have : addT w fd d n i S = (some [], S) := by rw [addT, e]
    rw [this]; exact hS
  · rcases opt_cases (needsOf x n.t) with e2 | ⟨ms, e2⟩
    · rw [addT_no e e2]; exact hS
    · by_cases hc : 0 < ms.length ∧ d = 0
      · rw [addT_low e e2 hc]; exact hS
      · rw [addT_rows e e2 hc] at hr ⊢
        refine partsT_S h ms _ _ hS ?_
        rcases opt_cases (partsT fd ms [[]] S).1 with e3 | ⟨rows, e3⟩
        · rw [e3] at hr; cases hr
        · rw [e3]; rfl
theorem candT_S (h : FdS fd) {d : Nat} {n : Need} : ∀ (is : List Nat) (out : List L8) (S : TbL), AllS S → (candT w fd d n is out S).1.isSome = true → AllS (candT w fd d n is out S).2
  | [], out, S, hS, _ => hS
  | i :: is, out, S, hS, hr => by
    rcases opt_cases (addT w fd d n i S).1 with e | ⟨l, e⟩
    · rw [candT_bad (S' := (addT w fd d n i S).2) (Prod.ext e rfl)] at hr; cases hr
    · have hA := addT_S (w := w) h (d := d) (i := i) (n := n) hS (by rw [e]; rfl)
      by_cases hl : (out ++ l).length ≤ 60
      · rw [candT_more (S' := (addT w fd d n i S).2) (Prod.ext e rfl) hl] at hr ⊢
        exact candT_S h is _ _ hA hr
      · rw [candT_many (S' := (addT w fd d n i S).2) (Prod.ext e rfl) hl] at hr; cases hr
end
theorem subT_S {w : Wld} : ∀ d, FdS (subT w d)
  | 0 => fun n S hS _ => hS
  | d + 1 => fun n S hS hr => by
    have ih := subT_S (w := w) d
    have hr : (keepT n d S (candT w (subT w d) d n (candIx w n) [] S)).1.isSome = true := hr
    show AllS (keepT n d S (candT w (subT w d) d n (candIx w n) [] S)).2
    have hC := candT_S (w := w) ih (d := d) (n := n) (candIx w n) [] S hS
    unfold keepT at hr ⊢
    rcases opt_cases (tbF S n d) with ha | ⟨a, ha⟩
    · rw [ha] at hr ⊢
      intro x hx
      rcases List.mem_append.1 hx with hx | hx
      · exact hC hr x hx
      · rw [List.mem_singleton.1 hx]; exact hr
    · rw [ha]; exact hS
/-- what is added is of less depth -/
def FdLow (fd : FdT) (d : Nat) : Prop := ∀ n S, ∃ R, (fd n S).2 = S ++ R ∧ ∀ e ∈ R, e.1.2 < d
section
variable {w : Wld} {fd : FdT} {b : Nat}
theorem partsT_low (h : FdLow fd b) : ∀ (ms : List Need) (rows : List (List L8)) (S : TbL), ∃ R, (partsT fd ms rows S).2 = S ++ R ∧ ∀ e ∈ R, e.1.2 < b
  | [], rows, S => ⟨[], by simp [partsT], fun e he => by cases he⟩
  | m :: ms, rows, S => by
    obtain ⟨R, hR, hl⟩ := h m S
    rcases opt_cases (fd m S).1 with e | ⟨parts, e⟩
    · rw [partsT_bad e]; exact ⟨R, hR, hl⟩
    · by_cases h60 : (crossL rows parts).length ≤ 60
      · rw [partsT_one e h60]
        obtain ⟨R2, h2, hl2⟩ := partsT_low h ms (crossL rows parts) (fd m S).2
        exact ⟨R ++ R2, by rw [h2, hR, List.append_assoc], fun x hx => (List.mem_append.1 hx).elim (hl x) (hl2 x)⟩
      · rw [partsT_many e h60]; exact ⟨R, hR, hl⟩
theorem addT_low2 (h : FdLow fd b) {d i : Nat} {n : Need} {S : TbL} : ∃ R, (addT w fd d n i S).2 = S ++ R ∧ ∀ e ∈ R, e.1.2 < b := by
  have h0 : ∃ R, S = S ++ R ∧ ∀ e ∈ R, e.1.2 < b := ⟨[], by simp, fun e he => by cases he⟩
  rcases opt_cases (w.is[i]?) with e | ⟨x, e⟩
  · have : addT w fd d n i S = (some [], S) := by rw [addT, e]
    rw [this]; exact h0
  · rcases opt_cases (needsOf x n.t) with e2 | ⟨ms, e2⟩
    · rw [addT_no e e2]; exact h0
    · by_cases hc : 0 < ms.length ∧ d = 0
      · rw [addT_low e e2 hc]; exact h0
      · rw [addT_rows e e2 hc]
        exact partsT_low h ms [[]] S
theorem candT_low (h : FdLow fd b) {d : Nat} {n : Need} : ∀ (is : List Nat) (out : List L8) (S : TbL), ∃ R, (candT w fd d n is out S).2 = S ++ R ∧ ∀ e ∈ R, e.1.2 < b
  | [], out, S => ⟨[], by simp [candT], fun e he => by cases he⟩
  | i :: is, out, S => by
    obtain ⟨R, hR, hl⟩ := addT_low2 (w := w) h (d := d) (i := i) (n := n) (S := S)
    rcases opt_cases (addT w fd d n i S).1 with e | ⟨l, e⟩
    · rw [candT_bad (S' := (addT w fd d n i S).2) (Prod.ext e rfl)]; exact ⟨R, hR, hl⟩
    · by_cases h60 : (out ++ l).length ≤ 60
      · rw [candT_more (S' := (addT w fd d n i S).2) (Prod.ext e rfl) h60]
        obtain ⟨R2, h2, hl2⟩ := candT_low h is (out ++ l) (addT w fd d n i S).2
        exact ⟨R ++ R2, by rw [h2, hR, List.append_assoc], fun x hx => (List.mem_append.1 hx).elim (hl x) (hl2 x)⟩
      · rw [candT_many (S' := (addT w fd d n i S).2) (Prod.ext e rfl) h60]; exact ⟨R, hR, hl⟩
end
theorem subT_low {w : Wld} : ∀ d, FdLow (subT w d) d
  | 0 => fun n S => ⟨[], by simp [subT], fun e he => by cases he⟩
  | d + 1 => fun n S => by
    obtain ⟨R, hR, hl⟩ := candT_low (w := w) (subT_low (w := w) d) (d := d) (n := n) (candIx w n) [] S
    show ∃ R, (keepT n d S (candT w (subT w d) d n (candIx w n) [] S)).2 = S ++ R ∧ _
    unfold keepT
    rcases opt_cases (tbF S n d) with ha | ⟨a, ha⟩
    · rw [ha]
      exact ⟨R ++ [((n, d), (candT w (subT w d) d n (candIx w n) [] S).1)], by simp only; rw [hR, List.append_assoc], fun x hx => by
        rcases List.mem_append.1 hx with hx | hx
        · have := hl x hx; omega
        · rw [List.mem_singleton.1 hx]; exact Nat.lt_succ_self _⟩
    · rw [ha]
      exact ⟨[], by simp, fun e he => by cases he⟩
theorem tbF_low {n : Need} {d : Nat} : ∀ {S R : TbL}, tbF S n d = none → (∀ e ∈ R, e.1.2 < d) → tbF (S ++ R) n d = none
  | [], [], _, _ => rfl
  | [], e :: R, h, hR => by
    show (if e.1 = (n, d) then some e.2 else tbF R n d) = none
    rw [if_neg (fun hh => by have := hR e (List.mem_cons_self ..); rw [hh] at this; exact absurd this (Nat.lt_irrefl _))]
    exact tbF_low (S := []) rfl fun x hx => hR x (List.mem_cons_of_mem _ hx)
  | e :: S, R, h, hR => by
    unfold tbF at h
    split at h
    · cases h
    · rename_i hc
      show (if e.1 = (n, d) then some e.2 else tbF (S ++ R) n d) = none
      rw [if_neg hc]
      exact tbF_low h hR
end Go.Isea
namespace Go.Proofs.YtiphcdmjlkngfaaGreatDoor
open Go Go.Isea
set_option maxRecDepth 100000
set_option maxHeartbeats 8000000
theorem i_FormatNeed (n : Need) (h : AH) (hn : n.Sm) (hc : n.c.length ≤ 1000) : Isea.Good Tryz.prog 95 [.agg n.row] h [] (str (fmtN n)) h := by
  have h1 := hn.1
  have h2 := hn.2
  have e1 : n.c.length + 1 ≤ 9223372036854775807 := by omega
  have e2 : n.c.length + 1 + n.t.length ≤ 9223372036854775807 := by omega
  have e3 : n.c.length + (1 + n.t.length) ≤ 9223372036854775807 := by omega
  refine good [] [] Tryz.func95 rfl rfl Tryz.ntmps95 (by kernel_rfl) mixed (by kernel_rfl) ?_
  simp -dsimp only [go_sem, Need.row, e1, e2, e3, List.length_append, List.length_cons, List.length_nil, List.cons_append, List.nil_append, List.append_assoc]
  exact fin_str (by simp -dsimp only [go_sem]) (by unfold fmtN; simp)
theorem i_key (n : Need) (d : Nat) (h : AH) (hn : n.Sm) (hc : n.c.length ≤ 1000) (hd : d ≤ 9) : Isea.Good Tryz.prog 135 [.agg n.row, .v (.int .i64 (d : Nat))] h [] (str (Isea.keyL n d)) h := by
  have h1 := hn.1
  have h2 := hn.2
  have hF := fun H => i_FormatNeed n H hn hc
  have hl : (fmtN n).length ≤ 9223372036854775000 := by unfold fmtN; simp; omega
  have e1 : (fmtN n).length + 1 ≤ 9223372036854775807 := by omega
  have e2 : (fmtN n).length + 1 + 1 ≤ 9223372036854775807 := by omega
  have e3 : (fmtN n).length + (1 + 1) ≤ 9223372036854775807 := by omega
  refine good [] [] Tryz.func135 rfl rfl Tryz.ntmps135 (by kernel_rfl) mixed (by kernel_rfl) ?_
  simp -dsimp only [go_sem, Need.row] at hF ⊢
  refine call_pure (hF _) ?_
  simp -dsimp only [go_sem, e1, List.length_append, List.length_cons, List.length_nil]
  refine call_pure (l_Itoa d _ hd) ?_
  simp -dsimp only [go_sem, e1, e2, e3, List.length_append, List.length_cons, List.length_nil]
  exact fin_str (by simp -dsimp only [go_sem]) (by unfold Isea.keyL fmtN digitL; simp)
theorem i_joined (k : Nat) (r : List L8) (h : AH) (hr : r.length ≤ 3) (hl : (joinB 0 r).length ≤ 4000) : Isea.Good Tryz.prog 136 [str (digitL k), .sl (r.map sRow)] h [] (str (dictT k r)) h := by
  cases r with
  | nil =>
    refine good [] [] Tryz.func136 rfl rfl Tryz.ntmps136 (by kernel_rfl) mixed (by kernel_rfl) ?_
    simp -dsimp only [go_sem, List.map_nil, List.length_nil]
    exact fin_str (by simp -dsimp only [go_sem]) (by simp [dictT, joinB])
  | cons p r =>
    rw [joinB_join] at hl
    have hl : (Lib.join (p :: r) [44]).length + 1 ≤ 4000 := by simpa using hl
    have hJ := fun H => l_Join (p :: r) [44] H (by omega) (by omega)
    have hne : ¬ (((r.length + 1 : Nat) : Int)) = 0 := by omega
    have hne' : ¬ r.length + 1 = 0 := by omega
    generalize hz : Lib.join (p :: r) [44] = z at hl hJ
    have e0 : (digitL k).length + 1 ≤ 9223372036854775807 := by unfold digitL; simp
    have e1 : (digitL k).length + 1 + z.length ≤ 9223372036854775807 := by unfold digitL; simp; omega
    have e2 : (digitL k).length + 1 + z.length + 1 ≤ 9223372036854775807 := by unfold digitL; simp; omega
    refine good [] [] Tryz.func136 rfl rfl Tryz.ntmps136 (by kernel_rfl) mixed (by kernel_rfl) ?_
    simp -dsimp only [go_sem, List.map_cons, List.length_cons, List.length_map] at hJ ⊢
    simp -dsimp only [go_sem, hne, hne', e0]
    refine call_pure (hJ _) ?_
    simp -dsimp only [go_sem, e0, e1, e2, List.length_append, List.length_cons, List.length_nil]
    exact fin_str (by simp -dsimp only [go_sem]) (by unfold dictT; rw [joinB_join, hz]; simp)
end Go.Proofs.YtiphcdmjlkngfaaGreatDoor

namespace Go.Isea
open Go
def rwA (r : List L8) : List AV := [.sl (r.map sRow)]
theorem fz_slS' {h : AH} {m : Nat} {xs : List L8} : Fz h m (.sl (xs.map sRow)) (.sl (xs.map sRow)) := of_eq_true (fz_sl (of_eq_true puR_strs))
theorem objFz_of {h : AH} {m e sz : Nat} {A B : List (List AV)} (hl : A.length = B.length) (hc : ∀ (i : Nat) (r r' : List AV), A[i]? = some r → B[i]? = some r' → FzL h m r r') : ObjFz h m (.rows e sz A) (.rows e sz B) :=
  ⟨rfl, rfl, hl.symm, fun i r r' h1 h2 => (hc i r r' h1 h2).1, fun i j r r' x y h1 h2 h3 h4 => (hc i r r' h1 h2).2 j x y h3 h4⟩
theorem fzL_rwA {h : AH} {m : Nat} {r : List L8} : FzL h m (rwA r) (rwA r) := FzL.cons fz_slS' FzL.nil
@[go_sem] theorem objFz_rwA {h : AH} {m e : Nat} {A : List (List L8)} : ObjFz h m (.rows e 1 (A.map rwA)) (.rows e 1 (A.map rwA)) = True := eq_true (objFz_of rfl fun i r r' h1 h2 => by
  rw [h1] at h2; cases h2
  rw [List.getElem?_map] at h1
  rcases opt_cases (A[i]?) with e | ⟨q, e⟩
  · rw [e] at h1; cases h1
  · rw [e] at h1; cases h1; exact fzL_rwA)
@[go_sem] theorem objFz_rwA2 {h : AH} {m e : Nat} {A B : List (List L8)} : ObjFz h m (.rows e 1 (A.map rwA ++ B.map rwA)) (.rows e 1 (A.map rwA ++ B.map rwA)) = True := by
  rw [← List.map_append]; exact objFz_rwA
theorem objFz_rwA_snoc {h : AH} {m e : Nat} {A : List (List L8)} {r : List L8} {x : AV} (hx : Fz h m x (.sl (r.map sRow))) : ObjFz h m (.rows e 1 (A.map rwA ++ [[x]])) (.rows e 1 ((A ++ [r]).map rwA)) := by
  refine objFz_of (by simp) fun i q q' h1 h2 => ?_
  rw [List.map_append] at h2
  by_cases hi : i < A.length
  · rw [List.getElem?_append_left (by simpa using hi)] at h1 h2
    rw [h1] at h2; cases h2
    rw [List.getElem?_map] at h1
    rcases opt_cases (A[i]?) with e | ⟨q, e⟩
    · rw [e] at h1; cases h1
    · rw [e] at h1; cases h1; exact fzL_rwA
  · rw [List.getElem?_append_right (by simpa using hi)] at h1 h2
    rcases hj : i - (A.map rwA).length with _ | j
    · rw [hj] at h1 h2
      simp at h1 h2
      subst h1; subst h2
      exact FzL.cons hx FzL.nil
    · rw [hj] at h1; simp at h1
@[go_sem] theorem fz_slR {h : AH} {m : Nat} {A : List (List L8)} : Fz h m (.sl (A.map rwA)) (.sl (A.map rwA)) = True := eq_true (.sl rfl (fun i r r' h1 h2 => by rw [h1] at h2; cases h2; rfl) fun i j r r' x y h1 h2 h3 h4 => by
  rw [h1] at h2; cases h2
  rw [h3] at h4; cases h4
  rw [List.getElem?_map] at h1
  rcases opt_cases (A[i]?) with e | ⟨q, e⟩
  · rw [e] at h1; cases h1
  · rw [e] at h1; cases h1
    rcases j with _ | j
    · simp [rwA] at h3; subst h3; exact fz_slS'
    · simp [rwA] at h3)
theorem fz_soR {h : AH} {m t n e : Nat} {A : List (List L8)} (ht : m ≤ t) (ho : h.o t = .rows e 1 (A.map rwA)) (hn : A.length = n) : Fz h m (.so t n n) (.sl (A.map rwA)) :=
  .soF ht ho (by rw [List.length_map]; exact hn) (by rw [List.length_map]; exact hn) (fun i r r' h1 h2 => by rw [h1] at h2; injection h2 with h2; rw [h2]) fun i j r r' x y h1 h2 h3 h4 => by
    rw [h1] at h2; injection h2 with h2; subst h2; rw [h3] at h4; injection h4 with h4; subst h4
    rw [List.getElem?_map] at h1
    rcases opt_cases (A[i]?) with e | ⟨q, e⟩
    · rw [e] at h1; cases h1
    · rw [e] at h1; cases h1
      rcases j with _ | j
      · simp [rwA] at h3; subst h3; exact fz_slS'
      · simp [rwA] at h3
theorem objFz_rwA_snocC {h : AH} {m e : Nat} {A : List (List L8)} {r : List L8} {x : AV} (hx : Fz h m x (.sl (r.map sRow))) : ObjFz h m (.rows e 1 (A.map rwA ++ [[x]])) (.rows e 1 (A.map rwA ++ [rwA r])) := by
  have := objFz_rwA_snoc (e := e) (A := A) hx
  rw [List.map_append] at this
  exact this
theorem fz_mapI_get {h : AH} {m : Nat} {S : TbL} {i : Nat} {x : AV × AV} (hx : (mapI S)[i]? = some x) : Fz h m x.1 x.1 ∧ Fz h m x.2 x.2 := by
  have := List.mem_of_getElem? hx
  unfold mapI at this
  obtain ⟨e, _, he⟩ := List.mem_filterMap.1 this
  rcases opt_cases e.2 with h2 | ⟨q, h2⟩
  · rw [h2] at he; cases he
  · rw [h2] at he; cases he; exact ⟨.v _, fz_slS'⟩
@[go_sem] theorem objFz_mapI {h : AH} {m : Nat} {S : TbL} : ObjFz h m (.map (mapI S)) (.map (mapI S)) = True := eq_true ⟨rfl, fun i x y h1 h2 => by
  rw [h1] at h2; cases h2; exact fz_mapI_get h1⟩
theorem objFz_mapI_snoc {h : AH} {m : Nat} {S : TbL} {n : Need} {d : Nat} {l : List L8} {x : AV} (hx : Fz h m x (.sl (l.map sRow))) : ObjFz h m (.map (mapI S ++ [(.v (.string (bs (Isea.keyL n d))), x)])) (.map (mapI (S ++ [((n, d), some l)]))) := by
  rw [mapI_some]
  refine ⟨by simp, fun i p q h1 h2 => ?_⟩
  by_cases hi : i < (mapI S).length
  · rw [List.getElem?_append_left hi] at h1 h2
    rw [h1] at h2; cases h2; exact fz_mapI_get h1
  · rw [List.getElem?_append_right (by omega)] at h1 h2
    rcases hj : i - (mapI S).length with _ | j
    · rw [hj] at h1 h2
      simp at h1 h2
      subst h1; subst h2
      exact ⟨.v _, hx⟩
    · rw [hj] at h1; simp at h1
theorem candT_none {w : Wld} {fd : FdT} {d i : Nat} {n : Need} {is : List Nat} {out : List L8} {S S' : TbL} {rows : List (List L8)} (h : addT w fd d n i S = (rowsT i (some rows), S'))
    (hb : (∃ r ∈ rows, ¬ (dictT i r).length ≤ 1200) ∨ ¬ (out ++ rows.map (dictT i)).length ≤ 60) : candT w fd d n (i :: is) out S = (none, S') := by
  by_cases hc : ∀ r ∈ rows, (dictT i r).length ≤ 1200
  · rw [rowsT_ok hc] at h
    rcases hb with ⟨r, h1, h2⟩ | hb
    · exact absurd (hc r h1) h2
    · exact candT_many h hb
  · have : ∃ r ∈ rows, ¬ (dictT i r).length ≤ 1200 := by
      simp only [Classical.not_forall] at hc
      obtain ⟨r, h1, h2⟩ := hc
      exact ⟨r, h1, h2⟩
    obtain ⟨r, h1, h2⟩ := this
    rw [rowsT_bad h1 h2] at h
    exact candT_bad h
end Go.Isea
namespace Go.Proofs.YtiphcdmjlkngfaaGreatDoor
open Go Go.Isea
set_option maxRecDepth 100000
set_option maxHeartbeats 16000000
def wyC (w : Wld) (a b : Nat) (f : Bool) : List AV := [.sl (w.cs.map Cls.row), .sl (w.is.map Inst.row), .mp a, .mp b, .v (.bool f)]
def wyH (l a b : Nat) (w : Wld) (S : TbL) (f : Bool) (o : Nat → AObj) : Nat → AObj := upd (upd o l (.cells (wyC w a b f))) a (.map (mapI S))
theorem nok_cI {w : Wld} (hok : worldOk w = true) {n : Need} (hn : NOk w n) : n.c.length ≤ 1000 := by
  obtain ⟨a, ha, _⟩ := known_letter (world_cls hok) hn.1
  rw [ha]; simp
structure AtI (l a b : Nat) (w : Wld) (S : TbL) (h : AH) : Prop where
  ll : l < h.n
  la : a < h.n
  lb : b < h.n
  ne : ¬ l = a
  ol : h.o l = .cells (wyC w a b true)
  oa : h.o a = .map (mapI S)
theorem fz_slso0 {h : AH} {m t : Nat} (ht : m ≤ t) (ho : h.o t = .rows 9 1 []) : Fz h m (.sl [[.so t 0 0]]) (.sl [[.sl []]]) := by
  refine .sl rfl (fun i r r' h1 h2 => ?_) fun i j r r' x y h1 h2 h3 h4 => ?_
  · rcases i with _ | i
    · simp at h1 h2; subst h1; subst h2; rfl
    · simp at h1
  · rcases i with _ | i
    · simp at h1 h2; subst h1; subst h2
      rcases j with _ | j
      · simp at h3 h4; subst h3; subst h4
        exact Fz.so_lo ht ho rfl fun r hr => by cases hr
      · simp at h3
    · simp at h1
theorem fz_soRS {h : AH} {m t n : Nat} {A : List (List L8)} (ht : m ≤ t) (ho : h.o t = .rows 41 1 (A.map rwA)) (hn : A.length = n) : Fz h m (.so t n n) (.sl (A.map rwA)) := fz_soR ht ho hn
theorem fin_wy {l a b : Nat} {w : Wld} {S : TbL} {f : Bool} {h0 h : AH} {x r : AV} (hd : ¬ l = a) (hn : h0.n ≤ h.n) (hx : Fz h h0.n x r) (ol : ObjFz h h0.n (h.o l) (.cells (wyC w a b f))) (oa : ObjFz h h0.n (h.o a) (.map (mapI S))) : FinS [a, l] h0 h x ⟨h0.n, wyH l a b w S f h0.o⟩ r where
  n0 := Nat.le_refl _
  n := hn
  fz := hx
  old i hi hT := by
    simp only [List.mem_cons, List.not_mem_nil, or_false, not_or] at hT
    show upd (upd _ l _) a _ i = _
    rw [upd_ne _ _ hT.1, upd_ne _ _ hT.2]
  turned i hi hT := by
    rcases hT with hT | hT
    · simp only [List.mem_cons, List.not_mem_nil, or_false] at hT
      show ObjFz h h0.n (h.o i) (upd (upd _ l _) a _ i)
      rcases hT with rfl | rfl
      · rw [upd_same]; exact oa
      · rw [upd_ne _ _ hd, upd_same]; exact ol
    · have hi' : i < h0.n := hi
      omega
def AllOkI (w : Wld) (d : Nat) : Prop := ∀ (l a b : Nat) (n : Need) (S : TbL) (h : AH), AtI l a b w S h → NOk w n → TbOk w S → AllS S →
    Isea.Good Tryz.prog 75 [.ptr l 0, .agg n.row, .v (.int .i64 (d : Nat))] h [a, l] (.sl (((allT w d n S).1.getD []).map sRow)) ⟨h.n, wyH l a b w (allT w d n S).2 (allT w d n S).1.isSome h.o⟩
theorem i_all_step {w : Wld} (hok : worldOk w = true) (hw : w.Sm) {d : Nat} (hd6 : d ≤ 6) (ih : ∀ e, d = e + 1 → AllOkI w e) : AllOkI w d := by
  intro l a b n S h hat hn hS hA
  have hfd := subT_ok hok hw d (by omega)
  have hfS := subT_S (w := w) d
  have hc10 := cand_len10 hok n
  have hwl := world_len hok
  have hcand := fun H => i_candidates w n H hw hn.2 (by omega)
  have hmem : ∀ k, k ∈ candIx w n → ∃ i, w.is[k]? = some i ∧ i.c = n.c ∧ (matchS i.t n.t).isSome = true := fun k hk => cand_mem hk
  have hK := fun H => i_key n d H hn.2 (nok_cI hok hn) (by omega)
  have hk := hS.keyL hok hn (d := d) (by omega)
  have eA := allT_eq w d n S
  generalize hTT : allT w d n S = TT at eA ⊢
  clear hTT
  unfold keepT at eA
  obtain ⟨ll, la, lb, hd, ol, oa⟩ := hat
  have l1 := hd
  have k1 : ¬ a = l := fun e => hd e.symm
  have ol' := ol
  simp only [wyC] at ol
  have f1 : ¬ l = h.n := by omega
  have f2 : ¬ a = h.n := by omega
  have g1 : ¬ h.n = l := by omega
  have g2 : ¬ h.n = a := by omega
  have m1 : ∀ k, ¬ l = h.n + k := fun k => by omega
  have m2 : ∀ k, ¬ a = h.n + k := fun k => by omega
  have p1 : ∀ k, ¬ h.n + k = l := fun k => by omega
  have p2 : ∀ k, ¬ h.n + k = a := fun k => by omega
  have hmf := mfind_mapI hA hk
  have hMT : MT Tryz.prog 106 = some (.v (.slice none 0 0)) := by kernel_rfl
  refine good [] [(5, OT.o 0 (OT.o 1 (OT.o 2 (OT.o 3 (OT.o 4 (OT.o 7 (OT.o 5 (OT.o 6 OT.e)))))))), (42, OT.o 0 (OT.o 1 (OT.o 2 (OT.o 3 (OT.o 4 (OT.o 5 (OT.o 7 (OT.o 6 (OT.o 8 OT.e)))))))))] Tryz.func75 rfl rfl Tryz.ntmps75 (by kernel_rfl) mixed (by kernel_rfl) ?_
  simp -dsimp only [go_sem, Need.row, Wld.row] at hcand hK
  simp -dsimp only [go_sem, Need.row, Wld.row, ol, oa, f1, f2, g1, g2, m1, m2, p1, p2, l1, k1, ll, la, lb]
  refine call_pure (hK _) ?_
  simp -dsimp only [go_sem, ol, oa, hmf, hMT, f1, f2, g1, g2, m1, m2, p1, p2, l1, k1, ll, la, lb]
  rcases opt_cases (tbF S n d) with e0 | ⟨r0, e0⟩
  rotate_left
  · rw [e0] at eA
    have eA : TT = (r0, S) := eA
    subst eA
    rw [e0]
    have hr0 : r0.isSome = true := hA _ (tbF_mem e0)
    obtain ⟨l0, rfl⟩ := Option.isSome_iff_exists.1 hr0
    simp -dsimp only [go_sem, Option.map_some, Option.getD_some, ol, oa, f1, f2, g1, g2, m1, m2, p1, p2, l1, k1, ll, la, lb]
    exact fin_wy hd (by simp -dsimp only [go_sem]) (by simp -dsimp only [go_sem, Option.getD_some, fz_slS']) (by rw [ol']; simp -dsimp only [go_sem, wyC, Option.isSome_some, f1, f2, g1, g2, m1, m2, p1, p2, l1, k1, ll, la, lb]) (by rw [oa]; exact of_eq_true objFz_mapI)
  · rw [e0] at eA
    rw [e0]
    generalize hT : candT w (subT w d) d n (candIx w n) [] S = T at eA
    generalize hC : candIx w n = C at hcand hc10 hmem hT
    simp -dsimp only [go_sem, Option.map_none, ol, oa, f1, f2, g1, g2, m1, m2, p1, p2, l1, k1, ll, la, lb]
    refine call_pure (hcand _) ?_
    simp -dsimp only [go_sem, List.length_map]
    refine loop_ruleH [0, 1, 1, 47, 0] (fun (y : {y : Nat × List L8 × TbL // y.1 ≤ C.length ∧ T = candT w (subT w d) d n (C.drop y.1) y.2.1 y.2.2 ∧ TbOk w y.2.2 ∧ AllS y.2.2 ∧ y.2.1.length ≤ 60 ∧ tbF y.2.2 n d = none}) H => ([(9, .so h.n y.1.2.1.length y.1.2.1.length), (54, .v (.int .i64 (y.1.1 : Nat)))], ⟨h.n + 1, upd (wyH l a b w y.1.2.2 true h.o) h.n (.rows 9 1 (y.1.2.1.map sRow))⟩)) (fun y => C.length - y.1.1) ⟨(0, [], S), Nat.zero_le _, hT.symm, hS, hA, by simp, e0⟩ ?_ ?_
    · refine weak_objs [l, a, h.n] (by simp -dsimp only [go_sem]) (by simp -dsimp only [go_sem]) (by simp -dsimp only [go_sem, f1, f2, g1, g2, m1, m2, p1, p2, l1, k1, ll, la, lb, List.length_nil]) ?_ ?_ ?_
      · exact fun x q1 q2 => by
          have q1 : x < h.n := q1
          simp only [List.mem_cons, List.not_mem_nil, or_false, not_or] at q2
          obtain ⟨r1, r2⟩ := q2
          have r5 : ¬ x = h.n := by omega
          have r6 : ∀ k, ¬ x = h.n + k := fun k => by omega
          simp -dsimp only [go_sem, wyH, r1, r2, r5, r6]
      · exact fun x q1 q2 => by
          have q1 : x < h.n + 1 := q1
          simp only [List.mem_cons, List.not_mem_nil, or_false] at q2 ⊢
          rcases q2 with (r | r) | r
          · exact .inr (.inl r)
          · exact .inl r
          · have r : h.n ≤ x := r
            omega
      · simp -dsimp only [go_sem, wyH, wyC, objFz_mapI, objFz_rwA, f1, f2, g1, g2, m1, m2, p1, p2, l1, k1, ll, la, lb, ol', oa, List.map_nil]
    · rintro ⟨⟨j, out, S1⟩, hj, heq, hS1, hA1, ho1, hlo⟩
      have hj : j ≤ C.length := hj
      have heq : T = candT w (subT w d) d n (C.drop j) out S1 := heq
      have hS1 : TbOk w S1 := hS1
      have hA1 : AllS S1 := hA1
      have ho1 : out.length ≤ 60 := ho1
      have hlo : tbF S1 n d = none := hlo
      have hj1 : j + 1 ≤ 9223372036854775807 := by omega
      clear hT
      by_cases hlt : j < C.length
      · obtain ⟨k, hk'⟩ := get_some hlt
        obtain ⟨x, hx, hxc, hxm⟩ := hmem k (List.mem_of_getElem? hk')
        have hk9 : k ≤ 9 := by have := (List.getElem?_eq_some_iff.1 hx).1; omega
        have hwi := world_inst hok hx
        have h6 := hwi.2.2.2.2.2.1
        clear hwi
        have hxs := hw.i x (List.mem_of_getElem? hx)
        have hN4 := fun H => i_needs x n.t H hxs hn.2.2 (by omega)
        rw [drop_get hk'] at heq
        have hadK := (addT_ok hok hw hfd (d := d) (i := k) (n := n) hS1).2
        have hadS := addT_S (w := w) hfS (d := d) (i := k) (n := n) hA1
        have hadl := addT_low2 (w := w) (subT_low (w := w) d) (d := d) (i := k) (n := n) (S := S1)
        simp -dsimp only [go_sem, Inst.row] at hN4
        rcases opt_cases (needsOf x n.t) with hN | ⟨ms, hN⟩
        · rw [candT_skip (addT_no hx hN) ho1] at heq
          rw [hN] at hN4
          simp -dsimp only [go_sem, wyH, wyC, hlt, hk', iRow, hx, Inst.row, f1, f2, g1, g2, m1, m2, p1, p2, l1, k1, ll, la, lb]
          refine call_pure (hN4 _) ?_
          simp -dsimp only [go_sem, needsV, hj1]
          refine round_to ⟨(j + 1, out, S1), hlt, heq, hS1, hA1, ho1, hlo⟩ (by simp; omega) ?_
          refine weak_objs [l, a, h.n] (by simp -dsimp only [go_sem]) (by simp -dsimp only [go_sem]) (by simp -dsimp only [go_sem, f1, f2, g1, g2, m1, m2, p1, p2, l1, k1, ll, la, lb]) ?_ ?_ ?_
          · exact fun x q1 q2 => by
              have q1 : x < h.n := q1
              simp only [List.mem_cons, List.not_mem_nil, or_false, not_or] at q2
              obtain ⟨r1, r2⟩ := q2
              have r5 : ¬ x = h.n := by omega
              have r6 : ∀ k, ¬ x = h.n + k := fun k => by omega
              simp -dsimp only [go_sem, wyH, r1, r2, r5, r6]
          · exact fun x q1 q2 => by
              have q1 : x < h.n + 1 := q1
              simp only [List.mem_cons, List.not_mem_nil, or_false] at q2 ⊢
              rcases q2 with (r | r) | r
              · exact .inr (.inl r)
              · exact .inl r
              · have r : h.n ≤ x := r
                omega
          · simp -dsimp only [go_sem, wyH, wyC, objFz_mapI, objFz_rwA, f1, f2, g1, g2, m1, m2, p1, p2, l1, k1, ll, la, lb]
        · have hno := needs_ok hok hw hx hN
          have hml := hno.1
          have hmm := hno.2
          clear hno
          rw [hN] at hN4
          by_cases hlow : 0 < ms.length ∧ d = 0
          · rw [candT_skip (addT_low hx hN hlow) ho1] at heq
            have q1 : (0 : Int) < (ms.length : Nat) := by omega
            have q2 : ((d : Nat) : Int) = 0 := by omega
            simp -dsimp only [go_sem, wyH, wyC, hlt, hk', iRow, hx, Inst.row, f1, f2, g1, g2, m1, m2, p1, p2, l1, k1, ll, la, lb]
            refine call_pure (hN4 _) ?_
            simp -dsimp only [go_sem, needsV, List.length_map, q1, q2, hj1]
            refine round_to ⟨(j + 1, out, S1), hlt, heq, hS1, hA1, ho1, hlo⟩ (by simp; omega) ?_
            refine weak_objs [l, a, h.n] (by simp -dsimp only [go_sem]) (by simp -dsimp only [go_sem]) (by simp -dsimp only [go_sem, f1, f2, g1, g2, m1, m2, p1, p2, l1, k1, ll, la, lb]) ?_ ?_ ?_
            · exact fun x q1 q2 => by
                have q1 : x < h.n := q1
                simp only [List.mem_cons, List.not_mem_nil, or_false, not_or] at q2
                obtain ⟨r1, r2⟩ := q2
                have r5 : ¬ x = h.n := by omega
                have r6 : ∀ k, ¬ x = h.n + k := fun k => by omega
                simp -dsimp only [go_sem, wyH, r1, r2, r5, r6]
            · exact fun x q1 q2 => by
                have q1 : x < h.n + 1 := q1
                simp only [List.mem_cons, List.not_mem_nil, or_false] at q2 ⊢
                rcases q2 with (r | r) | r
                · exact .inr (.inl r)
                · exact .inl r
                · have r : h.n ≤ x := r
                  omega
            · simp -dsimp only [go_sem, wyH, wyC, objFz_mapI, objFz_rwA, f1, f2, g1, g2, m1, m2, p1, p2, l1, k1, ll, la, lb]
          · have hadd := addT_rows (fd := subT w d) (S := S1) hx hN hlow
            rw [hadd] at hadK hadS hadl
            generalize hP : partsT (subT w d) ms [[]] S1 = P at hadd hadK hadS hadl
            have hq : (¬ (0 : Int) < (ms.length : Nat) ∧ True) ∨ ((0 : Int) < (ms.length : Nat) ∧ ¬ ((d : Nat) : Int) = 0) := by
              rcases Nat.eq_zero_or_pos ms.length with h0 | h0
              · exact .inl ⟨by omega, trivial⟩
              · exact .inr ⟨by omega, by omega⟩
            have ht0 : [[AV.sl []]] = [([] : List L8)].map rwA := rfl
            have ht9 : ∀ ps, crossL [] ps = [] := fun ps => rfl
            simp -dsimp only [go_sem, wyH, wyC, hlt, hk', iRow, hx, Inst.row, f1, f2, g1, g2, m1, m2, p1, p2, l1, k1, ll, la, lb]
            refine call_pure (hN4 _) ?_
            rcases hq with ⟨q1, q2⟩ | ⟨q1, q2⟩
            all_goals
              simp -dsimp only [go_sem, needsV, List.length_map, q1, q2]
              refine loop_ruleH [0, 1, 1, 4, 1, 0, 39, 0, 0, 30, 0] (fun (y : {y : Nat × List (List L8) × TbL // y.1 ≤ ms.length ∧ P = partsT (subT w d) (ms.drop y.1) y.2.1 y.2.2 ∧ TbOk w y.2.2 ∧ AllS y.2.2 ∧ y.2.1.length ≤ 60 ∧ RwOk y.1 y.2.1}) H => ([(14, .sl (y.1.2.1.map rwA)), (87, .v (.int .i64 (y.1.1 : Nat)))], ⟨h.n + 1, upd (wyH l a b w y.1.2.2 true h.o) h.n (.rows 9 1 (out.map sRow))⟩)) (fun y => ms.length - y.1.1) ⟨(0, [[]], S1), Nat.zero_le _, hP.symm, hS1, hA1, by simp, RwOk.one⟩ ?_ ?_
              · refine weak_objs [l, a, h.n] (by simp -dsimp only [go_sem]) (by simp -dsimp only [go_sem]) (by simp -dsimp only [go_sem, f1, f2, g1, g2, m1, m2, p1, p2, l1, k1, ll, la, lb, rwA, List.map_cons, List.map_nil, fz_slso0]) ?_ ?_ ?_
                · exact fun x q1 q2 => by
                    have q1 : x < h.n := q1
                    simp only [List.mem_cons, List.not_mem_nil, or_false, not_or] at q2
                    obtain ⟨r1, r2⟩ := q2
                    have r5 : ¬ x = h.n := by omega
                    have r6 : ∀ k, ¬ x = h.n + k := fun k => by omega
                    simp -dsimp only [go_sem, wyH, r1, r2, r5, r6]
                · exact fun x q1 q2 => by
                    have q1 : x < h.n + 1 := q1
                    simp only [List.mem_cons, List.not_mem_nil, or_false] at q2 ⊢
                    rcases q2 with (r | r) | r
                    · exact .inr (.inl r)
                    · exact .inl r
                    · have r : h.n ≤ x := r
                      omega
                · simp -dsimp only [go_sem, wyH, wyC, objFz_mapI, objFz_rwA, f1, f2, g1, g2, m1, m2, p1, p2, l1, k1, ll, la, lb]
              · rintro ⟨⟨q, rows, S2⟩, hq, hPq, hS2, hA2, hr60, hrw⟩
                have hq : q ≤ ms.length := hq
                have hPq : P = partsT (subT w d) (ms.drop q) rows S2 := hPq
                have hS2 : TbOk w S2 := hS2
                have hA2 : AllS S2 := hA2
                have hr60 : rows.length ≤ 60 := hr60
                have hrw : RwOk q rows := hrw
                clear hP
                have hq1 : q + 1 ≤ 9223372036854775807 := by omega
                by_cases hqt : q < ms.length
                · obtain ⟨m, hm⟩ := get_some hqt
                  obtain ⟨e, hde⟩ : ∃ e, d = e + 1 := ⟨d - 1, by omega⟩
                  have hmN := (hmm m (List.mem_of_getElem? hm)).1
                  have hRok := hfd.ok m S2 hmN hS2
                  have hRv := hfd.val m S2 hmN hS2
                  have hRS := hfS m S2 hA2
                  rw [drop_get hm] at hPq
                  have hAl : ∀ H : AH, AtI l a b w S2 H → Isea.Good Tryz.prog 75 [.ptr l 0, .agg m.row, .v (.int .i64 (e : Nat))] H [a, l] (.sl (((subT w d m S2).1.getD []).map sRow)) ⟨H.n, wyH l a b w (subT w d m S2).2 (subT w d m S2).1.isSome H.o⟩ := fun H hat => by
                    have := ih e hde l a b m S2 H hat hmN hS2 hA2
                    rw [hde]
                    exact this
                  have hwd : IntKind.i64.wrap (((d : Nat) : Int) - 1) = ((e : Nat) : Int) := by rw [wrap_i64] <;> omega
                  generalize hR : subT w d m S2 = R at hAl hRok hRv hRS
                  simp -dsimp only [go_sem, Need.row] at hAl
                  simp -dsimp only [go_sem, hqt, hm, Need.row, hwd, f1, f2, g1, g2, m1, m2, p1, p2, l1, k1, ll, la, lb]
                  refine call_turn (hAl _ ⟨by simp -dsimp only [go_sem, f1, f2, g1, g2, m1, m2, p1, p2, l1, k1, ll, la, lb], by simp -dsimp only [go_sem, f1, f2, g1, g2, m1, m2, p1, p2, l1, k1, ll, la, lb], by simp -dsimp only [go_sem, f1, f2, g1, g2, m1, m2, p1, p2, l1, k1, ll, la, lb], hd, by simp -dsimp only [go_sem, wyH, f1, f2, g1, g2, m1, m2, p1, p2, l1, k1, ll, la, lb], by simp -dsimp only [go_sem, wyH, f1, f2, g1, g2, m1, m2, p1, p2, l1, k1, ll, la, lb]⟩) (fun t ht _ => .inr ht) (fun t ht => by cases ht) ?_
                  rcases opt_cases R.1 with hr | ⟨parts, hr⟩
                  · have hPn : P = (none, R.2) := by rw [hPq, partsT_bad (by rw [hR]; exact hr), hR]
                    rw [candT_bad (S' := R.2) (by rw [hadd, hPn]; rfl)] at heq
                    clear hPq
                    subst heq
                    have eA : TT = (none, R.2 ++ [((n, d), none)]) := eA
                    subst eA
                    rw [hr]
                    simp -dsimp only [go_sem, wyH, wyC, Option.isSome_none, f1, f2, g1, g2, m1, m2, p1, p2, l1, k1, ll, la, lb]
                    exact fin_wy hd (by simp -dsimp only [go_sem]) (by simp -dsimp only [go_sem, Option.getD_none, List.map_nil]) (by simp -dsimp only [go_sem, wyH, wyC, Option.isSome_none, f1, f2, g1, g2, m1, m2, p1, p2, l1, k1, ll, la, lb]) (by simp -dsimp only [go_sem, wyH, mapI_none, objFz_mapI, f1, f2, g1, g2, m1, m2, p1, p2, l1, k1, ll, la, lb])
                  · rw [hr] at hRv
                    have hpl : LOk parts := allD_ok (w := w) (d := e) (n := m) (by rw [hde] at hRv; exact hRv.symm)
                    have hp1 := hpl.1
                    have hp2 := hpl.2
                    have hRA := hRS (by rw [hr]; rfl)
                    rw [hr]
                    simp -dsimp only [go_sem, wyH, wyC, Option.getD_some, Option.isSome_some, List.length_map, f1, f2, g1, g2, m1, m2, p1, p2, l1, k1, ll, la, lb]
                    refine loop_ruleH [0, 1, 1, 4, 1, 0, 4, 34, 0, 0, 30, 0, 0, 14, 0] (fun (c : {c : Nat // c ≤ rows.length}) H => ([(18, .so (h.n + 2) (crossL (rows.take c.1) parts).length (crossL (rows.take c.1) parts).length), (104, .v (.int .i64 (c.1 : Nat)))], ⟨h.n + 3, upd (upd (upd (wyH l a b w R.2 true h.o) h.n (.rows 9 1 (out.map sRow))) (h.n + 1) (.cells [.junk, .junk])) (h.n + 2) (.rows 41 1 ((crossL (rows.take c.1) parts).map rwA))⟩)) (fun c => rows.length - c.1) ⟨0, Nat.zero_le _⟩ ?_ ?_
                    · refine weak_objs [l, a, h.n, h.n + 1, h.n + 2] (by simp -dsimp only [go_sem]) (by simp -dsimp only [go_sem]) (by simp -dsimp only [go_sem, f1, f2, g1, g2, m1, m2, p1, p2, l1, k1, ll, la, lb, List.take_zero, ht9, List.length_nil]) ?_ ?_ ?_
                      · exact fun x q1 q2 => by
                          have q1 : x < h.n := q1
                          simp only [List.mem_cons, List.not_mem_nil, or_false, not_or] at q2
                          obtain ⟨r1, r2⟩ := q2
                          have r5 : ¬ x = h.n := by omega
                          have r6 : ∀ k, ¬ x = h.n + k := fun k => by omega
                          simp -dsimp only [go_sem, wyH, r1, r2, r5, r6]
                      · exact fun x q1 q2 => by
                          have q1 : x < h.n + 3 := q1
                          simp only [List.mem_cons, List.not_mem_nil, or_false] at q2 ⊢
                          rcases q2 with (r | r) | r
                          · exact .inr (.inl r)
                          · exact .inl r
                          · have r : h.n ≤ x := r
                            omega
                      · simp -dsimp only [go_sem, wyH, wyC, objFz_mapI, objFz_rwA, f1, f2, g1, g2, m1, m2, p1, p2, l1, k1, ll, la, lb, List.take_zero, ht9, List.map_nil]
                    · rintro ⟨c, hc⟩
                      have hc : c ≤ rows.length := hc
                      have hc1 : c + 1 ≤ 9223372036854775807 := by omega
                      by_cases hct : c < rows.length
                      · obtain ⟨r, hrc⟩ := get_some hct
                        have hrl := hrw r (List.mem_of_getElem? hrc)
                        have hnx := crossL_next (parts := parts) hrc
                        have hcl : (crossL (rows.take c) parts).length ≤ 3600 := by
                          have := crossL_take_len rows parts c
                          have h2 : c * parts.length ≤ 60 * 60 := Nat.mul_le_mul (by omega) hp1
                          omega
                        generalize hX : crossL (rows.take c) parts = X at hnx hcl
                        simp -dsimp only [go_sem, hct, hrc, hX, List.getElem?_map, Option.map_some, rwA, List.length_map]
                        refine loop_ruleH [0, 1, 1, 4, 1, 0, 4, 2, 31, 0, 0, 30, 0, 0, 14, 0, 0, 3, 0] (fun (b' : {b' : Nat // b' ≤ parts.length}) H => ([(18, .so (h.n + 2) (X ++ (parts.take b'.1).map fun p => r ++ [p]).length (X ++ (parts.take b'.1).map fun p => r ++ [p]).length), (110, .v (.int .i64 (b'.1 : Nat)))], ⟨h.n + 3, upd (upd (upd (wyH l a b w R.2 true h.o) h.n (.rows 9 1 (out.map sRow))) (h.n + 1) (.cells [.junk, .junk])) (h.n + 2) (.rows 41 1 ((X ++ (parts.take b'.1).map fun p => r ++ [p]).map rwA))⟩)) (fun b' => parts.length - b'.1) ⟨0, Nat.zero_le _⟩ ?_ ?_
                        · refine weak_objs [l, a, h.n, h.n + 1, h.n + 2] (by simp -dsimp only [go_sem]) (by simp -dsimp only [go_sem]) (by simp -dsimp only [go_sem, f1, f2, g1, g2, m1, m2, p1, p2, l1, k1, ll, la, lb, List.take_zero, List.map_nil, List.append_nil]) ?_ ?_ ?_
                          · exact fun x q1 q2 => by
                              have q1 : x < h.n := q1
                              simp only [List.mem_cons, List.not_mem_nil, or_false, not_or] at q2
                              obtain ⟨r1, r2⟩ := q2
                              have r5 : ¬ x = h.n := by omega
                              have r6 : ∀ k, ¬ x = h.n + k := fun k => by omega
                              simp -dsimp only [go_sem, wyH, r1, r2, r5, r6]
                          · exact fun x q1 q2 => by
                              have q1 : x < h.n + 3 := q1
                              simp only [List.mem_cons, List.not_mem_nil, or_false] at q2 ⊢
                              rcases q2 with (r | r) | r
                              · exact .inr (.inl r)
                              · exact .inl r
                              · have r : h.n ≤ x := r
                                omega
                          · simp -dsimp only [go_sem, wyH, wyC, objFz_mapI, objFz_rwA, f1, f2, g1, g2, m1, m2, p1, p2, l1, k1, ll, la, lb, List.take_zero, List.map_nil, List.append_nil]
                        · rintro ⟨c', hc'⟩
                          have hc' : c' ≤ parts.length := hc'
                          have hc1' : c' + 1 ≤ 9223372036854775807 := by omega
                          by_cases hbt : c' < parts.length
                          · obtain ⟨p, hp⟩ := get_some hbt
                            have hnx2 : (X ++ (parts.take (c' + 1)).map fun p => r ++ [p]) = (X ++ (parts.take c').map fun p => r ++ [p]) ++ [r ++ [p]] := by
                              rw [take_next hp, List.map_append, List.append_assoc]; rfl
                            have hY : (X ++ (parts.take c').map fun p => r ++ [p]).length ≤ 4000 := by
                              rw [List.length_append, List.length_map, List.length_take]; omega
                            generalize hYd : (X ++ (parts.take c').map fun p => r ++ [p]) = Y at hY hnx2
                            have hlz : X.length + (parts.take (c' + 1)).length = Y.length + 1 := by have := congrArg List.length hnx2; simp only [List.length_append, List.length_map, List.length_cons, List.length_nil] at this; omega
                            have hY24 : (Y.length + 1) * 24 ≤ 140737488355328 := by omega
                            have hr16 : (r.length + 1) * 16 ≤ 140737488355328 := by have := hrl.1; omega
                            simp -dsimp only [go_sem, hbt, hp, hYd, sRow, List.length_map, f1, f2, g1, g2, m1, m2, p1, p2, l1, k1, ll, la, lb]
                            refine call_pure (l_CloneA_string r _ (by have := hrl.1; omega)) ?_
                            simp -dsimp only [go_sem, hY24, hr16, hc1', sRow, List.length_map, f1, f2, g1, g2, m1, m2, p1, p2, l1, k1, ll, la, lb]
                            have hmz : X.map rwA ++ ((parts.take (c' + 1)).map fun p => r ++ [p]).map rwA = Y.map rwA ++ [rwA (r ++ [p])] := by rw [← List.map_append, hnx2, List.map_append]; rfl
                            have hfz : ∀ H : AH, H.o (h.n + 3) = .rows 9 1 (r.map sRow ++ [[str p]]) → Fz H (h.n + 3) (.so (h.n + 3) (r.length + 1) (r.length + 1)) (.sl ((r ++ [p]).map sRow)) := fun H ho => Fz.so_lo (Nat.le_refl _) (by rw [List.map_append]; exact ho) (by simp) (of_eq_true puR_strs _)
                            refine round_to ⟨c' + 1, hbt⟩ (by simp; omega) ?_
                            refine weak_objs [l, a, h.n, h.n + 1, h.n + 2] (by simp -dsimp only [go_sem]) (by simp -dsimp only [go_sem]) (by simp -dsimp only [go_sem, f1, f2, g1, g2, m1, m2, p1, p2, l1, k1, ll, la, lb, hlz]) ?_ ?_ ?_
                            · exact fun x q1 q2 => by
                                have q1 : x < h.n := q1
                                simp only [List.mem_cons, List.not_mem_nil, or_false, not_or] at q2
                                obtain ⟨r1, r2⟩ := q2
                                have r5 : ¬ x = h.n := by omega
                                have r6 : ∀ k, ¬ x = h.n + k := fun k => by omega
                                simp -dsimp only [go_sem, wyH, r1, r2, r5, r6]
                            · exact fun x q1 q2 => by
                                have q1 : x < h.n + 3 := q1
                                simp only [List.mem_cons, List.not_mem_nil, or_false] at q2 ⊢
                                rcases q2 with (r | r) | r
                                · exact .inr (.inl r)
                                · exact .inl r
                                · have r : h.n ≤ x := r
                                  omega
                            · simp -dsimp only [go_sem, wyH, wyC, objFz_mapI, objFz_rwA, f1, f2, g1, g2, m1, m2, p1, p2, l1, k1, ll, la, lb, hmz]
                              first | exact objFz_rwA_snocC (hfz _ (by simp -dsimp only [go_sem])) | trace_state
                          · have et : parts.take c' = parts := List.take_of_length_le (by omega)
                            simp -dsimp only [go_sem, hbt, et, hc1]
                            refine round_to ⟨c + 1, hct⟩ (by simp; omega) ?_
                            refine weak_objs [l, a, h.n, h.n + 1, h.n + 2] (by simp -dsimp only [go_sem]) (by simp -dsimp only [go_sem]) (by simp -dsimp only [go_sem, f1, f2, g1, g2, m1, m2, p1, p2, l1, k1, ll, la, lb, hnx, List.length_append, List.length_map]) ?_ ?_ ?_
                            · exact fun x q1 q2 => by
                                have q1 : x < h.n := q1
                                simp only [List.mem_cons, List.not_mem_nil, or_false, not_or] at q2
                                obtain ⟨r1, r2⟩ := q2
                                have r5 : ¬ x = h.n := by omega
                                have r6 : ∀ k, ¬ x = h.n + k := fun k => by omega
                                simp -dsimp only [go_sem, wyH, r1, r2, r5, r6]
                            · exact fun x q1 q2 => by
                                have q1 : x < h.n + 3 := q1
                                simp only [List.mem_cons, List.not_mem_nil, or_false] at q2 ⊢
                                rcases q2 with (r | r) | r
                                · exact .inr (.inl r)
                                · exact .inl r
                                · have r : h.n ≤ x := r
                                  omega
                            · simp -dsimp only [go_sem, wyH, wyC, objFz_mapI, objFz_rwA, f1, f2, g1, g2, m1, m2, p1, p2, l1, k1, ll, la, lb, hnx, List.map_append]
                      · have et : rows.take c = rows := List.take_of_length_le (by omega)
                        have hcl : (crossL rows parts).length ≤ 3600 := by
                          have := crossL_take_len rows parts c
                          rw [et] at this
                          have h2 : c * parts.length ≤ 60 * 60 := Nat.mul_le_mul (by omega) hp1
                          omega
                        by_cases hl60 : (crossL rows parts).length ≤ 60
                        · have hgt : ¬ (60 : Int) < ((crossL rows parts).length : Nat) := by omega
                          have hPn := partsT_one (ms := ms.drop (q + 1)) (show (subT w d m S2).1 = some parts by rw [hR]; exact hr) hl60
                          rw [← hPq, hR] at hPn
                          simp -dsimp only [go_sem, hct, et, List.length_map, hgt, hq1, f1, f2, g1, g2, m1, m2, p1, p2, l1, k1, ll, la, lb]
                          refine round_to ⟨(q + 1, crossL rows parts, R.2), hqt, hPn, hRok, hRA, hl60, hrw.cross hp2⟩ (by simp; omega) ?_
                          refine weak_objs [l, a, h.n] (by simp -dsimp only [go_sem]) (by simp -dsimp only [go_sem]) (by simp -dsimp only [go_sem, f1, f2, g1, g2, m1, m2, p1, p2, l1, k1, ll, la, lb, fz_soRS]) ?_ ?_ ?_
                          · exact fun x q1 q2 => by
                              have q1 : x < h.n := q1
                              simp only [List.mem_cons, List.not_mem_nil, or_false, not_or] at q2
                              obtain ⟨r1, r2⟩ := q2
                              have r5 : ¬ x = h.n := by omega
                              have r6 : ∀ k, ¬ x = h.n + k := fun k => by omega
                              simp -dsimp only [go_sem, wyH, r1, r2, r5, r6]
                          · exact fun x q1 q2 => by
                              have q1 : x < h.n + 1 := q1
                              simp only [List.mem_cons, List.not_mem_nil, or_false] at q2 ⊢
                              rcases q2 with (r | r) | r
                              · exact .inr (.inl r)
                              · exact .inl r
                              · have r : h.n ≤ x := r
                                omega
                          · simp -dsimp only [go_sem, wyH, wyC, objFz_mapI, objFz_rwA, f1, f2, g1, g2, m1, m2, p1, p2, l1, k1, ll, la, lb]
                        · have hgt : (60 : Int) < ((crossL rows parts).length : Nat) := by omega
                          have hPn := partsT_many (ms := ms.drop (q + 1)) (show (subT w d m S2).1 = some parts by rw [hR]; exact hr) hl60
                          rw [← hPq, hR] at hPn
                          rw [candT_bad (S' := R.2) (by rw [hadd, hPn]; rfl)] at heq
                          clear hPq
                          subst heq
                          have eA : TT = (none, R.2 ++ [((n, d), none)]) := eA
                          subst eA
                          simp -dsimp only [go_sem, wyH, wyC, hct, et, List.length_map, hgt, f1, f2, g1, g2, m1, m2, p1, p2, l1, k1, ll, la, lb]
                          exact fin_wy hd (by simp -dsimp only [go_sem]) (by simp -dsimp only [go_sem, Option.getD_none, List.map_nil]) (by simp -dsimp only [go_sem, wyH, wyC, Option.isSome_none, f1, f2, g1, g2, m1, m2, p1, p2, l1, k1, ll, la, lb]) (by simp -dsimp only [go_sem, wyH, mapI_none, objFz_mapI, f1, f2, g1, g2, m1, m2, p1, p2, l1, k1, ll, la, lb])
                · have hqm : q = ms.length := by omega
                  rw [List.drop_of_length_le (by omega)] at hPq
                  have hPq : P = (some rows, S2) := hPq
                  have hlo2 : tbF S2 n d = none := by
                    obtain ⟨R0, hR0, hRl⟩ := hadl
                    rw [hPq] at hR0
                    have hR0 : S2 = S1 ++ R0 := hR0
                    rw [hR0]
                    exact tbF_low hlo hRl
                  simp -dsimp only [go_sem, hqt, List.length_map]
                  refine loop_ruleH [0, 1, 1, 6, 40, 0, 0, 77, 0] (fun (c : {c : Nat // c ≤ rows.length ∧ (∀ r ∈ rows.take c, (dictT k r).length ≤ 1200) ∧ (out ++ (rows.take c).map (dictT k)).length ≤ 60}) H => ([(9, .so h.n (out ++ (rows.take c.1).map (dictT k)).length (out ++ (rows.take c.1).map (dictT k)).length), (134, .v (.int .i64 (c.1 : Nat)))], ⟨h.n + 1, upd (wyH l a b w S2 true h.o) h.n (.rows 9 1 ((out ++ (rows.take c.1).map (dictT k)).map sRow))⟩)) (fun c => rows.length - c.1) ⟨0, Nat.zero_le _, fun r hr => by simp at hr, by simpa using ho1⟩ ?_ ?_
                  · refine weak_objs [l, a, h.n] (by simp -dsimp only [go_sem]) (by simp -dsimp only [go_sem]) (by simp -dsimp only [go_sem, f1, f2, g1, g2, m1, m2, p1, p2, l1, k1, ll, la, lb, List.take_zero, List.map_nil, List.append_nil]) ?_ ?_ ?_
                    · exact fun x q1 q2 => by
                        have q1 : x < h.n := q1
                        simp only [List.mem_cons, List.not_mem_nil, or_false, not_or] at q2
                        obtain ⟨r1, r2⟩ := q2
                        have r5 : ¬ x = h.n := by omega
                        have r6 : ∀ k, ¬ x = h.n + k := fun k => by omega
                        simp -dsimp only [go_sem, wyH, r1, r2, r5, r6]
                    · exact fun x q1 q2 => by
                        have q1 : x < h.n + 1 := q1
                        simp only [List.mem_cons, List.not_mem_nil, or_false] at q2 ⊢
                        rcases q2 with (r | r) | r
                        · exact .inr (.inl r)
                        · exact .inl r
                        · have r : h.n ≤ x := r
                          omega
                    · simp -dsimp only [go_sem, wyH, wyC, objFz_mapI, objFz_rwA, f1, f2, g1, g2, m1, m2, p1, p2, l1, k1, ll, la, lb, List.take_zero, List.map_nil, List.append_nil]
                  · rintro ⟨c, hc, hsh, hO⟩
                    have hc : c ≤ rows.length := hc
                    have hsh : ∀ r ∈ rows.take c, (dictT k r).length ≤ 1200 := hsh
                    have hO : (out ++ (rows.take c).map (dictT k)).length ≤ 60 := hO
                    have hc1 : c + 1 ≤ 9223372036854775807 := by omega
                    by_cases hct : c < rows.length
                    · obtain ⟨r, hrc⟩ := get_some hct
                      have hrl := hrw r (List.mem_of_getElem? hrc)
                      have hJ := fun H => i_joined k r H (by have := hrl.1; omega) (by have := hrl.2; omega)
                      have hnx : (out ++ (rows.take (c + 1)).map (dictT k)) = (out ++ (rows.take c).map (dictT k)) ++ [dictT k r] := by
                        rw [take_next hrc, List.map_append, List.append_assoc]; rfl
                      obtain ⟨O, hOe⟩ : ∃ O, O = out ++ (rows.take c).map (dictT k) := ⟨_, rfl⟩
                      have hOd : out ++ (rows.take c).map (dictT k) = O := hOe.symm
                      rw [hOd] at hO hnx
                      have hlz : out.length + (rows.take (c + 1)).length = O.length + 1 := by have := congrArg List.length hnx; simp only [List.length_append, List.length_map, List.length_cons, List.length_nil] at this; omega
                      have hmz : out.map sRow ++ ((rows.take (c + 1)).map (dictT k)).map sRow = O.map sRow ++ [[str (dictT k r)]] := by rw [← List.map_append, hnx, List.map_append]; rfl
                      have hO16 : (O.length + 1) * 16 ≤ 140737488355328 := by omega
                      have htl : (rows.take (c + 1)).length ≤ rows.length := by rw [List.length_take]; omega
                      simp -dsimp only [go_sem, hct, hrc, hOd, List.getElem?_map, Option.map_some, rwA, List.length_map]
                      refine call_pure (l_Itoa k _ hk9) ?_
                      simp -dsimp only [go_sem]
                      refine call_pure (hJ _) ?_
                      by_cases h60 : O.length + 1 ≤ 60
                      · have hg1 : ¬ (60 : Int) < ((O.length + 1 : Nat) : Int) := by omega
                        by_cases hd12 : (dictT k r).length ≤ 1200
                        · have hg2 : ¬ (1200 : Int) < ((dictT k r).length : Nat) := by omega
                          simp -dsimp only [go_sem, hg1, hg2, hO16, hc1, sRow, List.length_map, f1, f2, g1, g2, m1, m2, p1, p2, l1, k1, ll, la, lb]
                          refine round_to ⟨c + 1, hct, fun x hx => ?_, by rw [List.length_append, List.length_map]; omega⟩ (by simp; omega) ?_
                          · rw [take_next hrc] at hx
                            rcases List.mem_append.1 hx with hx | hx
                            · exact hsh x hx
                            · rw [List.mem_singleton.1 hx]; exact hd12
                          · refine weak_objs [l, a, h.n] (by simp -dsimp only [go_sem]) (by simp -dsimp only [go_sem]) (by simp -dsimp only [go_sem, f1, f2, g1, g2, m1, m2, p1, p2, l1, k1, ll, la, lb, hlz]) ?_ ?_ ?_
                            · exact fun x q1 q2 => by
                                have q1 : x < h.n := q1
                                simp only [List.mem_cons, List.not_mem_nil, or_false, not_or] at q2
                                obtain ⟨r1, r2⟩ := q2
                                have r5 : ¬ x = h.n := by omega
                                have r6 : ∀ k, ¬ x = h.n + k := fun k => by omega
                                simp -dsimp only [go_sem, wyH, r1, r2, r5, r6]
                            · exact fun x q1 q2 => by
                                have q1 : x < h.n + 1 := q1
                                simp only [List.mem_cons, List.not_mem_nil, or_false] at q2 ⊢
                                rcases q2 with (r | r) | r
                                · exact .inr (.inl r)
                                · exact .inl r
                                · have r : h.n ≤ x := r
                                  omega
                            · simp -dsimp only [go_sem, wyH, wyC, objFz_mapI, objFz_rwA, f1, f2, g1, g2, m1, m2, p1, p2, l1, k1, ll, la, lb, hmz, sRow]
                        · have hg2 : (1200 : Int) < ((dictT k r).length : Nat) := by omega
                          rw [candT_none (S' := S2) (rows := rows) (by rw [hadd, hPq]) (.inl ⟨r, List.mem_of_getElem? hrc, hd12⟩)] at heq
                          clear hPq
                          subst heq
                          have eA : TT = (none, S2 ++ [((n, d), none)]) := eA
                          subst eA
                          simp -dsimp only [go_sem, wyH, wyC, hg1, hg2, hO16, sRow, List.length_map, f1, f2, g1, g2, m1, m2, p1, p2, l1, k1, ll, la, lb]
                          exact fin_wy hd (by simp -dsimp only [go_sem]) (by simp -dsimp only [go_sem, Option.getD_none, List.map_nil]) (by simp -dsimp only [go_sem, wyH, wyC, Option.isSome_none, f1, f2, g1, g2, m1, m2, p1, p2, l1, k1, ll, la, lb]) (by simp -dsimp only [go_sem, wyH, mapI_none, objFz_mapI, f1, f2, g1, g2, m1, m2, p1, p2, l1, k1, ll, la, lb])
                      · have hg1 : (60 : Int) < ((O.length + 1 : Nat) : Int) := by omega
                        rw [candT_none (S' := S2) (rows := rows) (by rw [hadd, hPq]) (.inr (by rw [List.length_append, List.length_map]; omega))] at heq
                        clear hPq
                        subst heq
                        have eA : TT = (none, S2 ++ [((n, d), none)]) := eA
                        subst eA
                        simp -dsimp only [go_sem, wyH, wyC, hg1, hO16, sRow, List.length_map, f1, f2, g1, g2, m1, m2, p1, p2, l1, k1, ll, la, lb]
                        exact fin_wy hd (by simp -dsimp only [go_sem]) (by simp -dsimp only [go_sem, Option.getD_none, List.map_nil]) (by simp -dsimp only [go_sem, wyH, wyC, Option.isSome_none, f1, f2, g1, g2, m1, m2, p1, p2, l1, k1, ll, la, lb]) (by simp -dsimp only [go_sem, wyH, mapI_none, objFz_mapI, f1, f2, g1, g2, m1, m2, p1, p2, l1, k1, ll, la, lb])
                    · have et : rows.take c = rows := List.take_of_length_le (by omega)
                      rw [et] at hsh hO
                      have hro := rowsT_ok (i := k) hsh
                      rw [candT_more (S' := S2) (l := rows.map (dictT k)) (by rw [hadd, hPq]; show (rowsT k (some rows), S2) = _; rw [hro]) hO] at heq
                      simp -dsimp only [go_sem, hct, et, hj1]
                      refine round_to ⟨(j + 1, out ++ rows.map (dictT k), S2), hlt, heq, hS2, hA2, hO, hlo2⟩ (by simp; omega) ?_
                      refine weak_objs [l, a, h.n] (by simp -dsimp only [go_sem]) (by simp -dsimp only [go_sem]) (by simp -dsimp only [go_sem, f1, f2, g1, g2, m1, m2, p1, p2, l1, k1, ll, la, lb, List.length_append, List.length_map]) ?_ ?_ ?_
                      · exact fun x q1 q2 => by
                          have q1 : x < h.n := q1
                          simp only [List.mem_cons, List.not_mem_nil, or_false, not_or] at q2
                          obtain ⟨r1, r2⟩ := q2
                          have r5 : ¬ x = h.n := by omega
                          have r6 : ∀ k, ¬ x = h.n + k := fun k => by omega
                          simp -dsimp only [go_sem, wyH, r1, r2, r5, r6]
                      · exact fun x q1 q2 => by
                          have q1 : x < h.n + 1 := q1
                          simp only [List.mem_cons, List.not_mem_nil, or_false] at q2 ⊢
                          rcases q2 with (r | r) | r
                          · exact .inr (.inl r)
                          · exact .inl r
                          · have r : h.n ≤ x := r
                            omega
                      · simp -dsimp only [go_sem, wyH, wyC, objFz_mapI, objFz_rwA, f1, f2, g1, g2, m1, m2, p1, p2, l1, k1, ll, la, lb]
      · have ed : C.drop j = [] := List.drop_of_length_le (by omega)
        rw [ed] at heq
        have heq : T = (some out, S1) := heq
        subst heq
        have eA : TT = (some out, S1 ++ [((n, d), some out)]) := eA
        subst eA
        have hmp := fun x => mput_mapI (x := x) hA1 (hS1.keyL hok hn (d := d) (by omega)) hlo
        simp -dsimp only [go_sem, wyH, wyC, hlt, f1, f2, g1, g2, m1, m2, p1, p2, l1, k1, ll, la, lb]
        refine call_pure (hK _) ?_
        simp -dsimp only [go_sem, hMT, hmp, f1, f2, g1, g2, m1, m2, p1, p2, l1, k1, ll, la, lb]
        refine ⟨by rw [mfind_mapI hA1 (hS1.keyL hok hn (d := d) (by omega))]; rfl, ?_⟩
        refine fin_wy hd (by simp -dsimp only [go_sem]) ?_ ?_ ?_
        · exact Fz.so_lo (e := 9) (sz := 1) (rs := out.map sRow) (Nat.le_refl _) (by simp -dsimp only [go_sem, f1, f2, g1, g2, m1, m2, p1, p2, l1, k1, ll, la, lb]) (by simp) (of_eq_true puR_strs _)
        · simp -dsimp only [go_sem, wyH, wyC, Option.isSome_some, f1, f2, g1, g2, m1, m2, p1, p2, l1, k1, ll, la, lb]
        · show ObjFz _ _ (upd _ a _ a) _
          rw [upd_same]
          exact objFz_mapI_snoc (Fz.so_lo (e := 9) (sz := 1) (rs := out.map sRow) (Nat.le_refl _) (by simp -dsimp only [go_sem, f1, f2, g1, g2, m1, m2, p1, p2, l1, k1, ll, la, lb]) (by simp) (of_eq_true puR_strs _))
end Go.Proofs.YtiphcdmjlkngfaaGreatDoor
