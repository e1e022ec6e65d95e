/- Contracts of functions of this program, for all arguments that satisfy what each lemma asks for. -/
import Derived.Test.YtiphcdmjlkngfaaGreatDoorMB
import Derived.Test.YtiphcdmjlkngfaaGreatDoorMx
set_option linter.all false
namespace Go.Isea
open Go
set_option maxRecDepth 100000
abbrev TbBE := (Need × Nat) × Bool
abbrev TbB := List TbBE
def tfB : TbB → Need → Nat → Option Bool
  | [], _, _ => none
  | e :: es, n, d => if e.1 = (n, d) then some e.2 else tfB es n d
abbrev FbT := Need → TbB → Bool × TbB
/-- all needs have some, one after the other; the rest is not asked for behind one that has none -/
def allN (fd : FbT) : List Need → TbB → Bool × TbB
  | [], S => (true, S)
  | m :: ms, S => if (fd m S).1 = true then allN fd ms (fd m S).2 else (false, (fd m S).2)
def oneN (w : Wld) (fd : FbT) (d : Nat) (n : Need) (i : Nat) (S : TbB) : Bool × TbB := match w.is[i]? with
  | some x => (match needsOf x n.t with
    | some ms => if 0 < ms.length ∧ d = 0 then (false, S) else allN fd ms S
    | none => (false, S))
  | none => (false, S)
def anyN (w : Wld) (fd : FbT) (d : Nat) (n : Need) : List Nat → TbB → Bool × TbB
  | [], S => (false, S)
  | i :: is, S => if (oneN w fd d n i S).1 = true then (true, (oneN w fd d n i S).2) else anyN w fd d n is (oneN w fd d n i S).2
def keepB (n : Need) (d : Nat) (S : TbB) (r : Bool × TbB) : Bool × TbB := match tfB S n d with
  | some b => (b, S)
  | none => (r.1, r.2 ++ [((n, d), r.1)])
/-- less deep by one: nothing at all at depth 0 -/
def sbB (w : Wld) : Nat → FbT
  | 0 => fun _ S => (false, S)
  | d + 1 => fun n S => keepB n d S (anyN w (sbB w d) d n (candIx w n) S)
def someT (w : Wld) (d : Nat) : FbT := sbB w (d + 1)
theorem someT_eq (w : Wld) (d : Nat) (n : Need) (S : TbB) : someT w d n S = keepB n d S (anyN w (sbB w d) d n (candIx w n) S) := rfl
def sbD (w : Wld) : Nat → Need → Bool
  | 0 => fun _ => false
  | d + 1 => someD w d
theorem someD_sub (w : Wld) (d : Nat) (n : Need) : someD w d n = (candIx w n).any (someI w (sbD w d) d n) := by cases d <;> rfl
def TbBOk (w : Wld) (S : TbB) : Prop := ∀ e ∈ S, e.2 = someD w e.1.2 e.1.1 ∧ NOk w e.1.1 ∧ e.1.2 ≤ 6
theorem TbBOk.nil {w : Wld} : TbBOk w [] := fun e h => by cases h
theorem tfB_mem : ∀ {S : TbB} {n : Need} {d : Nat} {a : Bool}, tfB S n d = some a → ((n, d), a) ∈ S
  | [], n, d, a, h => by cases h
  | e :: es, n, d, a, h => by
    unfold tfB at h
    split at h
    · rename_i he
      injection h with h
      rw [← h, ← he]
      exact List.mem_cons_self ..
    · exact List.mem_cons_of_mem _ (tfB_mem h)
structure FbOk (w : Wld) (fd : FbT) (g : Need → Bool) (b c : Nat) : Prop where
  val : ∀ n S, NOk w n → TbBOk w S → (fd n S).1 = g n
  ok : ∀ n S, NOk w n → TbBOk w S → TbBOk w (fd n S).2
  len : ∀ n S, (fd n S).2.length ≤ S.length + b
  low : ∀ n S, ∃ R, (fd n S).2 = S ++ R ∧ ∀ e ∈ R, e.1.2 < c
section
variable {w : Wld} {fd : FbT} {g : Need → Bool} {b c : Nat}
theorem allN_ok (h : FbOk w fd g b c) : ∀ (ms : List Need) (S : TbB), (∀ m ∈ ms, NOk w m) → TbBOk w S → (allN fd ms S).1 = ms.all g ∧ TbBOk w (allN fd ms S).2
  | [], S, _, hS => ⟨rfl, hS⟩
  | m :: ms, S, hm, hS => by
    have h1 := h.val m S (hm m (List.mem_cons_self ..)) hS
    have h2 := h.ok m S (hm m (List.mem_cons_self ..)) hS
    unfold allN
    rw [List.all_cons, ← h1]
    by_cases e : (fd m S).1 = true
    · rw [if_pos e, e, Bool.true_and]
      exact allN_ok h ms _ (fun x hx => hm x (List.mem_cons_of_mem _ hx)) h2
    · rw [if_neg e]
      have : (fd m S).1 = false := by simpa using e
      rw [this, Bool.false_and]
      exact ⟨rfl, h2⟩
theorem allN_len (h : FbOk w fd g b c) : ∀ (ms : List Need) (S : TbB), (allN fd ms S).2.length ≤ S.length + ms.length * b
  | [], S => by simp [allN]
  | m :: ms, S => by
    have h1 := h.len m S
    have h2 := allN_len h ms (fd m S).2
    unfold allN
    rw [List.length_cons, Nat.add_mul, Nat.one_mul]
    split
    · omega
    · show (fd m S).2.length ≤ _; omega
theorem allN_low (h : FbOk w fd g b c) : ∀ (ms : List Need) (S : TbB), ∃ R, (allN fd ms S).2 = S ++ R ∧ ∀ e ∈ R, e.1.2 < c
  | [], S => ⟨[], by simp [allN], fun e he => by cases he⟩
  | m :: ms, S => by
    obtain ⟨R, hR, hl⟩ := h.low m S
    obtain ⟨R2, hR2, hl2⟩ := allN_low h ms (fd m S).2
    unfold allN
    split
    · refine ⟨R ++ R2, by rw [hR2, hR, List.append_assoc], fun e he => ?_⟩
      rcases List.mem_append.1 he with he | he
      · exact hl e he
      · exact hl2 e he
    · exact ⟨R, hR, hl⟩
theorem oneN_ok (hok : worldOk w = true) (hw : w.Sm) (h : FbOk w fd g b c) {d i : Nat} {n : Need} {S : TbB} (hS : TbBOk w S) : (oneN w fd d n i S).1 = someI w g d n i ∧ TbBOk w (oneN w fd d n i S).2 := by
  unfold oneN someI
  cases hx : w.is[i]? with
  | none => exact ⟨rfl, hS⟩
  | some x =>
    simp only
    cases hm : needsOf x n.t with
    | none => exact ⟨rfl, hS⟩
    | some ms =>
      simp only
      split
      · exact ⟨rfl, hS⟩
      · exact allN_ok h ms S (fun m hm' => ((needs_ok hok hw hx hm).2 m hm').1) hS
theorem oneN_len (hok : worldOk w = true) (hw : w.Sm) (h : FbOk w fd g b c) {d i : Nat} {n : Need} {S : TbB} : (oneN w fd d n i S).2.length ≤ S.length + 3 * b := by
  unfold oneN
  cases hx : w.is[i]? with
  | none => exact Nat.le_add_right _ _
  | some x =>
    simp only
    cases hm : needsOf x n.t with
    | none => exact Nat.le_add_right _ _
    | some ms =>
      simp only
      split
      · exact Nat.le_add_right _ _
      · have h1 := allN_len h ms S
        have h2 : ms.length * b ≤ 3 * b := Nat.mul_le_mul_right _ (needs_ok hok hw hx hm).1
        omega
theorem oneN_low (h : FbOk w fd g b c) {d i : Nat} {n : Need} {S : TbB} : ∃ R, (oneN w fd d n i S).2 = S ++ R ∧ ∀ e ∈ R, e.1.2 < c := by
  have h0 : ∃ R, S = S ++ R ∧ ∀ e ∈ R, e.1.2 < c := ⟨[], by simp, fun e he => by cases he⟩
  unfold oneN
  cases hx : w.is[i]? with
  | none => exact h0
  | some x =>
    simp only
    cases hm : needsOf x n.t with
    | none => exact h0
    | some ms =>
      simp only
      split
      · exact h0
      · exact allN_low h ms S
theorem anyN_ok (hok : worldOk w = true) (hw : w.Sm) (h : FbOk w fd g b c) {d : Nat} {n : Need} : ∀ (is : List Nat) (S : TbB), TbBOk w S → (anyN w fd d n is S).1 = is.any (someI w g d n) ∧ TbBOk w (anyN w fd d n is S).2
  | [], S, hS => ⟨rfl, hS⟩
  | i :: is, S, hS => by
    obtain ⟨h1, h2⟩ := oneN_ok hok hw h (d := d) (i := i) (n := n) hS
    unfold anyN
    rw [List.any_cons, ← h1]
    by_cases e : (oneN w fd d n i S).1 = true
    · rw [if_pos e, e, Bool.true_or]
      exact ⟨rfl, h2⟩
    · rw [if_neg e]
      have : (oneN w fd d n i S).1 = false := by simpa using e
      rw [this, Bool.false_or]
      exact anyN_ok hok hw h is _ h2
theorem anyN_len (hok : worldOk w = true) (hw : w.Sm) (h : FbOk w fd g b c) {d : Nat} {n : Need} : ∀ (is : List Nat) (S : TbB), (anyN w fd d n is S).2.length ≤ S.length + is.length * (3 * b)
  | [], S => by simp [anyN]
  | i :: is, S => by
    have h1 := oneN_len hok hw h (d := d) (i := i) (n := n) (S := S)
    have h2 := anyN_len hok hw h (d := d) (n := n) is (oneN w fd d n i S).2
    unfold anyN
    rw [List.length_cons, Nat.add_mul, Nat.one_mul]
    split
    · show (oneN w fd d n i S).2.length ≤ _; omega
    · omega
theorem anyN_low (h : FbOk w fd g b c) {d : Nat} {n : Need} : ∀ (is : List Nat) (S : TbB), ∃ R, (anyN w fd d n is S).2 = S ++ R ∧ ∀ e ∈ R, e.1.2 < c
  | [], S => ⟨[], by simp [anyN], fun e he => by cases he⟩
  | i :: is, S => by
    obtain ⟨R, hR, hl⟩ := oneN_low h (d := d) (i := i) (n := n) (S := S)
    obtain ⟨R2, hR2, hl2⟩ := anyN_low h (d := d) (n := n) is (oneN w fd d n i S).2
    unfold anyN
    split
    · exact ⟨R, hR, hl⟩
    · refine ⟨R ++ R2, by rw [hR2, hR, List.append_assoc], fun e he => ?_⟩
      rcases List.mem_append.1 he with he | he
      · exact hl e he
      · exact hl2 e he
end
theorem sbB_ok {w : Wld} (hok : worldOk w = true) (hw : w.Sm) : ∀ d, d ≤ 7 → FbOk w (sbB w d) (sbD w d) (bT d) d
  | 0, _ => ⟨fun _ _ _ _ => rfl, fun _ _ _ h => h, fun _ _ => Nat.le_refl _, fun _ S => ⟨[], by simp [sbB], fun e he => by cases he⟩⟩
  | d + 1, hd => by
    have ih := sbB_ok hok hw d (by omega)
    refine ⟨fun n S hn hS => ?_, fun n S hn hS => ?_, fun n S => ?_, fun n S => ?_⟩
    · show (keepB n d S _).1 = someD w d n
      unfold keepB
      cases e : tfB S n d with
      | some a => exact (hS _ (tfB_mem e)).1
      | none => rw [someD_sub]; exact (anyN_ok hok hw ih (candIx w n) S hS).1
    · show TbBOk w (keepB n d S _).2
      obtain ⟨h1, h2⟩ := anyN_ok hok hw ih (d := d) (n := n) (candIx w n) S hS
      unfold keepB
      cases e : tfB S n d with
      | some a => exact hS
      | none =>
        intro x hx
        rcases List.mem_append.1 hx with hx | hx
        · exact h2 x hx
        · have := List.mem_singleton.1 hx
          subst this
          exact ⟨by rw [someD_sub]; exact h1, hn, by show d ≤ 6; omega⟩
    · show (keepB n d S _).2.length ≤ _
      have h1 := anyN_len hok hw ih (d := d) (n := n) (candIx w n) S
      have h2 : (candIx w n).length * (3 * bT d) ≤ 10 * (3 * bT d) := Nat.mul_le_mul_right _ (cand_len10 hok n)
      show _ ≤ S.length + (30 * bT d + 1)
      unfold keepB
      split
      · exact Nat.le_add_right _ _
      · rw [List.length_append, List.length_singleton]; omega
    · show ∃ R, (keepB n d S _).2 = _ ∧ _
      obtain ⟨R, hR, hl⟩ := anyN_low ih (d := d) (n := n) (candIx w n) S
      unfold keepB
      split
      · exact ⟨[], by simp, fun e he => by cases he⟩
      · refine ⟨R ++ [((n, d), (anyN w (sbB w d) d n (candIx w n) S).1)], by rw [hR, List.append_assoc], fun e he => ?_⟩
        rcases List.mem_append.1 he with he | he
        · have := hl e he; omega
        · rw [List.mem_singleton.1 he]; exact Nat.lt_succ_self d
theorem tfB_low {n : Need} {d : Nat} : ∀ {S R : TbB}, tfB S n d = none → (∀ e ∈ R, e.1.2 < d) → tfB (S ++ R) n d = none
  | [], [], _, _ => rfl
  | [], e :: R, h, hR => by
    show (if e.1 = (n, d) then some e.2 else tfB R n d) = none
    have h1 := hR e (List.mem_cons_self ..)
    rw [if_neg (fun hh => by rw [hh] at h1; exact Nat.lt_irrefl _ h1)]
    exact tfB_low (S := []) rfl fun x hx => hR x (List.mem_cons_of_mem _ hx)
  | e :: S, R, h, hR => by
    show (if e.1 = (n, d) then some e.2 else tfB (S ++ R) n d) = none
    unfold tfB at h
    split at h
    · cases h
    · rename_i he
      rw [if_neg he]
      exact tfB_low h hR
/-- the same table, with lists: nothing or an empty one -/
def tbB (S : TbB) : TbL := S.map fun e => (e.1, if e.2 = true then some [] else none)
theorem tbB_len (S : TbB) : (tbB S).length = S.length := List.length_map ..
theorem tbB_app (S R : TbB) : tbB (S ++ R) = tbB S ++ tbB R := List.map_append
theorem tbF_tbB : ∀ {S : TbB} {n : Need} {d : Nat}, tbF (tbB S) n d = (tfB S n d).map fun b => if b = true then some [] else none
  | [], n, d => rfl
  | e :: S, n, d => by
    show (if e.1 = (n, d) then _ else tbF (tbB S) n d) = (if e.1 = (n, d) then some e.2 else tfB S n d).map _
    split
    · rfl
    · exact tbF_tbB
theorem TbBOk.keyS {w : Wld} {S : TbB} {n : Need} {d : Nat} (hok : worldOk w = true) (h : TbBOk w S) (hn : NOk w n) (hd : d ≤ 9) : ∀ e ∈ tbB S, keyS e.1.1 e.1.2 = keyS n d ↔ e.1 = (n, d) := by
  intro e he
  obtain ⟨x, hx, rfl⟩ := List.mem_map.1 he
  have hx' := h x hx
  have := TbOk.key (S := [(x.1, allD w x.1.2 x.1.1)]) hok (fun y hy => by rw [List.mem_singleton.1 hy]; exact ⟨rfl, hx'.2⟩) hn hd (x.1, allD w x.1.2 x.1.1) (List.mem_singleton.2 rfl)
  exact this
theorem TbBOk.keyL {w : Wld} {S : TbB} {n : Need} {d : Nat} (hok : worldOk w = true) (h : TbBOk w S) (hn : NOk w n) (hd : d ≤ 9) : ∀ e ∈ S, Isea.keyL e.1.1 e.1.2 = Isea.keyL n d ↔ e.1 = (n, d) := by
  intro x hx
  have hx' := h x hx
  have := TbOk.keyL (S := [(x.1, allD w x.1.2 x.1.1)]) hok (fun y hy => by rw [List.mem_singleton.1 hy]; exact ⟨rfl, hx'.2⟩) hn hd (x.1, allD w x.1.2 x.1.1) (List.mem_singleton.2 rfl)
  exact this
end Go.Isea
