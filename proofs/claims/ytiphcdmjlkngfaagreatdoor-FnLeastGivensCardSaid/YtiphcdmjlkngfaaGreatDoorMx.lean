/- Contracts of functions of this program, for all arguments that satisfy what each lemma asks for. -/
import Derived.Test.YtiphcdmjlkngfaaGreatDoorMi
import Derived.Test.YtiphcdmjlkngfaaGreatDoorMk
import Derived.Test.YtiphcdmjlkngfaaGreatDoorMv
set_option linter.all false
namespace Go.Isea
open Go
/-- one more part behind each row -/
def crossL (rows : List (List L8)) (parts : List L8) : List (List L8) := rows.flatMap fun r => parts.map fun p => r ++ [p]
def partsL (fd : Need → Option (List L8)) : List Need → List (List L8) → Option (List (List L8))
  | [], rows => some rows
  | m :: ms, rows => match fd m with
    | some parts => if (crossL rows parts).length ≤ 60 then partsL fd ms (crossL rows parts) else none
    | none => none
/-- the parts of a text behind a number, as a dictionary -/
def joinB : Nat → List L8 → L8
  | _, [] => []
  | k, p :: ps => [sep k] ++ p ++ joinB (k + 1) ps
def dictT (i : Nat) (row : List L8) : L8 := digitL i ++ joinB 0 row ++ (if row.length = 0 then [] else [41])
/-- the dictionaries of one candidate; nothing if there are too many, or one is too long -/
def fromI (fd : Need → Option (List L8)) (i : Nat) (ms : List Need) : Option (List L8) := match partsL fd ms [[]] with
  | some rows => if (rows.map (dictT i)).all (fun d => decide (d.length ≤ 1200)) = true then some (rows.map (dictT i)) else none
  | none => none
/-- what a candidate adds: nothing where its needs are too big, or nothing is left of the depth -/
def addI (w : Wld) (fd : Need → Option (List L8)) (d : Nat) (n : Need) (i : Nat) : Option (List L8) := match w.is[i]? with
  | some x => (match needsOf x n.t with
    | some ms => if 0 < ms.length ∧ d = 0 then some [] else fromI fd i ms
    | none => some [])
  | none => some []
def allL (w : Wld) (fd : Need → Option (List L8)) (d : Nat) (n : Need) : List Nat → List L8 → Option (List L8)
  | [], out => some out
  | i :: is, out => match addI w fd d n i with
    | some l => if (out ++ l).length ≤ 60 then allL w fd d n is (out ++ l) else none
    | none => none
def allD (w : Wld) : Nat → Need → Option (List L8)
  | 0, n => allL w (fun _ => some []) 0 n (candIx w n) []
  | d + 1, n => allL w (allD w d) (d + 1) n (candIx w n) []
def allDicts (w : Wld) (n : Need) (d : Int) : Option (List L8) := if (worldOk w && needOk w n) = true ∧ 0 ≤ d ∧ d ≤ 6 then allD w d.toNat n else none
/-- how many digits a text has -/
def digitsL (s : L8) : Nat := s.countP fun c => decide (48 ≤ c.toNat) && decide (c.toNat ≤ 57)
def leastL : List L8 → L8 → L8
  | [], b => b
  | d :: ds, b => leastL ds (if b = [] ∨ digitsL d < digitsL b then d else b)
def leastD (w : Wld) (n : Need) (d : Int) : L8 := match allDicts w n d with
  | some l => leastL l []
  | none => []
end Go.Isea

namespace Go.Isea
open Go
def LOk (l : List L8) : Prop := l.length ≤ 60 ∧ ∀ x ∈ l, x.length ≤ 1200
theorem LOk.nil : LOk [] := ⟨by simp, fun x h => by cases h⟩
theorem fromI_ok {fd : Need → Option (List L8)} {i : Nat} {ms : List Need} {l : List L8} (h : fromI fd i ms = some l) : ∀ x ∈ l, x.length ≤ 1200 := by
  unfold fromI at h
  split at h
  · split at h
    · rename_i rows _ ha
      injection h with h
      rw [← h]
      intro x hx
      exact of_decide_eq_true (List.all_eq_true.1 ha x hx)
    · cases h
  · cases h
theorem addI_ok {w : Wld} {fd : Need → Option (List L8)} {d : Nat} {n : Need} {i : Nat} {l : List L8} (h : addI w fd d n i = some l) : ∀ x ∈ l, x.length ≤ 1200 := by
  unfold addI at h
  split at h
  · split at h
    · split at h
      · injection h with h; rw [← h]; intro x hx; cases hx
      · exact fromI_ok h
    · injection h with h; rw [← h]; intro x hx; cases hx
  · injection h with h; rw [← h]; intro x hx; cases hx
theorem allL_ok {w : Wld} {fd : Need → Option (List L8)} {d : Nat} {n : Need} : ∀ (is : List Nat) (out l : List L8), LOk out → allL w fd d n is out = some l → LOk l
  | [], out, l, h, e => by injection e with e; rw [← e]; exact h
  | i :: is, out, l, h, e => by
    unfold allL at e
    split at e
    · rename_i q hq
      split at e
      · rename_i hl
        refine allL_ok is _ l ⟨hl, fun x hx => ?_⟩ e
        rcases List.mem_append.1 hx with hx | hx
        · exact h.2 x hx
        · exact addI_ok hq x hx
      · cases e
    · cases e
theorem allD_ok {w : Wld} {d : Nat} {n : Need} {l : List L8} (h : allD w d n = some l) : LOk l := by
  cases d with
  | zero => exact allL_ok _ _ _ LOk.nil h
  | succ d => exact allL_ok _ _ _ LOk.nil h
/-! what is known already -/
abbrev Tab := List (L8 × List L8)
def tabF : Tab → L8 → Option (List L8)
  | [], _ => none
  | p :: ps, k => if p.1 = k then some p.2 else tabF ps k
def tabPut : Tab → L8 → List L8 → Tab
  | [], k, l => [(k, l)]
  | p :: ps, k, l => if p.1 = k then (k, l) :: ps else p :: tabPut ps k l
theorem tabF_put : ∀ (t : Tab) (k k' : L8) (l : List L8), tabF (tabPut t k l) k' = if k = k' then some l else tabF t k'
  | [], k, k', l => rfl
  | p :: ps, k, k', l => by
    unfold tabPut
    by_cases h : p.1 = k
    · rw [if_pos h]
      show (if k = k' then some l else tabF ps k') = if k = k' then some l else (if p.1 = k' then some p.2 else tabF ps k')
      by_cases h2 : k = k'
      · rw [if_pos h2, if_pos h2]
      · rw [if_neg h2, if_neg h2, if_neg (by rw [h]; exact h2)]
    · rw [if_neg h]
      show (if p.1 = k' then some p.2 else tabF (tabPut ps k l) k') = if k = k' then some l else (if p.1 = k' then some p.2 else tabF ps k')
      rw [tabF_put ps k k' l]
      by_cases h2 : p.1 = k'
      · rw [if_pos h2, if_neg (fun e => h (h2.trans e.symm)), if_pos h2]
      · rw [if_neg h2, if_neg h2]
def entT (p : L8 × List L8) : AV × AV := (str p.1, .sl (p.2.map sRow))
/-- the text of a need and a depth, as the program has it -/
def keyL (n : Need) (d : Nat) : L8 := n.c ++ [32] ++ n.t ++ ([32] ++ digitL d)
theorem snoc_inj {a b : L8} {x y : UInt8} (h : a ++ [x] = b ++ [y]) : a = b ∧ x = y := by
  have h1 := congrArg List.getLast? h
  simp at h1
  exact ⟨by simpa [h1] using h, h1⟩
theorem digitL_inj {d e : Nat} (hd : d ≤ 9) (he : e ≤ 9) (h : UInt8.ofNat (48 + d) = UInt8.ofNat (48 + e)) : d = e := by
  have := congrArg UInt8.toNat h
  simp only [UInt8.toNat_ofNat'] at this
  omega
theorem keyL_inj {n m : Need} {d e : Nat} {a b : UInt8} (hn : n.c = [a]) (hm : m.c = [b]) (hd : d ≤ 9) (he : e ≤ 9) (h : keyL n d = keyL m e) : n = m ∧ d = e := by
  unfold keyL digitL at h
  rw [hn, hm] at h
  have h : [a] ++ [32] ++ n.t ++ [32] ++ [UInt8.ofNat (48 + d)] = [b] ++ [32] ++ m.t ++ [32] ++ [UInt8.ofNat (48 + e)] := by simpa using h
  obtain ⟨h1, h2⟩ := snoc_inj h
  obtain ⟨h3, _⟩ := snoc_inj h1
  have h3 : a :: 32 :: n.t = b :: 32 :: m.t := by simpa using h3
  injection h3 with h4 h5
  injection h5 with _ h6
  refine ⟨?_, digitL_inj hd he h2⟩
  cases n; cases m
  simp only at hn hm h6
  rw [hn, hm, h4, h6]
/-- what the table says is so -/
def TabOk (w : Wld) (t : Tab) : Prop := ∀ (m : Need) (d : Nat) (l : List L8), NOk w m → d ≤ 9 → tabF t (keyL m d) = some l → allD w d m = some l
theorem TabOk.nil {w : Wld} : TabOk w [] := fun _ _ _ _ _ h => by cases h
theorem TabOk.put {w : Wld} (hok : worldOk w = true) {t : Tab} (h : TabOk w t) {n : Need} {d : Nat} {l : List L8} (hn : NOk w n) (hd : d ≤ 9) (hl : allD w d n = some l) : TabOk w (tabPut t (keyL n d) l) := by
  intro m e r hm he hr
  rw [tabF_put] at hr
  split at hr
  · rename_i hk
    injection hr with hr
    obtain ⟨a, ha, _⟩ := known_letter (world_cls hok) hn.1
    obtain ⟨b, hb, _⟩ := known_letter (world_cls hok) hm.1
    obtain ⟨rfl, rfl⟩ := keyL_inj ha hb hd he hk
    rw [← hr]; exact hl
  · exact h m e r hm he hr
end Go.Isea

namespace Go.Isea
open Go
theorem opt_c {α : Type} (o : Option α) : o = none ∨ ∃ a, o = some a := by
  cases o with
  | none => exact .inl rfl
  | some a => exact .inr ⟨a, rfl⟩
/-- a need, a depth, what was told -/
abbrev TbE := (Need × Nat) × Option (List L8)
abbrev TbL := List TbE
def tbF : TbL → Need → Nat → Option (Option (List L8))
  | [], _, _ => none
  | e :: es, n, d => if e.1 = (n, d) then some e.2 else tbF es n d
abbrev FdT := Need → TbL → Option (List L8) × TbL
def partsT (fd : FdT) : List Need → List (List L8) → TbL → Option (List (List L8)) × TbL
  | [], rows, S => (some rows, S)
  | m :: ms, rows, S => match (fd m S).1 with
    | some parts => if (crossL rows parts).length ≤ 60 then partsT fd ms (crossL rows parts) (fd m S).2 else (none, (fd m S).2)
    | none => (none, (fd m S).2)
def rowsT (i : Nat) : Option (List (List L8)) → Option (List L8)
  | some rows => if (rows.map (dictT i)).all (fun d => decide (d.length ≤ 1200)) = true then some (rows.map (dictT i)) else none
  | none => none
def addT (w : Wld) (fd : FdT) (d : Nat) (n : Need) (i : Nat) (S : TbL) : Option (List L8) × TbL := match w.is[i]? with
  | some x => (match needsOf x n.t with
    | some ms => if 0 < ms.length ∧ d = 0 then (some [], S) else (rowsT i (partsT fd ms [[]] S).1, (partsT fd ms [[]] S).2)
    | none => (some [], S))
  | none => (some [], S)
def candT (w : Wld) (fd : FdT) (d : Nat) (n : Need) : List Nat → List L8 → TbL → Option (List L8) × TbL
  | [], out, S => (some out, S)
  | i :: is, out, S => match (addT w fd d n i S).1 with
    | some l => if (out ++ l).length ≤ 60 then candT w fd d n is (out ++ l) (addT w fd d n i S).2 else (none, (addT w fd d n i S).2)
    | none => (none, (addT w fd d n i S).2)
def keepT (n : Need) (d : Nat) (S : TbL) (r : Option (List L8) × TbL) : Option (List L8) × TbL := match tbF S n d with
  | some a => (a, S)
  | none => (r.1, r.2 ++ [((n, d), r.1)])
def subT (w : Wld) : Nat → FdT
  | 0 => fun _ S => (some [], S)
  | d + 1 => fun n S => keepT n d S (candT w (subT w d) d n (candIx w n) [] S)
/-- what is told of a need at a depth, and the table behind it -/
def allT (w : Wld) (d : Nat) : FdT := subT w (d + 1)
theorem allT_eq (w : Wld) (d : Nat) (n : Need) (S : TbL) : allT w d n S = keepT n d S (candT w (subT w d) d n (candIx w n) [] S) := rfl
def subD (w : Wld) : Nat → Need → Option (List L8)
  | 0 => fun _ => some []
  | d + 1 => allD w d
theorem allD_sub (w : Wld) (d : Nat) (n : Need) : allD w d n = allL w (subD w d) d n (candIx w n) [] := by cases d <;> rfl
/-- what the table says is so -/
def TbOk (w : Wld) (S : TbL) : Prop := ∀ e ∈ S, e.2 = allD w e.1.2 e.1.1 ∧ NOk w e.1.1 ∧ e.1.2 ≤ 6
theorem TbOk.nil {w : Wld} : TbOk w [] := fun e h => by cases h
theorem tbF_mem : ∀ {S : TbL} {n : Need} {d : Nat} {a : Option (List L8)}, tbF S n d = some a → ((n, d), a) ∈ S
  | [], n, d, a, h => by cases h
  | e :: es, n, d, a, h => by
    unfold tbF at h
    split at h
    · rename_i he
      injection h with h
      rw [← h, ← he]
      exact List.mem_cons_self ..
    · exact List.mem_cons_of_mem _ (tbF_mem h)
/-- what a function over tables does -/
structure FdOk (w : Wld) (fd : FdT) (g : Need → Option (List L8)) (b : Nat) : Prop where
  val : ∀ n S, NOk w n → TbOk w S → (fd n S).1 = g n
  ok : ∀ n S, NOk w n → TbOk w S → TbOk w (fd n S).2
  len : ∀ n S, (fd n S).2.length ≤ S.length + b
  ext : ∀ n S, ∃ R, (fd n S).2 = S ++ R
section
variable {w : Wld} {fd : FdT} {g : Need → Option (List L8)} {b : Nat}
theorem partsT_ok (h : FdOk w fd g b) : ∀ (ms : List Need) (rows : List (List L8)) (S : TbL), (∀ m ∈ ms, NOk w m) → TbOk w S →
    (partsT fd ms rows S).1 = partsL g ms rows ∧ TbOk w (partsT fd ms rows S).2
  | [], rows, S, _, hS => ⟨rfl, hS⟩
  | m :: ms, rows, S, hm, hS => by
    have h1 := h.val m S (hm m (List.mem_cons_self ..)) hS
    have h2 := h.ok m S (hm m (List.mem_cons_self ..)) hS
    unfold partsT partsL
    rw [h1]
    cases g m with
    | none => exact ⟨rfl, h2⟩
    | some parts =>
      simp only
      by_cases hl : (crossL rows parts).length ≤ 60
      · rw [if_pos hl, if_pos hl]
        exact partsT_ok h ms _ _ (fun x hx => hm x (List.mem_cons_of_mem _ hx)) h2
      · rw [if_neg hl, if_neg hl]
        exact ⟨rfl, h2⟩
theorem partsT_len (h : FdOk w fd g b) : ∀ (ms : List Need) (rows : List (List L8)) (S : TbL), (partsT fd ms rows S).2.length ≤ S.length + ms.length * b
  | [], rows, S => by simp [partsT]
  | m :: ms, rows, S => by
    have h1 := h.len m S
    have e : (m :: ms).length * b = ms.length * b + b := by rw [List.length_cons, Nat.add_mul, Nat.one_mul]
    have h3 := partsT_len h ms
    unfold partsT
    rw [e]
    split
    · split
      · have := h3 (crossL rows (by assumption)) (fd m S).2
        omega
      · simp only; omega
    · simp only; omega
theorem partsT_ext (h : FdOk w fd g b) : ∀ (ms : List Need) (rows : List (List L8)) (S : TbL), ∃ R, (partsT fd ms rows S).2 = S ++ R
  | [], rows, S => ⟨[], by simp [partsT]⟩
  | m :: ms, rows, S => by
    obtain ⟨R, hR⟩ := h.ext m S
    have h3 := partsT_ext h ms
    unfold partsT
    split
    · split
      · obtain ⟨R2, h2⟩ := h3 (crossL rows (by assumption)) (fd m S).2
        exact ⟨R ++ R2, by rw [h2, hR, List.append_assoc]⟩
      · exact ⟨R, hR⟩
    · exact ⟨R, hR⟩
theorem fromI_rows (g : Need → Option (List L8)) (i : Nat) (ms : List Need) : fromI g i ms = rowsT i (partsL g ms [[]]) := by unfold fromI rowsT; rfl
theorem addT_ok (hok : worldOk w = true) (hw : w.Sm) (h : FdOk w fd g b) {d i : Nat} {n : Need} {S : TbL} (hS : TbOk w S) : (addT w fd d n i S).1 = addI w g d n i ∧ TbOk w (addT w fd d n i S).2 := by
  unfold addT addI
  rcases opt_c (w.is[i]?) with e | ⟨x, e⟩
  · rw [e]; exact ⟨rfl, hS⟩
  · rw [e]
    simp only
    rcases opt_c (needsOf x n.t) with e2 | ⟨ms, e2⟩
    · rw [e2]; exact ⟨rfl, hS⟩
    · rw [e2]
      simp only
      have hm := needs_ok hok hw e e2
      by_cases hc : 0 < ms.length ∧ d = 0
      · rw [if_pos hc, if_pos hc]; exact ⟨rfl, hS⟩
      · rw [if_neg hc, if_neg hc]
        obtain ⟨h1, h2⟩ := partsT_ok h ms [[]] S (fun m hm' => (hm.2 m hm').1) hS
        exact ⟨by rw [fromI_rows, h1], h2⟩
theorem addT_len (hok : worldOk w = true) (hw : w.Sm) (h : FdOk w fd g b) {d i : Nat} {n : Need} {S : TbL} : (addT w fd d n i S).2.length ≤ S.length + 3 * b := by
  unfold addT
  rcases opt_c (w.is[i]?) with e | ⟨x, e⟩
  · rw [e]; exact Nat.le_add_right _ _
  · rw [e]
    simp only
    rcases opt_c (needsOf x n.t) with e2 | ⟨ms, e2⟩
    · rw [e2]; exact Nat.le_add_right _ _
    · rw [e2]
      simp only
      have hm := (needs_ok hok hw e e2).1
      split
      · exact Nat.le_add_right _ _
      · have h1 := partsT_len h ms [[]] S
        have h2 : ms.length * b ≤ 3 * b := Nat.mul_le_mul_right _ hm
        simp only; omega
theorem addT_ext (h : FdOk w fd g b) {d i : Nat} {n : Need} {S : TbL} : ∃ R, (addT w fd d n i S).2 = S ++ R := by
  unfold addT
  split
  · split
    · split
      · exact ⟨[], by simp⟩
      · exact partsT_ext h _ _ _
    · exact ⟨[], by simp⟩
  · exact ⟨[], by simp⟩
theorem candT_ok (hok : worldOk w = true) (hw : w.Sm) (h : FdOk w fd g b) {d : Nat} {n : Need} : ∀ (is : List Nat) (out : List L8) (S : TbL), TbOk w S → (candT w fd d n is out S).1 = allL w g d n is out ∧ TbOk w (candT w fd d n is out S).2
  | [], out, S, hS => ⟨rfl, hS⟩
  | i :: is, out, S, hS => by
    obtain ⟨h1, h2⟩ := addT_ok hok hw h (d := d) (i := i) (n := n) hS
    unfold candT allL
    rw [h1]
    cases addI w g d n i with
    | none => exact ⟨rfl, h2⟩
    | some l =>
      simp only
      by_cases hl : (out ++ l).length ≤ 60
      · rw [if_pos hl, if_pos hl]
        exact candT_ok hok hw h is _ _ h2
      · rw [if_neg hl, if_neg hl]
        exact ⟨rfl, h2⟩
theorem candT_len (hok : worldOk w = true) (hw : w.Sm) (h : FdOk w fd g b) {d : Nat} {n : Need} : ∀ (is : List Nat) (out : List L8) (S : TbL), (candT w fd d n is out S).2.length ≤ S.length + is.length * (3 * b)
  | [], out, S => by simp [candT]
  | i :: is, out, S => by
    have h1 := addT_len hok hw h (d := d) (i := i) (n := n) (S := S)
    have e : (i :: is).length * (3 * b) = is.length * (3 * b) + 3 * b := by rw [List.length_cons, Nat.add_mul, Nat.one_mul]
    have h3 := candT_len hok hw h (d := d) (n := n) is
    unfold candT
    rw [e]
    split
    · split
      · have := h3 (out ++ (by assumption)) (addT w fd d n i S).2
        omega
      · simp only; omega
    · simp only; omega
theorem candT_ext (h : FdOk w fd g b) {d : Nat} {n : Need} : ∀ (is : List Nat) (out : List L8) (S : TbL), ∃ R, (candT w fd d n is out S).2 = S ++ R
  | [], out, S => ⟨[], by simp [candT]⟩
  | i :: is, out, S => by
    obtain ⟨R, hR⟩ := addT_ext h (d := d) (i := i) (n := n) (S := S)
    have h3 := candT_ext h (d := d) (n := n) is
    unfold candT
    split
    · split
      · obtain ⟨R2, h2⟩ := h3 (out ++ (by assumption)) (addT w fd d n i S).2
        exact ⟨R ++ R2, by rw [h2, hR, List.append_assoc]⟩
      · exact ⟨R, hR⟩
    · exact ⟨R, hR⟩
end
def bT : Nat → Nat
  | 0 => 0
  | d + 1 => 30 * bT d + 1
theorem cand_len10 {w : Wld} (hok : worldOk w = true) (n : Need) : (candIx w n).length ≤ 10 := by
  unfold candIx candTake
  refine Nat.le_trans (List.length_filter_le _ _) ?_
  rw [List.length_range]
  exact world_len hok
theorem subT_ok {w : Wld} (hok : worldOk w = true) (hw : w.Sm) : ∀ d, d ≤ 7 → FdOk w (subT w d) (subD w d) (bT d)
  | 0, _ => ⟨fun _ _ _ _ => rfl, fun _ _ _ h => h, fun _ _ => Nat.le_refl _, fun _ S => ⟨[], by simp [subT]⟩⟩
  | d + 1, hd => by
    have ih := subT_ok hok hw d (by omega)
    refine ⟨fun n S hn hS => ?_, fun n S hn hS => ?_, fun n S => ?_, fun n S => ?_⟩
    · show (keepT n d S _).1 = allD w d n
      unfold keepT
      cases e : tbF S n d with
      | some a => exact (hS _ (tbF_mem e)).1
      | none => rw [allD_sub]; exact (candT_ok hok hw ih (candIx w n) [] S hS).1
    · show TbOk w (keepT n d S _).2
      obtain ⟨h1, h2⟩ := candT_ok hok hw ih (d := d) (n := n) (candIx w n) [] S hS
      unfold keepT
      cases e : tbF S n d with
      | some a => exact hS
      | none =>
        intro x hx
        rcases List.mem_append.1 hx with hx | hx
        · exact h2 x hx
        · have := List.mem_singleton.1 hx
          subst this
          exact ⟨by rw [allD_sub]; exact h1, hn, by show d ≤ 6; omega⟩
    · show (keepT n d S _).2.length ≤ _
      have h1 := candT_len hok hw ih (d := d) (n := n) (candIx w n) [] S
      have h2 : (candIx w n).length * (3 * bT d) ≤ 10 * (3 * bT d) := Nat.mul_le_mul_right _ (cand_len10 hok n)
      show _ ≤ S.length + (30 * bT d + 1)
      unfold keepT
      split
      · exact Nat.le_add_right _ _
      · rw [List.length_append, List.length_singleton]; omega
    · show ∃ R, (keepT n d S _).2 = _
      obtain ⟨R, hR⟩ := candT_ext ih (d := d) (n := n) (candIx w n) [] S
      unfold keepT
      split
      · exact ⟨[], by simp⟩
      · exact ⟨R ++ [((n, d), (candT w (subT w d) d n (candIx w n) [] S).1)], by rw [hR, List.append_assoc]⟩
theorem bT_le : ∀ d, d ≤ 7 → bT d ≤ 1000000000 := by
  intro d h
  rcases d with _ | _ | _ | _ | _ | _ | _ | _ | d
  all_goals first | (exfalso; omega) | decide
/-- rows of the texts so far -/
theorem joinB_snoc : ∀ (k : Nat) (r : List L8) (p : L8), joinB k (r ++ [p]) = joinB k r ++ [sep (k + r.length)] ++ p
  | k, [], p => by simp [joinB]
  | k, q :: r, p => by
    show [sep k] ++ q ++ joinB (k + 1) (r ++ [p]) = _
    rw [joinB_snoc (k + 1) r p]
    have : k + 1 + r.length = k + (q :: r).length := by rw [List.length_cons]; omega
    rw [this]
    simp [joinB]
end Go.Isea

namespace Go.Isea
open Go
def fmtN (n : Need) : L8 := n.c ++ [32] ++ n.t
/-- the key of the specification's table -/
def keyS (n : Need) (d : Nat) : L8 := digitL d ++ fmtN n
theorem keyS_inj {n m : Need} {d e : Nat} {a b : UInt8} (hn : n.c = [a]) (hm : m.c = [b]) (hd : d ≤ 9) (he : e ≤ 9) (h : keyS n d = keyS m e) : (n, d) = (m, e) := by
  unfold keyS fmtN digitL at h
  rw [hn, hm] at h
  have h : UInt8.ofNat (48 + d) :: a :: 32 :: n.t = UInt8.ofNat (48 + e) :: b :: 32 :: m.t := by simpa using h
  injection h with h1 h2
  injection h2 with h3 h4
  injection h4 with _ h5
  have h6 := digitL_inj hd he h1
  cases n; cases m
  simp only at hn hm h5
  rw [hn, hm, h3, h5, h6]
theorem TbOk.key {w : Wld} {S : TbL} {n : Need} {d : Nat} (hok : worldOk w = true) (h : TbOk w S) (hn : NOk w n) (hd : d ≤ 9) : ∀ e ∈ S, keyS e.1.1 e.1.2 = keyS n d ↔ e.1 = (n, d) := by
  intro e he
  obtain ⟨_, h1, h2⟩ := h e he
  obtain ⟨a, ha, _⟩ := known_letter (world_cls hok) h1.1
  obtain ⟨b, hb, _⟩ := known_letter (world_cls hok) hn.1
  exact ⟨fun hk => keyS_inj ha hb (Nat.le_trans h2 (by decide)) hd hk, fun hk => by rw [hk]⟩
theorem TbOk.keyL {w : Wld} {S : TbL} {n : Need} {d : Nat} (hok : worldOk w = true) (h : TbOk w S) (hn : NOk w n) (hd : d ≤ 9) : ∀ e ∈ S, Isea.keyL e.1.1 e.1.2 = Isea.keyL n d ↔ e.1 = (n, d) := by
  intro e he
  obtain ⟨_, h1, h2⟩ := h e he
  obtain ⟨a, ha, _⟩ := known_letter (world_cls hok) h1.1
  obtain ⟨b, hb, _⟩ := known_letter (world_cls hok) hn.1
  refine ⟨fun hk => ?_, fun hk => by rw [hk]⟩
  obtain ⟨g1, g2⟩ := keyL_inj ha hb (Nat.le_trans h2 (by decide)) hd hk
  exact Prod.ext g1 g2
def tbI : TbL → Need → Nat → Nat → Int
  | [], _, _, _ => -1
  | e :: es, n, d, j => if e.1 = (n, d) then (j : Int) else tbI es n d (j + 1)
theorem tbI_none : ∀ {S : TbL} {n : Need} {d j : Nat}, tbF S n d = none → tbI S n d j = -1
  | [], _, _, _, _ => rfl
  | e :: es, n, d, j, h => by
    unfold tbF at h
    unfold tbI
    split at h
    · cases h
    · rename_i hc
      rw [if_neg hc]; exact tbI_none h
theorem tbI_some : ∀ {S : TbL} {n : Need} {d j : Nat} {a : Option (List L8)}, tbF S n d = some a → ∃ i e, tbI S n d j = ((j + i : Nat) : Int) ∧ S[i]? = some e ∧ e.2 = a
  | [], _, _, _, _, h => by cases h
  | e :: es, n, d, j, a, h => by
    unfold tbF at h
    unfold tbI
    split at h
    · rename_i hc
      injection h with h
      exact ⟨0, e, by rw [if_pos hc]; rfl, rfl, h⟩
    · rename_i hc
      obtain ⟨i, e', h1, h2, h3⟩ := tbI_some (j := j + 1) h
      exact ⟨i + 1, e', by rw [if_neg hc, h1]; omega, h2, h3⟩
/-! rows as texts -/
def rowTxt (k : Nat) (r : List L8) : L8 := digitL k ++ joinB 0 r
def txts (k : Nat) (rows : List (List L8)) : List L8 := rows.map (rowTxt k)
theorem rowTxt_snoc (k : Nat) (r : List L8) (p : L8) : rowTxt k (r ++ [p]) = rowTxt k r ++ [sep r.length] ++ p := by
  unfold rowTxt
  rw [joinB_snoc, Nat.zero_add]
  simp
theorem crossL_next {rows : List (List L8)} {parts : List L8} {a : Nat} {r : List L8} (h : rows[a]? = some r) : crossL (rows.take (a + 1)) parts = crossL (rows.take a) parts ++ parts.map fun p => r ++ [p] := by
  unfold crossL
  rw [take_next h, List.flatMap_append]
  simp
theorem txts_app (k : Nat) (a b : List (List L8)) : txts k (a ++ b) = txts k a ++ txts k b := List.map_append
theorem txts_next {rows : List (List L8)} {parts : List L8} {a k q : Nat} {r : List L8} (h : rows[a]? = some r) (hr : r.length = q) : txts k (crossL (rows.take (a + 1)) parts) = txts k (crossL (rows.take a) parts) ++ parts.map fun p => rowTxt k r ++ [sep q] ++ p := by
  rw [crossL_next h, txts_app]
  congr 1
  unfold txts
  rw [List.map_map]
  refine List.map_congr_left fun p _ => ?_
  show rowTxt k (r ++ [p]) = _
  rw [rowTxt_snoc, hr]
theorem txts_len (k : Nat) (rows : List (List L8)) : (txts k rows).length = rows.length := List.length_map ..
theorem crossL_take_len (rows : List (List L8)) (parts : List L8) (a : Nat) : (crossL (rows.take a) parts).length ≤ a * parts.length := by
  induction a with
  | zero => simp [crossL]
  | succ a ih =>
    rcases opt_c (rows[a]?) with e | ⟨r, e⟩
    · have h1 : rows.length ≤ a := List.getElem?_eq_none_iff.1 e
      rw [List.take_of_length_le (by omega)]
      rw [List.take_of_length_le h1] at ih
      exact Nat.le_trans ih (Nat.mul_le_mul_right _ (Nat.le_succ _))
    · rw [crossL_next e, List.length_append, List.length_map, Nat.add_mul, Nat.one_mul]
      omega
def RwOk (q : Nat) (rows : List (List L8)) : Prop := ∀ r ∈ rows, r.length = q ∧ (joinB 0 r).length ≤ q * 1201
theorem RwOk.one : RwOk 0 [[]] := fun r hr => by
  have := List.mem_singleton.1 hr
  subst this
  exact ⟨rfl, Nat.le_refl _⟩
theorem RwOk.cross {q : Nat} {rows : List (List L8)} {parts : List L8} (h : RwOk q rows) (hp : ∀ p ∈ parts, p.length ≤ 1200) : RwOk (q + 1) (crossL rows parts) := by
  intro r hr
  unfold crossL at hr
  obtain ⟨r0, h1, h2⟩ := List.mem_flatMap.1 hr
  obtain ⟨p, h3, rfl⟩ := List.mem_map.1 h2
  obtain ⟨g1, g2⟩ := h r0 h1
  have g3 := hp p h3
  refine ⟨by rw [List.length_append, g1]; rfl, ?_⟩
  rw [joinB_snoc]
  simp only [List.length_append, List.length_cons, List.length_nil]
  omega
/-! equations -/
section
variable {w : Wld} {fd : FdT} {d i : Nat} {n m : Need} {ms : List Need} {rows : List (List L8)} {S : TbL} {is : List Nat} {out parts : List L8} {x : Inst}
theorem partsT_one (h : (fd m S).1 = some parts) (hl : (crossL rows parts).length ≤ 60) : partsT fd (m :: ms) rows S = partsT fd ms (crossL rows parts) (fd m S).2 := by
  rw [partsT, h]; simp only; rw [if_pos hl]
theorem partsT_many (h : (fd m S).1 = some parts) (hl : ¬ (crossL rows parts).length ≤ 60) : partsT fd (m :: ms) rows S = (none, (fd m S).2) := by
  rw [partsT, h]; simp only; rw [if_neg hl]
theorem partsT_bad (h : (fd m S).1 = none) : partsT fd (m :: ms) rows S = (none, (fd m S).2) := by
  rw [partsT, h]
theorem addT_no (h1 : w.is[i]? = some x) (h2 : needsOf x n.t = none) : addT w fd d n i S = (some [], S) := by
  rw [addT, h1]; simp only; rw [h2]
theorem addT_low (h1 : w.is[i]? = some x) (h2 : needsOf x n.t = some ms) (h3 : 0 < ms.length ∧ d = 0) : addT w fd d n i S = (some [], S) := by
  rw [addT, h1]; simp only; rw [h2]; simp only; rw [if_pos h3]
theorem addT_rows (h1 : w.is[i]? = some x) (h2 : needsOf x n.t = some ms) (h3 : ¬ (0 < ms.length ∧ d = 0)) : addT w fd d n i S = (rowsT i (partsT fd ms [[]] S).1, (partsT fd ms [[]] S).2) := by
  rw [addT, h1]; simp only; rw [h2]; simp only; rw [if_neg h3]
theorem candT_skip (h : addT w fd d n i S = (some [], S)) (ho : out.length ≤ 60) : candT w fd d n (i :: is) out S = candT w fd d n is out S := by
  rw [candT, h]; simp only [List.append_nil]; rw [if_pos ho]
theorem candT_bad {S' : TbL} (h : addT w fd d n i S = (none, S')) : candT w fd d n (i :: is) out S = (none, S') := by
  rw [candT, h]
theorem candT_more {S' : TbL} {l : List L8} (h : addT w fd d n i S = (some l, S')) (ho : (out ++ l).length ≤ 60) : candT w fd d n (i :: is) out S = candT w fd d n is (out ++ l) S' := by
  rw [candT, h]; simp only; rw [if_pos ho]
theorem candT_many {S' : TbL} {l : List L8} (h : addT w fd d n i S = (some l, S')) (ho : ¬ (out ++ l).length ≤ 60) : candT w fd d n (i :: is) out S = (none, S') := by
  rw [candT, h]; simp only; rw [if_neg ho]
theorem rowsT_ok (h : ∀ r ∈ rows, (dictT i r).length ≤ 1200) : rowsT i (some rows) = some (rows.map (dictT i)) := by
  unfold rowsT
  simp only
  rw [if_pos]
  rw [List.all_eq_true]
  intro x hx
  obtain ⟨r, hr, rfl⟩ := List.mem_map.1 hx
  exact decide_eq_true (h r hr)
theorem rowsT_bad {r : List L8} (hr : r ∈ rows) (h : ¬ (dictT i r).length ≤ 1200) : rowsT i (some rows) = none := by
  unfold rowsT
  simp only
  rw [if_neg]
  intro ha
  rw [List.all_eq_true] at ha
  exact h (of_decide_eq_true (ha _ (List.mem_map_of_mem hr)))
end
end Go.Isea

namespace Go.Proofs.YtiphcdmjlkngfaaGreatDoor
open Go Go.Isea
set_option maxRecDepth 100000
set_option maxHeartbeats 8000000
theorem s_FormatNeed (n : Need) (h : AH) (hn : n.Sm) (hc : n.c.length ≤ 1000) : Isea.Good Tryz.prog 97 [.agg n.row] h [] (str (fmtN n)) h := by
  have h1 := hn.1
  have h2 := hn.2
  have e1 : n.c.length + 1 ≤ 9223372036854775807 := by omega
  have e2 : n.c.length + 1 + n.t.length ≤ 9223372036854775807 := by omega
  have e3 : n.c.length + (1 + n.t.length) ≤ 9223372036854775807 := by omega
  refine good [] [] Tryz.func97 rfl rfl Tryz.ntmps97 (by kernel_rfl) mixed (by kernel_rfl) ?_
  simp -dsimp only [go_sem, Need.row, e1, e2, e3, List.length_append, List.length_cons, List.length_nil, List.cons_append, List.nil_append, List.append_assoc]
  exact fin_str (by simp -dsimp only [go_sem]) (by unfold fmtN; simp)
theorem s_l7Key (n : Need) (d : Nat) (h : AH) (hn : n.Sm) (hc : n.c.length ≤ 1000) (hd : d ≤ 9) : Isea.Good Tryz.prog 139 [.agg n.row, .v (.int .i64 (d : Nat))] h [] (str (keyS n d)) h := by
  have h1 := hn.1
  have h2 := hn.2
  have hF := fun H => s_FormatNeed n H hn hc
  have hD := fun H => s_l13Dec_digit d H hd
  have e1 : (digitL d).length + (fmtN n).length ≤ 9223372036854775807 := by unfold digitL fmtN; simp; omega
  refine good [] [(1, OT.o 0 (OT.o 2 (OT.o 1 (OT.o 3 (OT.o 4 (OT.o 5 OT.e))))))] Tryz.func139 rfl rfl Tryz.ntmps139 (by kernel_rfl) mixed (by kernel_rfl) ?_
  simp -dsimp only [go_sem, Need.row] at hF ⊢
  refine call_pure (hD _) ?_
  simp -dsimp only [go_sem]
  refine call_pure (hF _) ?_
  simp -dsimp only [go_sem, e1]
  exact fin_str (by simp -dsimp only [go_sem]) rfl
theorem s_l7Asked (w : Wld) (n : Need) (d : Int) (h : AH) (hw : w.Sm) (hn : n.Sm) : Isea.Good Tryz.prog 78 [.agg w.row, .agg n.row, .v (.int .i64 d)] h [] (.v (.bool (decide ((worldOk w && needOk w n) = true ∧ 0 ≤ d ∧ d ≤ 6)))) h := by
  have hV := fun H => s_NeedValid w n H hw hn
  have hI := fun H => s_l1In d 0 6 H
  refine good [] [] Tryz.func78 rfl rfl Tryz.ntmps78 (by kernel_rfl) mixed (by kernel_rfl) ?_
  simp -dsimp only [go_sem, Wld.row, Need.row] at hV ⊢
  refine call_pure (hV _) ?_
  cases hc : (worldOk w && needOk w n) with
  | false =>
    simp -dsimp only [go_sem]
    exact fin_bool (by simp -dsimp only [go_sem]) (by simp)
  | true =>
    simp -dsimp only [go_sem]
    refine call_pure (hI _) ?_
    simp -dsimp only [go_sem]
    exact fin_bool (by simp -dsimp only [go_sem]) (by simp)
theorem nok_c {w : Wld} (hok : worldOk w = true) {n : Need} (hn : NOk w n) : n.c.length ≤ 1000 := by
  obtain ⟨a, ha, _⟩ := known_letter (world_cls hok) hn.1
  rw [ha]; simp
/-! the table in memory -/
def kR (S : TbL) : List (List AV) := (S.map fun e => keyS e.1.1 e.1.2).map sRow
def lR (S : TbL) : List (List AV) := S.map fun e => [.sl ((e.2.getD []).map sRow)]
def oR (S : TbL) : List (List AV) := S.map fun e => [.v (.bool e.2.isSome)]
def tbC (w : Wld) (t1 t2 t3 : Nat) (S : TbL) : List AV := [.sl (w.cs.map Cls.row), .sl (w.is.map Inst.row), .so t1 S.length S.length, .so t2 S.length S.length, .so t3 S.length S.length]
def tbH (l t1 t2 t3 : Nat) (w : Wld) (S : TbL) (o : Nat → AObj) : Nat → AObj := upd (upd (upd (upd o l (.cells (tbC w t1 t2 t3 S))) t1 (.rows 9 1 (kR S))) t2 (.rows 41 1 (lR S))) t3 (.rows 4 1 (oR S))
structure Dis (l t1 t2 t3 : Nat) : Prop where
  l1 : ¬ l = t1
  l2 : ¬ l = t2
  l3 : ¬ l = t3
  k1 : ¬ t1 = l
  k2 : ¬ t2 = l
  k3 : ¬ t3 = l
  a2 : ¬ t1 = t2
  a3 : ¬ t1 = t3
  b1 : ¬ t2 = t1
  b3 : ¬ t2 = t3
  c1 : ¬ t3 = t1
  c2 : ¬ t3 = t2
structure AtT (l t1 t2 t3 : Nat) (w : Wld) (S : TbL) (h : AH) : Prop where
  ll : l < h.n
  l1 : t1 < h.n
  l2 : t2 < h.n
  l3 : t3 < h.n
  ol : h.o l = .cells (tbC w t1 t2 t3 S)
  o1 : h.o t1 = .rows 9 1 (kR S)
  o2 : h.o t2 = .rows 41 1 (lR S)
  o3 : h.o t3 = .rows 4 1 (oR S)
theorem AtT.of {l t1 t2 t3 : Nat} {w : Wld} {S S' : TbL} {h : AH} (hd : Dis l t1 t2 t3) (ha : AtT l t1 t2 t3 w S h) : AtT l t1 t2 t3 w S' ⟨h.n, tbH l t1 t2 t3 w S' h.o⟩ := by
  refine ⟨ha.ll, ha.l1, ha.l2, ha.l3, ?_, ?_, ?_, ?_⟩
  · show upd (upd (upd (upd _ l _) t1 _) t2 _) t3 _ l = _
    rw [upd_ne _ _ hd.l3, upd_ne _ _ hd.l2, upd_ne _ _ hd.l1, upd_same]
  · show upd (upd (upd _ t1 _) t2 _) t3 _ t1 = _
    rw [upd_ne _ _ hd.a3, upd_ne _ _ hd.a2, upd_same]
  · show upd (upd _ t2 _) t3 _ t2 = _
    rw [upd_ne _ _ hd.b3, upd_same]
  · exact upd_same _ _ _
theorem tbH_out {l t1 t2 t3 : Nat} {w : Wld} {S : TbL} {o : Nat → AObj} {x : Nat} (h : ¬ x = l ∧ ¬ x = t1 ∧ ¬ x = t2 ∧ ¬ x = t3) : tbH l t1 t2 t3 w S o x = o x := by
  unfold tbH
  rw [upd_ne _ _ h.2.2.2, upd_ne _ _ h.2.2.1, upd_ne _ _ h.2.1, upd_ne _ _ h.1]
theorem al_kR {S : TbL} : (∀ (r : List AV), r ∈ kR S → r.length = 1) = True := eq_true fun r hr => by
  obtain ⟨x, _, rfl⟩ := List.mem_map.1 hr
  rfl
theorem al_lR {S : TbL} : (∀ (r : List AV), r ∈ lR S → r.length = 1) = True := eq_true fun r hr => by
  obtain ⟨x, _, rfl⟩ := List.mem_map.1 hr
  rfl
theorem al_oR {S : TbL} : (∀ (r : List AV), r ∈ oR S → r.length = 1) = True := eq_true fun r hr => by
  obtain ⟨x, _, rfl⟩ := List.mem_map.1 hr
  rfl
theorem puR_kR {S : TbL} : PuR (kR S) := of_eq_true puR_strs
theorem fz_slS {h : AH} {m : Nat} {xs : List L8} : Fz h m (.sl (xs.map sRow)) (.sl (xs.map sRow)) := of_eq_true (fz_sl (of_eq_true puR_strs))
theorem objFz_lR {S : TbL} {h : AH} {m : Nat} : ObjFz h m (.rows 41 1 (lR S)) (.rows 41 1 (lR S)) := by
  refine ⟨rfl, rfl, rfl, fun i r r' h1 h2 => by rw [h1] at h2; cases h2; rfl, fun i j r r' x y h1 h2 h3 h4 => ?_⟩
  rw [h1] at h2; cases h2
  rw [h3] at h4; cases h4
  unfold lR at h1
  rw [List.getElem?_map] at h1
  cases e : S[i]? with
  | none => rw [e] at h1; cases h1
  | some q =>
    rw [e] at h1
    injection h1 with h1
    subst h1
    rcases j with _ | j
    · simp at h3; subst h3; exact fz_slS
    · simp at h3
theorem puR_oR {S : TbL} : PuR (oR S) := of_eq_true (puR_map fun e => by simp -dsimp only [go_sem])
theorem objFz_oR {S : TbL} {h : AH} {m : Nat} : ObjFz h m (.rows 4 1 (oR S)) (.rows 4 1 (oR S)) := of_eq_true (objFz_r puR_oR)
/-- the end of what turns the table -/
theorem fin_tb {l t1 t2 t3 : Nat} {w : Wld} {S : TbL} {h0 h : AH} {x r : AV} (hd : Dis l t1 t2 t3) (hn : h0.n ≤ h.n) (hx : Fz h h0.n x r) (ol : ObjFz h h0.n (h.o l) (.cells (tbC w t1 t2 t3 S))) (o1 : ObjFz h h0.n (h.o t1) (.rows 9 1 (kR S)))
    (o2 : ObjFz h h0.n (h.o t2) (.rows 41 1 (lR S))) (o3 : ObjFz h h0.n (h.o t3) (.rows 4 1 (oR S))) : FinS [t3, t2, t1, l] h0 h x ⟨h0.n, tbH l t1 t2 t3 w S h0.o⟩ r where
  n0 := Nat.le_refl _
  n := hn
  fz := hx
  old i hi hT := by
    simp only [List.mem_cons, List.not_mem_nil, or_false, not_or] at hT
    exact tbH_out ⟨hT.2.2.2, hT.2.2.1, hT.2.1, hT.1⟩
  turned i hi hT := by
    rcases hT with hT | hT
    · simp only [List.mem_cons, List.not_mem_nil, or_false] at hT
      show ObjFz h h0.n (h.o i) (upd (upd (upd (upd _ l _) t1 _) t2 _) t3 _ i)
      rcases hT with rfl | rfl | rfl | rfl
      · rw [upd_same]; exact o3
      · rw [upd_ne _ _ hd.b3, upd_same]; exact o2
      · rw [upd_ne _ _ hd.a3, upd_ne _ _ hd.a2, upd_same]; exact o1
      · rw [upd_ne _ _ hd.l3, upd_ne _ _ hd.l2, upd_ne _ _ hd.l1, upd_same]; exact ol
    · have hi' : i < h0.n := hi
      omega
theorem s_at {l t1 t2 t3 : Nat} {w : Wld} {S : TbL} (n : Need) (d : Nat) (h : AH) (ha : AtT l t1 t2 t3 w S h) (hk : ∀ e ∈ S, keyS e.1.1 e.1.2 = keyS n d ↔ e.1 = (n, d)) (hl : S.length ≤ 4611686018427387904) :
    Isea.Good Tryz.prog 140 [.ptr l 0, str (keyS n d)] h [] (.v (.int .i64 (tbI S n d 0))) h := by
  obtain ⟨ll, lt1, _, _, ol, o1, _, _⟩ := ha
  simp only [tbC] at ol
  generalize hX : tbI S n d 0 = X
  have hkl : (kR S).length = S.length := by unfold kR; rw [List.length_map, List.length_map]
  refine good [] [] Tryz.func140 rfl rfl Tryz.ntmps140 (by kernel_rfl) mixed (by kernel_rfl) ?_
  simp -dsimp only [go_sem, ll, ol, lt1, o1, hkl]
  refine loop_ruleH [0, 0, 8, 0] (fun (j : {j : Nat // j ≤ S.length ∧ X = tbI (S.drop j) n d j}) H => ([(12, .v (.int .i64 (j.1 : Nat)))], h)) (fun j => S.length - j.1) ⟨0, Nat.zero_le _, hX.symm⟩ ?_ ?_
  · exact weak_at rfl (by simp -dsimp only [go_sem]) (fun x hx => by simp -dsimp only [go_sem, hx]) (by simp -dsimp only [go_sem, lt1, ll])
  · rintro ⟨j, hj, heq⟩
    have hj1 : j + 1 ≤ 9223372036854775807 := by omega
    clear hX
    by_cases hlt : j < S.length
    · obtain ⟨e, he⟩ := get_some hlt
      rw [drop_get he] at heq
      have hke := hk e (List.mem_of_getElem? he)
      have hkr : (kR S)[j]? = some [str (keyS e.1.1 e.1.2)] := by unfold kR; rw [List.getElem?_map, List.getElem?_map, he]; rfl
      by_cases hc : e.1 = (n, d)
      · have heq : X = (j : Int) := by rw [heq]; unfold tbI; rw [if_pos hc]
        subst heq
        have hk1 := hke.2 hc
        simp -dsimp only [go_sem, hlt, o1, hkr, hkl, al_kR, hk1]
        exact fin_pure (by simp -dsimp only [go_sem]) (by simp -dsimp only [go_sem])
      · have heq : X = tbI (S.drop (j + 1)) n d (j + 1) := by rw [heq]; show (if e.1 = (n, d) then _ else _) = _; rw [if_neg hc]
        have hk1 : ¬ keyS e.1.1 e.1.2 = keyS n d := fun hh => hc (hke.1 hh)
        simp -dsimp only [go_sem, hlt, o1, hkr, hkl, al_kR, hk1, hj1]
        exact round_to ⟨j + 1, hlt, heq⟩ (by simp; omega) (weak_at rfl (by simp -dsimp only [go_sem]) (fun x hx => by simp -dsimp only [go_sem, hx]) (by simp -dsimp only [go_sem, lt1, ll]))
    · rw [List.drop_of_length_le (by omega)] at heq
      have heq : X = -1 := heq
      subst heq
      simp -dsimp only [go_sem, hlt]
      exact fin_pure (by simp -dsimp only [go_sem]) (by simp -dsimp only [go_sem])
theorem s_put {l t1 t2 t3 : Nat} {w : Wld} {S : TbL} (n : Need) (d : Nat) (r : Option (List L8)) (h : AH) (hd : Dis l t1 t2 t3) (ha : AtT l t1 t2 t3 w S h) (hl : S.length ≤ 1099511627776) :
    Isea.Good Tryz.prog 142 [.ptr l 0, str (keyS n d), .sl ((r.getD []).map sRow), .v (.bool r.isSome)] h [t3, t2, t1, l] (.tup []) ⟨h.n, tbH l t1 t2 t3 w (S ++ [((n, d), r)]) h.o⟩ := by
  obtain ⟨ll, lt1, lt2, lt3, ol, o1, o2, o3⟩ := ha
  obtain ⟨l1, l2, l3, k1, k2, k3, a2, a3, b1, b3, c1, c2⟩ := hd
  have hd : Dis l t1 t2 t3 := ⟨l1, l2, l3, k1, k2, k3, a2, a3, b1, b3, c1, c2⟩
  simp only [tbC] at ol
  have e1 : (S.length + 1) * 16 ≤ 140737488355328 := by omega
  have e2 : (S.length + 1) * 24 ≤ 140737488355328 := by omega
  have e3 : (S.length + 1) * 1 ≤ 140737488355328 := by omega
  have e4 : S.length + 1 ≤ 140737488355328 := by omega
  have hkl : (kR S).length = S.length := by unfold kR; rw [List.length_map, List.length_map]
  have hll : (lR S).length = S.length := by unfold lR; rw [List.length_map]
  have hol : (oR S).length = S.length := by unfold oR; rw [List.length_map]
  have hk' : kR (S ++ [((n, d), r)]) = kR S ++ [[str (keyS n d)]] := by unfold kR; simp [sRow]
  have hl' : lR (S ++ [((n, d), r)]) = lR S ++ [[.sl ((r.getD []).map sRow)]] := by unfold lR; simp
  have ho' : oR (S ++ [((n, d), r)]) = oR S ++ [[.v (.bool r.isSome)]] := by unfold oR; simp
  have hs' : (S ++ [((n, d), r)]).length = S.length + 1 := by simp
  refine good [] [] Tryz.func142 rfl rfl Tryz.ntmps142 (by kernel_rfl) mixed (by kernel_rfl) ?_
  simp -dsimp only [go_sem, ll, lt1, lt2, lt3, ol, o1, o2, o3, l1, l2, l3, k1, k2, k3, a2, a3, b1, b3, c1, c2, hkl, hll, hol, e1, e2, e3, e4]
  refine ⟨.inr (by simp), .inr (by simp), .inr (by simp), .inr (by simp), .inr (by simp), .inr (by simp), ?_⟩
  refine fin_tb hd (Nat.le_refl _) (by simp -dsimp only [go_sem]) ?_ ?_ ?_ ?_
  · simp -dsimp only [go_sem, tbC, hs', l1, l2, l3, k1, k2, k3, a2, a3, b1, b3, c1, c2, ll, lt1, lt2, lt3]
  · simp -dsimp only [go_sem, l1, l2, l3, k1, k2, k3, a2, a3, b1, b3, c1, c2, ll, lt1, lt2, lt3]
    rw [hk']
    exact of_eq_true (objFz_r (hk' ▸ puR_kR))
  · simp -dsimp only [go_sem, l1, l2, l3, k1, k2, k3, a2, a3, b1, b3, c1, c2, ll, lt1, lt2, lt3]
    rw [← hl']
    exact objFz_lR
  · simp -dsimp only [go_sem, l1, l2, l3, k1, k2, k3, a2, a3, b1, b3, c1, c2, ll, lt1, lt2, lt3]
    rw [← ho']
    exact of_eq_true (objFz_r puR_oR)
end Go.Proofs.YtiphcdmjlkngfaaGreatDoor
