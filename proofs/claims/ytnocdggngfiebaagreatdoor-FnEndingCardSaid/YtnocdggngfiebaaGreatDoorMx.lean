/- Contracts of functions of this program, for all arguments that satisfy what each lemma asks for. -/
import Derived.Test.YtnocdggngfiebaaGreatDoorMi
import Derived.Test.YtnocdggngfiebaaGreatDoorMk
set_option linter.all false
namespace Go.Isea
open Go
/-- one more part behind each row -/
def crossL (rows : List (List L8)) (parts : List L8) : List (List L8) := rows.flatMap fun r => parts.map fun p => r ++ [p]
def partsL (fd : Need → Option (List L8)) : List Need → List (List L8) → Option (List (List L8))
  | [], rows => some rows
  | m :: ms, rows => match fd m with
    | some parts => if (crossL rows parts).length ≤ 60 then partsL fd ms (crossL rows parts) else none
    | none => none
/-- the parts of a text behind a number, as a dictionary -/
def joinB : Nat → List L8 → L8
  | _, [] => []
  | k, p :: ps => [sep k] ++ p ++ joinB (k + 1) ps
def dictT (i : Nat) (row : List L8) : L8 := digitL i ++ joinB 0 row ++ (if row.length = 0 then [] else [41])
/-- the dictionaries of one candidate; nothing if there are too many, or one is too long -/
def fromI (fd : Need → Option (List L8)) (i : Nat) (ms : List Need) : Option (List L8) := match partsL fd ms [[]] with
  | some rows => if (rows.map (dictT i)).all (fun d => decide (d.length ≤ 1200)) = true then some (rows.map (dictT i)) else none
  | none => none
/-- what a candidate adds: nothing where its needs are too big, or nothing is left of the depth -/
def addI (w : Wld) (fd : Need → Option (List L8)) (d : Nat) (n : Need) (i : Nat) : Option (List L8) := match w.is[i]? with
  | some x => (match needsOf x n.t with
    | some ms => if 0 < ms.length ∧ d = 0 then some [] else fromI fd i ms
    | none => some [])
  | none => some []
def allL (w : Wld) (fd : Need → Option (List L8)) (d : Nat) (n : Need) : List Nat → List L8 → Option (List L8)
  | [], out => some out
  | i :: is, out => match addI w fd d n i with
    | some l => if (out ++ l).length ≤ 60 then allL w fd d n is (out ++ l) else none
    | none => none
def allD (w : Wld) : Nat → Need → Option (List L8)
  | 0, n => allL w (fun _ => some []) 0 n (candIx w n) []
  | d + 1, n => allL w (allD w d) (d + 1) n (candIx w n) []
def allDicts (w : Wld) (n : Need) (d : Int) : Option (List L8) := if (worldOk w && needOk w n) = true ∧ 0 ≤ d ∧ d ≤ 6 then allD w d.toNat n else none
/-- how many digits a text has -/
def digitsL (s : L8) : Nat := s.countP fun c => decide (48 ≤ c.toNat) && decide (c.toNat ≤ 57)
def leastL : List L8 → L8 → L8
  | [], b => b
  | d :: ds, b => leastL ds (if b = [] ∨ digitsL d < digitsL b then d else b)
def leastD (w : Wld) (n : Need) (d : Int) : L8 := match allDicts w n d with
  | some l => leastL l []
  | none => []
end Go.Isea

namespace Go.Isea
open Go
def LOk (l : List L8) : Prop := l.length ≤ 60 ∧ ∀ x ∈ l, x.length ≤ 1200
theorem LOk.nil : LOk [] := ⟨by simp, fun x h => by cases h⟩
/-! what is known already -/
abbrev Tab := List (L8 × List L8)
def tabF : Tab → L8 → Option (List L8)
  | [], _ => none
  | p :: ps, k => if p.1 = k then some p.2 else tabF ps k
def tabPut : Tab → L8 → List L8 → Tab
  | [], k, l => [(k, l)]
  | p :: ps, k, l => if p.1 = k then (k, l) :: ps else p :: tabPut ps k l
theorem tabF_put : ∀ (t : Tab) (k k' : L8) (l : List L8), tabF (tabPut t k l) k' = if k = k' then some l else tabF t k'
  | [], k, k', l => rfl
  | p :: ps, k, k', l => by
    unfold tabPut
    by_cases h : p.1 = k
    · rw [if_pos h]
      show (if k = k' then some l else tabF ps k') = if k = k' then some l else (if p.1 = k' then some p.2 else tabF ps k')
      by_cases h2 : k = k'
      · rw [if_pos h2, if_pos h2]
      · rw [if_neg h2, if_neg h2, if_neg (by rw [h]; exact h2)]
    · rw [if_neg h]
      show (if p.1 = k' then some p.2 else tabF (tabPut ps k l) k') = if k = k' then some l else (if p.1 = k' then some p.2 else tabF ps k')
      rw [tabF_put ps k k' l]
      by_cases h2 : p.1 = k'
      · rw [if_pos h2, if_neg (fun e => h (h2.trans e.symm)), if_pos h2]
      · rw [if_neg h2, if_neg h2]
def entT (p : L8 × List L8) : AV × AV := (str p.1, .sl (p.2.map sRow))
/-- the text of a need and a depth, as the program has it -/
def keyL (n : Need) (d : Nat) : L8 := n.c ++ [32] ++ n.t ++ ([32] ++ digitL d)
theorem snoc_inj {a b : L8} {x y : UInt8} (h : a ++ [x] = b ++ [y]) : a = b ∧ x = y := by
  have h1 := congrArg List.getLast? h
  simp at h1
  exact ⟨by simpa [h1] using h, h1⟩
theorem digitL_inj {d e : Nat} (hd : d ≤ 9) (he : e ≤ 9) (h : UInt8.ofNat (48 + d) = UInt8.ofNat (48 + e)) : d = e := by
  have := congrArg UInt8.toNat h
  simp only [UInt8.toNat_ofNat'] at this
  omega
theorem keyL_inj {n m : Need} {d e : Nat} {a b : UInt8} (hn : n.c = [a]) (hm : m.c = [b]) (hd : d ≤ 9) (he : e ≤ 9) (h : keyL n d = keyL m e) : n = m ∧ d = e := by
  unfold keyL digitL at h
  rw [hn, hm] at h
  have h : [a] ++ [32] ++ n.t ++ [32] ++ [UInt8.ofNat (48 + d)] = [b] ++ [32] ++ m.t ++ [32] ++ [UInt8.ofNat (48 + e)] := by simpa using h
  obtain ⟨h1, h2⟩ := snoc_inj h
  obtain ⟨h3, _⟩ := snoc_inj h1
  have h3 : a :: 32 :: n.t = b :: 32 :: m.t := by simpa using h3
  injection h3 with h4 h5
  injection h5 with _ h6
  refine ⟨?_, digitL_inj hd he h2⟩
  cases n; cases m
  simp only at hn hm h6
  rw [hn, hm, h4, h6]
/-- what the table says is so -/
def TabOk (w : Wld) (t : Tab) : Prop := ∀ (m : Need) (d : Nat) (l : List L8), NOk w m → d ≤ 9 → tabF t (keyL m d) = some l → allD w d m = some l
theorem TabOk.nil {w : Wld} : TabOk w [] := fun _ _ _ _ _ h => by cases h
theorem TabOk.put {w : Wld} (hok : worldOk w = true) {t : Tab} (h : TabOk w t) {n : Need} {d : Nat} {l : List L8} (hn : NOk w n) (hd : d ≤ 9) (hl : allD w d n = some l) : TabOk w (tabPut t (keyL n d) l) := by
  intro m e r hm he hr
  rw [tabF_put] at hr
  split at hr
  · rename_i hk
    injection hr with hr
    obtain ⟨a, ha, _⟩ := known_letter (world_cls hok) hn.1
    obtain ⟨b, hb, _⟩ := known_letter (world_cls hok) hm.1
    obtain ⟨rfl, rfl⟩ := keyL_inj ha hb hd he hk
    rw [← hr]; exact hl
  · exact h m e r hm he hr
end Go.Isea

namespace Go.Isea
open Go
/-- a need, a depth, what was told -/
abbrev TbE := (Need × Nat) × Option (List L8)
abbrev TbL := List TbE
def tbF : TbL → Need → Nat → Option (Option (List L8))
  | [], _, _ => none
  | e :: es, n, d => if e.1 = (n, d) then some e.2 else tbF es n d
abbrev FdT := Need → TbL → Option (List L8) × TbL
def partsT (fd : FdT) : List Need → List (List L8) → TbL → Option (List (List L8)) × TbL
  | [], rows, S => (some rows, S)
  | m :: ms, rows, S => match (fd m S).1 with
    | some parts => if (crossL rows parts).length ≤ 60 then partsT fd ms (crossL rows parts) (fd m S).2 else (none, (fd m S).2)
    | none => (none, (fd m S).2)
def rowsT (i : Nat) : Option (List (List L8)) → Option (List L8)
  | some rows => if (rows.map (dictT i)).all (fun d => decide (d.length ≤ 1200)) = true then some (rows.map (dictT i)) else none
  | none => none
def addT (w : Wld) (fd : FdT) (d : Nat) (n : Need) (i : Nat) (S : TbL) : Option (List L8) × TbL := match w.is[i]? with
  | some x => (match needsOf x n.t with
    | some ms => if 0 < ms.length ∧ d = 0 then (some [], S) else (rowsT i (partsT fd ms [[]] S).1, (partsT fd ms [[]] S).2)
    | none => (some [], S))
  | none => (some [], S)
def candT (w : Wld) (fd : FdT) (d : Nat) (n : Need) : List Nat → List L8 → TbL → Option (List L8) × TbL
  | [], out, S => (some out, S)
  | i :: is, out, S => match (addT w fd d n i S).1 with
    | some l => if (out ++ l).length ≤ 60 then candT w fd d n is (out ++ l) (addT w fd d n i S).2 else (none, (addT w fd d n i S).2)
    | none => (none, (addT w fd d n i S).2)
def keepT (n : Need) (d : Nat) (S : TbL) (r : Option (List L8) × TbL) : Option (List L8) × TbL := match tbF S n d with
  | some a => (a, S)
  | none => (r.1, r.2 ++ [((n, d), r.1)])
def subT (w : Wld) : Nat → FdT
  | 0 => fun _ S => (some [], S)
  | d + 1 => fun n S => keepT n d S (candT w (subT w d) d n (candIx w n) [] S)
/-- what is told of a need at a depth, and the table behind it -/
def allT (w : Wld) (d : Nat) : FdT := subT w (d + 1)
def subD (w : Wld) : Nat → Need → Option (List L8)
  | 0 => fun _ => some []
  | d + 1 => allD w d
/-- what the table says is so -/
def TbOk (w : Wld) (S : TbL) : Prop := ∀ e ∈ S, e.2 = allD w e.1.2 e.1.1 ∧ NOk w e.1.1 ∧ e.1.2 ≤ 6
theorem TbOk.nil {w : Wld} : TbOk w [] := fun e h => by cases h
/-- what a function over tables does -/
structure FdOk (w : Wld) (fd : FdT) (g : Need → Option (List L8)) (b : Nat) : Prop where
  val : ∀ n S, NOk w n → TbOk w S → (fd n S).1 = g n
  ok : ∀ n S, NOk w n → TbOk w S → TbOk w (fd n S).2
  len : ∀ n S, (fd n S).2.length ≤ S.length + b
  ext : ∀ n S, ∃ R, (fd n S).2 = S ++ R
section
variable {w : Wld} {fd : FdT} {g : Need → Option (List L8)} {b : Nat}
end
def bT : Nat → Nat
  | 0 => 0
  | d + 1 => 30 * bT d + 1
end Go.Isea

namespace Go.Isea
open Go
def fmtN (n : Need) : L8 := n.c ++ [32] ++ n.t
/-- the key of the specification's table -/
def keyS (n : Need) (d : Nat) : L8 := digitL d ++ fmtN n
theorem keyS_inj {n m : Need} {d e : Nat} {a b : UInt8} (hn : n.c = [a]) (hm : m.c = [b]) (hd : d ≤ 9) (he : e ≤ 9) (h : keyS n d = keyS m e) : (n, d) = (m, e) := by
  unfold keyS fmtN digitL at h
  rw [hn, hm] at h
  have h : UInt8.ofNat (48 + d) :: a :: 32 :: n.t = UInt8.ofNat (48 + e) :: b :: 32 :: m.t := by simpa using h
  injection h with h1 h2
  injection h2 with h3 h4
  injection h4 with _ h5
  have h6 := digitL_inj hd he h1
  cases n; cases m
  simp only at hn hm h5
  rw [hn, hm, h3, h5, h6]
theorem TbOk.key {w : Wld} {S : TbL} {n : Need} {d : Nat} (hok : worldOk w = true) (h : TbOk w S) (hn : NOk w n) (hd : d ≤ 9) : ∀ e ∈ S, keyS e.1.1 e.1.2 = keyS n d ↔ e.1 = (n, d) := by
  intro e he
  obtain ⟨_, h1, h2⟩ := h e he
  obtain ⟨a, ha, _⟩ := known_letter (world_cls hok) h1.1
  obtain ⟨b, hb, _⟩ := known_letter (world_cls hok) hn.1
  exact ⟨fun hk => keyS_inj ha hb (Nat.le_trans h2 (by decide)) hd hk, fun hk => by rw [hk]⟩
theorem TbOk.keyL {w : Wld} {S : TbL} {n : Need} {d : Nat} (hok : worldOk w = true) (h : TbOk w S) (hn : NOk w n) (hd : d ≤ 9) : ∀ e ∈ S, Isea.keyL e.1.1 e.1.2 = Isea.keyL n d ↔ e.1 = (n, d) := by
  intro e he
  obtain ⟨_, h1, h2⟩ := h e he
  obtain ⟨a, ha, _⟩ := known_letter (world_cls hok) h1.1
  obtain ⟨b, hb, _⟩ := known_letter (world_cls hok) hn.1
  refine ⟨fun hk => ?_, fun hk => by rw [hk]⟩
  obtain ⟨g1, g2⟩ := keyL_inj ha hb (Nat.le_trans h2 (by decide)) hd hk
  exact Prod.ext g1 g2
def tbI : TbL → Need → Nat → Nat → Int
  | [], _, _, _ => -1
  | e :: es, n, d, j => if e.1 = (n, d) then (j : Int) else tbI es n d (j + 1)
/-! rows as texts -/
def rowTxt (k : Nat) (r : List L8) : L8 := digitL k ++ joinB 0 r
def txts (k : Nat) (rows : List (List L8)) : List L8 := rows.map (rowTxt k)
def RwOk (q : Nat) (rows : List (List L8)) : Prop := ∀ r ∈ rows, r.length = q ∧ (joinB 0 r).length ≤ q * 1201
theorem RwOk.one : RwOk 0 [[]] := fun r hr => by
  have := List.mem_singleton.1 hr
  subst this
  exact ⟨rfl, Nat.le_refl _⟩
/-! equations -/
section
variable {w : Wld} {fd : FdT} {d i : Nat} {n m : Need} {ms : List Need} {rows : List (List L8)} {S : TbL} {is : List Nat} {out parts : List L8} {x : Inst}
end
end Go.Isea
