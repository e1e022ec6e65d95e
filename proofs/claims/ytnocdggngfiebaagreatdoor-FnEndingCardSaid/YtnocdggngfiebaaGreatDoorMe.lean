/- Contracts of functions of this program, for all arguments that satisfy what each lemma asks for. -/
import Derived.Test.YtnocdggngfiebaaGreatDoorMs
import Derived.Test.YtnocdggngfiebaaGreatDoorMc
import Derived.Test.YtnocdggngfiebaaGreatDoorMb
set_option linter.all false
namespace Go.Isea
open Go
variable {P : Program} {h : AH}
theorem good_below {k : FuncId} {args : List AV} {v : Value} {fn : Func} (h1 : P.funcs[k]? = some fn) (h2 : (fn.name == "runtime.NumGoroutine") = false) (h3 : fn.body.isNone = false)
    (hc : ∀ (K : KM) (w : World) (vs : Array Value), RH K h w → RepL K h w args vs → Calls P k vs w fun e w' => e = .returned v ∧ RowKit.Below w.heap.size w w') : Good P k args h [] (.v v) h :=
  ⟨⟨fn, h1, h2, h3⟩, fun K w vs hK hr => (hc K w vs hK hr).mono (by
    rintro e w' ⟨rfl, hb⟩
    have hX : Ext [] K h w K h w' := Ext.was hb.os hb.tape hb.output hb.size fun b hlt => hb.block b hlt
    exact ⟨K, v, rfl, hK.stay hX, hX, .v _⟩)⟩
theorem repL_two {K : KM} {w : World} {a b : AV} {vs : Array Value} (hr : RepL K h w [a, b] vs) : ∃ u v, vs = #[u, v] ∧ Rep K h w a u ∧ Rep K h w b v := by
  obtain ⟨hl, hc⟩ := hr
  match vs, hl with
  | ⟨[u, v]⟩, _ => exact ⟨u, v, rfl, hc 0 a u rfl rfl, hc 1 b v rfl rfl⟩
theorem repL_one {K : KM} {w : World} {a : AV} {vs : Array Value} (hr : RepL K h w [a] vs) : ∃ u, vs = #[u] ∧ Rep K h w a u := by
  obtain ⟨hl, hc⟩ := hr
  match vs, hl with
  | ⟨[u]⟩, _ => exact ⟨u, rfl, hc 0 a u rfl rfl⟩
theorem rep_str {K : KM} {w : World} {l : L8} {v : Value} (hr : Rep K h w (str l) v) : v = .string (bs l) := by cases hr; rfl
theorem indexByte_ix : ∀ (l : L8) (c : UInt8), Lib.indexByte l c = ix l c
  | [], c => rfl
  | b :: l, c => by
    have := ix_ge l c
    simp only [Lib.indexByte, ix, indexByte_ix l c, beq_iff_eq]
    by_cases h0 : ix l c < 0
    · rw [if_pos h0, if_pos (show ix l c = -1 by omega)]
    · rw [if_neg h0, if_neg (show ¬ ix l c = -1 by omega)]
/-- rows of texts -/
def sRow (l : L8) : List AV := [str l]
@[go_sem] theorem puR_strs {l : List L8} : PuR (l.map sRow) = True := puR_map fun n => by simp -dsimp only [sRow, go_sem]
@[go_sem] theorem al_strs {l : List L8} : AllLen 1 (l.map sRow) = True := allLen_map fun _ => rfl
end Go.Isea
namespace Go.Proofs.YtnocdggngfiebaaGreatDoor
open Go Go.Isea
theorem l_IndexByte (s : L8) (c : UInt8) (h : AH) : Isea.Good Tryz.prog 294 [str s, .v (.int .u8 c.toNat)] h [] (.v (.int .i64 (ix s c))) h := by
  refine good_below Tryz.func294 (by kernel_rfl) (by kernel_rfl) fun K w vs hK hr => ?_
  obtain ⟨u, v, rfl, hu, hv⟩ := repL_two hr
  rw [rep_str hu, raw_rep (x := .v (.int .u8 c.toNat)) rfl hv]
  refine (Tryz.stringslite_IndexByte (bs s) c.toNat w).mono ?_
  rintro e w' ⟨rfl, rfl⟩
  refine ⟨?_, RowKit.Below.refl _ _⟩
  have : ((c.toNat : Int)).toNat.toUInt8 = c := by simp
  rw [this]
  have : (bs s).data.toList = s := by simp
  rw [this, indexByte_ix]
theorem l_Itoa (k : Nat) (h : AH) (hk : k ≤ 9) : Isea.Good Tryz.prog 113 [.v (.int .i64 (k : Nat))] h [] (str [UInt8.ofNat (48 + k)]) h := by
  refine good_below Tryz.func113 (by kernel_rfl) (by kernel_rfl) fun K w vs hK hr => ?_
  obtain ⟨u, rfl, hu⟩ := repL_one hr
  rw [raw_rep (x := .v (.int .i64 k)) rfl hu]
  refine (Tryz.strconv_Itoa_small k (by omega) w).mono ?_
  rintro e w' ⟨rfl, rfl⟩
  refine ⟨?_, RowKit.Below.refl _ _⟩
  rw [Lib.decDigits, dif_pos (by omega)]
theorem l_Join (xs : List L8) (sep : L8) (h : AH) (hn : xs.length ≤ 140737488355328) (hl : (Lib.join xs sep).length ≤ 140737488355328) : Isea.Good Tryz.prog 90 [.sl (xs.map sRow), str sep] h [] (str (Lib.join xs sep)) h := by
  refine good_below Tryz.func90 (by kernel_rfl) (by kernel_rfl) fun K w vs hK hr => ?_
  obtain ⟨u, v, rfl, hu, hv⟩ := repL_two hr
  rw [rep_str hv]
  cases xs with
  | nil =>
    have : ∃ a c, u = .slice a 0 c := by
      cases hu with
      | sl0 a c => exact ⟨a, c, rfl⟩
      | sl hi hlc hsz hcell hr => exact ⟨_, _, rfl⟩
    obtain ⟨a, c, rfl⟩ := this
    refine (Tryz.strings_Join_none a c (bs sep) w).mono ?_
    rintro e w' ⟨rfl, rfl⟩
    exact ⟨by simp [Lib.join, bs], RowKit.Below.refl _ _⟩
  | cons x xs =>
    generalize hys : x :: xs = ys at *
    have hne : ys ≠ [] := by rw [← hys]; simp
    generalize hrows : ys.map sRow = rows at hu
    cases hu with
    | sl0 a c => exact absurd (List.map_eq_nil_iff.1 hrows) hne
    | @sl _ b o c sz f hi hlc hsz hcell hrr =>
      subst hrows
      have hs1 : sz = 1 := by
        have := hsz (sRow x) (List.mem_map.2 ⟨x, by rw [← hys]; simp, rfl⟩)
        exact this.symm
      subst hs1
      have hlen : (ys.map sRow).length = (ys.map bs).length := by simp
      rw [hlen]
      have hm : (ys.map bs).map (fun s => s.data.toList) = ys := by
        rw [List.map_map]
        conv => rhs; rw [← List.map_id ys]
        apply List.map_congr_left
        intro a _; simp
      have hb : (bs sep).data.toList = sep := by simp
      refine (Tryz.strings_Join b o c (ys.map bs) (bs sep) w (fun j s hj => ?_) hi.1 (by simpa using hn) (by simpa using hlc) (by rw [hm, hb]; exact hl)).mono ?_
      · rw [List.getElem?_map] at hj
        cases hy : ys[j]? with
        | none => rw [hy] at hj; cases hj
        | some y =>
          rw [hy] at hj
          simp only [Option.map_some, Option.some.injEq] at hj
          have h2 := hrr j 0 (sRow y) (str y) (by rw [List.getElem?_map, hy]; rfl) rfl
          have hjl := (List.getElem?_eq_some_iff.1 hy).1
          rw [hcell j (by simpa using hjl)]
          rw [Nat.mul_one, Nat.add_zero] at h2
          rw [rep_str h2, hj]
      · rintro e w' ⟨rfl, hbw⟩
        rw [hm, hb]
        exact ⟨rfl, hbw⟩
end Go.Proofs.YtnocdggngfiebaaGreatDoor

namespace Go.Isea
open Go
def pfx (s : L8) (d : UInt8) : Bool := match s with
  | [] => false
  | c :: _ => decide (c = d)
/-- how many parts a text has as a letter -/
def arL (l : L8) : Int := match l with
  | [c] => ar c
  | _ => -1
def isVL (l : L8) : Bool := match l with
  | [c] => isV c
  | _ => false
end Go.Isea
namespace Go.Proofs.YtnocdggngfiebaaGreatDoor
open Go Go.Isea
set_option maxRecDepth 100000
set_option maxHeartbeats 4000000
theorem l_HasPrefix' (s : L8) (d : UInt8) (h : AH) : Isea.Good Tryz.prog 264 [str s, str [d]] h [] (.v (.bool (pfx s d))) h := by
  refine good [] [] Tryz.func264 rfl rfl Tryz.ntmps264 (by kernel_rfl) mixed (by kernel_rfl) ?_
  cases s with
  | nil =>
    simp -dsimp only [go_sem]
    exact fin_bool (Nat.le_refl _) rfl
  | cons c l =>
    have h1 : (1 : Int) ≤ ((l.length + 1 : Nat) : Int) := by omega
    have h2 : 1 ≤ l.length + 1 := by omega
    simp -dsimp only [go_sem, h1, h2]
    refine fin_bool (Nat.le_refl _) ?_
    simp [pfx]
theorem l_HasPrefix (s : L8) (d : UInt8) (h : AH) : Isea.Good Tryz.prog 198 [str s, str [d]] h [] (.v (.bool (pfx s d))) h := by
  refine good [] [] Tryz.func198 rfl rfl Tryz.ntmps198 (by kernel_rfl) mixed (by kernel_rfl) ?_
  simp -dsimp only [go_sem]
  refine call_pure (l_HasPrefix' s d _) ?_
  simp -dsimp only [go_sem]
  exact fin_bool (Nat.le_refl _) rfl
theorem l_Index' (s : L8) (d : UInt8) (h : AH) : Isea.Good Tryz.prog 249 [str s, str [d]] h [] (.v (.int .i64 (ix s d))) h := by
  refine good [] [] Tryz.func249 rfl rfl Tryz.ntmps249 (by kernel_rfl) mixed (by kernel_rfl) ?_
  by_cases he : [d] = s
  · subst he
    simp -dsimp only [go_sem]
    exact fin_int (Nat.le_refl _) (by simp [ix])
  · simp -dsimp only [go_sem, he]
    refine call_pure (l_IndexByte s d _) ?_
    simp -dsimp only [go_sem]
    exact fin_int (Nat.le_refl _) rfl
theorem l_Index (s : L8) (d : UInt8) (h : AH) : Isea.Good Tryz.prog 177 [str s, str [d]] h [] (.v (.int .i64 (ix s d))) h := by
  refine good [] [] Tryz.func177 rfl rfl Tryz.ntmps177 (by kernel_rfl) mixed (by kernel_rfl) ?_
  simp -dsimp only [go_sem]
  refine call_pure (l_Index' s d _) ?_
  simp -dsimp only [go_sem]
  exact fin_int (Nat.le_refl _) rfl
theorem l_Contains (s : L8) (d : UInt8) (h : AH) : Isea.Good Tryz.prog 105 [str s, str [d]] h [] (.v (.bool (decide (0 ≤ ix s d)))) h := by
  refine good [] [] Tryz.func105 rfl rfl Tryz.ntmps105 (by kernel_rfl) mixed (by kernel_rfl) ?_
  simp -dsimp only [go_sem]
  refine call_pure (l_Index s d _) ?_
  simp -dsimp only [go_sem]
  exact fin_bool (Nat.le_refl _) rfl
end Go.Proofs.YtnocdggngfiebaaGreatDoor

namespace Go.Isea
open Go
def leaf9 : L8 := [105, 98, 117, 120, 121, 122, 88, 89, 90]
def vars6' : L8 := [120, 121, 122, 88, 89, 90]
theorem leaf9_ar (c : UInt8) : (0 ≤ ix leaf9 c) = (ar c = 0) := by
  revert c; exact forall_u8 (by decide +kernel)
theorem vars6_V (c : UInt8) : decide (0 ≤ ix vars6' c) = isV c := by
  revert c; exact forall_u8 (by decide +kernel)
theorem ar_rest (c : UInt8) (h : ¬ ar c = 0) : (c = 108 ∧ ar c = 1) ∨ (c = 109 ∧ ar c = 1) ∨ (c = 112 ∧ ar c = 2) ∨ (¬ c = 108 ∧ ¬ c = 109 ∧ ¬ c = 112 ∧ ar c = -1) := by
  revert h; revert c; exact forall_u8 (by decide +kernel)
@[go_sem] theorem cons_nil' {a : UInt8} {l : L8} : (a :: l = []) = False := by simp
@[go_sem] theorem nil_cons' {a : UInt8} {l : L8} : (([] : L8) = a :: l) = False := by simp
@[go_sem] theorem one_eq {a b : UInt8} : (([a] : L8) = [b]) = (a = b) := by simp
end Go.Isea
namespace Go.Proofs.YtnocdggngfiebaaGreatDoor
open Go Go.Isea
set_option maxRecDepth 100000
set_option maxHeartbeats 4000000
theorem i_arity (l : L8) (h : AH) : Isea.Good Tryz.prog 283 [str l] h [] (.v (.int .i64 (arL l))) h := by
  refine good [] [] Tryz.func283 rfl rfl Tryz.ntmps283 (by kernel_rfl) mixed (by kernel_rfl) ?_
  match l with
  | [] => simp -dsimp only [go_sem]; exact fin_int (Nat.le_refl _) rfl
  | c :: d :: l =>
    have : ¬ ((l.length + 1 + 1 : Nat) : Int) = 1 := by omega
    simp -dsimp only [go_sem, this]; exact fin_int (Nat.le_refl _) rfl
  | [c] =>
    simp -dsimp only [go_sem]
    refine call_pure (l_Contains leaf9 c _) ?_
    by_cases h0 : ar c = 0
    · have h0' : 0 ≤ ix leaf9 c := by rw [leaf9_ar]; exact h0
      simp -dsimp only [go_sem, h0']
      exact fin_int (Nat.le_refl _) h0.symm
    · have h0' : ¬ 0 ≤ ix leaf9 c := by rw [leaf9_ar]; exact h0
      rcases ar_rest c h0 with ⟨h1, h2⟩ | ⟨h1, h2⟩ | ⟨h1, h2⟩ | ⟨h1, h2, h3, h4⟩
      · subst h1
        simp -dsimp only [go_sem, h0']
        exact fin_int (Nat.le_refl _) h2.symm
      · subst h1
        have : ¬ (109 : UInt8) = 108 := by decide
        simp -dsimp only [go_sem, h0', this]
        exact fin_int (Nat.le_refl _) h2.symm
      · subst h1
        have g1 : ¬ (112 : UInt8) = 108 := by decide
        have g2 : ¬ (112 : UInt8) = 109 := by decide
        simp -dsimp only [go_sem, h0', g1, g2]
        exact fin_int (Nat.le_refl _) h2.symm
      · simp -dsimp only [go_sem, h0', h1, h2, h3]
        exact fin_int (Nat.le_refl _) h4.symm
theorem i_isVar (l : L8) (h : AH) : Isea.Good Tryz.prog 164 [str l] h [] (.v (.bool (isVL l))) h := by
  refine good [] [] Tryz.func164 rfl rfl Tryz.ntmps164 (by kernel_rfl) mixed (by kernel_rfl) ?_
  match l with
  | [] => simp -dsimp only [go_sem]; exact fin_bool (Nat.le_refl _) rfl
  | c :: d :: l =>
    have : ¬ ((l.length + 1 + 1 : Nat) : Int) = 1 := by omega
    simp -dsimp only [go_sem, this]; exact fin_bool (Nat.le_refl _) rfl
  | [c] =>
    simp -dsimp only [go_sem]
    refine call_pure (l_Contains vars6' c _) ?_
    simp -dsimp only [go_sem]
    exact fin_bool (Nat.le_refl _) (vars6_V c)
theorem i_isClass (l : L8) (h : AH) : Isea.Good Tryz.prog 196 [str l] h [] (.v (.bool (capital l))) h := by
  refine good [] [] Tryz.func196 rfl rfl Tryz.ntmps196 (by kernel_rfl) mixed (by kernel_rfl) ?_
  match l with
  | [] => simp -dsimp only [go_sem]; exact fin_bool (Nat.le_refl _) rfl
  | c :: d :: l =>
    have : ¬ ((l.length + 1 + 1 : Nat) : Int) = 1 := by omega
    simp -dsimp only [go_sem, this]; exact fin_bool (Nat.le_refl _) rfl
  | [c] =>
    have e : ((!Op.bytesLess [c] [65]) && (Op.bytesLess [c] [84] || decide (c = 84))) = capital [c] := by
      revert c; exact forall_u8 (by decide +kernel)
    cases h1 : Op.bytesLess [c] [65] with
    | true =>
      simp -dsimp only [go_sem, h1]
      refine fin_bool (Nat.le_refl _) ?_
      rw [← e, h1]; rfl
    | false =>
      simp -dsimp only [go_sem, h1]
      refine fin_bool (Nat.le_refl _) ?_
      rw [← e, h1]; rfl
end Go.Proofs.YtnocdggngfiebaaGreatDoor

namespace Go.Isea
open Go
def lpI (rd : L8 → Option Ty × L8) : Nat → Nat → List Ty → L8 → Option (List Ty) × L8
  | 0, _, ps, s => (some ps, s)
  | m + 1, i, ps, s => if pfx s (sep i) = true then (match rd s.tail with
      | (some t, r) => lpI rd m (i + 1) (ps ++ [t]) r
      | (none, _) => (none, s)) else (none, s)
def endI (c : UInt8) (ps : List Ty) (s : L8) : Option Ty × L8 := if ps.length = 0 then (some (mkT c ps), s) else if pfx s 41 = true then (some (mkT c ps), s.tail) else (none, s)
def finI (c : UInt8) (x : Option (List Ty) × L8) : Option Ty × L8 := match x with
  | (none, s) => (none, s)
  | (some ps, s) => endI c ps s
def readR : Nat → L8 → Option Ty × L8
  | 0, s => (none, s)
  | _ + 1, [] => (none, [])
  | f + 1, c :: r => if ar c < 0 then (none, c :: r) else finI c (lpI (readR f) (ar c).toNat 0 [] r)
theorem readR_parse : ∀ (f : Nat) (s : L8), (∀ t r, parse f s = some (t, r) → readR f s = (some t, r)) ∧ (parse f s = none → (readR f s).1 = none)
  | 0, s => ⟨fun t r h => by simp [parse] at h, fun _ => rfl⟩
  | f + 1, [] => ⟨fun t r h => by simp [parse] at h, fun _ => rfl⟩
  | f + 1, c :: s => by
    have ih := readR_parse f
    have key : ∀ x, parse f x = none → ∃ y, readR f x = (none, y) := fun x hx => ⟨(readR f x).2, by rw [← (ih x).2 hx]⟩
    have key2 : ∀ x t r, parse f x = some (t, r) → readR f x = (some t, r) := fun x t r hx => (ih x).1 t r hx
    have h4 : ar c = -1 ∨ ar c = 0 ∨ ar c = 1 ∨ ar c = 2 := by revert c; exact forall_u8 (by decide +kernel)
    rcases h4 with h0 | h0 | h0 | h0
    · simp [parse, readR, h0]
    · simp [parse, readR, finI, h0, lpI, endI, mkT]
    · cases s with
      | nil => simp [parse, readR, finI, h0, lpI, pfx]
      | cons d r1 =>
        by_cases hd : d = 40
        · subst hd
          cases hp : parse f r1 with
          | none =>
            obtain ⟨y, hy⟩ := key r1 hp
            simp [parse, readR, finI, h0, lpI, pfx, sep, hp, hy]
          | some x =>
            obtain ⟨t, r2⟩ := x
            have hy := key2 _ _ _ hp
            cases r2 with
            | nil => simp [parse, readR, finI, h0, lpI, pfx, sep, hp, hy, endI]
            | cons e r2 =>
              by_cases he : e = 41
              · subst he; simp [parse, readR, finI, h0, lpI, pfx, sep, hp, hy, endI, mkT]
              · have : parse (f + 1) (c :: 40 :: r1) = none := by
                  simp only [parse, h0]
                  simp [hp]
                  split
                  · rename_i heq; simp at heq; exact absurd heq.2.1 he
                  · rfl
                simp [this, readR, finI, h0, lpI, pfx, sep, hy, endI, he]
        · have : parse (f + 1) (c :: d :: r1) = none := by
            simp only [parse, h0]
            simp
            split
            · rename_i heq; simp at heq; exact absurd heq.1 hd
            · rfl
          simp [this, readR, finI, h0, lpI, pfx, sep, hd]
    · cases s with
      | nil => simp [parse, readR, finI, h0, lpI, pfx]
      | cons d r1 =>
        by_cases hd : d = 40
        · subst hd
          cases hp : parse f r1 with
          | none =>
            obtain ⟨y, hy⟩ := key r1 hp
            simp [parse, readR, finI, h0, lpI, pfx, sep, hp, hy]
          | some x =>
            obtain ⟨t, r2⟩ := x
            have hy := key2 _ _ _ hp
            cases r2 with
            | nil => simp [parse, readR, finI, h0, lpI, pfx, sep, hp, hy, endI]
            | cons e r2 =>
              by_cases he : e = 44
              · subst he
                cases hp2 : parse f r2 with
                | none =>
                  obtain ⟨y, hy2⟩ := key r2 hp2
                  simp [parse, readR, finI, h0, lpI, pfx, sep, hp, hy, hp2, hy2]
                | some x2 =>
                  obtain ⟨u, r3⟩ := x2
                  have hy2 := key2 _ _ _ hp2
                  cases r3 with
                  | nil => simp [parse, readR, finI, h0, lpI, pfx, sep, hp, hy, hp2, hy2, endI]
                  | cons g r3 =>
                    by_cases hg : g = 41
                    · subst hg; simp [parse, readR, finI, h0, lpI, pfx, sep, hp, hy, hp2, hy2, endI, mkT]
                    · have : parse (f + 1) (c :: 40 :: r1) = none := by
                        simp only [parse, h0]
                        simp [hp, hp2]
                        split
                        · rename_i heq; simp at heq; exact absurd heq.2.1 hg
                        · rfl
                      simp [this, readR, finI, h0, lpI, pfx, sep, hy, hy2, endI, hg]
              · have : parse (f + 1) (c :: 40 :: r1) = none := by
                  simp only [parse, h0]
                  simp [hp]
                  split
                  · rename_i heq; simp at heq; exact absurd heq.2.1 he
                  · rfl
                simp [this, readR, finI, h0, lpI, pfx, sep, hy, he]
        · have : parse (f + 1) (c :: d :: r1) = none := by
            simp only [parse, h0]
            simp
            split
            · rename_i heq; simp at heq; exact absurd heq.1 hd
            · rfl
          simp [this, readR, finI, h0, lpI, pfx, sep, hd]
theorem typeOf_readR (l : L8) : typeOf l = if 60 < l.length then none else if (readR (l.length + 1) l).2 = [] then (readR (l.length + 1) l).1 else none := by
  unfold typeOf
  split
  · rfl
  · have h := readR_parse (l.length + 1) l
    cases hp : parse (l.length + 1) l with
    | none => simp [h.2 hp]
    | some x =>
      obtain ⟨t, r⟩ := x
      rw [h.1 t r hp]
      cases r <;> simp
/-- how a reader's rests shrink -/
theorem lpI_len {rd : L8 → Option Ty × L8} (hrd : ∀ s, (rd s).2.length ≤ s.length) : ∀ (m i : Nat) (ps : List Ty) (s : L8), (lpI rd m i ps s).2.length ≤ s.length
  | 0, i, ps, s => Nat.le_refl _
  | m + 1, i, ps, s => by
    unfold lpI
    split
    · have h1 := hrd s.tail
      have h2 : s.tail.length ≤ s.length := by rw [List.length_tail]; omega
      split
      · rename_i t r heq
        rw [heq] at h1
        have := lpI_len hrd m (i + 1) (ps ++ [t]) r
        simp only at h1; omega
      · exact Nat.le_refl _
    · exact Nat.le_refl _
theorem readR_len : ∀ (f : Nat) (s : L8), (readR f s).2.length ≤ s.length
  | 0, s => Nat.le_refl _
  | f + 1, [] => Nat.le_refl _
  | f + 1, c :: r => by
    unfold readR finI
    split
    · exact Nat.le_refl _
    · have := lpI_len (readR_len f) (ar c).toNat 0 [] r
      split
      · rename_i s heq
        rw [heq] at this
        simp only [List.length_cons] at this ⊢; omega
      · rename_i ps s heq
        rw [heq] at this
        simp only [List.length_cons] at this ⊢
        unfold endI
        split
        · simp only; omega
        · split
          · simp only [List.length_tail]; omega
          · simp only; omega
/-- a type as the program's tree -/
def Ty.nd : Ty → AV
  | .leaf c => .ref [str [c], .sl [], .v (.pointer none)] 0
  | .un c t => .ref [str [c], .sl [[t.nd]], .v (.pointer none)] 0
  | .bin c t u => .ref [str [c], .sl [[t.nd], [u.nd]], .v (.pointer none)] 0
def ndRow (t : Ty) : List AV := [t.nd]
def Ty.nc (t : Ty) : List AV := [str [t.head], .sl (t.parts.map ndRow), .v (.pointer none)]
theorem Ty.nd_eq (t : Ty) : t.nd = .ref t.nc 0 := by cases t <;> rfl
theorem Ty.nd_lo (n : Nat) : ∀ t : Ty, Lo n t.nd
  | .leaf c => by
    unfold Ty.nd
    refine .ref fun x hx => ?_
    simp only [List.mem_cons, List.not_mem_nil, or_false] at hx
    rcases hx with rfl | rfl | rfl
    · exact .v _
    · exact .sl fun r hr => (by cases hr)
    · exact .v _
  | .un c t => by
    unfold Ty.nd
    refine .ref fun x hx => ?_
    simp only [List.mem_cons, List.not_mem_nil, or_false] at hx
    rcases hx with rfl | rfl | rfl
    · exact .v _
    · refine .sl fun r hr y hy => ?_
      simp only [List.mem_cons, List.not_mem_nil, or_false] at hr; subst hr
      simp only [List.mem_cons, List.not_mem_nil, or_false] at hy; subst hy
      exact Ty.nd_lo n t
    · exact .v _
  | .bin c t u => by
    unfold Ty.nd
    refine .ref fun x hx => ?_
    simp only [List.mem_cons, List.not_mem_nil, or_false] at hx
    rcases hx with rfl | rfl | rfl
    · exact .v _
    · refine .sl fun r hr y hy => ?_
      simp only [List.mem_cons, List.not_mem_nil, or_false] at hr
      rcases hr with rfl | rfl
      · simp only [List.mem_cons, List.not_mem_nil, or_false] at hy; subst hy; exact Ty.nd_lo n t
      · simp only [List.mem_cons, List.not_mem_nil, or_false] at hy; subst hy; exact Ty.nd_lo n u
    · exact .v _
theorem ndRow_pu (t : Ty) : PuL (ndRow t) := fun n x hx => by
  simp only [ndRow, List.mem_cons, List.not_mem_nil, or_false] at hx
  subst hx; exact t.nd_lo n
@[go_sem] theorem puR_nds {l : List Ty} : PuR (l.map ndRow) = True := puR_map ndRow_pu
@[go_sem] theorem al_nds {l : List Ty} : AllLen 1 (l.map ndRow) = True := allLen_map fun _ => rfl
theorem Ty.nc_pu (t : Ty) : PuL t.nc := by simp -dsimp only [Ty.nc, go_sem]
def ndO : Option Ty → AV
  | some t => .ref t.nc 0
  | none => .v (.pointer none)
end Go.Isea

namespace Go.Isea
open Go
def nilP : AV := .v (.pointer none)
def rdSt (c : UInt8) (n : Nat) (T : TypeId) (i : Nat) (ps : List Ty) (s : L8) (H : AH) : List (Nat × AV) × AH := match i with
  | 0 => ([(0, str s), (28, .v (.int .i64 0))], ⟨H.n, upd H.o n (.cells [str [c], .v (.slice none 0 0), .v (.pointer none)])⟩)
  | i + 1 => ([(0, str s), (28, .v (.int .i64 ((i + 1 : Nat))))], ⟨H.n + 1, upd (upd H.o n (.cells [str [c], .so (n + 1) ps.length ps.length, .v (.pointer none)])) (n + 1) (.rows T 1 (ps.map ndRow))⟩)
theorem rdSt_0 {c : UInt8} {n : Nat} {T : TypeId} {ps : List Ty} {s : L8} {H : AH} : rdSt c n T 0 ps s H = ([(0, str s), (28, .v (.int .i64 0))], ⟨H.n, upd H.o n (.cells [str [c], .v (.slice none 0 0), .v (.pointer none)])⟩) := rfl
theorem rdSt_s {c : UInt8} {n : Nat} {T : TypeId} {i : Nat} {ps : List Ty} {s : L8} {H : AH} : rdSt c n T (i + 1) ps s H = ([(0, str s), (28, .v (.int .i64 ((i + 1 : Nat))))], ⟨H.n + 1, upd (upd H.o n (.cells [str [c], .so (n + 1) ps.length ps.length, .v (.pointer none)])) (n + 1) (.rows T 1 (ps.map ndRow))⟩) := rfl
theorem lpI_z {rd : L8 → Option Ty × L8} {i : Nat} {ps : List Ty} {s : L8} : lpI rd 0 i ps s = (some ps, s) := rfl
theorem lpI_s {rd : L8 → Option Ty × L8} {m i : Nat} {ps : List Ty} {s : L8} : lpI rd (m + 1) i ps s = if pfx s (sep i) = true then (match rd s.tail with
      | (some t, r) => lpI rd m (i + 1) (ps ++ [t]) r
      | (none, _) => (none, s)) else (none, s) := rfl
@[go_sem] theorem take_len1 {l : L8} : l.take (l.length + 1 - 1) = l := by simp
theorem pfx_true {s : L8} {d : UInt8} (h : pfx s d = true) : ∃ l, s = d :: l := by
  cases s with
  | nil => cases h
  | cons c l => exact ⟨l, by simp only [pfx, decide_eq_true_eq] at h; rw [h]⟩
end Go.Isea
namespace Go.Proofs.YtnocdggngfiebaaGreatDoor
open Go Go.Isea
set_option maxRecDepth 100000
set_option maxHeartbeats 4000000
def ReadOk (f : Nat) : Prop := ∀ (s : L8) (h : AH), s.length < f → s.length ≤ 4611686018427387904 → Isea.Good Tryz.prog 232 [str s] h [] (.tup [ndO (readR f s).1, str (readR f s).2]) h
theorem i_readType_step {f : Nat} (ih : ReadOk f) : ReadOk (f + 1) := by
  intro s h hl hm
  refine good [20] [] Tryz.func232 rfl rfl Tryz.ntmps232 (by kernel_rfl) mixed (by kernel_rfl) ?_
  cases s with
  | nil =>
    simp -dsimp only [go_sem]
    exact fin_pure (by simp -dsimp only [go_sem]) (by simp -dsimp only [go_sem, readR, ndO])
  | cons c r =>
    have h1 : 1 ≤ r.length + 1 := by omega
    simp -dsimp only [go_sem, h1]
    refine call_pure (i_arity [c] _) ?_
    by_cases hneg : ar c < 0
    · have e : readR (f + 1) (c :: r) = (none, c :: r) := by unfold readR; rw [if_pos hneg]
      simp -dsimp only [go_sem, arL, hneg]
      exact fin_pure (by simp -dsimp only [go_sem]) (by simp -dsimp only [go_sem, e, ndO])
    · obtain ⟨A, hA⟩ : ∃ A : Nat, ar c = A := ⟨(ar c).toNat, by omega⟩
      have hA2 : A ≤ 2 := by have := ar_le c; omega
      have eR : readR (f + 1) (c :: r) = finI c (lpI (readR f) A 0 [] r) := by
        have e1 : (ar c).toNat = A := by omega
        unfold readR; rw [if_neg hneg, e1]
      have hrl : r.length < f := by simp only [List.length_cons] at hl; omega
      have hrm : r.length ≤ 4611686018427387904 := by simp only [List.length_cons] at hm; omega
      simp -dsimp only [go_sem, arL, hneg]
      refine call_pure (i_arity [c] _) ?_
      simp -dsimp only [go_sem, arL, hA]
      refine loop_ruleH [4, 22] (fun (x : {x : Nat × List Ty × L8 // x.1 ≤ A ∧ x.2.1.length = x.1 ∧ lpI (readR f) A 0 [] r = lpI (readR f) (A - x.1) x.1 x.2.1 x.2.2 ∧ x.2.2.length ≤ r.length}) H => rdSt c h.n 163 x.1.1 x.1.2.1 x.1.2.2 H) (fun x => A - x.1.1) ⟨(0, [], r), Nat.zero_le _, rfl, rfl, Nat.le_refl _⟩ ?_ ?_
      · rw [rdSt_0]
        refine weak_objs [h.n] (by simp -dsimp only [go_sem]) (by simp -dsimp only [go_sem]) (by simp -dsimp only [go_sem]) ?_ ?_ ?_
        · intro x h1 h2; simp -dsimp only [go_sem, h1]
        · intro x h1 h2; have h1 : x < h.n + 1 := h1; simp at h2 ⊢; omega
        · simp -dsimp only [go_sem]
      · rintro ⟨⟨i, ps, s⟩, hi, hps, heq, hsl⟩
        have hi : i ≤ A := hi
        have hps : ps.length = i := hps
        have heq : lpI (readR f) A 0 [] r = lpI (readR f) (A - i) i ps s := heq
        have hsl : s.length ≤ r.length := hsl
        have hi1 : i + 1 ≤ 9223372036854775807 := by omega
        by_cases hlt : i < A
        · have hm1 : A - i = (A - (i + 1)) + 1 := by omega
          rw [hm1, lpI_s] at heq
          have e5 : (([40, 44] : L8).drop i).take (i + 1 - i) = [sep i] := by
            have : i = 0 ∨ i = 1 := by omega
            rcases this with rfl | rfl <;> rfl
          have hi2 : i + 1 ≤ 2 := by omega
          cases i with
          | zero =>
            have hps0 : ps = [] := List.eq_nil_of_length_eq_zero hps
            subst hps0
            have hlt' : (0 : Int) < ((A : Nat) : Int) := by omega
            have hsep : sep 0 = 40 := rfl
            rw [hsep] at heq
            simp -dsimp only [rdSt_0, go_sem, hlt']
            refine call_pure (l_HasPrefix s 40 _) ?_
            cases hpf : pfx s 40 with
            | false =>
              rw [if_neg (by rw [hpf]; simp)] at heq
              have e : readR (f + 1) (c :: r) = (none, s) := by rw [eR, heq]; rfl
              simp -dsimp only [go_sem]
              exact fin_pure (by simp -dsimp only [go_sem]) (by simp -dsimp only [go_sem, e, ndO])
            | true =>
              obtain ⟨s', rfl⟩ := pfx_true hpf
              rw [if_pos hpf, List.tail_cons] at heq
              simp only [List.length_cons] at hsl
              have h1' : 1 ≤ s'.length + 1 := by omega
              have hrn := readR_len f s'
              simp -dsimp only [go_sem, h1']
              refine call_pure (ih s' _ (by omega) (by omega)) ?_
              cases hy : readR f s' with
              | mk o rest =>
                rw [hy] at heq hrn
                cases o with
                | none =>
                  simp only at heq
                  have e : readR (f + 1) (c :: r) = (none, 40 :: s') := by rw [eR, heq]; rfl
                  simp -dsimp only [go_sem, ndO]
                  exact fin_pure (by simp -dsimp only [go_sem]) (by simp -dsimp only [go_sem, e, ndO])
                | some t =>
                  simp only at heq hrn
                  simp -dsimp only [go_sem, ndO]
                  refine round_to ⟨(0 + 1, [] ++ [t], rest), by show 0 + 1 ≤ A; omega, rfl, by show lpI (readR f) A 0 [] r = _; rw [heq], by show rest.length ≤ r.length; omega⟩ (by show A - (0 + 1) < A - 0; omega) ?_
                  rw [rdSt_s]
                  refine weak_objs [h.n, h.n + 1] (by simp -dsimp only [go_sem]) (by simp -dsimp only [go_sem]) (by simp -dsimp only [go_sem]) ?_ ?_ ?_
                  · intro x h1 h2; simp -dsimp only [go_sem, h1]
                  · intro x h1 h2; have h1 : x < h.n + 2 := h1; simp at h2 ⊢; omega
                  · simp -dsimp only [go_sem, List.map_cons, List.map_nil, List.nil_append, ndRow, Ty.nd_eq, Ty.nc_pu]
          | succ i =>
            have hi0 : i = 0 := by omega
            subst hi0
            have hA2' : A = 2 := by omega
            subst hA2'
            obtain ⟨t0, rfl⟩ : ∃ t0, ps = [t0] := by
              match ps, hps with
              | [t0], _ => exact ⟨t0, rfl⟩
            have hsep : sep (0 + 1) = 44 := rfl
            rw [hsep] at heq
            have h12 : (1 : Int) < ((2 : Nat) : Int) := by decide
            simp -dsimp only [rdSt_s, go_sem, h12]
            refine call_pure (l_HasPrefix s 44 _) ?_
            cases hpf : pfx s 44 with
            | false =>
              rw [if_neg (by rw [hpf]; simp)] at heq
              have e : readR (f + 1) (c :: r) = (none, s) := by rw [eR, heq]; rfl
              simp -dsimp only [go_sem]
              exact fin_pure (by simp -dsimp only [go_sem]) (by simp -dsimp only [go_sem, e, ndO])
            | true =>
              obtain ⟨s', rfl⟩ := pfx_true hpf
              rw [if_pos hpf, List.tail_cons] at heq
              simp only [List.length_cons] at hsl
              have h1' : 1 ≤ s'.length + 1 := by omega
              have hrn := readR_len f s'
              simp -dsimp only [go_sem, h1']
              refine call_pure (ih s' _ (by omega) (by omega)) ?_
              cases hy : readR f s' with
              | mk o rest =>
                rw [hy] at heq hrn
                cases o with
                | none =>
                  simp only at heq
                  have e : readR (f + 1) (c :: r) = (none, 44 :: s') := by rw [eR, heq]; rfl
                  simp -dsimp only [go_sem, ndO]
                  exact fin_pure (by simp -dsimp only [go_sem]) (by simp -dsimp only [go_sem, e, ndO])
                | some t =>
                  simp only at heq hrn
                  simp -dsimp only [go_sem, ndO]
                  refine round_to ⟨(0 + 1 + 1, [t0] ++ [t], rest), by show 0 + 1 + 1 ≤ 2; omega, rfl, by show lpI (readR f) 2 0 [] r = _; rw [heq], by show rest.length ≤ r.length; omega⟩ (by show 2 - (0 + 1 + 1) < 2 - (0 + 1); omega) ?_
                  rw [rdSt_s]
                  refine weak_objs [h.n, h.n + 1] (by simp -dsimp only [go_sem]) (by simp -dsimp only [go_sem]) (by simp -dsimp only [go_sem]; rfl) ?_ ?_ ?_
                  · intro x h1 h2; simp -dsimp only [go_sem, h1]
                  · intro x h1 h2; have h1 : x < h.n + 2 := h1; simp at h2 ⊢; omega
                  · simp -dsimp only [go_sem, List.map_cons, List.map_nil, List.nil_append, List.cons_append, ndRow, Ty.nd_eq, Ty.nc_pu]
        · have hiA : i = A := by omega
          have hz : A - i = 0 := by omega
          rw [hz, lpI_z] at heq
          have e : readR (f + 1) (c :: r) = endI c ps s := by rw [eR, heq]; rfl
          cases i with
          | zero =>
            have hps0 : ps = [] := List.eq_nil_of_length_eq_zero hps
            subst hps0
            subst hiA
            have e2 : endI c [] s = (some (.leaf c), s) := rfl
            rw [e, e2]
            simp -dsimp only [rdSt_0, go_sem]
            exact fin_pure (by simp -dsimp only [go_sem]) (by simp -dsimp only [go_sem, ndO, Ty.nc, Ty.head, Ty.parts, List.map_nil])
          | succ i =>
            have hlt' : ¬ ((i + 1 : Nat) : Int) < ((A : Nat) : Int) := by omega
            have hp0 : (0 : Int) < (ps.length : Nat) := by omega
            have hp0' : ¬ ps.length = 0 := by omega
            simp -dsimp only [rdSt_s, go_sem, hlt', hp0]
            refine call_pure (l_HasPrefix s 41 _) ?_
            unfold endI at e
            rw [if_neg hp0'] at e
            cases hpf : pfx s 41 with
            | false =>
              rw [if_neg (by rw [hpf]; simp)] at e
              simp -dsimp only [go_sem]
              exact fin_pure (by simp -dsimp only [go_sem]) (by simp -dsimp only [go_sem, e, ndO])
            | true =>
              obtain ⟨s', rfl⟩ := pfx_true hpf
              rw [if_pos hpf, List.tail_cons] at e
              have h1' : 1 ≤ s'.length + 1 := by omega
              have hnc : (mkT c ps).nc = [str [c], .sl (ps.map ndRow), .v (.pointer none)] := by
                have : ps.length ≤ 2 := by omega
                match ps, this with
                | [], _ => rfl
                | [a], _ => rfl
                | [a, b], _ => rfl
              simp -dsimp only [go_sem, h1']
              exact fin_pure (by simp -dsimp only [go_sem]) (by simp -dsimp only [go_sem, e, ndO, hnc, List.length_map])
theorem i_readType (s : L8) (h : AH) (hs : s.length ≤ 4611686018427387904) : Isea.Good Tryz.prog 232 [str s] h [] (.tup [ndO (readR (s.length + 1) s).1, str (readR (s.length + 1) s).2]) h := by
  have : ∀ f, ReadOk f := by
    intro f
    induction f with
    | zero => intro s h hl; omega
    | succ f ih => exact i_readType_step ih
  exact this (s.length + 1) s h (Nat.lt_succ_self _) hs
theorem i_typeOf (s : L8) (h : AH) (hs : s.length ≤ 4611686018427387904) : Isea.Good Tryz.prog 171 [str s] h [] (ndO (typeOf s)) h := by
  have e := typeOf_readR s
  refine good [] [] Tryz.func171 rfl rfl Tryz.ntmps171 (by kernel_rfl) mixed (by kernel_rfl) ?_
  by_cases hl : 60 < s.length
  · rw [if_pos hl] at e
    have hl' : (60 : Int) < (s.length : Nat) := by omega
    rw [e]
    simp -dsimp only [go_sem, hl']
    exact fin_pure (Nat.le_refl _) (by simp -dsimp only [go_sem, ndO])
  · rw [if_neg hl] at e
    have hl' : ¬ (60 : Int) < (s.length : Nat) := by omega
    simp -dsimp only [go_sem, hl']
    refine call_pure (i_readType s _ hs) ?_
    cases hy : readR (s.length + 1) s with
    | mk o rest =>
      rw [hy] at e
      by_cases hr : rest = []
      · rw [if_pos hr] at e
        rw [e]
        cases o with
        | none =>
          simp -dsimp only [go_sem, hr, ndO]
          exact fin_pure (Nat.le_refl _) (by simp -dsimp only [go_sem])
        | some t =>
          simp -dsimp only [go_sem, hr, ndO]
          exact fin_pure (Nat.le_refl _) (by simp -dsimp only [go_sem, Ty.nc_pu])
      · rw [if_neg hr] at e
        rw [e]
        cases o <;> simp -dsimp only [go_sem, hr, ndO] <;> exact fin_pure (Nat.le_refl _) (by simp -dsimp only [go_sem])
theorem i_TypeValid (s : L8) (h : AH) (hs : s.length ≤ 4611686018427387904) : Isea.Good Tryz.prog 89 [str s] h [] (.v (.bool (tv s))) h := by
  refine good [] [] Tryz.func89 rfl rfl Tryz.ntmps89 (by kernel_rfl) mixed (by kernel_rfl) ?_
  simp -dsimp only [go_sem]
  refine call_pure (i_typeOf s _ hs) ?_
  unfold tv
  cases typeOf s <;> simp -dsimp only [go_sem, ndO] <;> exact fin_bool (Nat.le_refl _) rfl
end Go.Proofs.YtnocdggngfiebaaGreatDoor

namespace Go.Isea
open Go
theorem text_join (t : Ty) (h : ¬ t.parts.length = 0) : t.text = [t.head] ++ [40] ++ Lib.join (t.parts.map Ty.text) [44] ++ [41] := by
  cases t with
  | leaf c => simp [Ty.parts] at h
  | un c t => simp [Ty.text, Ty.parts, Ty.head, Lib.join_one]
  | bin c t u => simp [Ty.text, Ty.parts, Ty.head, Lib.join, List.intercalate, List.intersperse]
theorem text_leaf (t : Ty) (h : t.parts.length = 0) : t.text = [t.head] := by
  cases t with
  | leaf c => rfl
  | un c t => simp [Ty.parts] at h
  | bin c t u => simp [Ty.parts] at h
end Go.Isea
namespace Go.Proofs.YtnocdggngfiebaaGreatDoor
open Go Go.Isea
set_option maxRecDepth 100000
set_option maxHeartbeats 4000000
def TextOk (n : Nat) : Prop := ∀ (t : Ty) (h : AH), t.text.length ≤ n → Isea.Good Tryz.prog 310 [.ref t.nc 0] h [] (str t.text) h
theorem i_text_step {n : Nat} (hn : n ≤ 1000000) (ih : TextOk n) : TextOk (n + 1) := by
  intro t h hl
  refine good [] [] Tryz.func310 rfl rfl Tryz.ntmps310 (by kernel_rfl) mixed (by kernel_rfl) ?_
  by_cases h0 : t.parts.length = 0
  · have h0' : ((t.parts.length : Nat) : Int) = 0 := by omega
    simp -dsimp only [go_sem, Ty.nc, h0']
    exact fin_str (by simp -dsimp only [go_sem]) (text_leaf t h0).symm
  · have h0' : ¬ ((t.parts.length : Nat) : Int) = 0 := by omega
    have hpl := parts_le t
    have htx := text_join t h0
    simp -dsimp only [go_sem, Ty.nc, h0']
    refine loop_ruleH [0, 19, 0] (fun (i : {i : Nat // i ≤ t.parts.length}) H => ([(3, .so h.n i.1 i.1), (22, .v (.int .i64 (i.1 : Nat)))], ⟨H.n, upd H.o h.n (.rows 9 1 (((t.parts.take i.1).map Ty.text).map sRow))⟩)) (fun i => t.parts.length - i.1) ⟨0, Nat.zero_le _⟩ ?_ ?_
    · refine weak_objs [h.n] (by simp -dsimp only [go_sem]) (by simp -dsimp only [go_sem]) (by simp -dsimp only [go_sem]) ?_ ?_ ?_
      · intro x h1 h2; simp -dsimp only [go_sem, h1]
      · intro x h1 h2; have h1 : x < h.n + 1 := h1; simp at h2 ⊢; omega
      · simp -dsimp only [go_sem, List.map_nil]
    · rintro ⟨i, hi⟩
      have hi1 : i + 1 ≤ 9223372036854775807 := by omega
      have htl : (t.parts.take i).length = i := by rw [List.length_take]; omega
      by_cases hlt : i < t.parts.length
      · obtain ⟨p, hb⟩ := get_some hlt
        obtain ⟨hpt, _⟩ := part_le t hb
        have e6 : (i + 1) * 16 ≤ 140737488355328 := by omega
        have enx : t.parts.take (i + 1) = t.parts.take i ++ [p] := by
          obtain ⟨hl, e⟩ := List.getElem?_eq_some_iff.1 hb
          rw [List.take_succ_eq_append_getElem hl, e]
        simp -dsimp only [go_sem, hlt, hb, ndRow, Ty.nd_eq]
        refine call_pure (ih p _ (by omega)) ?_
        simp -dsimp only [go_sem, hi1, htl, e6, List.length_map]
        refine round_to ⟨i + 1, hlt⟩ (by simp; omega) ?_
        refine weak_objs [h.n] (by simp -dsimp only [go_sem]) (by simp -dsimp only [go_sem]) (by simp -dsimp only [go_sem]) ?_ ?_ ?_
        · intro x h1 h2; simp -dsimp only [go_sem, h1]
        · intro x h1 h2; have h1 : x < h.n + 1 := h1; simp at h2 ⊢; omega
        · simp -dsimp only [go_sem, enx, List.map_append, List.map_cons, List.map_nil, sRow]
      · have hit : t.parts.take i = t.parts := List.take_of_length_le (by omega)
        have hil : i = t.parts.length := by omega
        have hjl : (Lib.join (t.parts.map Ty.text) [44]).length ≤ 1000001 := by
          have := congrArg List.length htx
          simp only [List.length_append, List.length_cons, List.length_nil] at this
          omega
        have g1 : 1 + 1 + (Lib.join (t.parts.map Ty.text) [44]).length ≤ 9223372036854775807 := by omega
        have g2 : (Lib.join (t.parts.map Ty.text) [44]).length + 1 + 1 + 1 ≤ 9223372036854775807 := by omega
        rw [hit]
        simp -dsimp only [go_sem, hlt]
        refine call_pure (Good.frozen (l_Join (t.parts.map Ty.text) [44] ⟨0, fun _ => default⟩ (by simp; omega) (by omega)) (Flat.v _) (by simp -dsimp only [go_sem, List.length_map, hil])) ?_
        simp -dsimp only [go_sem, List.length_append, List.length_cons, List.length_nil, g1, g2]
        exact fin_str (by simp -dsimp only [go_sem]) (by rw [htx]; simp)
theorem i_text (t : Ty) (h : AH) (hl : t.text.length ≤ 1000000) : Isea.Good Tryz.prog 310 [.ref t.nc 0] h [] (str t.text) h := by
  have : ∀ n, n ≤ 1000000 → TextOk n := by
    intro n
    induction n with
    | zero => intro _ t h hl; have := t.text_pos; omega
    | succ n ih => intro hn; exact i_text_step (by omega) (ih (by omega))
  exact this 1000000 (Nat.le_refl _) t h hl
end Go.Proofs.YtnocdggngfiebaaGreatDoor

namespace Go.Isea
open Go
abbrev SK := Sub × L8
def tx (σ : Sub) (c : UInt8) : L8 := ((σ c).map Ty.text).getD []
def mapOf (x : SK) : List (AV × AV) := x.2.map fun c => (str [c], str (tx x.1 c))
structure SKOk (x : SK) : Prop where
  nd : x.2.Nodup
  dom : ∀ c, c ∈ x.2 ↔ (x.1 c).isSome = true
  ok : x.1.Ok 60
def matchK : SK → Ty → Ty → SK × Bool
  | x, .leaf c, b => if isV c = true then (match x.1 c with
      | none => ((x.1.set c b, x.2 ++ [c]), true)
      | some t => (x, decide (t = b)))
    else (x, decide (b.head = c))
  | x, .un c t, b => match b with
    | .un d u => if c = d then matchK x t u else (x, false)
    | _ => (x, false)
  | x, .bin c t t2, b => match b with
    | .bin d u u2 => if c = d then (if (matchK x t u).2 = true then matchK (matchK x t u).1 t2 u2 else ((matchK x t u).1, false)) else (x, false)
    | _ => (x, false)
theorem matchK_R : ∀ (a b : Ty) (x : SK), (matchK x a b).1.1 = (matchR x.1 a b).1 ∧ (matchK x a b).2 = (matchR x.1 a b).2
  | .leaf c, b, x => by
    simp only [matchK, matchR]
    split
    · cases x.1 c <;> simp
    · simp
  | .un c t, b, x => by
    cases b <;> simp only [matchK, matchR] <;> try simp
    rename_i d u
    by_cases h : c = d
    · simp only [h, if_true]; exact matchK_R t u x
    · simp [h]
  | .bin c t t2, b, x => by
    cases b <;> simp only [matchK, matchR] <;> try simp
    rename_i d u u2
    by_cases h : c = d
    · obtain ⟨h1, h2⟩ := matchK_R t u x
      simp only [h, if_true, h2]
      split
      · have := matchK_R t2 u2 (matchK x t u).1
        rw [h1] at this; exact this
      · exact ⟨h1, rfl⟩
    · simp [h]
theorem SKOk.set {x : SK} (h : SKOk x) {c : UInt8} {b : Ty} (hc : x.1 c = none) (hv : isV c = true) (hw : b.wf) (hl : b.text.length ≤ 60) : SKOk (x.1.set c b, x.2 ++ [c]) where
  nd := by
    rw [List.nodup_append]
    refine ⟨h.nd, by simp, fun a ha d hd => ?_⟩
    have : d = c := by simpa using hd
    subst this
    intro e
    subst e
    have := (h.dom a).1 ha
    rw [hc] at this; cases this
  dom d := by
    simp only [List.mem_append, List.mem_cons, List.not_mem_nil, or_false, h.dom d, Sub.set]
    by_cases e : d = c
    · simp [e]
    · simp [e]
  ok := h.ok.set hv hw hl
theorem matchK_ok : ∀ (a b : Ty) (x : SK), SKOk x → b.wf → b.text.length ≤ 60 → SKOk (matchK x a b).1
  | .leaf c, b, x, hs, hw, hl => by
    simp only [matchK]
    split
    · rename_i hv
      cases hc : x.1 c with
      | none => exact hs.set hc hv hw hl
      | some t => exact hs
    · exact hs
  | .un c t, b, x, hs, hw, hl => by
    cases b <;> simp only [matchK] <;> try exact hs
    rename_i d u
    split
    · exact matchK_ok t u x hs hw.2 (by simp [Ty.text] at hl; omega)
    · exact hs
  | .bin c t t2, b, x, hs, hw, hl => by
    cases b <;> simp only [matchK] <;> try exact hs
    rename_i d u u2
    simp [Ty.text] at hl
    have h1 := matchK_ok t u x hs hw.2.1 (by omega)
    split
    · split
      · exact matchK_ok t2 u2 _ h1 hw.2.2 (by omega)
      · exact h1
    · exact hs
def matchKL : SK → List Ty → List Ty → SK × Bool
  | x, [], _ => (x, true)
  | x, p :: ps, q :: qs => if (matchK x p q).2 = true then matchKL (matchK x p q).1 ps qs else ((matchK x p q).1, false)
  | x, _ :: _, [] => (x, false)
theorem matchK_L {x : SK} {a b : Ty} (ha : a.wf) (hb : b.wf) (hv : isV a.head = false) (he : a.head = b.head) : matchK x a b = matchKL x a.parts b.parts ∧ a.parts.length = b.parts.length := by
  cases a with
  | leaf c =>
    simp only [Ty.head] at hv he
    have hb' := Ty.same_leaf ha hb he.symm
    subst hb'
    simp [matchK, hv, matchKL, Ty.parts, Ty.head]
  | un c t =>
    simp only [Ty.head] at hv he
    obtain ⟨u, hb'⟩ := Ty.same_un ha.1 hb he.symm
    subst hb'
    simp only [matchK, if_true, Ty.parts, matchKL, List.length_cons, List.length_nil, and_true]
    split
    · rename_i h; rw [← h]
    · rename_i h; simp only [Bool.not_eq_true] at h; rw [← h]
  | bin c t t2 =>
    simp only [Ty.head] at hv he
    obtain ⟨u, u2, hb'⟩ := Ty.same_bin ha.1 hb he.symm
    subst hb'
    simp only [matchK, if_true, Ty.parts, matchKL, List.length_cons, List.length_nil, and_true]
    split
    · split
      · rename_i h; rw [← h]
      · rename_i h; simp only [Bool.not_eq_true] at h; rw [← h]
    · rfl
theorem matchK_head {x : SK} {a b : Ty} (hv : isV a.head = false) (he : ¬ a.head = b.head) : matchK x a b = (x, false) := by
  cases a with
  | leaf c =>
    simp only [Ty.head] at hv he
    have : ¬ b.head = c := fun e => he e.symm
    simp [matchK, hv, this]
  | un c t =>
    simp only [Ty.head] at he
    cases b <;> simp only [matchK] <;> try rfl
    simp only [Ty.head] at he
    rw [if_neg he]
  | bin c t t2 =>
    simp only [Ty.head] at he
    cases b <;> simp only [matchK] <;> try rfl
    simp only [Ty.head] at he
    rw [if_neg he]
/-- what is found -/
theorem mapOf_find {x : SK} (c : UInt8) : ∀ (ks : L8), mfind (ks.map fun c => (str [c], str (tx x.1 c))) (bs [c]) = some (if c ∈ ks then some (str (tx x.1 c)) else none)
  | [] => by simp [mfind]
  | d :: ks => by
    have ih := mapOf_find (x := x) c ks
    have hk : strKey (str [d]) = some (bs [d]) := rfl
    rw [List.map_cons]
    unfold mfind
    simp only [hk]
    by_cases h : d = c
    · subst h; simp
    · have h1 : ¬ bs [d] = bs [c] := fun e => h (by have := bs_inj e; simpa using this)
      have h2 : ¬ c = d := fun e => h e.symm
      simp only [h1, if_false, ih, List.mem_cons, h2, false_or]
theorem mapOf_put_new {x : SK} (c : UInt8) (b : Ty) : ∀ (ks : L8), c ∉ ks → mput (ks.map fun d => (str [d], str (tx x.1 d))) (bs [c]) (str b.text) = (ks ++ [c]).map fun d => (str [d], str (tx (x.1.set c b) d))
  | [], _ => by simp [mput, tx, Sub.set, str]
  | d :: ks, h => by
    simp only [List.mem_cons, not_or] at h
    have ih := mapOf_put_new (x := x) c b ks h.2
    have hk : strKey (str [d]) = some (bs [d]) := rfl
    have h1 : ¬ bs [d] = bs [c] := fun e => h.1 (by have := bs_inj e; simpa using this.symm)
    rw [List.map_cons]
    unfold mput
    simp only [hk, h1, if_false, ih, List.cons_append, List.map_cons]
    have : tx (x.1.set c b) d = tx x.1 d := by
      have : ¬ d = c := fun e => h.1 e.symm
      simp [tx, Sub.set, this]
    rw [this]
theorem mapOf_put_old {x : SK} (c : UInt8) : ∀ (ks : L8), c ∈ ks → mput (ks.map fun d => (str [d], str (tx x.1 d))) (bs [c]) (str (tx x.1 c)) = ks.map fun d => (str [d], str (tx x.1 d))
  | [], h => by cases h
  | d :: ks, h => by
    have hk : strKey (str [d]) = some (bs [d]) := rfl
    rw [List.map_cons]
    unfold mput
    simp only [hk]
    by_cases e : d = c
    · subst e; simp [str]
    · have h1 : ¬ bs [d] = bs [c] := fun e' => e (by have := bs_inj e'; simpa using this)
      have h2 : c ∈ ks := by
        rcases List.mem_cons.1 h with rfl | h
        · exact absurd rfl e
        · exact h
      simp only [h1, if_false, mapOf_put_old c ks h2]
end Go.Isea

namespace Go.Isea
open Go
theorem objFz_map {h : AH} {m : Nat} {es : List (AV × AV)} (hp : ∀ p ∈ es, Lo m p.1 ∧ Lo m p.2) : ObjFz h m (.map es) (.map es) :=
  ⟨rfl, fun i x y h1 h2 => by
    rw [h1] at h2
    injection h2 with h2
    subst h2
    have := hp x (List.mem_of_getElem? h1)
    exact ⟨Fz.of_lo this.1, Fz.of_lo this.2⟩⟩
@[go_sem] theorem objFz_mapOf {h : AH} {m : Nat} {x : SK} : ObjFz h m (.map (mapOf x)) (.map (mapOf x)) = True := by
  apply propext
  refine ⟨fun _ => trivial, fun _ => objFz_map fun p hp => ?_⟩
  obtain ⟨c, _, rfl⟩ := List.mem_map.1 hp
  exact ⟨.v _, .v _⟩
theorem matchKL_cons {x : SK} {p q : Ty} {ps qs : List Ty} : matchKL x (p :: ps) (q :: qs) = if (matchK x p q).2 = true then matchKL (matchK x p q).1 ps qs else ((matchK x p q).1, false) := rfl
theorem matchKL_nil {x : SK} {qs : List Ty} : matchKL x [] qs = (x, true) := rfl
theorem isVL_one (c : UInt8) : isVL [c] = isV c := rfl
end Go.Isea
namespace Go.Proofs.YtnocdggngfiebaaGreatDoor
open Go Go.Isea
set_option maxRecDepth 100000
set_option maxHeartbeats 4000000
def MatchIOk (n : Nat) : Prop := ∀ (l : Nat) (a b : Ty) (x : SK) (h : AH), l < h.n → h.o l = .map (mapOf x) → SKOk x → a.wf → b.wf → a.text.length ≤ n → b.text.length ≤ 60 →
    Isea.Good Tryz.prog 285 [.ref a.nc 0, .ref b.nc 0, .mp l] h [l] (.v (.bool (matchK x a b).2)) (h.set l (.map (mapOf (matchK x a b).1)))
theorem i_match_step {n : Nat} (ih : MatchIOk n) : MatchIOk (n + 1) := by
  intro l a b x h hl ho hx ha hb hal hbl
  refine good [] [] Tryz.func285 rfl rfl Tryz.ntmps285 (by kernel_rfl) mixed (by kernel_rfl) ?_
  simp -dsimp only [go_sem, Ty.nc]
  refine call_pure (i_isVar [a.head] _) ?_
  rw [isVL_one]
  cases hv : isV a.head with
  | true =>
    have hlf := isV_leaf ha hv
    generalize a.head = c at hv hlf
    subst hlf
    have hf : mfind (mapOf x) (bs [c]) = _ := mapOf_find c x.2
    simp -dsimp only [go_sem]
    refine call_pure (i_text b _ (by omega)) ?_
    cases hc : x.1 c with
    | none =>
      have hn : c ∉ x.2 := fun e => by have := (hx.dom c).1 e; rw [hc] at this; cases this
      rw [if_neg hn] at hf
      have hp : mput (mapOf x) (bs [c]) (str b.text) = mapOf (x.1.set c b, x.2 ++ [c]) := mapOf_put_new c b x.2 hn
      have em : matchK x (.leaf c) b = ((x.1.set c b, x.2 ++ [c]), true) := by simp [matchK, hv, hc]
      rw [em]
      simp -dsimp only [go_sem, hl, ho, hf, hp]
      exact fin_one (by simp -dsimp only [go_sem]) (by simp -dsimp only [go_sem]) (by simp -dsimp only [go_sem])
    | some t =>
      have hn : c ∈ x.2 := (hx.dom c).2 (by rw [hc]; rfl)
      rw [if_pos hn] at hf
      have htx : tx x.1 c = t.text := by simp [tx, hc]
      rw [htx] at hf
      have hp : mput (mapOf x) (bs [c]) (str (tx x.1 c)) = mapOf x := mapOf_put_old c x.2 hn
      rw [htx] at hp
      have em : matchK x (.leaf c) b = (x, decide (t = b)) := by simp [matchK, hv, hc]
      rw [em]
      obtain ⟨_, htw, htl⟩ := hx.ok c t hc
      by_cases he : t.text = b.text
      · have htb : t = b := text_inj htw hb he
        subst htb
        simp -dsimp only [go_sem, hl, ho, hf, hp]
        exact fin_one (by simp -dsimp only [go_sem]) (by simp -dsimp only [go_sem, decide_true]) (by simp -dsimp only [go_sem])
      · have htb : ¬ t = b := fun e => he (by rw [e])
        simp -dsimp only [go_sem, hl, ho, hf, he]
        exact fin_one (by simp -dsimp only [go_sem]) (by simp -dsimp only [go_sem, htb]) (by simp -dsimp only [go_sem, ho])
  | false =>
    by_cases he : a.head = b.head
    · obtain ⟨em, hpl⟩ := matchK_L (x := x) ha hb hv he
      rw [em]
      have hap := parts_le a
      simp -dsimp only [go_sem, he]
      refine loop_ruleH [0, 0, 0, 49, 0] (fun (z : {z : Nat × SK // z.1 ≤ a.parts.length ∧ matchKL x a.parts b.parts = matchKL z.2 (a.parts.drop z.1) (b.parts.drop z.1) ∧ SKOk z.2}) H => ([(54, .v (.int .i64 (z.1.1 : Nat)))], ⟨H.n, upd H.o l (.map (mapOf z.1.2))⟩)) (fun z => a.parts.length - z.1.1) ⟨(0, x), Nat.zero_le _, rfl, hx⟩ ?_ ?_
      · refine weak_objs [l] (by simp -dsimp only [go_sem]) (by simp -dsimp only [go_sem]) (by simp -dsimp only [go_sem, hl]) ?_ ?_ ?_
        · intro y h1 h2; have h2 : ¬ y = l := by simpa using h2
          simp -dsimp only [go_sem, h2]
        · intro y h1 h2; have h1 : y < h.n := h1; simp at h2 ⊢; omega
        · simp -dsimp only [go_sem, ho]
      · rintro ⟨⟨i, y⟩, hi, heq, hy⟩
        have hi : i ≤ a.parts.length := hi
        have heq : matchKL x a.parts b.parts = matchKL y (a.parts.drop i) (b.parts.drop i) := heq
        have hy : SKOk y := hy
        have hi1 : i + 1 ≤ 9223372036854775807 := by omega
        by_cases hlt : i < a.parts.length
        · obtain ⟨p, hp⟩ := get_some hlt
          obtain ⟨q, hq⟩ := get_some (l := b.parts) (k := i) (by omega)
          obtain ⟨hpt, _⟩ := part_le a hp
          obtain ⟨hqt, _⟩ := part_le b hq
          have hpw := part_wf ha hp
          have hqw := part_wf hb hq
          rw [drop_get hp, drop_get hq] at heq
          rw [matchKL_cons] at heq
          have hok := matchK_ok p q y hy hqw (by omega)
          simp -dsimp only [go_sem, hlt, hp, hq, ndRow, Ty.nd_eq]
          refine call_one (ih l p q y _ (by simp -dsimp only [go_sem, hl]) (by simp -dsimp only [go_sem]) hy hpw hqw (by omega) (by omega)) (by simp -dsimp only [go_sem]) (by simp -dsimp only [go_sem]) ?_
          cases hr : (matchK y p q).2 with
          | true =>
            rw [if_pos hr] at heq
            simp -dsimp only [go_sem, hi1]
            refine round_to ⟨(i + 1, (matchK y p q).1), hlt, heq, hok⟩ (by show a.parts.length - (i + 1) < a.parts.length - i; omega) ?_
            refine weak_objs [l] (by simp -dsimp only [go_sem]) (by simp -dsimp only [go_sem]) (by simp -dsimp only [go_sem, hl]) ?_ ?_ ?_
            · intro z h1 h2; have h2 : ¬ z = l := by simpa using h2
              simp -dsimp only [go_sem, h2, h1]
            · intro z h1 h2; have h1 : z < h.n := h1; simp at h2 ⊢; omega
            · simp -dsimp only [go_sem, hl]
          | false =>
            rw [if_neg (by rw [hr]; simp)] at heq
            simp -dsimp only [go_sem]
            rw [heq]
            exact fin_one (by simp -dsimp only [go_sem]) (by simp -dsimp only [go_sem]) (by simp -dsimp only [go_sem])
        · have ed : a.parts.drop i = [] := List.drop_of_length_le (by omega)
          rw [ed] at heq
          rw [matchKL_nil] at heq
          simp -dsimp only [go_sem, hlt]
          rw [heq]
          exact fin_one (by simp -dsimp only [go_sem]) (by simp -dsimp only [go_sem]) (by simp -dsimp only [go_sem])
    · have em := matchK_head (x := x) hv he
      rw [em]
      simp -dsimp only [go_sem, he]
      exact fin_one (by simp -dsimp only [go_sem]) (by simp -dsimp only [go_sem]) (by simp -dsimp only [go_sem, ho])
theorem i_match (l : Nat) (a b : Ty) (x : SK) (h : AH) (hl : l < h.n) (ho : h.o l = .map (mapOf x)) (hx : SKOk x) (ha : a.wf) (hb : b.wf) (hbl : b.text.length ≤ 60) :
    Isea.Good Tryz.prog 285 [.ref a.nc 0, .ref b.nc 0, .mp l] h [l] (.v (.bool (matchK x a b).2)) (h.set l (.map (mapOf (matchK x a b).1))) := by
  have : ∀ n, MatchIOk n := by
    intro n
    induction n with
    | zero => intro l a b x h _ _ _ _ _ hl; have := a.text_pos; omega
    | succ n ih => exact i_match_step ih
  exact this a.text.length l a b x h hl ho hx ha hb (Nat.le_refl _) hbl
end Go.Proofs.YtnocdggngfiebaaGreatDoor
