/- Contracts of functions of this program, for all arguments that satisfy what each lemma asks for. -/
import Derived.Test.YtnocdggngfiebaaGreatDoorMJ
import Derived.Test.YtnocdggngfiebaaGreatDoorMF
import Derived.Shelf.LaysM
import Derived.Shelf.Strconv.Itoa3
import Derived.Test.YtnocdggngfiebaaGreatDoorProg
import Derived.Test.YtnocdggngfiebaaGreatDoorMj
import Derived.Test.YtnocdggngfiebaaGreatDoorMZ
import Derived.Test.YtnocdggngfiebaaGreatDoorXc
import Derived.Lib.ItoaMem
import Derived.Test.YtnocdggngfiebaaGreatDoorMH
import Derived.Test.YtnocdggngfiebaaGreatDoorXa
set_option linter.all false
namespace Go.Isea
open Go
section
variable {P : Program} {h : AH}
def isI64t (P : Program) (t : TypeId) : Bool := match P.underlying t with | some (.int .i64) => true | _ => false
def isIS (P : Program) (t : TypeId) : Bool := match P.underlying t with
  | some (.struct fs) => (match fs.toList with
    | [f, g] => f.name != "_" && g.name != "_" && isI64t P f.type && isStr P g.type && f.offset == 0 && g.offset == 1 && !P.stoodInHeld t && !P.eqGuardType P.depth t
    | _ => false)
  | _ => false
theorem und_i64t {t : TypeId} (e : isI64t P t = true) : P.underlying t = some (.int .i64) := by
  unfold isI64t at e; split at e
  · assumption
  · cases e
theorem part_i64 {t : TypeId} (hs : isI64t P t = true) {vs : Array Value} {o : Nat} {v : Value} (hv : vs[o]? = some v) : semPure P (part t vs o) = some v := by
  have := und_i64t hs
  simp only [part, isAgg, semPure_bind', semPure_und this, hv]
  rfl
theorem equal_i64 {t : TypeId} (hs : isI64t P t = true) {d : Nat} {a b : Int} : semPure P (Op.equalIn (d + 1) t (.int .i64 a) (.int .i64 b)) = some (decide (a = b)) := by
  have := und_i64t hs
  simp only [Op.equalIn, semPure_bind', semPure_und this, if_true]
  show some (a == b) = _
  congr 1
theorem equal_is {t : TypeId} (hs : isIS P t = true) {k : Nat} {a c : Int} {b d : L8} : semPure P (Op.equalIn (k + 2) t (.agg #[.int .i64 a, .string (bs b)]) (.agg #[.int .i64 c, .string (bs d)])) = some (decide (a = c ∧ b = d)) := by
  unfold isIS at hs
  split at hs
  · rename_i fs hu
    split at hs
    · rename_i f g hfs
      simp only [Bool.and_eq_true, Bool.not_eq_true', bne_iff_ne, ne_eq, beq_iff_eq] at hs
      obtain ⟨⟨⟨⟨⟨⟨⟨n1, n2⟩, s1⟩, s2⟩, o1⟩, o2⟩, st⟩, _⟩ := hs
      have hfs' : fs = #[f, g] := by rw [← hfs]
      subst hfs'
      rw [Op.equalIn]
      have e1 : semPure P (part f.type #[Value.int .i64 a, .string (bs b)] f.offset) = some (.int .i64 a) := part_i64 s1 (by rw [o1]; rfl)
      have e2 : semPure P (part f.type #[Value.int .i64 c, .string (bs d)] f.offset) = some (.int .i64 c) := part_i64 s1 (by rw [o1]; rfl)
      have e3 : semPure P (part g.type #[Value.int .i64 a, .string (bs b)] g.offset) = some (.string (bs b)) := part_str s2 (by rw [o2]; rfl)
      have e4 : semPure P (part g.type #[Value.int .i64 c, .string (bs d)] g.offset) = some (.string (bs d)) := part_str s2 (by rw [o2]; rfl)
      simp only [semPure_bind', semPure_und hu, semPure_program, st, Bool.false_eq_true, if_false]
      rw [← Array.forIn_toList]
      simp only [List.forIn_cons, List.forIn_nil, semPure_bind', e1, e2, e3, e4, equal_i64 s1, equal_str s2, ne_eq, n1, n2, not_false_eq_true, if_true]
      by_cases hac : a = c
      · subst hac
        by_cases hbd : b = d
        · subst hbd; simp [semPure, pure, semPure_bind', e1, e2, e3, e4, equal_i64 s1, equal_str s2]
        · simp [semPure, pure, semPure_bind', hbd, e1, e2, e3, e4, equal_i64 s1, equal_str s2]
      · simp [semPure, pure, semPure_bind', hac, e1, e2, e3, e4, equal_i64 s1, equal_str s2]
    · cases hs
  · cases hs
theorem isIS_guard {t : TypeId} (hs : isIS P t = true) : P.eqGuardType P.depth t = false := by
  unfold isIS at hs
  split at hs
  · split at hs
    · simp only [Bool.and_eq_true, Bool.not_eq_true'] at hs
      exact hs.2
    · cases hs
  · cases hs
@[go_sem] theorem bin_neqIS {t : TypeId} {p q : Operand} {a c : Int} {b d : L8} (hs : isIS P t = true) : abin P .neq t p q (.agg [.v (.int .i64 a), str b]) (.agg [.v (.int .i64 c), str d]) = some (.v (.bool (decide (¬ (a = c ∧ b = d))))) := by
  have h1 : semPure P (do eqGuard .neq t p q (.agg #[.int .i64 a, .string (bs b)]) (.agg #[.int .i64 c, .string (bs d)]); binOp .neq t (.agg #[.int .i64 a, .string (bs b)]) (.agg #[.int .i64 c, .string (bs d)])) = some (.bool (!decide (a = c ∧ b = d))) := by
    have h2 := equal_is hs (k := 9998) (a := a) (b := b) (c := c) (d := d)
    simp only [semPure_bind', eqGuard, semPure_program, isIS_guard hs, Bool.not_true, Bool.false_eq_true, if_false, Bool.not_false, if_true, semPure_pure]
    show semPure P (do let r ← Op.equal t _ _; pure (Value.bool !r)) = _
    rw [semPure_bind']
    have h3 : semPure P (Op.equal t (.agg #[.int .i64 a, .string (bs b)]) (.agg #[.int .i64 c, .string (bs d)])) = some (decide (a = c ∧ b = d)) := h2
    rw [h3]; rfl
  have r1 : ∀ (a : Int) (b : L8), AV.raw (.agg [.v (.int .i64 a), str b]) = some (.agg #[.int .i64 a, .string (bs b)]) := fun _ _ => rfl
  simp only [abin, r1, h1]
  rw [decide_not]
  rfl
@[go_sem] theorem un_negI {x : Int} : aunop P .neg (.v (.int .i64 x)) = some (.v (.int .i64 (IntKind.i64.wrap (-x)))) := by
  simp [aunop, AV.raw, Op.unary, Op.intArith, semPure, bind, Sem.bind, pure, ofVo, ofV]
end
end Go.Isea

namespace Go.Proofs
open Go.Shelf
def Tryz.laysM171_ren : Go.Shelf.Ren := ⟨fun | 171 => 113 | 243 => 199 | 246 => 265 | 283 => 301 | 284 => 302 | 285 => 303 | 286 => 304 | 129 => 318 | 317 => 317 | 318 => 319 | 319 => 320 | 320 => 321 | 337 => 331 | 338 => 332 | n => n, fun | 3 => 3 | 9 => 9 | 2 => 2 | 4 => 4 | 171 => 307 | 0 => 0 | 53 => 308 | 37 => 22 | 5 => 5 | 173 => 311 | 212 => 331 | 51 => 324 | 20 => 20 | 213 => 332 | 46 => 304 | 232 => 341 | 233 => 342 | n => n, fun | 17 => 1 | 18 => 2 | 19 => 3 | n => n⟩
theorem Tryz.laysM171 : Go.Proofs.LaysM.n171 Tryz.prog Tryz.laysM171_ren := {
  mixed := by kernel_rfl
  f129 := Tryz.func318.trans (congrArg some (by kernel_rfl))
  f171 := Tryz.func113.trans (congrArg some (by kernel_rfl))
  f243 := Tryz.func199.trans (congrArg some (by kernel_rfl))
  f246 := Tryz.func265.trans (congrArg some (by kernel_rfl))
  f283 := Tryz.func301.trans (congrArg some (by kernel_rfl))
  f284 := Tryz.func302.trans (congrArg some (by kernel_rfl))
  f285 := Tryz.func303.trans (congrArg some (by kernel_rfl))
  f286 := Tryz.func304.trans (congrArg some (by kernel_rfl))
  f317 := Tryz.func317.trans (congrArg some (by kernel_rfl))
  f318 := Tryz.func319.trans (congrArg some (by kernel_rfl))
  f319 := Tryz.func320.trans (congrArg some (by kernel_rfl))
  f320 := Tryz.func321.trans (congrArg some (by kernel_rfl))
  f337 := Tryz.func331.trans (congrArg some (by kernel_rfl))
  f338 := Tryz.func332.trans (congrArg some (by kernel_rfl))
  t0 := Tryz.underlying0
  a0 := Tryz.isAgg0
  z0 := Tryz.sizeOf0
  v0 := Tryz.zeroValue0
  t2 := Tryz.underlying2
  a2 := Tryz.isAgg2
  z2 := Tryz.sizeOf2
  v2 := Tryz.zeroValue2
  t3 := Tryz.underlying3
  a3 := Tryz.isAgg3
  z3 := Tryz.sizeOf3
  v3 := Tryz.zeroValue3
  t4 := Tryz.underlying4
  a4 := Tryz.isAgg4
  z4 := Tryz.sizeOf4
  v4 := Tryz.zeroValue4
  t5 := Tryz.underlying5
  a5 := Tryz.isAgg5
  z5 := Tryz.sizeOf5
  v5 := Tryz.zeroValue5
  t9 := Tryz.underlying9
  a9 := Tryz.isAgg9
  z9 := Tryz.sizeOf9
  v9 := Tryz.zeroValue9
  t20 := Tryz.underlying20
  a20 := Tryz.isAgg20
  z20 := Tryz.sizeOf20
  v20 := Tryz.zeroValue20
  t37 := Tryz.underlying22
  a37 := Tryz.isAgg22
  z37 := Tryz.sizeOf22
  v37 := Tryz.zeroValue22
  t46 := Tryz.underlying304
  a46 := Tryz.isAgg304
  z46 := Tryz.sizeOf304
  v46 := Tryz.zeroValue304
  t51 := Tryz.underlying324
  a51 := Tryz.isAgg324
  z51 := Tryz.sizeOf324
  v51 := Tryz.zeroValue324
  t53 := Tryz.underlying308
  a53 := Tryz.isAgg308
  z53 := Tryz.sizeOf308
  v53 := Tryz.zeroValue308
  t171 := Tryz.underlying307
  a171 := Tryz.isAgg307
  z171 := Tryz.sizeOf307
  v171 := Tryz.zeroValue307
  t173 := Tryz.underlying311
  a173 := Tryz.isAgg311
  z173 := Tryz.sizeOf311
  v173 := Tryz.zeroValue311
  t212 := Tryz.underlying331
  a212 := Tryz.isAgg331
  z212 := Tryz.sizeOf331
  v212 := Tryz.zeroValue331
  t213 := Tryz.underlying332
  a213 := Tryz.isAgg332
  z213 := Tryz.sizeOf332
  t232 := Tryz.underlying341
  a232 := Tryz.isAgg341
  z232 := Tryz.sizeOf341
  v232 := Tryz.zeroValue341
  t233 := Tryz.underlying342
  a233 := Tryz.isAgg342
  z233 := Tryz.sizeOf342
  v233 := Tryz.zeroValue342
  g17 := by kernel_rfl
  g18 := by kernel_rfl
  g19 := by kernel_rfl
  i0 := by kernel_rfl
  i2 := by kernel_rfl
  i3 := by kernel_rfl
  i4 := by kernel_rfl
  i5 := by kernel_rfl
  i9 := by kernel_rfl
  i20 := by kernel_rfl
  i37 := by kernel_rfl
  i46 := by kernel_rfl
  i51 := by kernel_rfl
  i53 := by kernel_rfl
  i171 := by kernel_rfl
  i173 := by kernel_rfl
  i212 := by kernel_rfl
  i232 := by kernel_rfl
  i233 := by kernel_rfl
  m17 := by kernel_rfl
  m18 := by kernel_rfl
  m19 := by kernel_rfl }
end Go.Proofs

namespace Go.Isea
open Go
set_option maxRecDepth 100000
def gTx (p : Int × L8) : L8 := Lib.itoa p.1 ++ p.2
def gRow (p : Int × L8) : List AV := [.v (.int .i64 p.1), str p.2]
theorem gRow_pu (p : Int × L8) : PuL (gRow p) := by simp -dsimp only [gRow, go_sem]
@[go_sem] theorem puR_gRow {l : List (Int × L8)} : PuR (l.map gRow) = True := puR_map gRow_pu
@[go_sem] theorem al_gRow {l : List (Int × L8)} : AllLen 2 (l.map gRow) = True := allLen_map fun _ => rfl
def gNum : List Int := [0, 3, 12, -1]
def GOk (p : Int × L8) : Prop := p.1 ∈ gNum ∧ p.2.length ≤ 1
theorem itoa_0 : Lib.itoa 0 = [48] := (Lib.itoa_nonneg 0).trans (Lib.decDigits_one (by decide))
theorem itoa_3 : Lib.itoa 3 = [51] := (Lib.itoa_nonneg 3).trans (Lib.decDigits_one (by decide))
theorem itoa_12 : Lib.itoa 12 = [49, 50] := (Lib.itoa_nonneg 12).trans (Lib.decDigits_two (by decide) (by decide))
theorem itoa_m1 : Lib.itoa (-1) = [45, 49] := by
  have := Lib.itoa_neg 1 (Nat.le_refl _)
  rw [Lib.decDigits_one (by decide)] at this
  exact this
theorem gNum_cases {x : Int} (h : x ∈ gNum) : x = 0 ∨ x = 3 ∨ x = 12 ∨ x = -1 := by simpa [gNum] using h
theorem itoa_len {x : Int} (h : x ∈ gNum) : 1 ≤ (Lib.itoa x).length ∧ (Lib.itoa x).length ≤ 2 := by
  rcases gNum_cases h with rfl | rfl | rfl | rfl
  · rw [itoa_0]; decide
  · rw [itoa_3]; decide
  · rw [itoa_12]; decide
  · rw [itoa_m1]; decide
theorem gTx_len {p : Int × L8} (h : GOk p) : 1 ≤ (gTx p).length ∧ (gTx p).length ≤ 3 := by
  have h1 := itoa_len h.1
  have h2 := h.2
  unfold gTx
  rw [List.length_append]
  omega
/-- the gaps' texts, blanks between -/
def gJn (l : List (Int × L8)) : L8 := Lib.join (l.map gTx) [32]
def dashL (s : L8) : L8 := if s = [] then [45] else s
theorem joinTail_snocG (sep : L8) (r : List L8) (x : L8) : Lib.joinTail sep (r ++ [x]) = Lib.joinTail sep r ++ (sep ++ x) := by unfold Lib.joinTail; simp
theorem gJn_nil : gJn [] = [] := rfl
theorem gJn_one (n : Int × L8) : gJn [n] = gTx n := Lib.join_one _ _
theorem gJn_snoc {l : List (Int × L8)} (h : 0 < l.length) (n : Int × L8) : gJn (l ++ [n]) = gJn l ++ [32] ++ gTx n := by
  unfold gJn
  cases l with
  | nil => simp at h
  | cons a l =>
    rw [List.map_append, List.map_cons, List.map_cons, List.map_nil, List.cons_append, Lib.join_cons, Lib.join_cons, joinTail_snocG]
    simp
theorem gJn_len {l : List (Int × L8)} (hl : ∀ n ∈ l, GOk n) : (gJn l).length ≤ 4 * l.length := by
  unfold gJn
  cases l with
  | nil => simp [Lib.join]
  | cons a l =>
    rw [List.map_cons, Lib.join_cons]
    have key : ∀ l : List (Int × L8), (∀ n ∈ l, GOk n) → (Lib.joinTail [32] (l.map gTx)).length ≤ 4 * l.length := by
      intro l
      induction l with
      | nil => intro _; simp [Lib.joinTail]
      | cons b l ih =>
        intro h
        have h1 := gTx_len (h b (List.mem_cons_self ..))
        have h2 := ih fun n hn => h n (List.mem_cons_of_mem _ hn)
        have e : Lib.joinTail [32] ((b :: l).map gTx) = [32] ++ gTx b ++ Lib.joinTail [32] (l.map gTx) := by unfold Lib.joinTail; simp
        rw [e]
        simp only [List.length_append, List.length_cons, List.length_nil]
        omega
    have h1 := gTx_len (hl a (List.mem_cons_self ..))
    have h2 := key l fun n hn => hl n (List.mem_cons_of_mem _ hn)
    simp only [List.length_append, List.length_cons]
    omega
/-- a gap's place in the list of all -/
theorem gapsIn_pre {w : Wld} {k : Nat} {x : Inst} (hok : worldOk w = true) (hx : w.is[k]? = some x) {j : Nat} {d : UInt8} (hd : (supersOf w x.c)[j]? = some d) (hp : gapP w x d = true) :
    (gapsOf w)[(gapsIn w k (((supersOf w x.c).take j).filter (gapP w x))).length]? = some (k, d) := by
  have hlt := (List.getElem?_eq_some_iff.1 hx).1
  have e1 : gapsOf w = gapsTo w w.is.length := by unfold gapsOf; rw [if_pos hok]
  have e2 : ∀ m, k + 1 + m ≤ w.is.length → ∃ r, gapsTo w (k + 1 + m) = gapsIn w k (gapL w x) ++ r := by
    intro m
    induction m with
    | zero => intro _; exact ⟨[], by rw [List.append_nil]; exact gapsTo_succ hx⟩
    | succ m ih =>
      intro h
      obtain ⟨r, hr⟩ := ih (by omega)
      obtain ⟨y, hy⟩ := get_some (l := w.is) (k := k + 1 + m) (by omega)
      have := gapsTo_succ hy
      rw [hr] at this
      exact ⟨r ++ (gapL w y).map fun d => (k + 1 + m, d), by rw [show k + 1 + (m + 1) = k + 1 + m + 1 from rfl, this, List.append_assoc]⟩
  obtain ⟨r, hr⟩ := e2 (w.is.length - (k + 1)) (by omega)
  rw [show k + 1 + (w.is.length - (k + 1)) = w.is.length from by omega] at hr
  rw [e1, hr, gapL_eq]
  have e3 : (supersOf w x.c).filter (gapP w x) = ((supersOf w x.c).take j).filter (gapP w x) ++ (d :: ((supersOf w x.c).drop (j + 1)).filter (gapP w x)) := by
    conv => lhs; rw [← List.take_append_drop j (supersOf w x.c), drop_get hd]
    rw [List.filter_append, List.filter_cons_of_pos hp]
  rw [e3]
  unfold gapsIn
  rw [List.map_append, ← List.append_assoc, List.append_assoc, List.map_cons, List.cons_append, List.getElem?_append_right (Nat.le_refl _), Nat.sub_self]
  rfl
/-- what holds the evidence of a class above -/
theorem evIn_check {w : Wld} {k : Nat} {x : Inst} (hw : w.Sm) (hx : w.is[k]? = some x) {d : UInt8} (h : (evIn w x [d]).2 = []) : checkGiven w x.ns ⟨[d], x.t⟩ (evIn w x [d]).1 = okW ∧ (evIn w x [d]).1.length ≤ 4000 := by
  have hxs := hw.i x (List.mem_of_getElem? hx)
  have hsm : (⟨[d], x.t⟩ : Need).Sm := ⟨by simp, hxs.2.1⟩
  unfold evIn at h ⊢
  split at h
  · rename_i hu
    rw [if_pos hu]
    exact ⟨findGiven_ok hw h, (findGiven_sz hw hsm).1⟩
  · exact absurd h (by simp [wrongL])
end Go.Isea

namespace Go.Proofs.YtnocdggngfiebaaGreatDoor
open Go Go.Isea Go.Shelf
set_option maxRecDepth 100000
set_option maxHeartbeats 16000000
@[go_sem] theorem tf_isG : isIS Tryz.prog 50 = true := by kernel_rfl
theorem pin_tab {K : KM} {h : AH} {w : World} (hp : Pin K h w) : Lib.TabIs Tryz.prog w "internal/strconv.uint64pow10" .u64 Lib.pow10Tab := by
  have hm : ((1 : Nat), Lib.pow10Tab.map fun z => Value.int .u64 z) ∈ pins := by
    have : pins = [(1, Lib.pow10Tab.map fun z => Value.int .u64 z)] := by kernel_rfl
    rw [this]
    exact List.mem_cons_self ..
  obtain ⟨_, e, x, h3⟩ := hp _ hm
  have g1 : Tryz.prog.globalNamed "internal/strconv.uint64pow10" = some 1 := by kernel_rfl
  unfold Lib.TabIs World.var?
  rw [g1]
  simp only [Option.bind_some]
  rw [h3]
theorem l_ItoaI (x : Int) (h : AH) (h0 : -9223372036854775808 ≤ x) (h1 : x ≤ 9223372036854775807) : Isea.Good Tryz.prog 113 [.v (.int .i64 x)] h [] (str (Lib.itoa x)) h := by
  refine good_below Tryz.func113 (by kernel_rfl) (by kernel_rfl) fun K w vs hK hr => ?_
  obtain ⟨u, rfl, hu⟩ := repL_one hr
  rw [raw_rep (x := .v (.int .i64 x)) rfl hu]
  refine (Any.strconv_Itoa (ρ := Tryz.laysM171_ren) Tryz.laysM171 x h0 h1 w (pin_tab hK.pin)).mono ?_
  rintro e w' ⟨rfl, k, os, rfl⟩
  refine ⟨rfl, rfl, rfl, rfl, ?_, fun b hb => ?_⟩
  · show w.heap.size ≤ (w.heap ++ os).size
    rw [Array.size_append]; omega
  · show (w.heap ++ os)[b]? = w.heap[b]?
    rw [Array.getElem?_append_left hb]
theorem s_l13Dec_12 (h : AH) : Isea.Good Tryz.prog 115 [.v (.int .i64 12)] h [] (str [49, 50]) h := by
  obtain ⟨T, hT⟩ : ∃ T : Nat → Int, T = fun j => if j = 0 then 12 else 1 := ⟨_, rfl⟩
  obtain ⟨S, hS⟩ : ∃ S : Nat → L8, S = fun j => if j = 0 then [] else [50] := ⟨_, rfl⟩
  have t0 : T 0 = 12 := by rw [hT]; rfl
  have t1 : T 1 = 1 := by rw [hT]; rfl
  have s0 : S 0 = [] := by rw [hS]; rfl
  have s1 : S 1 = [50] := by rw [hS]; rfl
  have r1 : (12 : Int).tmod 10 = 2 := by decide
  have r2 : (12 : Int).tdiv 10 = 1 := by decide
  have w1 : IntKind.i64.wrap (48 + 2) = 50 := by decide
  have w2 : IntKind.u8.wrap 50 = (((50 : UInt8).toNat : Nat) : Int) := by decide
  have w3 : IntKind.i64.wrap 1 = 1 := by decide
  have w6 : IntKind.i64.wrap 50 = 50 := by decide
  have w7 : IntKind.i64.wrap 49 = 49 := by decide
  have q1 : UInt8.ofNat (IntKind.u8.wrap 50).toNat = 50 := by decide
  have q2 : UInt8.ofNat (IntKind.u8.wrap 49).toNat = 49 := by decide
  have w4 : IntKind.i64.wrap (48 + 1) = 49 := by decide
  have w5 : IntKind.u8.wrap 49 = (((49 : UInt8).toNat : Nat) : Int) := by decide
  refine good [] [] Tryz.func115 rfl rfl Tryz.ntmps115 (by kernel_rfl) mixed (by kernel_rfl) ?_
  simp -dsimp only [go_sem]
  refine loop_ruleH [] (fun (j : {j : Nat // j ≤ 1}) H => ([(0, .v (.int .i64 (T j.1))), (3, str (S j.1))], ⟨h.n, H.o⟩)) (fun j => 1 - j.1) ⟨0, Nat.zero_le _⟩ ?_ ?_
  · skip
    refine weak_objs [] (by simp -dsimp only [go_sem]) (by simp -dsimp only [go_sem]) (by simp -dsimp only [go_sem, t0, s0]) ?_ ?_ ?_
    · intro t h1 h2
      have a0 : ¬ t = h.n := by omega
      simp -dsimp only [go_sem, a0]
    · intro x h1 h2; have h1 : x < h.n := h1; simp at h2 ⊢; omega
    · simp -dsimp only [go_sem]
  · rintro ⟨j, hj⟩
    have hj : j = 0 ∨ j = 1 := by have : j ≤ 1 := hj; omega
    rcases hj with rfl | rfl
    · simp -dsimp only [go_sem, t0, s0, r1, r2, w1, w3, w6, q1, List.length_cons, List.length_nil]
      refine round_to ⟨1, Nat.le_refl _⟩ (by show 1 - 1 < 1 - 0; omega) ?_
      refine weak_objs [] (by simp -dsimp only [go_sem]) (by simp -dsimp only [go_sem]) (by simp -dsimp only [go_sem, t1, s1]) ?_ ?_ ?_
      · intro t h1 h2
        have a0 : ¬ t = h.n := by omega
        simp -dsimp only [go_sem, a0]
      · intro x h1 h2; have h1 : x < h.n := h1; simp at h2 ⊢; omega
      · simp -dsimp only [go_sem]
    · simp -dsimp only [go_sem, t1, s1, w4, w7, q2, List.length_cons, List.length_nil]
      exact fin_pure (by simp -dsimp only [go_sem]) (by simp -dsimp only [go_sem])
theorem s_l13Dec_m1 (h : AH) : Isea.Good Tryz.prog 115 [.v (.int .i64 (-1))] h [] (str [45, 49]) h := by
  have h1 := fun H => s_l13Dec_digit 1 H (by decide)
  have w1 : IntKind.i64.wrap (- -1) = ((1 : Nat) : Int) := by decide
  have w2 : IntKind.i64.wrap 1 = ((1 : Nat) : Int) := by decide
  have e : digitL 1 = [49] := rfl
  rw [e] at h1
  have c1 : ofV (.int .i64 1) = .v (.int .i64 1) := rfl
  have c2 : ∀ b, ofV (.string b) = .v (.string b) := fun _ => rfl
  refine good [] [] Tryz.func115 rfl rfl Tryz.ntmps115 (by kernel_rfl) mixed (by kernel_rfl) ?_
  simp -dsimp only [go_sem, w1, w2]
  refine call_pure (h1 _) ?_
  simp -dsimp only [go_sem, c1, c2, List.length_cons, List.length_nil]
  exact fin_pure (by simp -dsimp only [go_sem, c1, c2]) (by simp -dsimp only [go_sem, c1, c2])
theorem s_l13DecI (x : Int) (h : AH) (hx : x ∈ gNum) : Isea.Good Tryz.prog 115 [.v (.int .i64 x)] h [] (str (Lib.itoa x)) h := by
  rcases gNum_cases hx with rfl | rfl | rfl | rfl
  · rw [itoa_0]; exact s_l13Dec_digit 0 h (by decide)
  · rw [itoa_3]; exact s_l13Dec_digit 3 h (by decide)
  · rw [itoa_12]; exact s_l13Dec_12 h
  · rw [itoa_m1]; exact s_l13Dec_m1 h
theorem i_dashed (s : L8) (h : AH) : Isea.Good Tryz.prog 200 [str s] h [] (str (dashL s)) h := by
  unfold dashL
  by_cases hs : s = []
  · rw [if_pos hs]
    subst hs
    refine good [] [] Tryz.func200 rfl rfl Tryz.ntmps200 (by kernel_rfl) mixed (by kernel_rfl) ?_
    simp -dsimp only [go_sem]
    exact fin_pure (by simp -dsimp only [go_sem]) (by simp -dsimp only [go_sem])
  · have hs' := eq_false hs
    rw [if_neg hs]
    refine good [] [] Tryz.func200 rfl rfl Tryz.ntmps200 (by kernel_rfl) mixed (by kernel_rfl) ?_
    simp -dsimp only [go_sem, hs']
    exact fin_pure (by simp -dsimp only [go_sem]) (by simp -dsimp only [go_sem])
theorem i_FormatTexts (X : List L8) (h : AH) (hn : X.length ≤ 1000000) (hl : (Lib.join X [32]).length ≤ 140737488355328) : Isea.Good Tryz.prog 114 [.sl (X.map sRow)] h [] (str (dashL (Lib.join X [32]))) h := by
  have hJ := fun H => l_Join X [32] H (by omega) hl
  refine good [] [] Tryz.func114 rfl rfl Tryz.ntmps114 (by kernel_rfl) mixed (by kernel_rfl) ?_
  simp -dsimp only [go_sem]
  refine call_pure (hJ _) ?_
  simp -dsimp only [go_sem]
  refine call_pure (i_dashed _ _) ?_
  simp -dsimp only [go_sem]
  exact fin_pure (by simp -dsimp only [go_sem]) (by simp -dsimp only [go_sem])
theorem i_FormatGaps (l : List (Int × L8)) (h : AH) (hl : ∀ p ∈ l, GOk p) (hlen : l.length ≤ 1000) : Isea.Good Tryz.prog 35 [.sl (l.map gRow)] h [] (str (dashL (gJn l))) h := by
  have hI : ∀ p ∈ l, ∀ H, Isea.Good Tryz.prog 113 [.v (.int .i64 p.1)] H [] (str (Lib.itoa p.1)) H := fun p hp H => by
    have hc := gNum_cases (hl p hp).1
    exact l_ItoaI p.1 H (by omega) (by omega)
  have hjl : (gJn l).length ≤ 4000 := by
    have h1 := gJn_len hl
    omega
  obtain ⟨X, hX⟩ : ∃ X, l.map gTx = X := ⟨_, rfl⟩
  have hXl : X.length = l.length := by rw [← hX, List.length_map]
  have hXk : ∀ (k : Nat) n, l[k]? = some n → X[k]? = some (gTx n) := fun k n hn => by rw [← hX, List.getElem?_map, hn]; rfl
  have ej : gJn l = Lib.join X [32] := by unfold gJn; rw [hX]
  rw [ej] at hjl ⊢
  have hJ := i_FormatTexts X ⟨0, fun _ => default⟩ (by omega) (by omega)
  clear hX
  refine good [] [(5, OT.o 0 (OT.o 1 (OT.o 2 (OT.o 4 (OT.o 5 (OT.o 3 (OT.o 6 (OT.o 7 (OT.o 8 (OT.o 9 OT.e))))))))))] Tryz.func35 rfl rfl Tryz.ntmps35 (by kernel_rfl) mixed (by kernel_rfl) ?_
  simp -dsimp only [go_sem, List.length_map]
  refine loop_ruleH [] (fun (k : {k : Nat // k ≤ l.length}) H => ([(3, .so h.n k.1 k.1), (7, .sl (l.map gRow)), (8, .v (.int .i64 (l.length : Nat))), (9, .v (.int .i64 (k.1 : Nat)))], ⟨h.n + 1, upd H.o h.n (.rows 9 1 ((X.take k.1).map sRow))⟩)) (fun k => l.length - k.1) ⟨0, Nat.zero_le _⟩ ?_ ?_
  · skip
    refine weak_objs [h.n] (by simp -dsimp only [go_sem]) (by simp -dsimp only [go_sem]) (by simp -dsimp only [go_sem, List.take_zero, List.map_nil]) ?_ ?_ ?_
    · intro t h1 h2
      have a1 : ¬ t = h.n := by omega
      have a2 : ¬ t = h.n + 1 := by omega
      simp -dsimp only [go_sem, a1, a2]
    · intro x h1 h2; have h1 : x < h.n + 1 := h1; simp at h2 ⊢; omega
    · simp -dsimp only [go_sem, List.take_zero, List.map_nil]
  · rintro ⟨k, hk⟩
    have hk : k ≤ l.length := hk
    have k1 : k + 1 ≤ 9223372036854775807 := by omega
    have hln : (X.take k).length = k := by rw [List.length_take]; omega
    by_cases hkl : k < l.length
    · obtain ⟨n, hn⟩ := get_some hkl
      have hIn := hI n (List.mem_of_getElem? hn)
      have hgt := itoa_len (hl n (List.mem_of_getElem? hn)).1
      have hg2 := (hl n (List.mem_of_getElem? hn)).2
      have b1 : (Lib.itoa n.1).length + n.2.length ≤ 9223372036854775807 := by omega
      have en := take_next (hXk k n hn)
      have e6 : (k + 1) * 16 ≤ 140737488355328 := by omega
      have hkc : (((k : Nat) : Int) < ((l.length : Nat) : Int)) = True := eq_true (by omega)
      simp -dsimp only [go_sem, hkc, hkl, hn, gRow, List.length_map]
      refine call_pure (hIn _) ?_
      simp -dsimp only [go_sem, k1, e6, hln, b1, List.length_map]
      refine round_to ⟨k + 1, hkl⟩ (by show l.length - (k + 1) < l.length - k; omega) ?_
      refine weak_objs [h.n] (by simp -dsimp only [go_sem]) (by simp -dsimp only [go_sem]) (by simp -dsimp only [go_sem]) ?_ ?_ ?_
      · intro t h1 h2
        have a1 : ¬ t = h.n := by omega
        have a2 : ¬ t = h.n + 1 := by omega
        simp -dsimp only [go_sem, a1, a2]
      · intro x h1 h2; have h1 : x < h.n + 1 := h1; simp at h2 ⊢; omega
      · simp -dsimp only [go_sem, en, List.map_append, List.map_cons, List.map_nil, sRow, gTx]
    · have hkc : (((k : Nat) : Int) < ((l.length : Nat) : Int)) = False := eq_false (by omega)
      have et : X.take k = X := List.take_of_length_le (by omega)
      have hke : X.length = k := by omega
      simp -dsimp only [go_sem, hkc, et, hke, List.length_map]
      refine call_pure (Good.frozen hJ (Flat.v _) (by simp -dsimp only [go_sem, hke, List.length_map])) ?_
      simp -dsimp only [go_sem]
      exact fin_pure (by simp -dsimp only [go_sem]) (by simp -dsimp only [go_sem])
theorem s_FormatGaps (l : List (Int × L8)) (h : AH) (hl : ∀ p ∈ l, GOk p) (hlen : l.length ≤ 1000) : Isea.Good Tryz.prog 36 [.sl (l.map gRow)] h [] (str (dashL (gJn l))) h := by
  have hI : ∀ p ∈ l, ∀ H, Isea.Good Tryz.prog 115 [.v (.int .i64 p.1)] H [] (str (Lib.itoa p.1)) H := fun p hp H => s_l13DecI p.1 H (hl p hp).1
  have hjl : ∀ k, (gJn (l.take k)).length ≤ 4000 := fun k => by
    have h1 := gJn_len (l := l.take k) fun n hn => hl n (List.mem_of_mem_take hn)
    have : (l.take k).length ≤ l.length := by rw [List.length_take]; omega
    omega
  refine good [] [(7, OT.o 0 (OT.o 1 (OT.o 2 (OT.o 5 (OT.o 6 (OT.o 3 (OT.o 4 (OT.o 7 (OT.o 8 OT.e)))))))))] Tryz.func36 rfl rfl Tryz.ntmps36 (by kernel_rfl) mixed (by kernel_rfl) ?_
  simp -dsimp only [go_sem, List.length_map]
  refine loop_ruleH [] (fun (k : {k : Nat // k ≤ l.length}) H => ([(3, str (gJn (l.take k.1))), (6, .sl (l.map gRow)), (7, .v (.int .i64 (l.length : Nat))), (8, .v (.int .i64 (k.1 : Nat)))], ⟨h.n, H.o⟩)) (fun k => l.length - k.1) ⟨0, Nat.zero_le _⟩ ?_ ?_
  · skip
    refine weak_objs [] (by simp -dsimp only [go_sem]) (by simp -dsimp only [go_sem]) (by simp -dsimp only [go_sem, List.take_zero, gJn_nil]) ?_ ?_ ?_
    · intro t h1 h2
      have a0 : ¬ t = h.n := by omega
      simp -dsimp only [go_sem, a0]
    · intro x h1 h2; have h1 : x < h.n := h1; simp at h2 ⊢; omega
    · simp -dsimp only [go_sem]
  · rintro ⟨k, hk⟩
    have hk : k ≤ l.length := hk
    have k1 : k + 1 ≤ 9223372036854775807 := by omega
    by_cases hkl : k < l.length
    · obtain ⟨n, hn⟩ := get_some hkl
      have hIn := hI n (List.mem_of_getElem? hn)
      have hgt := itoa_len (hl n (List.mem_of_getElem? hn)).1
      have hg2 := (hl n (List.mem_of_getElem? hn)).2
      have hjk := hjl k
      have hnx := take_next hn
      have hkc : (((k : Nat) : Int) < ((l.length : Nat) : Int)) = True := eq_true (by omega)
      by_cases h0 : 0 < k
      · have h0' : ((0 : Int) < ((k : Nat) : Int)) = True := eq_true (by omega)
        have en : gJn (l.take (k + 1)) = gJn (l.take k) ++ [32] ++ (Lib.itoa n.1 ++ n.2) := by rw [hnx]; exact gJn_snoc (by rw [List.length_take]; omega) n
        have b1 : (gJn (l.take k)).length + 1 ≤ 9223372036854775807 := by omega
        have b2 : (gJn (l.take k)).length + 1 + (Lib.itoa n.1).length ≤ 9223372036854775807 := by omega
        have b3 : (gJn (l.take k)).length + (1 + (Lib.itoa n.1).length) ≤ 9223372036854775807 := by omega
        have b4 : (gJn (l.take k)).length + 1 + (Lib.itoa n.1).length + n.2.length ≤ 9223372036854775807 := by omega
        have b5 : (gJn (l.take k)).length + (1 + (Lib.itoa n.1).length) + n.2.length ≤ 9223372036854775807 := by omega
        have b6 : (gJn (l.take k)).length + (1 + ((Lib.itoa n.1).length + n.2.length)) ≤ 9223372036854775807 := by omega
        simp -dsimp only [go_sem, hkc, hkl, hn, h0', b1, gRow, List.length_append, List.length_cons, List.length_nil, List.length_map]
        refine call_pure (hIn _) ?_
        simp -dsimp only [go_sem, k1, b1, b2, b3, b4, b5, b6, List.length_append, List.length_cons, List.length_nil]
        refine round_to ⟨k + 1, hkl⟩ (by show l.length - (k + 1) < l.length - k; omega) ?_
        refine weak_objs [] (by simp -dsimp only [go_sem]) (by simp -dsimp only [go_sem]) (by simp -dsimp only [go_sem, en, List.append_assoc]) ?_ ?_ ?_
        · intro t h1 h2
          have a0 : ¬ t = h.n := by omega
          simp -dsimp only [go_sem, a0]
        · intro x h1 h2; have h1 : x < h.n := h1; simp at h2 ⊢; omega
        · simp -dsimp only [go_sem]
      · have h0' : ((0 : Int) < ((k : Nat) : Int)) = False := eq_false (by omega)
        have hk0 : k = 0 := by omega
        have ez : gJn (l.take k) = [] := by rw [hk0]; rfl
        have en : gJn (l.take (k + 1)) = Lib.itoa n.1 ++ n.2 := by rw [hnx, hk0, List.take_zero, List.nil_append]; exact gJn_one n
        have b1 : (Lib.itoa n.1).length ≤ 9223372036854775807 := by omega
        have b2 : (Lib.itoa n.1).length + n.2.length ≤ 9223372036854775807 := by omega
        have b3 : 0 + (Lib.itoa n.1).length ≤ 9223372036854775807 := by omega
        have b4 : 0 + (Lib.itoa n.1).length + n.2.length ≤ 9223372036854775807 := by omega
        simp -dsimp only [go_sem, hkc, hkl, hn, h0', gRow, List.length_map]
        refine call_pure (hIn _) ?_
        simp -dsimp only [go_sem, k1, ez, b1, b2, b3, b4, List.length_nil, List.nil_append]
        refine round_to ⟨k + 1, hkl⟩ (by show l.length - (k + 1) < l.length - k; omega) ?_
        refine weak_objs [] (by simp -dsimp only [go_sem]) (by simp -dsimp only [go_sem]) (by simp -dsimp only [go_sem, en]) ?_ ?_ ?_
        · intro t h1 h2
          have a0 : ¬ t = h.n := by omega
          simp -dsimp only [go_sem, a0]
        · intro x h1 h2; have h1 : x < h.n := h1; simp at h2 ⊢; omega
        · simp -dsimp only [go_sem]
    · have hkc : (((k : Nat) : Int) < ((l.length : Nat) : Int)) = False := eq_false (by omega)
      have et : l.take k = l := List.take_of_length_le (by omega)
      by_cases he : gJn l = []
      · have ed : dashL (gJn l) = [45] := by unfold dashL; rw [if_pos he]
        rw [ed]
        simp -dsimp only [go_sem, hkc, et, he]
        exact fin_pure (by simp -dsimp only [go_sem]) (by simp -dsimp only [go_sem])
      · have he' := eq_false he
        have ed : dashL (gJn l) = gJn l := by unfold dashL; rw [if_neg he]
        rw [ed]
        simp -dsimp only [go_sem, hkc, et, he']
        exact fin_pure (by simp -dsimp only [go_sem]) (by simp -dsimp only [go_sem])
theorem l_inGaps (a : List (Nat × UInt8)) (h : AH) (ha : a.length ≤ 1000000) : Isea.Good Tryz.prog 28 [.sl (a.map gapRow), .sl (a.map gapRow)] h [] (.v (.bool true)) h := by
  have hm : (((a.length : Nat) : Int) < ((a.length : Nat) : Int)) = False := eq_false (by omega)
  have hm2 : (a.length < a.length) = False := eq_false (by omega)
  refine good [] [] Tryz.func28 rfl rfl Tryz.ntmps28 (by kernel_rfl) mixed (by kernel_rfl) ?_
  simp -dsimp only [go_sem, List.length_map, hm]
  refine loop_ruleH [] (fun (k : {k : Nat // k ≤ a.length}) H => ([(0, .sl (a.map gapRow)), (1, .sl (a.map gapRow)), (10, .v (.int .i64 (a.length : Nat))), (11, .v (.int .i64 (k.1 : Nat)))], ⟨h.n, H.o⟩)) (fun k => a.length - k.1) ⟨0, Nat.zero_le _⟩ ?_ ?_
  · skip
    refine weak_objs [] (by simp -dsimp only [go_sem]) (by simp -dsimp only [go_sem]) (by simp -dsimp only [go_sem, hm, hm2, if_false]) ?_ ?_ ?_
    · intro t h1 h2
      have a0 : ¬ t = h.n := by omega
      simp -dsimp only [go_sem, a0]
    · intro x h1 h2; have h1 : x < h.n := h1; simp at h2 ⊢; omega
    · simp -dsimp only [go_sem]
  · rintro ⟨k, hk⟩
    have k1 : k + 1 ≤ 9223372036854775807 := by omega
    by_cases hkl : k < a.length
    · obtain ⟨n, hn⟩ := get_some hkl
      have hkc : (((k : Nat) : Int) < ((a.length : Nat) : Int)) = True := eq_true (by omega)
      simp -dsimp only [go_sem, hkc, hkl, hn, k1, gapRow, List.length_map]
      refine round_to ⟨k + 1, hkl⟩ (by show a.length - (k + 1) < a.length - k; omega) ?_
      refine weak_objs [] (by simp -dsimp only [go_sem]) (by simp -dsimp only [go_sem]) (by simp -dsimp only [go_sem]) ?_ ?_ ?_
      · intro t h1 h2
        have a0 : ¬ t = h.n := by omega
        simp -dsimp only [go_sem, a0]
      · intro x h1 h2; have h1 : x < h.n := h1; simp at h2 ⊢; omega
      · simp -dsimp only [go_sem]
    · have hkc : (((k : Nat) : Int) < ((a.length : Nat) : Int)) = False := eq_false (by omega)
      simp -dsimp only [go_sem, hkc, List.length_map]
      exact fin_pure (by simp -dsimp only [go_sem]) (by simp -dsimp only [go_sem])
def gSupL : List L8 := [[69], [79], []]
def RoundGp (b : L8) (cnt k : Nat) (s s' : List (Int × L8)) : Prop := k < cnt → ∃ (x : Int) (t : L8), s' = s ++ [(x, t)] ∧
  (∀ (l : Nat) (h : AH), l < h.n → h.o l = .cells (rdCE b (1 + 2 * k)) → Isea.Good Tryz.prog 111 [.ptr l 0, .sl (gNum.map fun x => [.v (.int .i64 x)])] h [l] (.v (.int .i64 x)) (h.set l (.cells (rdCE b (1 + 2 * k + 1))))) ∧
  (∀ (l : Nat) (h : AH), l < h.n → h.o l = .cells (rdCE b (1 + 2 * k + 1)) → Isea.Good Tryz.prog 112 [.ptr l 0, .sl (gSupL.map sRow)] h [l] (str t) (h.set l (.cells (rdCE b (1 + 2 * (k + 1))))))
theorem roundsGp (b : L8) (cnt : Nat) (hb : b.length ≤ 2000) (hc : cnt ≤ 4) : ∃ f : Nat → List (Int × L8), f 0 = [] ∧ ∀ k, (k ≤ cnt → (f k).length = k ∧ ∀ p ∈ f k, GOk p) ∧ RoundGp b cnt k (f k) (f (k + 1)) := by
  refine dep_seq (s0 := ([] : List (Int × L8))) (Inv := fun k s => k ≤ cnt → s.length = k ∧ ∀ p ∈ s, GOk p) (R := RoundGp b cnt) (fun k s hs => ?_) (fun _ => ⟨rfl, fun p hp => by cases hp⟩)
  by_cases hk : k < cnt
  · obtain ⟨i1, i2⟩ := hs (by omega)
    obtain ⟨x, hx, hX⟩ := s_num b (1 + 2 * k) gNum hb (by omega) (by decide)
    obtain ⟨t, ht, hT⟩ := s_of b (1 + 2 * k + 1) gSupL hb (by omega) (by decide)
    have htl : t.length ≤ 1 := by
      have : ∀ z ∈ gSupL, z.length ≤ 1 := by decide
      exact this t ht
    refine ⟨s ++ [(x, t)], fun _ => ⟨by simp [i1], fun y hy => ?_⟩, fun _ => ⟨x, t, rfl, hX, hT⟩⟩
    rcases List.mem_append.1 hy with hy | hy
    · exact i2 y hy
    · rw [List.mem_singleton.1 hy]; exact ⟨hx, htl⟩
  · exact ⟨s, fun h => absurd h (by omega), fun h => absurd h hk⟩
theorem s_DrawFormatGaps (b : L8) : ∃ l : List (Int × L8), l.length ≤ 4 ∧ (∀ p ∈ l, GOk p) ∧ ∀ h : AH, Isea.Good Tryz.prog 34 [.sl (b.map byR)] h [] (.sl (l.map gRow)) h := by
  have hbl : (b.take 2000).length ≤ 2000 := by rw [List.length_take]; omega
  obtain ⟨v1, hv1, hG1⟩ := s_rpick (b.take 2000) 0 4 hbl (by omega)
  have hv1 := hv1 (by decide)
  rw [show ((4 : Nat) : Int) = 4 from rfl] at hG1
  obtain ⟨f, f0, hf⟩ := roundsGp (b.take 2000) v1 hbl (by omega)
  obtain ⟨fl, fok⟩ := (hf v1).1 (Nat.le_refl _)
  have hfr : ∀ k, k < v1 → RoundGp (b.take 2000) v1 k (f k) (f (k + 1)) := fun k _ => (hf k).2
  have hfl : ∀ k, k ≤ v1 → (f k).length = k := fun k hk => ((hf k).1 hk).1
  clear hf
  refine ⟨f v1, by omega, fok, fun h => ?_⟩
  refine good [] [] Tryz.func34 rfl rfl Tryz.ntmps34 (by kernel_rfl) mixed (by kernel_rfl) ?_
  simp -dsimp only [go_sem]
  refine call_pure (s_l13Open b _) ?_
  simp -dsimp only [go_sem]
  refine call_one (hG1 _ _ (by simp -dsimp only [go_sem]) (by simp -dsimp only [go_sem, rdCE])) (by simp -dsimp only [go_sem]) (by simp -dsimp only [go_sem, not_false_eq_true]) ?_
  simp -dsimp only [go_sem]
  refine loop_ruleH [] (fun (k : {k : Nat // k ≤ v1}) H => ([(3, .ptr h.n 0), (4, .so (h.n + 1) k.1 k.1), (9, .v (.int .i64 (v1 : Nat))), (10, .v (.int .i64 (k.1 : Nat)))], ⟨h.n + 2, upd (upd H.o h.n (.cells (rdCE (b.take 2000) (1 + 2 * k.1)))) (h.n + 1) (.rows 50 2 ((f k.1).map gRow))⟩)) (fun k => v1 - k.1) ⟨0, Nat.zero_le _⟩ ?_ ?_
  · skip
    refine weak_objs [h.n, h.n + 1] (by simp -dsimp only [go_sem]) (by simp -dsimp only [go_sem]) (by simp -dsimp only [go_sem, f0, List.map_nil]) ?_ ?_ ?_
    · intro t h1 h2
      have a0 : ¬ t = h.n := by omega
      have a1 : ¬ t = h.n + 1 := by omega
      have a2 : ¬ t = h.n + 2 := by omega
      have a3 : ¬ t = h.n + 3 := by omega
      simp -dsimp only [go_sem, a0, a1, a2, a3]
    · intro x h1 h2; have h1 : x < h.n + 2 := h1; simp at h2 ⊢; omega
    · simp -dsimp only [go_sem, rdCE, f0, List.map_nil]
  · rintro ⟨k, hk⟩
    have hk : k ≤ v1 := hk
    have k1 : k + 1 ≤ 9223372036854775807 := by omega
    by_cases hlt : k < v1
    · have hkc : (((k : Nat) : Int) < ((v1 : Nat) : Int)) = True := eq_true (by omega)
      obtain ⟨x, t, e1, hX, hY⟩ := hfr k hlt hlt
      have hfk := hfl k hk
      have e6 : (k + 1) * 24 ≤ 140737488355328 := by omega
      have e7 : ((f k).length + 1) * 24 ≤ 140737488355328 := by omega
      simp only [gNum, gSupL, List.map_cons, List.map_nil, sRow] at hX hY
      simp -dsimp only [go_sem, hkc]
      refine call_one (hX _ _ (by simp -dsimp only [go_sem]) (by simp -dsimp only [go_sem, rdCE])) (by simp -dsimp only [go_sem]) (by simp -dsimp only [go_sem, not_false_eq_true]) ?_
      simp -dsimp only [go_sem]
      refine call_one (hY _ _ (by simp -dsimp only [go_sem]) (by simp -dsimp only [go_sem, rdCE])) (by simp -dsimp only [go_sem]) (by simp -dsimp only [go_sem, not_false_eq_true]) ?_
      simp -dsimp only [go_sem, hfk, e6, e7, k1, List.length_map]
      refine round_to ⟨k + 1, hlt⟩ (by show v1 - (k + 1) < v1 - k; omega) ?_
      refine weak_objs [h.n, h.n + 1] (by simp -dsimp only [go_sem]) (by simp -dsimp only [go_sem]) (by simp -dsimp only [go_sem, e1, List.map_append, List.map_cons, List.map_nil, gRow]) ?_ ?_ ?_
      · intro t h1 h2
        have a0 : ¬ t = h.n := by omega
        have a1 : ¬ t = h.n + 1 := by omega
        have a2 : ¬ t = h.n + 2 := by omega
        have a3 : ¬ t = h.n + 3 := by omega
        simp -dsimp only [go_sem, a0, a1, a2, a3]
      · intro x h1 h2; have h1 : x < h.n + 2 := h1; simp at h2 ⊢; omega
      · simp -dsimp only [go_sem, rdCE, e1, List.map_append, List.map_cons, List.map_nil, gRow]
    · have hkc : (((k : Nat) : Int) < ((v1 : Nat) : Int)) = False := eq_false (by omega)
      have hke : k = v1 := by omega
      simp -dsimp only [go_sem, hkc]
      rw [hke]
      refine fin_pure (by simp -dsimp only [go_sem]) ?_
      simp -dsimp only [go_sem, fl, List.length_map]
end Go.Proofs.YtnocdggngfiebaaGreatDoor
