/- Contracts of functions of this program, for all arguments that satisfy what each lemma asks for. -/
import Derived.Test.YtnocdggngfiebaaGreatDoorMb
import Derived.Test.YtnocdggngfiebaaGreatDoorMd
import Derived.Test.YtnocdggngfiebaaGreatDoorMf
import Derived.Test.YtnocdggngfiebaaGreatDoorMg
set_option linter.all false
namespace Go.Isea
open Go
inductive Ren (fr : Prop) (g : Nat → Nat) (D : Nat → Prop) : AV → AV → Prop
  | v (x : Value) : Ren fr g D (.v x) (.v x)
  | junk (x : AV) : Ren fr g D x .junk
  | agg {cs cs' : List AV} (hl : cs'.length = cs.length) (hc : ∀ (i : Nat) (x y : AV), cs[i]? = some x → cs'[i]? = some y → Ren fr g D x y) : Ren fr g D (.agg cs) (.agg cs')
  | tup {cs cs' : List AV} (hl : cs'.length = cs.length) (hc : ∀ (i : Nat) (x y : AV), cs[i]? = some x → cs'[i]? = some y → Ren fr g D x y) : Ren fr g D (.tup cs) (.tup cs')
  | sl0 : Ren fr g D (.sl []) (.sl [])
  | sl (hf : fr) {rs : List (List AV)} (hc : ∀ r ∈ rs, ∀ x ∈ r, Ren fr g D x x) : Ren fr g D (.sl rs) (.sl rs)
  | ref (hf : fr) {cs : List AV} {off : Nat} (hc : ∀ x ∈ cs, Ren fr g D x x) : Ren fr g D (.ref cs off) (.ref cs off)
  | so {t n len : Nat} (ht : D t) : Ren fr g D (.so (g t) n len) (.so t n len)
  | ptr {l off : Nat} (ht : D l) : Ren fr g D (.ptr (g l) off) (.ptr l off)
  | pel {t n i off : Nat} (ht : D t) : Ren fr g D (.pel (g t) n i off) (.pel t n i off)
  | mp {l : Nat} (ht : D l) : Ren fr g D (.mp (g l)) (.mp l)
  | fn {f : FuncId} {cs cs' : List AV} (hl : cs'.length = cs.length) (hc : ∀ (i : Nat) (x y : AV), cs[i]? = some x → cs'[i]? = some y → Ren fr g D x y) : Ren fr g D (.fn f cs) (.fn f cs')
def RenL (fr : Prop) (g : Nat → Nat) (D : Nat → Prop) (cs cs' : List AV) : Prop := cs'.length = cs.length ∧ ∀ (i : Nat) (x y : AV), cs[i]? = some x → cs'[i]? = some y → Ren fr g D x y
def RenO (fr : Prop) (g : Nat → Nat) (D : Nat → Prop) (o o' : AObj) : Prop := match o, o' with
  | .cells cs, .cells cs' => RenL fr g D cs cs'
  | .rows e sz rs, .rows e' sz' rs' => e = e' ∧ sz = sz' ∧ rs'.length = rs.length ∧ (∀ (i : Nat) (r r' : List AV), rs[i]? = some r → rs'[i]? = some r' → r'.length = r.length) ∧
      ∀ (i j : Nat) (r r' : List AV) (x y : AV), rs[i]? = some r → rs'[i]? = some r' → r[j]? = some x → r'[j]? = some y → Ren fr g D x y
  | .iter s p, .iter s' p' => s = s' ∧ p = p'
  | _, _ => False
section
variable {K K' : KM} {h h' : AH} {w : World} {fr : Prop} {g : Nat → Nat} {D : Nat → Prop}
/-- the new numbers stand for the old ones -/
structure RenH (fr : Prop) (g : Nat → Nat) (D : Nat → Prop) (K : KM) (h : AH) (K' : KM) (h' : AH) (w : World) : Prop where
  lt : ∀ t, D t → t < h'.n ∧ g t < h.n
  k : ∀ t, D t → K' t = K (g t)
  rows : ∀ t e sz rs, D t → h'.o t = .rows e sz rs → ∃ rs0, h.o (g t) = .rows e sz rs0 ∧ rs0.length = rs.length
  imm : fr → ∀ b, Imm K h w b → Imm K' h' w b
theorem Ren.rep (R : RenH fr g D K h K' h' w) {x y : AV} (hf : Ren fr g D x y) : ∀ {v : Value}, Rep K h w x v → Rep K' h' w y v := by
  have hnr : ∀ l, D l → NotRows (h.o (g l)) → NotRows (h'.o l) := fun l hl hc e sz rs he => by obtain ⟨rs0, h1, _⟩ := R.rows l e sz rs hl he; exact hc _ _ _ h1
  induction hf with
  | v x => intro v hr; cases hr; exact .v _
  | junk x => intro v _; exact .junk v
  | agg hl _ ih =>
    intro v hr
    cases hr with
    | agg hl' hc' =>
      exact .agg (hl'.trans hl.symm) fun i y u h1 h2 => by
        have hi := (List.getElem?_eq_some_iff.1 h1).1
        exact ih i _ y (List.getElem?_eq_getElem (by omega)) h1 (hc' i _ u (List.getElem?_eq_getElem (by omega)) h2)
  | tup hl _ ih =>
    intro v hr
    cases hr with
    | tup hl' hc' =>
      exact .tup (hl'.trans hl.symm) fun i y u h1 h2 => by
        have hi := (List.getElem?_eq_some_iff.1 h1).1
        exact ih i _ y (List.getElem?_eq_getElem (by omega)) h1 (hc' i _ u (List.getElem?_eq_getElem (by omega)) h2)
  | sl0 =>
    intro v hr
    cases hr with
    | sl0 a c => exact .sl0 a c
    | sl hi hlc hsz hcell hrr => exact .sl0 _ _
  | sl hfr _ ih =>
    intro v hr
    cases hr with
    | sl0 a c => exact .sl0 a c
    | sl hi hlc hsz hcell hrr => exact .sl (R.imm hfr _ hi) hlc hsz hcell fun i j r x h1 h2 => ih r (List.mem_of_getElem? h1) x (List.mem_of_getElem? h2) (hrr i j r x h1 h2)
  | ref hfr _ ih =>
    intro v hr
    cases hr with
    | ref hi hcell hrr => exact .ref (R.imm hfr _ hi) hcell fun j x h1 => ih x (List.mem_of_getElem? h1) (hrr j x h1)
  | so ht =>
    intro v hr
    cases hr with
    | so ht' hv =>
      refine .so (R.lt _ ht).1 fun e sz rs ho => ?_
      obtain ⟨rs0, h1, h2⟩ := R.rows _ _ _ _ ht ho
      rw [← h2, R.k _ ht]; exact hv _ _ _ h1
  | ptr ht =>
    intro v hr
    cases hr with
    | ptr hl' hc hk => exact .ptr (R.lt _ ht).1 (hnr _ ht hc) ((R.k _ ht).trans hk)
  | pel ht =>
    intro v hr
    cases hr with
    | pel ht' hv =>
      refine .pel (R.lt _ ht).1 fun e sz rs ho => ?_
      obtain ⟨rs0, h1, h2⟩ := R.rows _ _ _ _ ht ho
      rw [← h2, R.k _ ht]; exact hv _ _ _ h1
  | mp ht =>
    intro v hr
    cases hr with
    | mp hl' hc => rw [← R.k _ ht]; exact .mp (R.lt _ ht).1 (hnr _ ht hc)
  | fn hl _ ih =>
    intro v hr
    cases hr with
    | fn hl' hc' =>
      exact .fn (hl'.trans hl.symm) fun i y u h1 h2 => by
        have hi := (List.getElem?_eq_some_iff.1 h1).1
        exact ih i _ y (List.getElem?_eq_getElem (by omega)) h1 (hc' i _ u (List.getElem?_eq_getElem (by omega)) h2)
theorem RenO.rows {o o' : AObj} (hf : RenO fr g D o o') {e sz : Nat} {rs : List (List AV)} (ho : o' = .rows e sz rs) : ∃ rs0, o = .rows e sz rs0 ∧ rs0.length = rs.length := by
  subst ho
  cases o <;> simp only [RenO] at hf
  obtain ⟨rfl, rfl, h1, _⟩ := hf
  exact ⟨_, rfl, h1.symm⟩
theorem RenO.robj {k : Value} {o o' : AObj} (hrep : ∀ {x y : AV} {v : Value}, Ren fr g D x y → Rep K h w x v → Rep K' h' w y v) (hf : RenO fr g D o o') (hr : RObj K h w k o) : RObj K' h' w k o' := by
  cases o <;> cases o' <;> simp only [RenO] at hf
  case cells.cells cs cs' =>
    obtain ⟨b, vs, e, h1, h2, h3, h4⟩ := hr
    refine ⟨b, vs, e, h1, h2, h3.trans hf.1.symm, fun i y u g1 g2 => ?_⟩
    have hi := (List.getElem?_eq_some_iff.1 g1).1
    have := hf.1
    exact hrep (hf.2 i _ y (List.getElem?_eq_getElem (by omega)) g1) (h4 i _ u (List.getElem?_eq_getElem (by omega)) g2)
  case rows.rows e sz rs e' sz' rs' =>
    obtain ⟨rfl, rfl, f1, f2, f3⟩ := hf
    obtain ⟨xs, h1, h2, h3, h4⟩ := hr
    refine ⟨xs, by rw [f1]; exact h1, h2, fun r hr' => ?_, fun i j r y u g1 g2 g3 => ?_⟩
    · obtain ⟨i, hi, rfl⟩ := List.getElem_of_mem hr'
      rw [f2 i _ _ (List.getElem?_eq_getElem (by omega)) (List.getElem?_eq_getElem hi)]
      exact h3 _ (List.getElem_mem _)
    · have hi := (List.getElem?_eq_some_iff.1 g1).1
      have hj := (List.getElem?_eq_some_iff.1 g2).1
      have hl := f2 i _ _ (List.getElem?_eq_getElem (by omega)) g1
      exact hrep (f3 i j _ r _ y (List.getElem?_eq_getElem (by omega)) g1 (List.getElem?_eq_getElem (by omega)) g2) (h4 i j _ _ u (List.getElem?_eq_getElem (by omega)) (List.getElem?_eq_getElem (by omega)) g3)
  case iter.iter s p s' p' => obtain ⟨rfl, rfl⟩ := hf; exact hr
theorem RenO.grew {o o' : AObj} (hf : RenO fr g D o o') (k : Value) : Grew o o' k k := by
  cases o <;> cases o' <;> simp only [RenO] at hf <;> simp only [Grew]
  obtain ⟨rfl, rfl, h1, _⟩ := hf
  exact ⟨rfl, rfl, by omega, fun _ => trivial⟩
end
variable {P : Program} {h h' h1 : AH} {T : List Nat} {args : List AV} {r r1 : AV} {k : FuncId}
/-- a contract's new objects called otherwise, some of them forgotten; an object without parts that turns may take the place of a new one -/
theorem Good.ren (hg : Good P k args h T r1 h1) (g : Nat → Nat) (hn : h.n ≤ h'.n) (hlt : ∀ t, t < h'.n → g t < h1.n) (hinj : ∀ s t, s < h'.n → t < h'.n → g s = g t → s = t)
    (hid : ∀ t, t < h.n → t ∉ T → g t = t) (hlo : ∀ t, t < h'.n → g t < h.n → g t = t)
    (hT : ∀ t, t < h.n → t ∈ T → g t = t ∨ ∃ e sz rs rs', h.o t = .rows e sz rs ∧ h'.o t = .rows e sz rs' ∧ rs.length < rs'.length)
    (hold : ∀ t, t < h.n → t ∉ T → h'.o t = h.o t) (ho : ∀ t, t < h'.n → (t ∈ T ∨ h.n ≤ t) → RenO True g (fun s => s < h'.n) (h1.o (g t)) (h'.o t))
    (hr : Ren True g (fun s => s < h'.n) r1 r) : Good P k args h T r h' := by
  refine ⟨hg.1, fun K w vs hK hvs => (hg.2 K w vs hK hvs).mono ?_⟩
  rintro ee w' ⟨K', v, rfl, hK', hE, hrv⟩
  let K2 : KM := fun t => K' (g t)
  have h1o : ∀ t, t < h.n → t ∉ T → h1.o t = h.o t := fun t ht htT => (hE.keep t ht htT).2
  have R : RenH True g (fun s => s < h'.n) K' h1 K2 h' w' := ⟨fun t ht => ⟨ht, hlt t ht⟩, fun t _ => rfl, fun t e sz rs ht hh => by
      by_cases hc : t ∈ T ∨ h.n ≤ t
      · exact (ho t ht hc).rows hh
      · have a1 : t < h.n := by omega
        have a2 : t ∉ T := fun x => hc (.inl x)
        rw [hid t a1 a2, h1o t a1 a2, ← hold t a1 a2]
        exact ⟨rs, hh, rfl⟩, fun _ b hb => ⟨hb.1, fun t ht => hb.2 (g t) (hlt t ht)⟩⟩
  have hE2 : Ext T K h w K2 h' w' := {
    os := hE.os, tape := hE.tape, output := hE.output, size := hE.size, n := hn, same := hE.same
    keep := fun t ht htT => ⟨by show K' (g t) = K t; rw [hid t ht htT]; exact (hE.keep t ht htT).1, hold t ht htT⟩
    grow := fun t ht htT => by
      rcases hT t ht htT with e | ⟨e, sz, rs, rs', e1, e2, e3⟩
      · have a1 := hE.grow t ht htT
        have a2 := (ho t (Nat.lt_of_lt_of_le ht hn) (.inl htT)).grew (K' t)
        rw [e] at a2
        have : K2 t = K' t := by show K' (g t) = _; rw [e]
        rw [this]
        exact a1.trans a2
      · rw [e1, e2]
        exact ⟨rfl, rfl, by omega, fun e => absurd e (by omega)⟩
    blocks := fun t b ht hb => by
      have hb : blk (K' (g t)) = some b := hb
      rcases hE.blocks (g t) b (hlt t ht) hb with hh | ⟨a1, a2⟩
      · exact .inl hh
      · have e := hlo t ht a1
        rw [e] at a1 a2
        exact .inr ⟨a1, a2⟩ }
  refine ⟨K2, v, rfl, ⟨fun t b ht hb => hK'.lt (g t) b (hlt t ht) hb, fun s t b hs ht a1 a2 => hinj s t hs ht (hK'.inj (g s) (g t) b (hlt s hs) (hlt t ht) a1 a2), fun t ht => ?_, hK'.pin.sub fun t b ht hb => ⟨g t, hlt t ht, hb⟩⟩, hE2, hr.rep R hrv⟩
  by_cases hc : t ∈ T ∨ h.n ≤ t
  · exact (ho t ht hc).robj (fun a b => a.rep R b) (hK'.obj (g t) (hlt t ht))
  · have a1 : t < h.n := by omega
    have a2 : t ∉ T := fun x => hc (.inl x)
    have e1 : K2 t = K t := (hE2.keep t a1 a2).1
    rw [e1, hold t a1 a2]
    exact (hK.obj t a1).ext hE2 fun b hb => hE.same b (hK.lt t b a1 hb) fun s hs hsn hsb => by
      have := hK.inj t s b a1 hsn hb hsb
      subst this; exact a2 hs
/-- less is told, object by object, at a function's end: L are all that may have turned, the new ones among them -/
theorem fin_objs {h0 h h' : AH} {x r : AV} (L : List Nat) (hn0 : h0.n ≤ h'.n) (hn : h'.n ≤ h.n) (hx : Fz h h'.n x r) (old : ∀ t, t < h0.n → t ∉ T → h'.o t = h0.o t)
    (cover : ∀ t, t < h'.n → (t ∈ T ∨ h0.n ≤ t) → t ∈ L) (each : EachO L fun t => ObjFz h h'.n (h.o t) (h'.o t)) : FinS T h0 h x h' r :=
  ⟨hn0, hn, hx, old, fun t h1 h2 => eachO each t (cover t h1 h2)⟩
end Go.Isea

namespace Go.Isea
open Go
section
variable {P : Program} {h : AH}
/-- the same for the first of two results -/
theorem Good.ghostR2 {k : FuncId} {args : List AV} {T : List Nat} {e sz : Nat} {h' : AH} {y : Value} (hsz : 0 < sz) (hg : Isea.Good P k args h T (.tup [.v (.slice none 0 0), .v y]) h') : Isea.Good P k args h T (.tup [.so h'.n 0 0, .v y]) (h'.push (.rows e sz [])) := by
  refine ⟨hg.1, fun K w vs hK hvs => (hg.2 K w vs hK hvs).mono ?_⟩
  rintro ee w' ⟨K', v, h1', h2', h3', h4'⟩
  have E : Ext [] K' h' w' (upd K' h'.n (.slice none 0 0)) (h'.push (.rows e sz [])) w' := Ext.push _ _ rfl rfl rfl (Nat.le_refl _) (fun _ _ => rfl) (fun b hb => by cases hb)
  have hkt : ∀ t, t < h'.n → upd K' h'.n (.slice none 0 0) t = K' t := fun t ht => upd_ne _ _ (by omega)
  refine ⟨upd K' h'.n (.slice none 0 0), v, h1', ?_, h3'.trans E (fun t ht _ => ht) (fun t ht => by cases ht), ?_⟩
  · refine ⟨fun t b ht hb => ?_, fun s t b hs ht g1 g2 => ?_, fun t ht => ?_, h2'.pin.ext E⟩
    · have ht : t < h'.n + 1 := ht
      by_cases hh : t = h'.n
      · subst hh; rw [upd_same] at hb; cases hb
      · rw [hkt t (by omega)] at hb; exact h2'.lt t b (by omega) hb
    · have hs : s < h'.n + 1 := hs
      have ht : t < h'.n + 1 := ht
      by_cases hh : s = h'.n
      · subst hh; rw [upd_same] at g1; cases g1
      · by_cases hh' : t = h'.n
        · subst hh'; rw [upd_same] at g2; cases g2
        · rw [hkt s (by omega)] at g1; rw [hkt t (by omega)] at g2
          exact h2'.inj s t b (by omega) (by omega) g1 g2
    · have ht : t < h'.n + 1 := ht
      by_cases hh : t = h'.n
      · subst hh
        rw [upd_same]
        show RObj _ _ _ _ (upd h'.o h'.n _ h'.n)
        rw [upd_same]
        exact ⟨[], ⟨by simp, .inl ⟨rfl, rfl⟩⟩, hsz, fun r hr => (by cases hr), fun i j r x y g => (by simp at g)⟩
      · rw [hkt t (by omega)]
        show RObj _ _ _ _ (upd h'.o h'.n _ t)
        rw [upd_ne _ _ hh]
        exact (h2'.obj t (by omega)).ext E fun b hb => rfl
  · cases h4' with
    | tup hl hc =>
      refine .tup hl fun i x z g1 g2 => ?_
      rcases i with _ | _ | i
      · simp at g1
        subst g1
        have h5 := hc 0 _ z rfl g2
        cases h5
        refine .so (Nat.lt_succ_self _) fun e' sz' rs' he => ?_
        have he : upd h'.o h'.n (AObj.rows e sz []) h'.n = .rows e' sz' rs' := he
        rw [upd_same] at he
        cases he
        refine ⟨Nat.le_refl _, fun _ => ⟨Nat.le_refl _, ?_⟩⟩
        rw [upd_same]; exact Hd.self (Nat.le_refl _)
      · simp at g1
        subst g1
        have h5 := hc 1 _ z rfl g2
        cases h5
        exact .v _
      · simp at g1
end
end Go.Isea

namespace Go.Isea
open Go
section
variable {P : Program} {t : TypeId} {p q : Operand} {a b : Bool}
theorem equal_bool (hs : P.underlying t = some .bool) {d : Nat} : semPure P (Op.equalIn (d + 1) t (.bool a) (.bool b)) = some (decide (a = b)) := by
  simp only [Op.equalIn, semPure_bind', semPure_und hs]
  cases a <;> cases b <;> rfl
@[go_sem] theorem bin_eqlb (hs : P.underlying t = some .bool) : abin P .eql t p q (.v (.bool a)) (.v (.bool b)) = some (.v (.bool (decide (a = b)))) := by
  have h2 := equal_bool hs (d := 9999) (a := a) (b := b)
  have h1 : semPure P (do eqGuard .eql t p q (.bool a) (.bool b); binOp .eql t (.bool a) (.bool b)) = some (.bool (decide (a = b))) := by
    show semPure P (do let r ← Op.equal t _ _; pure (Value.bool r)) = _
    unfold Op.equal
    rw [semPure_bind', show Op.maxDepth = 9999 + 1 from rfl, h2]
    rfl
  show ofVo (semPure P _) = _
  rw [h1]; rfl
@[go_sem] theorem bin_neqb (hs : P.underlying t = some .bool) : abin P .neq t p q (.v (.bool a)) (.v (.bool b)) = some (.v (.bool (decide (¬ a = b)))) := by
  have h2 := equal_bool hs (d := 9999) (a := a) (b := b)
  have h1 : semPure P (do eqGuard .neq t p q (.bool a) (.bool b); binOp .neq t (.bool a) (.bool b)) = some (.bool (decide (¬ a = b))) := by
    show semPure P (do let r ← Op.equal t _ _; pure (Value.bool !r)) = _
    unfold Op.equal
    rw [semPure_bind', show Op.maxDepth = 9999 + 1 from rfl, h2]
    simp [semPure, pure]
  show ofVo (semPure P _) = _
  rw [h1]; rfl
end
end Go.Isea

namespace Go.Isea
open Go
structure SS where
  a : List Need
  f : Need
  st : List Need
abbrev AskR := L8 × SS × L8
def SS.no (s : SS) (n : Need) (st : List Need) : SS := ⟨s.a, n, st⟩
def SS.ask (s : SS) (n : Need) : SS := ⟨s.a ++ [n], s.f, s.st⟩
def mostSp (w : Wld) (l : List Nat) : Option Nat := l.find? fun i => !l.any (spAt w i)
/-- the candidate that is taken -/
def pickG (w : Wld) (sp : Bool) : List Nat → Option Nat
  | [] => none
  | [k] => some k
  | k :: k2 :: r => if sp = true then mostSp w (k :: k2 :: r) else none
def whyG : List Nat → L8
  | [] => noneL
  | _ :: _ => manyL
def askGL (fd : Need → SS → AskR) : List Need → Nat → L8 → SS → AskR
  | [], _, out, s => (out, s, [])
  | m :: ms, k, out, s => if (fd m s).2.2 = [] then askGL fd ms (k + 1) (out ++ [sep k] ++ (fd m s).1) (fd m s).2.1 else ([], (fd m s).2.1, (fd m s).2.2)
def closeG (ms : List Need) (x : AskR) : AskR := if x.2.2 = [] then (x.1 ++ (if ms.length = 0 then [] else [41]), x.2.1, []) else ([], x.2.1, x.2.2)
def askGI (fd : Need → SS → AskR) (w : Wld) (st : List Need) (n : Need) (s : SS) (k : Nat) : AskR := match w.is[k]? with
  | some i => (match needsOf i n.t with
    | some ms => closeG ms (askGL fd ms 0 (digitL k) s)
    | none => ([], s.no n st, bigL))
  | none => ([], s.no n st, noneL)
def askGB (fd : Need → SS → AskR) (w : Wld) (sp : Bool) (st : List Need) (n : Need) (s : SS) : AskR := match pickG w sp (candIx w n) with
  | none => ([], s.no n st, whyG (candIx w n))
  | some k => askGI fd w st n s k
def askG (w : Wld) (sp : Bool) (g : Need → L8) : Nat → List Need → Need → SS → AskR
  | 0, st, n, s => if g n ≠ [] then (g n, s, []) else if 300 ≤ s.a.length then ([], s.no n st, longL) else ([], (s.ask n).no n st, deepL)
  | f + 1, st, n, s => if g n ≠ [] then (g n, s, []) else if 300 ≤ s.a.length then ([], s.no n st, longL) else askGB (askG w sp g f (st ++ [n])) w sp st n (s.ask n)
/-- where nothing fails, nothing is noted -/
def Keeps (s : SS) (x : AskR) : Prop := (x.2.2 = [] → x.2.1.f = s.f ∧ x.2.1.st = s.st) ∧ s.a.length ≤ x.2.1.a.length ∧ (s.a.length ≤ 300 → x.2.1.a.length ≤ 300)
end Go.Isea

namespace Go.Isea
open Go
theorem Ren.of_lo {g : Nat → Nat} {D : Nat → Prop} {x : AV} (h : Lo 0 x) : Ren True g D x x := by
  induction h with
  | v x => exact .v x
  | junk => exact .junk _
  | agg _ ih => exact .agg rfl fun i x y h1 h2 => by rw [h1] at h2; cases h2; exact ih x (List.mem_of_getElem? h1)
  | tup _ ih => exact .tup rfl fun i x y h1 h2 => by rw [h1] at h2; cases h2; exact ih x (List.mem_of_getElem? h1)
  | sl _ ih => exact .sl trivial ih
  | ref _ ih => exact .ref trivial ih
  | so ht => exact absurd ht (Nat.not_lt_zero _)
  | ptr ht => exact absurd ht (Nat.not_lt_zero _)
  | pel ht => exact absurd ht (Nat.not_lt_zero _)
  | mp ht => exact absurd ht (Nat.not_lt_zero _)
  | fn _ ih => exact .fn rfl fun i x y h1 h2 => by rw [h1] at h2; cases h2; exact ih x (List.mem_of_getElem? h1)
theorem Ren.so' {fr : Prop} {g : Nat → Nat} {D : Nat → Prop} {t t' n len : Nat} (ht : D t) (e : g t = t') : Ren fr g D (.so t' n len) (.so t n len) := e ▸ .so ht
theorem RenO.of_rows {g : Nat → Nat} {D : Nat → Prop} {e sz : Nat} {rs : List (List AV)} (h : PuR rs) : RenO True g D (.rows e sz rs) (.rows e sz rs) :=
  ⟨rfl, rfl, rfl, fun i r r' h1 h2 => by rw [h1] at h2; cases h2; rfl, fun i j r r' x y h1 h2 h3 h4 => by
    rw [h1] at h2; cases h2; rw [h3] at h4; cases h4
    exact Ren.of_lo (h 0 r (List.mem_of_getElem? h1) x (List.mem_of_getElem? h3))⟩
def stC (tb : Nat) : List Need → AV
  | [] => .v (.slice none 0 0)
  | x :: xs => .so tb (xs.length + 1) (xs.length + 1)
@[go_sem] theorem stC_nil {tb : Nat} : stC tb [] = .v (.slice none 0 0) := (rfl)
@[go_sem] theorem stC_cons {tb : Nat} {x : Need} {xs : List Need} : stC tb (x :: xs) = .so tb (xs.length + 1) (xs.length + 1) := (rfl)
@[go_sem] theorem stC_fz {h : AH} {m tb : Nat} {st : List Need} (hb : tb < m) : Fz h m (stC tb st) (stC tb st) = True := by
  cases st with
  | nil => exact eq_true (.v _)
  | cons x xs => exact eq_true (.so hb)
@[go_sem] theorem stC_cells {tb : Nat} {st : List Need} : (stC tb st).cells = [stC tb st] := by cases st <;> rfl
def mostV : Option Nat → AV
  | some k => .v (.int .i64 (k : Nat))
  | none => .v (.int .i64 (-1))
@[go_sem] theorem callS_g {C : Cx} {s : List Nat} {k : FuncId} {args cap : List AV} {K : AV → AH → Prop} {h : AH} : CallS C s (.fn k cap) args (.mk K) h = CallT C s k (args ++ cap) (.mk K) h := by
  cases cap with
  | nil => rw [List.append_nil]; exact callS_f
  | cons x c => exact callS_c
@[go_sem] theorem mem_3a {l t u : Nat} : (l ∈ [l, t, u]) = True := by simp
@[go_sem] theorem mem_3b {l t u : Nat} : (t ∈ [l, t, u]) = True := by simp
@[go_sem] theorem mem_3c {l t u : Nat} : (u ∈ [l, t, u]) = True := by simp
end Go.Isea
namespace Go.Proofs.YtnocdggngfiebaaGreatDoor
open Go Go.Isea
set_option maxRecDepth 100000
set_option maxHeartbeats 8000000
def gCells (w : Wld) (sp : Bool) (fk : FuncId) (cap : List AV) (ta tb : Nat) (s : SS) : List AV := [.sl (w.cs.map Cls.row), .sl (w.is.map Inst.row), .v (.bool sp), .fn fk cap, .so ta s.a.length s.a.length, str s.f.c, str s.f.t, stC tb s.st]
end Go.Proofs.YtnocdggngfiebaaGreatDoor

namespace Go.Isea
open Go
end Go.Isea
namespace Go.Proofs.YtnocdggngfiebaaGreatDoor
open Go Go.Isea
set_option maxRecDepth 100000
set_option maxHeartbeats 16000000
def AskOkG (w : Wld) (sp : Bool) (fk : FuncId) (cap : List AV) (g : Need → L8) (f : Nat) : Prop := ∀ (l ta tb : Nat) (n : Need) (st : List Need) (s : SS) (h : AH), l < h.n → ta < h.n → tb < h.n → ¬ l = ta → ¬ l = tb → ¬ ta = tb →
    h.o l = .cells (gCells w sp fk cap ta tb s) → h.o ta = .rows 28 2 (s.a.map Need.row) → h.o tb = .rows 28 2 [] → s.st = [] → NOk w n → s.a.length ≤ 300 → f ≤ 31 → st.length = 31 - f →
    Isea.Good Tryz.prog 194 [.ptr l 0, .agg n.row, stA st] h [l, ta, tb] (.tup [str (askG w sp g f st n s).1, str (askG w sp g f st n s).2.2])
      ⟨h.n, upd (upd (upd h.o l (.cells (gCells w sp fk cap ta tb (askG w sp g f st n s).2.1))) ta (.rows 28 2 ((askG w sp g f st n s).2.1.a.map Need.row))) tb (.rows 28 2 ((askG w sp g f st n s).2.1.st.map Need.row))⟩
end Go.Proofs.YtnocdggngfiebaaGreatDoor

namespace Go.Isea
open Go
theorem Good.more {P : Program} {k : FuncId} {args : List AV} {h h' : AH} {T U : List Nat} {r : AV} (hg : Isea.Good P k args h T r h') (hU : ∀ t, t ∈ T → t < h.n → t ∈ U) : Isea.Good P k args h U r h' := by
  refine ⟨hg.1, fun K w vs hK hvs => (hg.2 K w vs hK hvs).mono ?_⟩
  rintro ee w' ⟨K', v, h1, h2, h3, h4⟩
  exact ⟨K', v, h1, h2, h3.mono hU, h4⟩
/-- a search of which nothing is known yet -/
def s0 : SS := ⟨[], ⟨[], []⟩, []⟩
end Go.Isea
namespace Go.Proofs.YtnocdggngfiebaaGreatDoor
open Go Go.Isea
set_option maxRecDepth 100000
set_option maxHeartbeats 8000000
/-- the search's cells before it has asked -/
def zCells (w : Wld) (sp : Bool) (fk : FuncId) (cap : List AV) : List AV := [.sl (w.cs.map Cls.row), .sl (w.is.map Inst.row), .v (.bool sp), .fn fk cap, .v (.slice none 0 0), str [], str [], .v (.slice none 0 0)]
end Go.Proofs.YtnocdggngfiebaaGreatDoor

namespace Go.Isea
open Go
/-- is a class above another one? -/
def upB (w : Wld) (o c : L8) : Bool := (supersOf w o).any fun d => decide (c = [d])
theorem upB_one (w : Wld) (o : L8) (d : UInt8) : upB w o [d] = decide (0 ≤ ix (supersOf w o) d) := any_ix d _
theorem upB_not {w : Wld} {o c : L8} (h : ¬ c.length = 1) : upB w o c = false := by
  unfold upB
  rw [List.any_eq_false]
  intro d _ e
  have : c = [d] := by simpa using e
  rw [this] at h; exact h rfl
theorem upB_some {w : Wld} {o c : L8} (h : upB w o c = true) : ∃ d, c = [d] ∧ d ∈ supersOf w o := by
  unfold upB at h
  obtain ⟨d, hd, e⟩ := List.any_eq_true.1 h
  exact ⟨d, by simpa using e, hd⟩
theorem supersOf_cls {w : Wld} {o : L8} {d : UInt8} (hd : d ∈ supersOf w o) : 0 ≤ clsIx w.cs [d] := by
  unfold supersOf at hd
  split at hd
  · rename_i hh
    simp only [hasClass, worldOk, Bool.and_eq_true, decide_eq_true_eq] at hh
    have hk0 := supersAt_known hh.1.1.2 o
    exact (itS_ok hh.1.1.2 hk0.1 hk0.2 w.cs.length).1 d hd
  · simp at hd
theorem inst_givens {w : Wld} (h : worldOk w = true) {k : Nat} {i : Inst} (hi : w.is[k]? = some i) : givensOk w i.ns = true ∧ i.ns.length ≤ 3 := by
  obtain ⟨_, _, _, _, _, h6, h7⟩ := world_inst h hi
  refine ⟨?_, h6⟩
  simp only [givensOk, h, Bool.true_and, Bool.and_eq_true, decide_eq_true_eq, List.all_eq_true, Bool.and_true]
  refine ⟨fun g hg => ?_, by omega⟩
  have h8 := h7 g hg
  simp only [needIn, Bool.and_eq_true, decide_eq_true_eq] at h8
  simp only [needOk, Bool.and_eq_true, decide_eq_true_eq]
  exact ⟨h8.1.1.1, h8.1.1.2⟩
theorem up_need {w : Wld} (h : worldOk w = true) {k : Nat} {i : Inst} (hi : w.is[k]? = some i) {c : L8} (hu : upB w i.c c = true) : NOk w ⟨c, i.t⟩ ∧ needOk w ⟨c, i.t⟩ = true := by
  obtain ⟨d, rfl, hd⟩ := upB_some hu
  obtain ⟨_, _, h3, h4, _, _, _⟩ := world_inst h hi
  have hc := supersOf_cls hd
  refine ⟨⟨hc, by show ([d] : L8).length ≤ _; simp, by show i.t.length ≤ _; omega⟩, ?_⟩
  simp only [needOk, Bool.and_eq_true, decide_eq_true_eq]
  exact ⟨hc, h3⟩
/-- the evidence of a class above that of an instance -/
def evIn (w : Wld) (x : Inst) (c : L8) : L8 × L8 := if upB w x.c c = true then findGiven w x.ns ⟨c, x.t⟩ else ([], wrongL)
def instAt (w : Wld) (i : Int) : Option Inst := if worldOk w = true ∧ 0 ≤ i then w.is[i.toNat]? else none
def evAbove (w : Wld) (i : Int) (c : L8) : L8 × L8 := match instAt w i with
  | some x => evIn w x c
  | none => ([], wrongL)
theorem evIn_find {w : Wld} (h : worldOk w = true) {k : Nat} {i : Inst} (hi : w.is[k]? = some i) {c : L8} (hu : upB w i.c c = true) : evIn w i c = ((findS w i.ns 31 ⟨c, i.t⟩ 0).1, (findS w i.ns 31 ⟨c, i.t⟩ 0).2.2) := by
  unfold evIn findGiven
  rw [if_pos hu, (inst_givens h hi).1, h, (up_need h hi hu).2]
  rfl
/-- the classes above that an instance's needs don't give -/
def gapL (w : Wld) (x : Inst) : L8 := (supersOf w x.c).filter fun d => decide ((evIn w x [d]).2 ≠ [])
def gapRow (p : Nat × UInt8) : List AV := [.v (.int .i64 (p.1 : Nat)), str [p.2]]
/-- the gaps of the first instances -/
def gapsTo (w : Wld) (k : Nat) : List (Nat × UInt8) := (List.range k).flatMap fun j => match w.is[j]? with
  | some x => (gapL w x).map fun d => (j, d)
  | none => []
theorem gapsTo_succ {w : Wld} {k : Nat} {x : Inst} (hx : w.is[k]? = some x) : gapsTo w (k + 1) = gapsTo w k ++ (gapL w x).map fun d => (k, d) := by
  unfold gapsTo
  rw [List.range_succ, List.flatMap_append]
  simp [hx]
theorem gapsTo_len (w : Wld) (k : Nat) : (gapsTo w k).length ≤ k * 256 := by
  induction k with
  | zero => simp [gapsTo]
  | succ k ih =>
    unfold gapsTo at ih ⊢
    rw [List.range_succ, List.flatMap_append, List.length_append]
    have : (List.flatMap (fun j => match w.is[j]? with | some x => (gapL w x).map fun d => (j, d) | none => []) [k]).length ≤ 256 := by
      simp only [List.flatMap_cons, List.flatMap_nil, List.append_nil]
      split
      · rename_i x _
        rw [List.length_map]
        unfold gapL
        exact Nat.le_trans (List.length_filter_le _ _) (supersOf_known w x.c).1
      · simp
    omega
def gapsOf (w : Wld) : List (Nat × UInt8) := if worldOk w = true then gapsTo w w.is.length else []
/-- what a search without givens finds -/
def ask0 (w : Wld) (sp : Bool) (n : Need) : AskR := if (worldOk w && needOk w n) = true then askG w sp (fun _ => []) 31 [] n ⟨[], ⟨[], []⟩, []⟩ else ([], ⟨[], ⟨[], []⟩, []⟩, wrongL)
def findD (w : Wld) (sp : Bool) (n : Need) : L8 × L8 := ((ask0 w sp n).1, (ask0 w sp n).2.2)
def hasI (w : Wld) (n : Need) : Bool := decide ((findD w false n).2 = [])
def dictUp (w : Wld) (n : Need) (c : L8) : L8 × L8 := if (worldOk w && needOk w n) = true ∧ upB w n.c c = true then findD w false ⟨c, n.t⟩ else ([], wrongL)
end Go.Isea
