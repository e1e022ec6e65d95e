/- Contracts of functions of this program, for all arguments that satisfy what each lemma asks for. -/
import Derived.Test.YtnocdggngfiebaaGreatDoorMb
import Derived.Test.YtnocdggngfiebaaGreatDoorMd
import Derived.Test.YtnocdggngfiebaaGreatDoorMf
import Derived.Test.YtnocdggngfiebaaGreatDoorMg
set_option linter.all false
namespace Go.Isea
open Go
inductive Ren (fr : Prop) (g : Nat → Nat) (D : Nat → Prop) : AV → AV → Prop
  | v (x : Value) : Ren fr g D (.v x) (.v x)
  | junk (x : AV) : Ren fr g D x .junk
  | agg {cs cs' : List AV} (hl : cs'.length = cs.length) (hc : ∀ (i : Nat) (x y : AV), cs[i]? = some x → cs'[i]? = some y → Ren fr g D x y) : Ren fr g D (.agg cs) (.agg cs')
  | tup {cs cs' : List AV} (hl : cs'.length = cs.length) (hc : ∀ (i : Nat) (x y : AV), cs[i]? = some x → cs'[i]? = some y → Ren fr g D x y) : Ren fr g D (.tup cs) (.tup cs')
  | sl0 : Ren fr g D (.sl []) (.sl [])
  | sl (hf : fr) {rs : List (List AV)} (hc : ∀ r ∈ rs, ∀ x ∈ r, Ren fr g D x x) : Ren fr g D (.sl rs) (.sl rs)
  | ref (hf : fr) {cs : List AV} {off : Nat} (hc : ∀ x ∈ cs, Ren fr g D x x) : Ren fr g D (.ref cs off) (.ref cs off)
  | so {t n len : Nat} (ht : D t) : Ren fr g D (.so (g t) n len) (.so t n len)
  | ptr {l off : Nat} (ht : D l) : Ren fr g D (.ptr (g l) off) (.ptr l off)
  | pel {t n i off : Nat} (ht : D t) : Ren fr g D (.pel (g t) n i off) (.pel t n i off)
  | mp {l : Nat} (ht : D l) : Ren fr g D (.mp (g l)) (.mp l)
  | fn {f : FuncId} {cs cs' : List AV} (hl : cs'.length = cs.length) (hc : ∀ (i : Nat) (x y : AV), cs[i]? = some x → cs'[i]? = some y → Ren fr g D x y) : Ren fr g D (.fn f cs) (.fn f cs')
def RenL (fr : Prop) (g : Nat → Nat) (D : Nat → Prop) (cs cs' : List AV) : Prop := cs'.length = cs.length ∧ ∀ (i : Nat) (x y : AV), cs[i]? = some x → cs'[i]? = some y → Ren fr g D x y
def RenO (fr : Prop) (g : Nat → Nat) (D : Nat → Prop) (o o' : AObj) : Prop := match o, o' with
  | .cells cs, .cells cs' => RenL fr g D cs cs'
  | .rows e sz rs, .rows e' sz' rs' => e = e' ∧ sz = sz' ∧ rs'.length = rs.length ∧ (∀ (i : Nat) (r r' : List AV), rs[i]? = some r → rs'[i]? = some r' → r'.length = r.length) ∧
      ∀ (i j : Nat) (r r' : List AV) (x y : AV), rs[i]? = some r → rs'[i]? = some r' → r[j]? = some x → r'[j]? = some y → Ren fr g D x y
  | .iter s p, .iter s' p' => s = s' ∧ p = p'
  | _, _ => False
section
variable {K K' : KM} {h h' : AH} {w : World} {fr : Prop} {g : Nat → Nat} {D : Nat → Prop}
/-- the new numbers stand for the old ones -/
structure RenH (fr : Prop) (g : Nat → Nat) (D : Nat → Prop) (K : KM) (h : AH) (K' : KM) (h' : AH) (w : World) : Prop where
  lt : ∀ t, D t → t < h'.n ∧ g t < h.n
  k : ∀ t, D t → K' t = K (g t)
  rows : ∀ t e sz rs, D t → h'.o t = .rows e sz rs → ∃ rs0, h.o (g t) = .rows e sz rs0 ∧ rs0.length = rs.length
  imm : fr → ∀ b, Imm K h w b → Imm K' h' w b
theorem Ren.rep (R : RenH fr g D K h K' h' w) {x y : AV} (hf : Ren fr g D x y) : ∀ {v : Value}, Rep K h w x v → Rep K' h' w y v := by
  have hnr : ∀ l, D l → NotRows (h.o (g l)) → NotRows (h'.o l) := fun l hl hc e sz rs he => by obtain ⟨rs0, h1, _⟩ := R.rows l e sz rs hl he; exact hc _ _ _ h1
  induction hf with
  | v x => intro v hr; cases hr; exact .v _
  | junk x => intro v _; exact .junk v
  | agg hl _ ih =>
    intro v hr
    cases hr with
    | agg hl' hc' =>
      exact .agg (hl'.trans hl.symm) fun i y u h1 h2 => by
        have hi := (List.getElem?_eq_some_iff.1 h1).1
        exact ih i _ y (List.getElem?_eq_getElem (by omega)) h1 (hc' i _ u (List.getElem?_eq_getElem (by omega)) h2)
  | tup hl _ ih =>
    intro v hr
    cases hr with
    | tup hl' hc' =>
      exact .tup (hl'.trans hl.symm) fun i y u h1 h2 => by
        have hi := (List.getElem?_eq_some_iff.1 h1).1
        exact ih i _ y (List.getElem?_eq_getElem (by omega)) h1 (hc' i _ u (List.getElem?_eq_getElem (by omega)) h2)
  | sl0 =>
    intro v hr
    cases hr with
    | sl0 a c => exact .sl0 a c
    | sl hi hlc hsz hcell hrr => exact .sl0 _ _
  | sl hfr _ ih =>
    intro v hr
    cases hr with
    | sl0 a c => exact .sl0 a c
    | sl hi hlc hsz hcell hrr => exact .sl (R.imm hfr _ hi) hlc hsz hcell fun i j r x h1 h2 => ih r (List.mem_of_getElem? h1) x (List.mem_of_getElem? h2) (hrr i j r x h1 h2)
  | ref hfr _ ih =>
    intro v hr
    cases hr with
    | ref hi hcell hrr => exact .ref (R.imm hfr _ hi) hcell fun j x h1 => ih x (List.mem_of_getElem? h1) (hrr j x h1)
  | so ht =>
    intro v hr
    cases hr with
    | so ht' hv =>
      refine .so (R.lt _ ht).1 fun e sz rs ho => ?_
      obtain ⟨rs0, h1, h2⟩ := R.rows _ _ _ _ ht ho
      rw [← h2, R.k _ ht]; exact hv _ _ _ h1
  | ptr ht =>
    intro v hr
    cases hr with
    | ptr hl' hc hk => exact .ptr (R.lt _ ht).1 (hnr _ ht hc) ((R.k _ ht).trans hk)
  | pel ht =>
    intro v hr
    cases hr with
    | pel ht' hv =>
      refine .pel (R.lt _ ht).1 fun e sz rs ho => ?_
      obtain ⟨rs0, h1, h2⟩ := R.rows _ _ _ _ ht ho
      rw [← h2, R.k _ ht]; exact hv _ _ _ h1
  | mp ht =>
    intro v hr
    cases hr with
    | mp hl' hc => rw [← R.k _ ht]; exact .mp (R.lt _ ht).1 (hnr _ ht hc)
  | fn hl _ ih =>
    intro v hr
    cases hr with
    | fn hl' hc' =>
      exact .fn (hl'.trans hl.symm) fun i y u h1 h2 => by
        have hi := (List.getElem?_eq_some_iff.1 h1).1
        exact ih i _ y (List.getElem?_eq_getElem (by omega)) h1 (hc' i _ u (List.getElem?_eq_getElem (by omega)) h2)
theorem RenO.rows {o o' : AObj} (hf : RenO fr g D o o') {e sz : Nat} {rs : List (List AV)} (ho : o' = .rows e sz rs) : ∃ rs0, o = .rows e sz rs0 ∧ rs0.length = rs.length := by
  subst ho
  cases o <;> simp only [RenO] at hf
  obtain ⟨rfl, rfl, h1, _⟩ := hf
  exact ⟨_, rfl, h1.symm⟩
theorem RenO.robj {k : Value} {o o' : AObj} (hrep : ∀ {x y : AV} {v : Value}, Ren fr g D x y → Rep K h w x v → Rep K' h' w y v) (hf : RenO fr g D o o') (hr : RObj K h w k o) : RObj K' h' w k o' := by
  cases o <;> cases o' <;> simp only [RenO] at hf
  case cells.cells cs cs' =>
    obtain ⟨b, vs, e, h1, h2, h3, h4⟩ := hr
    refine ⟨b, vs, e, h1, h2, h3.trans hf.1.symm, fun i y u g1 g2 => ?_⟩
    have hi := (List.getElem?_eq_some_iff.1 g1).1
    have := hf.1
    exact hrep (hf.2 i _ y (List.getElem?_eq_getElem (by omega)) g1) (h4 i _ u (List.getElem?_eq_getElem (by omega)) g2)
  case rows.rows e sz rs e' sz' rs' =>
    obtain ⟨rfl, rfl, f1, f2, f3⟩ := hf
    obtain ⟨xs, h1, h2, h3, h4⟩ := hr
    refine ⟨xs, by rw [f1]; exact h1, h2, fun r hr' => ?_, fun i j r y u g1 g2 g3 => ?_⟩
    · obtain ⟨i, hi, rfl⟩ := List.getElem_of_mem hr'
      rw [f2 i _ _ (List.getElem?_eq_getElem (by omega)) (List.getElem?_eq_getElem hi)]
      exact h3 _ (List.getElem_mem _)
    · have hi := (List.getElem?_eq_some_iff.1 g1).1
      have hj := (List.getElem?_eq_some_iff.1 g2).1
      have hl := f2 i _ _ (List.getElem?_eq_getElem (by omega)) g1
      exact hrep (f3 i j _ r _ y (List.getElem?_eq_getElem (by omega)) g1 (List.getElem?_eq_getElem (by omega)) g2) (h4 i j _ _ u (List.getElem?_eq_getElem (by omega)) (List.getElem?_eq_getElem (by omega)) g3)
  case iter.iter s p s' p' => obtain ⟨rfl, rfl⟩ := hf; exact hr
theorem RenO.grew {o o' : AObj} (hf : RenO fr g D o o') (k : Value) : Grew o o' k k := by
  cases o <;> cases o' <;> simp only [RenO] at hf <;> simp only [Grew]
  obtain ⟨rfl, rfl, h1, _⟩ := hf
  exact ⟨rfl, rfl, by omega, fun _ => trivial⟩
end
variable {P : Program} {h h' h1 : AH} {T : List Nat} {args : List AV} {r r1 : AV} {k : FuncId}
/-- a contract's new objects called otherwise, some of them forgotten; an object without parts that turns may take the place of a new one -/
theorem Good.ren (hg : Good P k args h T r1 h1) (g : Nat → Nat) (hn : h.n ≤ h'.n) (hlt : ∀ t, t < h'.n → g t < h1.n) (hinj : ∀ s t, s < h'.n → t < h'.n → g s = g t → s = t)
    (hid : ∀ t, t < h.n → t ∉ T → g t = t) (hlo : ∀ t, t < h'.n → g t < h.n → g t = t)
    (hT : ∀ t, t < h.n → t ∈ T → g t = t ∨ ∃ e sz rs rs', h.o t = .rows e sz rs ∧ h'.o t = .rows e sz rs' ∧ rs.length < rs'.length)
    (hold : ∀ t, t < h.n → t ∉ T → h'.o t = h.o t) (ho : ∀ t, t < h'.n → (t ∈ T ∨ h.n ≤ t) → RenO True g (fun s => s < h'.n) (h1.o (g t)) (h'.o t))
    (hr : Ren True g (fun s => s < h'.n) r1 r) : Good P k args h T r h' := by
  refine ⟨hg.1, fun K w vs hK hvs => (hg.2 K w vs hK hvs).mono ?_⟩
  rintro ee w' ⟨K', v, rfl, hK', hE, hrv⟩
  let K2 : KM := fun t => K' (g t)
  have h1o : ∀ t, t < h.n → t ∉ T → h1.o t = h.o t := fun t ht htT => (hE.keep t ht htT).2
  have R : RenH True g (fun s => s < h'.n) K' h1 K2 h' w' := ⟨fun t ht => ⟨ht, hlt t ht⟩, fun t _ => rfl, fun t e sz rs ht hh => by
      by_cases hc : t ∈ T ∨ h.n ≤ t
      · exact (ho t ht hc).rows hh
      · have a1 : t < h.n := by omega
        have a2 : t ∉ T := fun x => hc (.inl x)
        rw [hid t a1 a2, h1o t a1 a2, ← hold t a1 a2]
        exact ⟨rs, hh, rfl⟩, fun _ b hb => ⟨hb.1, fun t ht => hb.2 (g t) (hlt t ht)⟩⟩
  have hE2 : Ext T K h w K2 h' w' := {
    os := hE.os, tape := hE.tape, output := hE.output, size := hE.size, n := hn, same := hE.same
    keep := fun t ht htT => ⟨by show K' (g t) = K t; rw [hid t ht htT]; exact (hE.keep t ht htT).1, hold t ht htT⟩
    grow := fun t ht htT => by
      rcases hT t ht htT with e | ⟨e, sz, rs, rs', e1, e2, e3⟩
      · have a1 := hE.grow t ht htT
        have a2 := (ho t (Nat.lt_of_lt_of_le ht hn) (.inl htT)).grew (K' t)
        rw [e] at a2
        have : K2 t = K' t := by show K' (g t) = _; rw [e]
        rw [this]
        exact a1.trans a2
      · rw [e1, e2]
        exact ⟨rfl, rfl, by omega, fun e => absurd e (by omega)⟩
    blocks := fun t b ht hb => by
      have hb : blk (K' (g t)) = some b := hb
      rcases hE.blocks (g t) b (hlt t ht) hb with hh | ⟨a1, a2⟩
      · exact .inl hh
      · have e := hlo t ht a1
        rw [e] at a1 a2
        exact .inr ⟨a1, a2⟩ }
  refine ⟨K2, v, rfl, ⟨fun t b ht hb => hK'.lt (g t) b (hlt t ht) hb, fun s t b hs ht a1 a2 => hinj s t hs ht (hK'.inj (g s) (g t) b (hlt s hs) (hlt t ht) a1 a2), fun t ht => ?_, hK'.pin.sub fun t b ht hb => ⟨g t, hlt t ht, hb⟩⟩, hE2, hr.rep R hrv⟩
  by_cases hc : t ∈ T ∨ h.n ≤ t
  · exact (ho t ht hc).robj (fun a b => a.rep R b) (hK'.obj (g t) (hlt t ht))
  · have a1 : t < h.n := by omega
    have a2 : t ∉ T := fun x => hc (.inl x)
    have e1 : K2 t = K t := (hE2.keep t a1 a2).1
    rw [e1, hold t a1 a2]
    exact (hK.obj t a1).ext hE2 fun b hb => hE.same b (hK.lt t b a1 hb) fun s hs hsn hsb => by
      have := hK.inj t s b a1 hsn hb hsb
      subst this; exact a2 hs
/-- less is told, object by object, at a function's end: L are all that may have turned, the new ones among them -/
theorem fin_objs {h0 h h' : AH} {x r : AV} (L : List Nat) (hn0 : h0.n ≤ h'.n) (hn : h'.n ≤ h.n) (hx : Fz h h'.n x r) (old : ∀ t, t < h0.n → t ∉ T → h'.o t = h0.o t)
    (cover : ∀ t, t < h'.n → (t ∈ T ∨ h0.n ≤ t) → t ∈ L) (each : EachO L fun t => ObjFz h h'.n (h.o t) (h'.o t)) : FinS T h0 h x h' r :=
  ⟨hn0, hn, hx, old, fun t h1 h2 => eachO each t (cover t h1 h2)⟩
end Go.Isea

namespace Go.Isea
open Go
section
variable {P : Program} {h : AH}
/-- what is nil may be told as a slice of one's own, without parts -/
theorem Good.ghostT {k : FuncId} {args : List AV} {T : List Nat} {l e sz : Nat} {cs cs' : List AV} {r : AV} {h' : AH} (hsz : 0 < sz) (hlT : l ∈ T) (hl : l < h.n) (ho : h.o l = .cells cs) (hc : cs'.length = cs.length)
    (hcs : ∀ (i : Nat) (x y : AV), cs[i]? = some x → cs'[i]? = some y → y = x ∨ y = .junk ∨ (x = .v (.slice none 0 0) ∧ y = .so h.n 0 0))
    (hg : Isea.Good P k args ⟨h.n + 1, upd (upd h.o l (.cells cs')) h.n (.rows e sz [])⟩ (h.n :: T) r h') : Isea.Good P k args h T r h' := by
  refine ⟨hg.1, fun K w vs hK hvs => ?_⟩
  let K1 : KM := upd K h.n (.slice none 0 0)
  let h1 : AH := ⟨h.n + 1, upd (upd h.o l (.cells cs')) h.n (.rows e sz [])⟩
  have hln : ¬ l = h.n := by omega
  have hKt : ∀ t, t < h.n → K1 t = K t := fun t ht => upd_ne _ _ (by omega)
  have hKn : K1 h.n = .slice none 0 0 := upd_same _ _ _
  have hol : h1.o l = .cells cs' := by show upd (upd h.o l _) h.n _ l = _; rw [upd_ne _ _ hln, upd_same]
  have hon : h1.o h.n = .rows e sz [] := upd_same _ _ _
  have hot : ∀ t, t < h.n → t ≠ l → h1.o t = h.o t := fun t ht htl => by show upd (upd h.o l _) h.n _ t = _; rw [upd_ne _ _ (by omega), upd_ne _ _ htl]
  have E : Ext T K h w K1 h1 w := ⟨rfl, rfl, rfl, Nat.le_refl _, Nat.le_succ _, fun _ _ _ => rfl, fun t ht htl => ⟨hKt t ht, hot t ht (fun e => htl (e ▸ hlT))⟩, fun t ht htl => by
      by_cases e : t = l
      · subst e
        rw [ho, hol, hKt t ht]; rfl
      · rw [hot t ht e, hKt t ht]; exact Grew.refl _ _, fun t b ht hb => by
      have ht : t < h.n + 1 := ht
      by_cases hh : t = h.n
      · subst hh; rw [hKn] at hb; cases hb
      · exact .inr ⟨by omega, by rw [hKt t (by omega)] at hb; exact hb⟩⟩
  have R1 : RH K1 h1 w := by
    refine ⟨fun t b ht hb => ?_, fun s t b hs ht h1 h2 => ?_, fun t ht => ?_, hK.pin.ext E⟩
    · have ht : t < h.n + 1 := ht
      by_cases hh : t = h.n
      · subst hh; rw [hKn] at hb; cases hb
      · rw [hKt t (by omega)] at hb; exact hK.lt t b (by omega) hb
    · have hs : s < h.n + 1 := hs
      have ht : t < h.n + 1 := ht
      by_cases hh : s = h.n
      · subst hh; rw [hKn] at h1; cases h1
      · by_cases hh' : t = h.n
        · subst hh'; rw [hKn] at h2; cases h2
        · rw [hKt s (by omega)] at h1; rw [hKt t (by omega)] at h2
          exact hK.inj s t b (by omega) (by omega) h1 h2
    · have ht : t < h.n + 1 := ht
      by_cases hh : t = h.n
      · subst hh
        rw [hKn, hon]
        exact ⟨[], ⟨by simp, .inl ⟨rfl, rfl⟩⟩, hsz, fun r hr => (by cases hr), fun i j r x y g => (by simp at g)⟩
      · rw [hKt t (by omega)]
        by_cases htl : t = l
        · subst htl
          rw [hol]
          have := hK.obj t hl
          rw [ho] at this
          obtain ⟨b, vs', ty, e1, e2, e3⟩ := this
          refine ⟨b, vs', ty, e1, e2, e3.1.trans hc.symm, fun i y v g1 g2 => ?_⟩
          have hi : i < cs.length := by
            have := (List.getElem?_eq_some_iff.1 g1).1
            omega
          have hr := e3.2 i _ v (List.getElem?_eq_getElem hi) g2
          rcases hcs i _ y (List.getElem?_eq_getElem hi) g1 with g | g | ⟨g, g'⟩
          · rw [g]; exact hr.ext E
          · rw [g]; exact .junk _
          · rw [g'] ; rw [g] at hr
            cases hr
            refine .so (Nat.lt_succ_self _) fun e' sz' rs' he => ?_
            rw [hon] at he
            cases he
            refine ⟨Nat.le_refl _, fun _ => ⟨Nat.le_refl _, ?_⟩⟩
            rw [hKn]; exact Hd.self (Nat.le_refl _)
        · rw [hot t (by omega) htl]
          exact (hK.obj t (by omega)).ext E fun b hb => rfl
  refine (hg.2 K1 w vs R1 (hvs.ext E)).mono ?_
  rintro ee w' ⟨K', v, h1', h2', h3', h4'⟩
  exact ⟨K', v, h1', h2', E.trans h3' (fun t ht _ => ht) (fun t ht htn => by
    rcases List.mem_cons.1 ht with ht | ht
    · omega
    · exact ht), h4'⟩
end
end Go.Isea

namespace Go.Isea
open Go
section
variable {P : Program} {t : TypeId} {p q : Operand} {a b : Bool}
theorem equal_bool (hs : P.underlying t = some .bool) {d : Nat} : semPure P (Op.equalIn (d + 1) t (.bool a) (.bool b)) = some (decide (a = b)) := by
  simp only [Op.equalIn, semPure_bind', semPure_und hs]
  cases a <;> cases b <;> rfl
@[go_sem] theorem bin_eqlb (hs : P.underlying t = some .bool) : abin P .eql t p q (.v (.bool a)) (.v (.bool b)) = some (.v (.bool (decide (a = b)))) := by
  have h2 := equal_bool hs (d := 9999) (a := a) (b := b)
  have h1 : semPure P (do eqGuard .eql t p q (.bool a) (.bool b); binOp .eql t (.bool a) (.bool b)) = some (.bool (decide (a = b))) := by
    show semPure P (do let r ← Op.equal t _ _; pure (Value.bool r)) = _
    unfold Op.equal
    rw [semPure_bind', show Op.maxDepth = 9999 + 1 from rfl, h2]
    rfl
  show ofVo (semPure P _) = _
  rw [h1]; rfl
@[go_sem] theorem bin_neqb (hs : P.underlying t = some .bool) : abin P .neq t p q (.v (.bool a)) (.v (.bool b)) = some (.v (.bool (decide (¬ a = b)))) := by
  have h2 := equal_bool hs (d := 9999) (a := a) (b := b)
  have h1 : semPure P (do eqGuard .neq t p q (.bool a) (.bool b); binOp .neq t (.bool a) (.bool b)) = some (.bool (decide (¬ a = b))) := by
    show semPure P (do let r ← Op.equal t _ _; pure (Value.bool !r)) = _
    unfold Op.equal
    rw [semPure_bind', show Op.maxDepth = 9999 + 1 from rfl, h2]
    simp [semPure, pure]
  show ofVo (semPure P _) = _
  rw [h1]; rfl
end
end Go.Isea

namespace Go.Isea
open Go
structure SS where
  a : List Need
  f : Need
  st : List Need
abbrev AskR := L8 × SS × L8
def SS.no (s : SS) (n : Need) (st : List Need) : SS := ⟨s.a, n, st⟩
def SS.ask (s : SS) (n : Need) : SS := ⟨s.a ++ [n], s.f, s.st⟩
def mostSp (w : Wld) (l : List Nat) : Option Nat := l.find? fun i => !l.any (spAt w i)
/-- the candidate that is taken -/
def pickG (w : Wld) (sp : Bool) : List Nat → Option Nat
  | [] => none
  | [k] => some k
  | k :: k2 :: r => if sp = true then mostSp w (k :: k2 :: r) else none
def whyG : List Nat → L8
  | [] => noneL
  | _ :: _ => manyL
def askGL (fd : Need → SS → AskR) : List Need → Nat → L8 → SS → AskR
  | [], _, out, s => (out, s, [])
  | m :: ms, k, out, s => if (fd m s).2.2 = [] then askGL fd ms (k + 1) (out ++ [sep k] ++ (fd m s).1) (fd m s).2.1 else ([], (fd m s).2.1, (fd m s).2.2)
theorem askGL_cons {fd : Need → SS → AskR} {m : Need} {ms : List Need} {k : Nat} {out : L8} {s : SS} : askGL fd (m :: ms) k out s = if (fd m s).2.2 = [] then askGL fd ms (k + 1) (out ++ [sep k] ++ (fd m s).1) (fd m s).2.1 else ([], (fd m s).2.1, (fd m s).2.2) := rfl
theorem askGL_nil {fd : Need → SS → AskR} {k : Nat} {out : L8} {s : SS} : askGL fd [] k out s = (out, s, []) := rfl
def closeG (ms : List Need) (x : AskR) : AskR := if x.2.2 = [] then (x.1 ++ (if ms.length = 0 then [] else [41]), x.2.1, []) else ([], x.2.1, x.2.2)
def askGI (fd : Need → SS → AskR) (w : Wld) (st : List Need) (n : Need) (s : SS) (k : Nat) : AskR := match w.is[k]? with
  | some i => (match needsOf i n.t with
    | some ms => closeG ms (askGL fd ms 0 (digitL k) s)
    | none => ([], s.no n st, bigL))
  | none => ([], s.no n st, noneL)
def askGB (fd : Need → SS → AskR) (w : Wld) (sp : Bool) (st : List Need) (n : Need) (s : SS) : AskR := match pickG w sp (candIx w n) with
  | none => ([], s.no n st, whyG (candIx w n))
  | some k => askGI fd w st n s k
def askG (w : Wld) (sp : Bool) (g : Need → L8) : Nat → List Need → Need → SS → AskR
  | 0, st, n, s => if g n ≠ [] then (g n, s, []) else if 300 ≤ s.a.length then ([], s.no n st, longL) else ([], (s.ask n).no n st, deepL)
  | f + 1, st, n, s => if g n ≠ [] then (g n, s, []) else if 300 ≤ s.a.length then ([], s.no n st, longL) else askGB (askG w sp g f (st ++ [n])) w sp st n (s.ask n)
theorem pickG_mem {w : Wld} {sp : Bool} {l : List Nat} {k : Nat} (h : pickG w sp l = some k) : k ∈ l := by
  unfold pickG at h
  split at h
  · cases h
  · cases h; simp
  · split at h
    · exact List.mem_of_find?_eq_some h
    · cases h
/-- where nothing fails, nothing is noted -/
def Keeps (s : SS) (x : AskR) : Prop := (x.2.2 = [] → x.2.1.f = s.f ∧ x.2.1.st = s.st) ∧ s.a.length ≤ x.2.1.a.length ∧ (s.a.length ≤ 300 → x.2.1.a.length ≤ 300)
theorem askGL_keeps {fd : Need → SS → AskR} (h : ∀ m s, Keeps s (fd m s)) : ∀ (ms : List Need) (k : Nat) (out : L8) (s : SS), Keeps s (askGL fd ms k out s)
  | [], k, out, s => ⟨fun _ => ⟨rfl, rfl⟩, Nat.le_refl _, id⟩
  | m :: ms, k, out, s => by
    rw [askGL_cons]
    obtain ⟨h1, h2, h3⟩ := h m s
    split
    · rename_i hw
      obtain ⟨g1, g2, g3⟩ := askGL_keeps h ms (k + 1) (out ++ [sep k] ++ (fd m s).1) (fd m s).2.1
      exact ⟨fun e => ⟨(g1 e).1.trans (h1 hw).1, (g1 e).2.trans (h1 hw).2⟩, by omega, fun e => g3 (h3 e)⟩
    · rename_i hw
      exact ⟨fun e => absurd e hw, h2, h3⟩
theorem closeG_keeps {ms : List Need} {s : SS} {x : AskR} (h : Keeps s x) : Keeps s (closeG ms x) := by
  unfold closeG
  split
  · rename_i hw
    exact ⟨fun _ => h.1 hw, h.2.1, h.2.2⟩
  · rename_i hw
    exact ⟨fun e => absurd e hw, h.2.1, h.2.2⟩
theorem whyG_ne (l : List Nat) : whyG l ≠ [] := by cases l <;> simp [whyG, noneL, manyL]
theorem askG_keeps {w : Wld} {sp : Bool} {g : Need → L8} : ∀ (f : Nat) (st : List Need) (n : Need) (s : SS), Keeps s (askG w sp g f st n s)
  | 0, st, n, s => by
    unfold askG
    split
    · exact ⟨fun _ => ⟨rfl, rfl⟩, Nat.le_refl _, id⟩
    · split
      · exact ⟨fun e => absurd e (by simp [longL]), Nat.le_refl _, id⟩
      · exact ⟨fun e => absurd e (by simp [deepL]), by simp [SS.ask, SS.no], fun _ => by simp [SS.ask, SS.no]; omega⟩
  | f + 1, st, n, s => by
    unfold askG
    split
    · exact ⟨fun _ => ⟨rfl, rfl⟩, Nat.le_refl _, id⟩
    · split
      · exact ⟨fun e => absurd e (by simp [longL]), Nat.le_refl _, id⟩
      · rename_i ha
        have hl : (s.ask n).a.length = s.a.length + 1 := by simp [SS.ask]
        have up : ∀ x, Keeps (s.ask n) x → Keeps s x := fun x hx => ⟨hx.1, by have := hx.2.1; omega, fun _ => hx.2.2 (by omega)⟩
        refine up _ ?_
        unfold askGB
        split
        · exact ⟨fun e => absurd e (whyG_ne _), Nat.le_refl _, id⟩
        · unfold askGI
          split
          · split
            · exact closeG_keeps (askGL_keeps (fun m s => askG_keeps f _ m s) _ _ _ _)
            · exact ⟨fun e => absurd e (by simp [bigL]), Nat.le_refl _, id⟩
          · exact ⟨fun e => absurd e (by simp [noneL]), Nat.le_refl _, id⟩
theorem askGL_bd {fd : Need → SS → AskR} {B : Nat} : ∀ (ms : List Need) (k : Nat) (out : L8) (s : SS), (∀ m ∈ ms, ∀ s, (fd m s).1.length ≤ B) →
    (askGL fd ms k out s).1.length ≤ out.length + ms.length * (B + 1)
  | [], k, out, s, _ => by simp [askGL]
  | m :: ms, k, out, s, h => by
    have h1 := h m (List.mem_cons_self ..) s
    rw [askGL_cons]
    split
    · have := askGL_bd ms (k + 1) (out ++ [sep k] ++ (fd m s).1) (fd m s).2.1 (fun m' hm' => h m' (List.mem_cons_of_mem _ hm'))
      refine Nat.le_trans this ?_
      simp only [List.length_append, List.length_cons, List.length_nil, Nat.succ_mul]
      omega
    · simp
theorem askG_bd {w : Wld} {sp : Bool} {g : Need → L8} (h : worldOk w = true) (hw : w.Sm) (hg : ∀ n, NOk w n → (g n).length ≤ 2) : ∀ (f : Nat) (st : List Need) (n : Need) (s : SS), NOk w n → (askG w sp g f st n s).1.length + 3 ≤ 5 * 3 ^ f
  | 0, st, n, s, hn => by
    have := hg n hn
    unfold askG
    split
    · simp; omega
    · split <;> simp
  | f + 1, st, n, s, hn => by
    have hgn := hg n hn
    have hp : 1 ≤ 3 ^ f := Nat.one_le_pow _ _ (by decide)
    unfold askG
    rw [Nat.pow_succ]
    split
    · show (g n).length + 3 ≤ _; omega
    · split
      · simp; omega
      · unfold askGB
        split
        · simp; omega
        · unfold askGI
          split
          · rename_i k _ _ i hi
            split
            · rename_i ms hms
              obtain ⟨hl, hmm⟩ := needs_ok h hw hi hms
              have := askGL_bd (fd := askG w sp g f (st ++ [n])) (B := 5 * 3 ^ f - 3) ms 0 (digitL k) (s.ask n) (fun m hm s => by have := askG_bd (sp := sp) h hw hg f (st ++ [n]) m s (hmm m hm).1; omega)
              have e1 : (digitL k).length = 1 := rfl
              rw [e1] at this
              have h3 : ms.length * (5 * 3 ^ f - 3 + 1) ≤ 3 * (5 * 3 ^ f - 3 + 1) := Nat.mul_le_mul_right _ hl
              unfold closeG
              split
              · simp only [List.length_append]
                split <;> simp only [List.length_cons, List.length_nil] <;> omega
              · simp; omega
            · simp; omega
          · simp; omega
end Go.Isea

namespace Go.Isea
open Go
theorem Ren.of_lo {g : Nat → Nat} {D : Nat → Prop} {x : AV} (h : Lo 0 x) : Ren True g D x x := by
  induction h with
  | v x => exact .v x
  | junk => exact .junk _
  | agg _ ih => exact .agg rfl fun i x y h1 h2 => by rw [h1] at h2; cases h2; exact ih x (List.mem_of_getElem? h1)
  | tup _ ih => exact .tup rfl fun i x y h1 h2 => by rw [h1] at h2; cases h2; exact ih x (List.mem_of_getElem? h1)
  | sl _ ih => exact .sl trivial ih
  | ref _ ih => exact .ref trivial ih
  | so ht => exact absurd ht (Nat.not_lt_zero _)
  | ptr ht => exact absurd ht (Nat.not_lt_zero _)
  | pel ht => exact absurd ht (Nat.not_lt_zero _)
  | mp ht => exact absurd ht (Nat.not_lt_zero _)
  | fn _ ih => exact .fn rfl fun i x y h1 h2 => by rw [h1] at h2; cases h2; exact ih x (List.mem_of_getElem? h1)
theorem Ren.so' {fr : Prop} {g : Nat → Nat} {D : Nat → Prop} {t t' n len : Nat} (ht : D t) (e : g t = t') : Ren fr g D (.so t' n len) (.so t n len) := e ▸ .so ht
theorem RenO.of_rows {g : Nat → Nat} {D : Nat → Prop} {e sz : Nat} {rs : List (List AV)} (h : PuR rs) : RenO True g D (.rows e sz rs) (.rows e sz rs) :=
  ⟨rfl, rfl, rfl, fun i r r' h1 h2 => by rw [h1] at h2; cases h2; rfl, fun i j r r' x y h1 h2 h3 h4 => by
    rw [h1] at h2; cases h2; rw [h3] at h4; cases h4
    exact Ren.of_lo (h 0 r (List.mem_of_getElem? h1) x (List.mem_of_getElem? h3))⟩
def stC (tb : Nat) : List Need → AV
  | [] => .v (.slice none 0 0)
  | x :: xs => .so tb (xs.length + 1) (xs.length + 1)
@[go_sem] theorem stC_nil {tb : Nat} : stC tb [] = .v (.slice none 0 0) := (rfl)
@[go_sem] theorem stC_cons {tb : Nat} {x : Need} {xs : List Need} : stC tb (x :: xs) = .so tb (xs.length + 1) (xs.length + 1) := (rfl)
@[go_sem] theorem stC_fz {h : AH} {m tb : Nat} {st : List Need} (hb : tb < m) : Fz h m (stC tb st) (stC tb st) = True := by
  cases st with
  | nil => exact eq_true (.v _)
  | cons x xs => exact eq_true (.so hb)
@[go_sem] theorem stC_cells {tb : Nat} {st : List Need} : (stC tb st).cells = [stC tb st] := by cases st <;> rfl
def mostV : Option Nat → AV
  | some k => .v (.int .i64 (k : Nat))
  | none => .v (.int .i64 (-1))
@[go_sem] theorem callS_g {C : Cx} {s : List Nat} {k : FuncId} {args cap : List AV} {K : AV → AH → Prop} {h : AH} : CallS C s (.fn k cap) args (.mk K) h = CallT C s k (args ++ cap) (.mk K) h := by
  cases cap with
  | nil => rw [List.append_nil]; exact callS_f
  | cons x c => exact callS_c
@[go_sem] theorem mem_3a {l t u : Nat} : (l ∈ [l, t, u]) = True := by simp
@[go_sem] theorem mem_3b {l t u : Nat} : (t ∈ [l, t, u]) = True := by simp
@[go_sem] theorem mem_3c {l t u : Nat} : (u ∈ [l, t, u]) = True := by simp
theorem fin_three {h0 h : AH} {l t u : Nat} {x r : AV} {o1 o2 o3 : AObj} (hlt : ¬ l = t) (hlu : ¬ l = u) (htu : ¬ t = u) (hn : h0.n ≤ h.n) (hx : Fz h h0.n x r) (h1 : ObjFz h h0.n (h.o l) o1) (h2 : ObjFz h h0.n (h.o t) o2) (h3 : ObjFz h h0.n (h.o u) o3) :
    FinS [l, t, u] h0 h x ⟨h0.n, upd (upd (upd h0.o l o1) t o2) u o3⟩ r where
  n0 := Nat.le_refl _
  n := hn
  fz := hx
  old i hi hT := by
    simp only [List.mem_cons, List.not_mem_nil, or_false, not_or] at hT
    simp [upd, hT.1, hT.2.1, hT.2.2]
  turned i hi hT := by
    rcases hT with hT | hT
    · simp only [List.mem_cons, List.not_mem_nil, or_false] at hT
      by_cases e : i = u
      · subst e; simpa [upd] using h3
      · by_cases e2 : i = t
        · subst e2; simpa [upd, htu] using h2
        · have : i = l := by rcases hT with g | g | g; exact g; exact absurd g e2; exact absurd g e
          subst this
          simpa [upd, hlt, hlu] using h1
    · have hi' : i < h0.n := hi
      omega
end Go.Isea
namespace Go.Proofs.YtnocdggngfiebaaGreatDoor
open Go Go.Isea
set_option maxRecDepth 100000
set_option maxHeartbeats 8000000
theorem i_mostSpecialG (w : Wld) (l : List Nat) (h : AH) (hw : w.Sm) (hl : l.length ≤ 1000) (hm : ∀ k ∈ l, k < w.is.length) : Isea.Good Tryz.prog 151 [.agg w.row, .sl (l.map iRow)] h [] (mostV (mostSp w l)) h := by
  have hM : mostSp w l = l.find? fun i => !l.any (spAt w i) := rfl
  generalize mostSp w l = M at hM
  refine good [] [] Tryz.func151 rfl rfl Tryz.ntmps151 (by kernel_rfl) mixed (by kernel_rfl) ?_
  simp -dsimp only [go_sem, Wld.row]
  refine loop_ruleH [1, 0, 4, 0] (fun (k : {k : Nat // k ≤ l.length ∧ M = (l.drop k).find? fun i => !l.any (spAt w i)}) H => ([(9, .v (.int .i64 (k.1 : Nat)))], H)) (fun k => l.length - k.1) ⟨0, Nat.zero_le _, hM⟩ ?_ ?_
  · exact weak_at rfl (by simp -dsimp only [go_sem]) (fun x hx => by simp -dsimp only [go_sem, hx]) (by simp -dsimp only [go_sem, Wld.row])
  · rintro ⟨k, hk, hf⟩
    have h1 : k + 1 ≤ 9223372036854775807 := by omega
    by_cases hlt : k < l.length
    · obtain ⟨c, hb⟩ := get_some hlt
      have hc := hm c (List.mem_of_getElem? hb)
      rw [drop_get hb, List.find?_cons] at hf
      simp -dsimp only [go_sem, hlt, hb, iRow]
      refine call_pure (l_ContainsFunc_int l 237 [.ref w.row 0, .ptr h.n 0] (spAt w c) _ (by omega) ?_ (fun m hm' => i_mostSpecial1 w c m h.n _ hw ?_ ?_ hc (hm m hm'))) ?_
      · simp -dsimp only [go_sem, Wld.row]
      · simp
      · simp -dsimp only [go_sem]
      · cases e : l.any (spAt w c) with
        | true =>
          rw [e] at hf
          simp -dsimp only [go_sem, h1]
          exact round_to ⟨k + 1, hlt, hf⟩ (by simp; omega) (weak_at rfl (by simp -dsimp only [go_sem]) (fun x hx => by simp -dsimp only [go_sem, hx]) (by simp -dsimp only [go_sem]))
        | false =>
          rw [e] at hf
          have hf : M = some c := hf
          subst hf
          simp -dsimp only [go_sem]
          exact fin_pure (by simp -dsimp only [go_sem]) (.v _)
    · rw [List.drop_of_length_le (by omega)] at hf
      have hf : M = none := hf
      subst hf
      simp -dsimp only [go_sem, hlt]
      exact fin_pure (by simp -dsimp only [go_sem]) (.v _)
def gCells (w : Wld) (sp : Bool) (fk : FuncId) (cap : List AV) (ta tb : Nat) (s : SS) : List AV := [.sl (w.cs.map Cls.row), .sl (w.is.map Inst.row), .v (.bool sp), .fn fk cap, .so ta s.a.length s.a.length, str s.f.c, str s.f.t, stC tb s.st]
theorem i_failG (w : Wld) (sp : Bool) (fk : FuncId) (cap : List AV) (l ta tb : Nat) (n : Need) (st : List Need) (s : SS) (x : L8) (h : AH) (hcap : PuL cap) (hl : l < h.n) (hta : ta < h.n) (htb : tb < h.n) (h1 : ¬ l = ta) (h2 : ¬ l = tb) (h3 : ¬ ta = tb)
    (ho : h.o l = .cells (gCells w sp fk cap ta tb s)) (hob : h.o tb = .rows 28 2 []) (hs : s.st = []) (hst : st.length ≤ 1000) :
    Isea.Good Tryz.prog 262 [str x, .ref n.row 0, .ref [stA st] 0, .ref [.ptr l 0] 0] h [l, tb] (.tup [str [], str x]) ⟨h.n, upd (upd h.o l (.cells (gCells w sp fk cap ta tb (s.no n st)))) tb (.rows 28 2 (st.map Need.row))⟩ := by
  have hcz : ∀ (H : AH) (m : Nat), FzL H m cap cap := fun H m => ⟨rfl, fun i x y h1 h2 => by rw [h1] at h2; cases h2; exact Fz.of_lo (hcap m x (List.mem_of_getElem? h1))⟩
  have hln : ¬ l = h.n := by omega
  have htn : ¬ tb = h.n := by omega
  have hnt : ¬ h.n = tb := by omega
  have hbl : ¬ tb = l := fun e => h2 e.symm
  have hnl : ¬ h.n = l := by omega
  have han : ¬ ta = h.n := by omega
  cases st with
  | nil =>
    refine good [] [] Tryz.func262 rfl rfl Tryz.ntmps262 (by kernel_rfl) mixed (by kernel_rfl) ?_
    simp -dsimp only [go_sem, Need.row, stA]
    refine call_pure (l_Clone_nil _) ?_
    simp -dsimp only [go_sem, hl, ho, gCells, hs]
    refine fin_two h2 (by simp -dsimp only [go_sem]) (by simp -dsimp only [go_sem]) ?_ ?_
    · simp -dsimp only [go_sem, ho, gCells, hta, Wld.row, SS.no, hcz]
    · simp -dsimp only [go_sem, hob, hbl, List.map_nil]
  | cons y ys =>
    have hfirst : Isea.Good Tryz.prog 262 [str x, .ref n.row 0, .ref [stA (y :: ys)] 0, .ref [.ptr l 0] 0] h [l, tb] (.tup [str [], str x])
        ⟨h.n + 1, upd (upd h.o l (.cells (gCells w sp fk cap ta h.n (s.no n (y :: ys))))) h.n (.rows 28 2 ((y :: ys).map Need.row))⟩ := by
      refine good [] [] Tryz.func262 rfl rfl Tryz.ntmps262 (by kernel_rfl) mixed (by kernel_rfl) ?_
      simp -dsimp only [go_sem, Need.row, stA]
      refine call_pure (l_Clone_Need y ys _ (by simp at hst; omega)) ?_
      simp -dsimp only [go_sem, hl, ho, gCells, hs, hln]
      refine fin_objs [l, tb, h.n] (by simp -dsimp only [go_sem]) (by simp -dsimp only [go_sem]) (by simp -dsimp only [go_sem]) ?_ ?_ ?_
      · intro t a1 a2
        have a2 : ¬ t = l ∧ ¬ t = tb := by simpa using a2
        have a3 : ¬ t = h.n := by omega
        simp -dsimp only [go_sem, a2, a3]
      · intro t a1 a2
        have a1 : t < h.n + 1 := a1
        simp at a2 ⊢; omega
      · simp -dsimp only [go_sem, hl, hta, htb, hln, htn, hbl, hnl, hob, SS.no, Need.row, List.map_cons, hcz, Wld.row]
    refine hfirst.ren (fun t => if t = tb then h.n else t) (Nat.le_refl _) (fun t ht => ?_) (fun a b ha hb e => ?_) (fun t ht hT => ?_) (fun t ht hg => ?_) (fun t ht hT => ?_) (fun t ht hT => ?_) (fun t ht hT => ?_) ?_
    · have ht : t < h.n := ht
      show (if t = tb then h.n else t) < h.n + 1
      split <;> omega
    · have ha : a < h.n := ha
      have hb : b < h.n := hb
      have e : (if a = tb then h.n else a) = (if b = tb then h.n else b) := e
      split at e <;> split at e <;> omega
    · have : ¬ t = tb := fun e => hT (by simp [e])
      exact if_neg this
    · have hg : (if t = tb then h.n else t) < h.n := hg
      show (if t = tb then h.n else t) = t
      split at hg
      · omega
      · rename_i hh; exact if_neg hh
    · by_cases e : t = tb
      · right
        subst e
        exact ⟨_, _, _, _, hob, by show upd (upd h.o l _) t _ t = _; rw [upd_same], by simp⟩
      · left; exact if_neg e
    · have a2 : ¬ t = l ∧ ¬ t = tb := by simpa using hT
      show upd (upd h.o l _) tb _ t = _
      rw [upd_ne _ _ a2.2, upd_ne _ _ a2.1]
    · have ht : t < h.n := ht
      have hT : t = l ∨ t = tb := by
        rcases hT with hT | hT
        · simpa using hT
        · omega
      rcases hT with rfl | rfl
      · show RenO True _ _ (upd (upd h.o t _) h.n _ (if t = tb then h.n else t)) (upd (upd h.o t _) tb _ t)
        rw [if_neg h2, upd_ne _ _ hln, upd_same, upd_ne _ _ h2, upd_same]
        refine ⟨rfl, fun i a b g1 g2 => ?_⟩
        unfold gCells at g1 g2
        rcases i with _ | _ | _ | _ | _ | _ | _ | _ | i <;> simp [SS.no, stC] at g1 g2 <;> subst g1 <;> subst g2
        · exact Ren.of_lo (.sl fun r hr x hx => (of_eq_true puR_clss) 0 r hr x hx)
        · exact Ren.of_lo (.sl fun r hr x hx => (of_eq_true puR_insts) 0 r hr x hx)
        · exact .v _
        · exact Ren.of_lo (.fn fun x hx => hcap 0 x hx)
        · exact Ren.so' hta (if_neg h3)
        · exact .v _
        · exact .v _
        · exact Ren.so' htb (if_pos rfl)
      · show RenO True _ _ (upd (upd h.o l _) h.n _ (if t = t then h.n else t)) (upd (upd h.o l _) t _ t)
        rw [if_pos rfl, upd_same, upd_same]
        exact RenO.of_rows (of_eq_true puR_needs)
    · exact Ren.of_lo (.tup fun x hx => by
        simp at hx
        rcases hx with rfl | rfl <;> exact .v _)
end Go.Proofs.YtnocdggngfiebaaGreatDoor

namespace Go.Isea
open Go
theorem pick_four (w : Wld) (sp : Bool) (n : Need) : candIx w n = [] ∨ (∃ k, candIx w n = [k]) ∨ (∃ k k2 r, candIx w n = k :: k2 :: r) := by
  rcases list_cases (candIx w n) with h | ⟨k, h⟩ | ⟨k, k2, r, h⟩
  · exact .inl h
  · exact .inr (.inl ⟨k, h⟩)
  · exact .inr (.inr ⟨k, k2, r, h⟩)
theorem askG_got {w : Wld} {sp : Bool} {g : Need → L8} {f : Nat} {st : List Need} {n : Need} {s : SS} (h : ¬ g n = []) : askG w sp g f st n s = (g n, s, []) := by
  cases f <;> simp [askG, h]
theorem askG_not {w : Wld} {sp : Bool} {g : Need → L8} {f : Nat} {st : List Need} {n : Need} {s : SS} (h : g n = []) : askG w sp g f st n s = if 300 ≤ s.a.length then ([], s.no n st, longL) else match f with | 0 => ([], (s.ask n).no n st, deepL) | f' + 1 => askGB (askG w sp g f' (st ++ [n])) w sp st n (s.ask n) := by
  cases f <;> simp [askG, h]
end Go.Isea
namespace Go.Proofs.YtnocdggngfiebaaGreatDoor
open Go Go.Isea
set_option maxRecDepth 100000
set_option maxHeartbeats 16000000
def AskOkG (w : Wld) (sp : Bool) (fk : FuncId) (cap : List AV) (g : Need → L8) (f : Nat) : Prop := ∀ (l ta tb : Nat) (n : Need) (st : List Need) (s : SS) (h : AH), l < h.n → ta < h.n → tb < h.n → ¬ l = ta → ¬ l = tb → ¬ ta = tb →
    h.o l = .cells (gCells w sp fk cap ta tb s) → h.o ta = .rows 28 2 (s.a.map Need.row) → h.o tb = .rows 28 2 [] → s.st = [] → NOk w n → s.a.length ≤ 300 → f ≤ 31 → st.length = 31 - f →
    Isea.Good Tryz.prog 194 [.ptr l 0, .agg n.row, stA st] h [l, ta, tb] (.tup [str (askG w sp g f st n s).1, str (askG w sp g f st n s).2.2])
      ⟨h.n, upd (upd (upd h.o l (.cells (gCells w sp fk cap ta tb (askG w sp g f st n s).2.1))) ta (.rows 28 2 ((askG w sp g f st n s).2.1.a.map Need.row))) tb (.rows 28 2 ((askG w sp g f st n s).2.1.st.map Need.row))⟩
theorem i_askG_step {w : Wld} {sp : Bool} {fk : FuncId} {cap : List AV} {g : Need → L8} (hcap : PuL cap) (hok : worldOk w = true) (hw : w.Sm) (hgl : ∀ n, NOk w n → (g n).length ≤ 2)
    (hgiv : ∀ n H, NOk w n → Isea.Good Tryz.prog fk (.agg n.row :: cap) H [] (.tup [str (g n), .v (.bool (gotB (g n)))]) H) {f : Nat} (ih : ∀ f', f = f' + 1 → AskOkG w sp fk cap g f') : AskOkG w sp fk cap g f := by
  intro l ta tb n st s h hl hta htb hla hlb hab ho hoa hob hs0 hn ha hf hst
  have hal' : ¬ ta = l := fun e => hla e.symm
  have hbl : ¬ tb = l := fun e => hlb e.symm
  have hba : ¬ tb = ta := fun e => hab e.symm
  obtain ⟨d, hd, _, _⟩ := known_letter (world_cls hok) hn.1
  have hwl := world_len hok
  have hmem : ∀ k, k ∈ candIx w n → ∃ i, w.is[k]? = some i ∧ i.c = n.c ∧ (matchS i.t n.t).isSome = true := fun k hk => cand_mem hk
  have hcz : ∀ (H : AH) (m : Nat), FzL H m cap cap := fun H m => ⟨rfl, fun i x y h1 h2 => by rw [h1] at h2; cases h2; exact Fz.of_lo (hcap m x (List.mem_of_getElem? h1))⟩
  have hfail := fun s' x H => i_failG w sp fk cap l ta tb n st s' x H hcap
  have hcand := i_candidates w n
  have hst2 : st.length ≤ 1000 := by omega
  have ha6 : (s.a.length + 1) * 32 ≤ 140737488355328 := by omega
  have har : ∀ r ∈ s.a.map Need.row ++ [n.row], r.length = 2 := fun r hr => by
    rcases List.mem_append.1 hr with hr | hr
    · obtain ⟨x, _, rfl⟩ := List.mem_map.1 hr; rfl
    · rw [List.mem_singleton.1 hr]; rfl
  have hgn := hgiv n
  refine good [] [(22, OT.o 0 (OT.o 2 ((OT.o 1 (OT.o 3 (OT.o 4 (OT.o 5 OT.e)))).f (OT.o 3 (OT.o 1 (OT.o 4 (OT.o 5 OT.e)))))))] Tryz.func194 rfl rfl Tryz.ntmps194 (by kernel_rfl) mixed (by kernel_rfl) ?_
  simp -dsimp only [go_sem, Need.row, Wld.row, hl, ho, gCells, hcz] at hgn hfail hcand ⊢
  refine call_pure (hgn _ hn) ?_
  by_cases hg : g n = []
  · have eS := askG_not (w := w) (sp := sp) (f := f) (st := st) (s := s) hg
    have e0 : gotB (g n) = false := by rw [hg]; rfl
    rw [e0]
    simp -dsimp only [go_sem, hl, ho, hoa, gCells, List.length_map]
    by_cases hlong : 300 ≤ s.a.length
    · have h300 : (300 : Int) ≤ (s.a.length : Nat) := by omega
      rw [eS, if_pos hlong]
      simp -dsimp only [go_sem, h300, hcz, hl]
      refine call_turn (hfail s _ _ hl hta htb hla hlb hab ho hob hs0 hst2) (fun t ht _ => .inr (by simp at ht ⊢; omega)) (fun t ht => by cases ht) ?_
      simp -dsimp only [go_sem]
      exact fin_three hla hlb hab (by simp -dsimp only [go_sem]) (by simp -dsimp only [go_sem, longL]) (by simp -dsimp only [go_sem, ho, hoa, gCells, hta, htb, hla, hlb, Wld.row, SS.no, hcz, stC_fz]) (by simp -dsimp only [go_sem, ho, hoa, hta, hal', hab, SS.no]) (by simp -dsimp only [go_sem, SS.no])
    · have h300 : ¬ (300 : Int) ≤ (s.a.length : Nat) := by omega
      simp -dsimp only [go_sem, h300, hl, ho, hoa, gCells, ha6, hal', hla, hta, hcz, List.length_map]
      refine ⟨out_prS (by kernel_rfl), ?_⟩
      by_cases hf0 : f = 0
      · have h31 : (30 : Int) < (st.length : Nat) := by omega
        rw [eS, if_neg hlong]
        subst hf0
        simp -dsimp only [go_sem, h31, hcz, hl]
        refine call_turn (hfail (s.ask n) _ _ (by simp -dsimp only [go_sem, hl]) (by simp -dsimp only [go_sem, hta]) (by simp -dsimp only [go_sem, htb]) hla hlb hab (by simp -dsimp only [go_sem, hla, Wld.row, SS.ask, List.length_append, List.length_cons, List.length_nil]) (by simp -dsimp only [go_sem, hbl, hba, hob]) hs0 hst2) (fun t ht _ => .inr (by simp at ht ⊢; omega)) (fun t ht => by cases ht) ?_
        simp -dsimp only [go_sem]
        exact fin_three hla hlb hab (by simp -dsimp only [go_sem]) (by simp -dsimp only [go_sem, deepL]) (by simp -dsimp only [go_sem, ho, hoa, gCells, hta, htb, hla, hlb, hal', Wld.row, SS.no, SS.ask, hcz, stC_fz, List.length_append, List.length_cons, List.length_nil]) (by simp -dsimp only [go_sem, ho, hoa, hta, hal', hab, SS.no, SS.ask, List.map_append, List.map_cons, List.map_nil, Need.row]) (by simp -dsimp only [go_sem, SS.no])
      · obtain ⟨f', rfl⟩ : ∃ f', f = f' + 1 := ⟨f - 1, by omega⟩
        have h31 : ¬ (30 : Int) < (st.length : Nat) := by omega
        have ihg := ih f' rfl
        unfold AskOkG at ihg
        have eB : askG w sp g (f' + 1) st n s = askGB (askG w sp g f' (st ++ [n])) w sp st n (s.ask n) := by rw [eS, if_neg hlong]
        clear eS
        simp -dsimp only [go_sem, h31, hl, hta, htb, ho, hoa, gCells, hla, hal', hcz]
        rcases pick_four w sp n with hcl | ⟨k, hcl⟩ | ⟨k0, k2, rest, hcl⟩
        · rw [hcl] at hcand
          refine call_pure (hcand _ hw hn.2 (by omega)) ?_
          have e : askG w sp g (f' + 1) st n s = ([], (s.ask n).no n st, noneL) := by rw [eB]; unfold askGB; rw [hcl]; rfl
          rw [e]
          simp -dsimp only [go_sem, List.map_nil]
          refine call_turn (hfail (s.ask n) _ _ (by simp -dsimp only [go_sem, hl]) (by simp -dsimp only [go_sem, hta]) (by simp -dsimp only [go_sem, htb]) hla hlb hab (by simp -dsimp only [go_sem, hla, Wld.row, SS.ask, List.length_append, List.length_cons, List.length_nil]) (by simp -dsimp only [go_sem, hbl, hba, hob]) hs0 hst2) (fun t ht _ => .inr (by simp at ht ⊢; omega)) (fun t ht => by cases ht) ?_
          simp -dsimp only [go_sem]
          exact fin_three hla hlb hab (by simp -dsimp only [go_sem]) (by simp -dsimp only [go_sem, noneL]) (by simp -dsimp only [go_sem, ho, hoa, gCells, hta, htb, hla, hlb, hal', Wld.row, SS.no, SS.ask, hcz, stC_fz, List.length_append, List.length_cons, List.length_nil]) (by simp -dsimp only [go_sem, ho, hoa, hta, hal', hab, SS.no, SS.ask, List.map_append, List.map_cons, List.map_nil, Need.row]) (by simp -dsimp only [go_sem, SS.no])
        · have hkm : k ∈ candIx w n := by rw [hcl]; exact List.mem_cons_self ..
          have hpick : pickG w sp (candIx w n) = some k := by rw [hcl]; rfl
          rw [hcl] at hcand
          refine call_pure (hcand _ hw hn.2 (by omega)) ?_
          simp -dsimp only [go_sem, List.map_cons, List.map_nil, iRow, hl, hta, ho, hoa, hla, hal']
          obtain ⟨i, hi, _⟩ := hmem k hkm
          have hwi := world_inst hok hi
          have hk10 := hwi.1
          have h6 := hwi.2.2.2.2.2.1
          clear hwi
          have hism := hw.i i (List.mem_of_getElem? hi)
          rcases opt_cases (needsOf i n.t) with hN | ⟨ms, hN⟩
          · have hnd := i_needs i n.t
            rw [hN] at hnd
            simp -dsimp only [go_sem, iRow, hi, Inst.row, hl, hta, ho, hoa, hla, hal'] at hnd ⊢
            refine call_pure (hnd _ hism hn.2.2 (by omega)) ?_
            have e : askG w sp g (f' + 1) st n s = ([], (s.ask n).no n st, bigL) := by rw [eB]; unfold askGB; rw [hpick]; simp only [askGI, hi, hN]
            rw [e]
            simp -dsimp only [go_sem, needsV]
            refine call_turn (hfail (s.ask n) _ _ (by simp -dsimp only [go_sem, hl]) (by simp -dsimp only [go_sem, hta]) (by simp -dsimp only [go_sem, htb]) hla hlb hab (by simp -dsimp only [go_sem, hla, Wld.row, SS.ask, List.length_append, List.length_cons, List.length_nil]) (by simp -dsimp only [go_sem, hbl, hba, hob]) hs0 hst2) (fun t ht _ => .inr (by simp at ht ⊢; omega)) (fun t ht => by cases ht) ?_
            simp -dsimp only [go_sem]
            exact fin_three hla hlb hab (by simp -dsimp only [go_sem]) (by simp -dsimp only [go_sem, bigL]) (by simp -dsimp only [go_sem, ho, hoa, gCells, hta, htb, hla, hlb, hal', Wld.row, SS.no, SS.ask, hcz, stC_fz, List.length_append, List.length_cons, List.length_nil]) (by simp -dsimp only [go_sem, ho, hoa, hta, hal', hab, SS.no, SS.ask, List.map_append, List.map_cons, List.map_nil, Need.row]) (by simp -dsimp only [go_sem, SS.no])
          · have hnd := i_needs i n.t
            rw [hN] at hnd
            simp -dsimp only [go_sem, iRow, hi, Inst.row, hl, hta, ho, hoa, hla, hal'] at hnd ⊢
            refine call_pure (hnd _ hism hn.2.2 (by omega)) ?_
            have hno := needs_ok hok hw hi hN
            have hml := hno.1
            have hmm := hno.2
            clear hno
            have e : askG w sp g (f' + 1) st n s = closeG ms (askGL (askG w sp g f' (st ++ [n])) ms 0 (digitL k) (s.ask n)) := by rw [eB]; unfold askGB; rw [hpick]; simp only [askGI, hi, hN]
            rw [e]
            simp -dsimp only [go_sem, needsV]
            refine call_pure (l_Itoa k _ (by omega)) ?_
            have hln : ¬ l = h.n := by omega
            have htn : ¬ ta = h.n := by omega
            have hbn : ¬ tb = h.n := by omega
            have hs6 : (st.length + 1) * 32 ≤ 140737488355328 := by omega
            have hp31 : 3 ^ f' ≤ 3 ^ 30 := Nat.pow_le_pow_right (by decide) (by omega)
            have hp1 : 1 ≤ 3 ^ f' := Nat.one_le_pow _ _ (by decide)
            have hp2 : 3 ^ f' ≤ 205891132094649 := hp31
            have fb := fun m s => askG_bd (sp := sp) hok hw hgl f' (st ++ [n]) m s
            have fkp := fun m s => askG_keeps (w := w) (sp := sp) (g := g) f' (st ++ [n]) m s
            have ihn := fun m s' H => ihg l ta tb m (st ++ [n]) s' H
            rw [stA_snoc] at ihn
            simp only [List.map_append, List.map_cons, List.map_nil, Need.row] at ihn
            generalize hfd : askG w sp g f' (st ++ [n]) = fd at fb fkp ihn ⊢
            generalize 3 ^ f' = B at hp1 hp2 fb
            simp -dsimp only [go_sem]
            refine ⟨?_, ?_⟩
            all_goals
              try simp -dsimp only [go_sem]
              refine call_pure (l_Clone_st st _ hst2) ?_
              simp -dsimp only [go_sem, List.length_map, hs6]
              refine loop_ruleH [3, 9, 112, 0] (fun (x : {x : Nat × L8 × SS // x.1 ≤ ms.length ∧ askGL fd ms 0 (digitL k) (s.ask n) = askGL fd (ms.drop x.1) x.1 x.2.1 x.2.2 ∧ x.2.2.a.length ≤ 300 ∧ x.2.2.st = [] ∧ x.2.1.length ≤ 1 + x.1 * (5 * B)}) H => ([(15, str x.1.2.1), (16, .sl ((st ++ [n]).map Need.row)), (128, .v (.int .i64 (x.1.1 : Nat)))], ⟨h.n, upd (upd h.o l (.cells (gCells w sp fk cap ta tb x.1.2.2))) ta (.rows 28 2 (x.1.2.2.a.map Need.row))⟩)) (fun x => ms.length - x.1.1) ⟨(0, digitL k, s.ask n), Nat.zero_le _, rfl, by show (s.ask n).a.length ≤ 300; simp [SS.ask]; omega, hs0, by show (digitL k).length ≤ 1 + 0 * _; simp [digitL]⟩ ?_ ?_
              · refine weak_objs [l, ta, tb] (by simp -dsimp only [go_sem]) (by simp -dsimp only [go_sem]) (by simp -dsimp only [go_sem, hl, hln, List.map_append, Need.row, digitL, List.length_append, List.length_map]) ?_ ?_ ?_
                · intro x h1 h2; have h2 : ¬ x = l ∧ ¬ x = ta ∧ ¬ x = tb := by simpa using h2
                  have h3 : ¬ x = h.n := by have h1 : x < h.n := h1; omega
                  simp -dsimp only [go_sem, h2, h3]
                · intro x h1 h2; have h1 : x < h.n := h1; simp at h2 ⊢; omega
                · simp -dsimp only [go_sem, gCells, hla, hlb, hab, hal', hbl, hba, hob, hln, htn, hbn, hta, htb, hcz, Wld.row, SS.ask, List.map_append, List.map_cons, List.map_nil, List.length_append, List.length_cons, List.length_nil, Need.row]
              · rintro ⟨⟨j, out, s'⟩, hj, heq, ha', hs', hol⟩
                have hj : j ≤ ms.length := hj
                have heq : askGL fd ms 0 (digitL k) (s.ask n) = askGL fd (ms.drop j) j out s' := heq
                have ha' : s'.a.length ≤ 300 := ha'
                have hs' : s'.st = [] := hs'
                have hol : out.length ≤ 1 + j * (5 * B) := hol
                have hj1 : j + 1 ≤ 9223372036854775807 := by omega
                by_cases hlj : j < ms.length
                · obtain ⟨m, hb⟩ := get_some hlj
                  have hmok := (hmm m (List.mem_of_getElem? hb)).1
                  rw [drop_get hb] at heq
                  rw [askGL_cons] at heq
                  have hfb := fb m s' hmok
                  have hkp := fkp m s'
                  simp -dsimp only [go_sem, hlj, hb, Need.row]
                  refine call_turn (ihn m s' _ (by simp -dsimp only [go_sem, hl]) (by simp -dsimp only [go_sem, hta]) (by simp -dsimp only [go_sem, htb]) hla hlb hab (by simp -dsimp only [go_sem, hla, hln]) (by simp -dsimp only [go_sem, htn]) (by simp -dsimp only [go_sem, hba, hbl, hbn, hob]) hs' hmok ha' (by omega) (by rw [List.length_append, hst]; simp; omega)) (fun t ht _ => .inr ht) (fun t ht => by cases ht) ?_
                  by_cases hwy : (fd m s').2.2 = []
                  · rw [if_pos hwy] at heq
                    have hks : (fd m s').2.1.st = [] := ((hkp.1 hwy).2).trans hs'
                    have hjB : j * (5 * B) ≤ 3 * (5 * B) := Nat.mul_le_mul_right _ (by omega)
                    have hl1 : (fd m s').1.length + 1 ≤ 9223372036854775807 := by omega
                    have hl2 : out.length + ((fd m s').1.length + 1) ≤ 9223372036854775807 := by omega
                    have hl1a : 1 + (fd m s').1.length ≤ 9223372036854775807 := by omega
                    have hl2a : out.length + (1 + (fd m s').1.length) ≤ 9223372036854775807 := by omega
                    by_cases hj0 : j = 0
                    · have es : sep j = 40 := by simp [sep, hj0]
                      have hji : (((j : Nat) : Int) = 0) = True := by exact eq_true (by omega)
                      have hji' : (j = 0) = True := by exact eq_true hj0
                      rw [es] at heq
                      simp -dsimp only [go_sem, hwy, hji, hji', hj1, hl1, hl2, hl1a, hl2a, List.length_append, List.length_cons, List.length_nil, Nat.zero_add]
                      refine round_to ⟨(j + 1, out ++ [40] ++ (fd m s').1, (fd m s').2.1), hlj, heq, hkp.2.2 ha', hks, ?_⟩ (by simp; omega) ?_
                      · show (out ++ [40] ++ (fd m s').1).length ≤ 1 + (j + 1) * (5 * B)
                        rw [List.length_append, List.length_append, Nat.succ_mul]
                        simp only [List.length_cons, List.length_nil]
                        omega
                      · refine weak_objs [l, ta, tb] (by simp -dsimp only [go_sem]) (by simp -dsimp only [go_sem]) (by simp -dsimp only [go_sem, hl, List.map_append, Need.row, List.append_assoc]) ?_ ?_ ?_
                        · intro x h1 h2; have h2 : ¬ x = l ∧ ¬ x = ta ∧ ¬ x = tb := by simpa using h2
                          have h3 : ¬ x = h.n := by have h1 : x < h.n := h1; omega
                          simp -dsimp only [go_sem, h2, h3]
                        · intro x h1 h2; have h1 : x < h.n := h1; simp at h2 ⊢; omega
                        · simp -dsimp only [go_sem, gCells, hla, hlb, hab, hal', hbl, hba, hob, hln, htn, hbn, hta, htb, hks, hcz, Wld.row, List.map_nil]
                    · have es : sep j = 44 := by simp [sep, hj0]
                      have hji : (((j : Nat) : Int) = 0) = False := by exact eq_false (by omega)
                      have hji' : (j = 0) = False := by exact eq_false hj0
                      rw [es] at heq
                      simp -dsimp only [go_sem, hwy, hji, hji', hj1, hl1, hl2, hl1a, hl2a, List.length_append, List.length_cons, List.length_nil, Nat.zero_add]
                      refine round_to ⟨(j + 1, out ++ [44] ++ (fd m s').1, (fd m s').2.1), hlj, heq, hkp.2.2 ha', hks, ?_⟩ (by simp; omega) ?_
                      · show (out ++ [44] ++ (fd m s').1).length ≤ 1 + (j + 1) * (5 * B)
                        rw [List.length_append, List.length_append, Nat.succ_mul]
                        simp only [List.length_cons, List.length_nil]
                        omega
                      · refine weak_objs [l, ta, tb] (by simp -dsimp only [go_sem]) (by simp -dsimp only [go_sem]) (by simp -dsimp only [go_sem, hl, List.map_append, Need.row, List.append_assoc]) ?_ ?_ ?_
                        · intro x h1 h2; have h2 : ¬ x = l ∧ ¬ x = ta ∧ ¬ x = tb := by simpa using h2
                          have h3 : ¬ x = h.n := by have h1 : x < h.n := h1; omega
                          simp -dsimp only [go_sem, h2, h3]
                        · intro x h1 h2; have h1 : x < h.n := h1; simp at h2 ⊢; omega
                        · simp -dsimp only [go_sem, gCells, hla, hlb, hab, hal', hbl, hba, hob, hln, htn, hbn, hta, htb, hks, hcz, Wld.row, List.map_nil]
                  · rw [if_neg hwy] at heq
                    have ec : closeG ms (askGL fd ms 0 (digitL k) (s.ask n)) = ([], (fd m s').2.1, (fd m s').2.2) := by rw [heq]; unfold closeG; rw [if_neg hwy]
                    rw [ec]
                    simp -dsimp only [go_sem, hwy]
                    exact fin_three hla hlb hab (by simp -dsimp only [go_sem]) (by simp -dsimp only [go_sem]) (by simp -dsimp only [go_sem, gCells, hla, hlb, hln, hta, htb, hcz, Wld.row]) (by simp -dsimp only [go_sem, htn, hab]) (by simp -dsimp only [go_sem, hbn])
                · have hjm : j = ms.length := by omega
                  have ed : ms.drop j = [] := List.drop_of_length_le (by omega)
                  rw [ed] at heq
                  rw [askGL_nil] at heq
                  have hjB : j * (5 * B) ≤ 3 * (5 * B) := Nat.mul_le_mul_right _ (by omega)
                  have hl1 : out.length + 1 ≤ 9223372036854775807 := by omega
                  by_cases hm0 : ms.length = 0
                  · have hm0' : ¬ (0 : Int) < (ms.length : Nat) := by omega
                    have ec : closeG ms (askGL fd ms 0 (digitL k) (s.ask n)) = (out, s', []) := by rw [heq]; unfold closeG; simp [hm0]
                    rw [ec]
                    simp -dsimp only [go_sem, hlj, hm0']
                    exact fin_three hla hlb hab (by simp -dsimp only [go_sem]) (by simp -dsimp only [go_sem]) (by simp -dsimp only [go_sem, gCells, hla, hta, htb, hcz, hs', Wld.row]) (by simp -dsimp only [go_sem]) (by simp -dsimp only [go_sem, hba, hbl, hob, hs', List.map_nil])
                  · have hm0' : (0 : Int) < (ms.length : Nat) := by omega
                    have ec : closeG ms (askGL fd ms 0 (digitL k) (s.ask n)) = (out ++ [41], s', []) := by rw [heq]; unfold closeG; simp [hm0]
                    rw [ec]
                    simp -dsimp only [go_sem, hlj, hm0', hl1]
                    exact fin_three hla hlb hab (by simp -dsimp only [go_sem]) (by simp -dsimp only [go_sem]) (by simp -dsimp only [go_sem, gCells, hla, hta, htb, hcz, hs', Wld.row]) (by simp -dsimp only [go_sem]) (by simp -dsimp only [go_sem, hba, hbl, hob, hs', List.map_nil])
        · have hmo := many_ok hcl hwl
          have hml := hmo.1
          have hmi := hmo.2
          clear hmo
          have hpm := fun k h => pickG_mem (w := w) (sp := sp) (l := candIx w n) (k := k) h
          have hpk : pickG w sp (candIx w n) = if sp = true then mostSp w (k0 :: k2 :: rest) else none := by rw [hcl]; rfl
          have hwm : whyG (candIx w n) = manyL := by rw [hcl]; rfl
          rw [hcl] at hcand
          refine call_pure (hcand _ hw hn.2 (by omega)) ?_
          have hsp := i_mostSpecialG w (k0 :: k2 :: rest)
          have hmany : (1 : Int) < ((rest.length + 1 + 1 : Nat) : Int) := by omega
          have hmany0 : ¬ ((rest.length + 1 + 1 : Nat) : Int) = 0 := by omega
          simp only [List.map_cons, iRow, Wld.row] at hsp
          simp -dsimp only [go_sem, List.map_cons, hmany, hmany0, iRow, hl, hta, ho, hoa, hla, hal']
          refine call_pure (hsp _ hw hml hmi) ?_
          rcases opt_cases (pickG w sp (candIx w n)) with hpick | ⟨k, hpick⟩
          · have e : askG w sp g (f' + 1) st n s = ([], (s.ask n).no n st, manyL) := by rw [eB]; unfold askGB; rw [hpick]; rw [hwm]
            rw [e]
            cases sp with
            | false =>
              simp -dsimp only [go_sem, hl, hta, ho, hoa, hla, hal']
              refine call_turn (hfail (s.ask n) _ _ (by simp -dsimp only [go_sem, hl]) (by simp -dsimp only [go_sem, hta]) (by simp -dsimp only [go_sem, htb]) hla hlb hab (by simp -dsimp only [go_sem, hla, Wld.row, SS.ask, List.length_append, List.length_cons, List.length_nil]) (by simp -dsimp only [go_sem, hbl, hba, hob]) hs0 hst2) (fun t ht _ => .inr (by simp at ht ⊢; omega)) (fun t ht => by cases ht) ?_
              simp -dsimp only [go_sem]
              exact fin_three hla hlb hab (by simp -dsimp only [go_sem]) (by simp -dsimp only [go_sem, manyL]) (by simp -dsimp only [go_sem, ho, hoa, gCells, hta, htb, hla, hlb, hal', Wld.row, SS.no, SS.ask, hcz, stC_fz, List.length_append, List.length_cons, List.length_nil]) (by simp -dsimp only [go_sem, ho, hoa, hta, hal', hab, SS.no, SS.ask, List.map_append, List.map_cons, List.map_nil, Need.row]) (by simp -dsimp only [go_sem, SS.no])
            | true =>
              have eM : mostSp w (k0 :: k2 :: rest) = none := by rw [hpk] at hpick; simpa using hpick
              rw [eM]
              simp -dsimp only [go_sem, mostV, hl, hta, ho, hoa, hla, hal']
              refine call_turn (hfail (s.ask n) _ _ (by simp -dsimp only [go_sem, hl]) (by simp -dsimp only [go_sem, hta]) (by simp -dsimp only [go_sem, htb]) hla hlb hab (by simp -dsimp only [go_sem, hla, Wld.row, SS.ask, List.length_append, List.length_cons, List.length_nil]) (by simp -dsimp only [go_sem, hbl, hba, hob]) hs0 hst2) (fun t ht _ => .inr (by simp at ht ⊢; omega)) (fun t ht => by cases ht) ?_
              simp -dsimp only [go_sem]
              exact fin_three hla hlb hab (by simp -dsimp only [go_sem]) (by simp -dsimp only [go_sem, manyL]) (by simp -dsimp only [go_sem, ho, hoa, gCells, hta, htb, hla, hlb, hal', Wld.row, SS.no, SS.ask, hcz, stC_fz, List.length_append, List.length_cons, List.length_nil]) (by simp -dsimp only [go_sem, ho, hoa, hta, hal', hab, SS.no, SS.ask, List.map_append, List.map_cons, List.map_nil, Need.row]) (by simp -dsimp only [go_sem, SS.no])
          · have hkm := hpm k hpick
            cases sp with
            | false => rw [hpk] at hpick; simp at hpick
            | true =>
              have eM : mostSp w (k0 :: k2 :: rest) = some k := by rw [hpk] at hpick; simpa using hpick
              have hk0 : ¬ ((k : Nat) : Int) < 0 := by omega
              rw [eM]
              simp -dsimp only [go_sem, mostV, hk0, hl, hta, ho, hoa, hla, hal']
              obtain ⟨i, hi, _⟩ := hmem k hkm
              have hwi := world_inst hok hi
              have hk10 := hwi.1
              have h6 := hwi.2.2.2.2.2.1
              clear hwi
              have hism := hw.i i (List.mem_of_getElem? hi)
              rcases opt_cases (needsOf i n.t) with hN | ⟨ms, hN⟩
              · have hnd := i_needs i n.t
                rw [hN] at hnd
                simp -dsimp only [go_sem, iRow, hi, Inst.row, hl, hta, ho, hoa, hla, hal'] at hnd ⊢
                refine call_pure (hnd _ hism hn.2.2 (by omega)) ?_
                have e : askG w true g (f' + 1) st n s = ([], (s.ask n).no n st, bigL) := by rw [eB]; unfold askGB; rw [hpick]; simp only [askGI, hi, hN]
                rw [e]
                simp -dsimp only [go_sem, needsV]
                refine call_turn (hfail (s.ask n) _ _ (by simp -dsimp only [go_sem, hl]) (by simp -dsimp only [go_sem, hta]) (by simp -dsimp only [go_sem, htb]) hla hlb hab (by simp -dsimp only [go_sem, hla, Wld.row, SS.ask, List.length_append, List.length_cons, List.length_nil]) (by simp -dsimp only [go_sem, hbl, hba, hob]) hs0 hst2) (fun t ht _ => .inr (by simp at ht ⊢; omega)) (fun t ht => by cases ht) ?_
                simp -dsimp only [go_sem]
                exact fin_three hla hlb hab (by simp -dsimp only [go_sem]) (by simp -dsimp only [go_sem, bigL]) (by simp -dsimp only [go_sem, ho, hoa, gCells, hta, htb, hla, hlb, hal', Wld.row, SS.no, SS.ask, hcz, stC_fz, List.length_append, List.length_cons, List.length_nil]) (by simp -dsimp only [go_sem, ho, hoa, hta, hal', hab, SS.no, SS.ask, List.map_append, List.map_cons, List.map_nil, Need.row]) (by simp -dsimp only [go_sem, SS.no])
              · have hnd := i_needs i n.t
                rw [hN] at hnd
                simp -dsimp only [go_sem, iRow, hi, Inst.row, hl, hta, ho, hoa, hla, hal'] at hnd ⊢
                refine call_pure (hnd _ hism hn.2.2 (by omega)) ?_
                have hno := needs_ok hok hw hi hN
                have hml := hno.1
                have hmm := hno.2
                clear hno
                have e : askG w true g (f' + 1) st n s = closeG ms (askGL (askG w true g f' (st ++ [n])) ms 0 (digitL k) (s.ask n)) := by rw [eB]; unfold askGB; rw [hpick]; simp only [askGI, hi, hN]
                rw [e]
                simp -dsimp only [go_sem, needsV]
                refine call_pure (l_Itoa k _ (by omega)) ?_
                have hln : ¬ l = h.n := by omega
                have htn : ¬ ta = h.n := by omega
                have hbn : ¬ tb = h.n := by omega
                have hs6 : (st.length + 1) * 32 ≤ 140737488355328 := by omega
                have hp31 : 3 ^ f' ≤ 3 ^ 30 := Nat.pow_le_pow_right (by decide) (by omega)
                have hp1 : 1 ≤ 3 ^ f' := Nat.one_le_pow _ _ (by decide)
                have hp2 : 3 ^ f' ≤ 205891132094649 := hp31
                have fb := fun m s => askG_bd (sp := true) hok hw hgl f' (st ++ [n]) m s
                have fkp := fun m s => askG_keeps (w := w) (sp := true) (g := g) f' (st ++ [n]) m s
                have ihn := fun m s' H => ihg l ta tb m (st ++ [n]) s' H
                rw [stA_snoc] at ihn
                simp only [List.map_append, List.map_cons, List.map_nil, Need.row] at ihn
                generalize hfd : askG w true g f' (st ++ [n]) = fd at fb fkp ihn ⊢
                generalize 3 ^ f' = B at hp1 hp2 fb
                simp -dsimp only [go_sem]
                refine ⟨?_, ?_⟩
                all_goals
                  try simp -dsimp only [go_sem]
                  refine call_pure (l_Clone_st st _ hst2) ?_
                  simp -dsimp only [go_sem, List.length_map, hs6]
                  refine loop_ruleH [3, 9, 112, 0] (fun (x : {x : Nat × L8 × SS // x.1 ≤ ms.length ∧ askGL fd ms 0 (digitL k) (s.ask n) = askGL fd (ms.drop x.1) x.1 x.2.1 x.2.2 ∧ x.2.2.a.length ≤ 300 ∧ x.2.2.st = [] ∧ x.2.1.length ≤ 1 + x.1 * (5 * B)}) H => ([(15, str x.1.2.1), (16, .sl ((st ++ [n]).map Need.row)), (128, .v (.int .i64 (x.1.1 : Nat)))], ⟨h.n, upd (upd h.o l (.cells (gCells w true fk cap ta tb x.1.2.2))) ta (.rows 28 2 (x.1.2.2.a.map Need.row))⟩)) (fun x => ms.length - x.1.1) ⟨(0, digitL k, s.ask n), Nat.zero_le _, rfl, by show (s.ask n).a.length ≤ 300; simp [SS.ask]; omega, hs0, by show (digitL k).length ≤ 1 + 0 * _; simp [digitL]⟩ ?_ ?_
                  · refine weak_objs [l, ta, tb] (by simp -dsimp only [go_sem]) (by simp -dsimp only [go_sem]) (by simp -dsimp only [go_sem, hl, hln, List.map_append, Need.row, digitL, List.length_append, List.length_map]) ?_ ?_ ?_
                    · intro x h1 h2; have h2 : ¬ x = l ∧ ¬ x = ta ∧ ¬ x = tb := by simpa using h2
                      have h3 : ¬ x = h.n := by have h1 : x < h.n := h1; omega
                      simp -dsimp only [go_sem, h2, h3]
                    · intro x h1 h2; have h1 : x < h.n := h1; simp at h2 ⊢; omega
                    · simp -dsimp only [go_sem, gCells, hla, hlb, hab, hal', hbl, hba, hob, hln, htn, hbn, hta, htb, hcz, Wld.row, SS.ask, List.map_append, List.map_cons, List.map_nil, List.length_append, List.length_cons, List.length_nil, Need.row]
                  · rintro ⟨⟨j, out, s'⟩, hj, heq, ha', hs', hol⟩
                    have hj : j ≤ ms.length := hj
                    have heq : askGL fd ms 0 (digitL k) (s.ask n) = askGL fd (ms.drop j) j out s' := heq
                    have ha' : s'.a.length ≤ 300 := ha'
                    have hs' : s'.st = [] := hs'
                    have hol : out.length ≤ 1 + j * (5 * B) := hol
                    have hj1 : j + 1 ≤ 9223372036854775807 := by omega
                    by_cases hlj : j < ms.length
                    · obtain ⟨m, hb⟩ := get_some hlj
                      have hmok := (hmm m (List.mem_of_getElem? hb)).1
                      rw [drop_get hb] at heq
                      rw [askGL_cons] at heq
                      have hfb := fb m s' hmok
                      have hkp := fkp m s'
                      simp -dsimp only [go_sem, hlj, hb, Need.row]
                      refine call_turn (ihn m s' _ (by simp -dsimp only [go_sem, hl]) (by simp -dsimp only [go_sem, hta]) (by simp -dsimp only [go_sem, htb]) hla hlb hab (by simp -dsimp only [go_sem, hla, hln]) (by simp -dsimp only [go_sem, htn]) (by simp -dsimp only [go_sem, hba, hbl, hbn, hob]) hs' hmok ha' (by omega) (by rw [List.length_append, hst]; simp; omega)) (fun t ht _ => .inr ht) (fun t ht => by cases ht) ?_
                      by_cases hwy : (fd m s').2.2 = []
                      · rw [if_pos hwy] at heq
                        have hks : (fd m s').2.1.st = [] := ((hkp.1 hwy).2).trans hs'
                        have hjB : j * (5 * B) ≤ 3 * (5 * B) := Nat.mul_le_mul_right _ (by omega)
                        have hl1 : (fd m s').1.length + 1 ≤ 9223372036854775807 := by omega
                        have hl2 : out.length + ((fd m s').1.length + 1) ≤ 9223372036854775807 := by omega
                        have hl1a : 1 + (fd m s').1.length ≤ 9223372036854775807 := by omega
                        have hl2a : out.length + (1 + (fd m s').1.length) ≤ 9223372036854775807 := by omega
                        by_cases hj0 : j = 0
                        · have es : sep j = 40 := by simp [sep, hj0]
                          have hji : (((j : Nat) : Int) = 0) = True := by exact eq_true (by omega)
                          have hji' : (j = 0) = True := by exact eq_true hj0
                          rw [es] at heq
                          simp -dsimp only [go_sem, hwy, hji, hji', hj1, hl1, hl2, hl1a, hl2a, List.length_append, List.length_cons, List.length_nil, Nat.zero_add]
                          refine round_to ⟨(j + 1, out ++ [40] ++ (fd m s').1, (fd m s').2.1), hlj, heq, hkp.2.2 ha', hks, ?_⟩ (by simp; omega) ?_
                          · show (out ++ [40] ++ (fd m s').1).length ≤ 1 + (j + 1) * (5 * B)
                            rw [List.length_append, List.length_append, Nat.succ_mul]
                            simp only [List.length_cons, List.length_nil]
                            omega
                          · refine weak_objs [l, ta, tb] (by simp -dsimp only [go_sem]) (by simp -dsimp only [go_sem]) (by simp -dsimp only [go_sem, hl, List.map_append, Need.row, List.append_assoc]) ?_ ?_ ?_
                            · intro x h1 h2; have h2 : ¬ x = l ∧ ¬ x = ta ∧ ¬ x = tb := by simpa using h2
                              have h3 : ¬ x = h.n := by have h1 : x < h.n := h1; omega
                              simp -dsimp only [go_sem, h2, h3]
                            · intro x h1 h2; have h1 : x < h.n := h1; simp at h2 ⊢; omega
                            · simp -dsimp only [go_sem, gCells, hla, hlb, hab, hal', hbl, hba, hob, hln, htn, hbn, hta, htb, hks, hcz, Wld.row, List.map_nil]
                        · have es : sep j = 44 := by simp [sep, hj0]
                          have hji : (((j : Nat) : Int) = 0) = False := by exact eq_false (by omega)
                          have hji' : (j = 0) = False := by exact eq_false hj0
                          rw [es] at heq
                          simp -dsimp only [go_sem, hwy, hji, hji', hj1, hl1, hl2, hl1a, hl2a, List.length_append, List.length_cons, List.length_nil, Nat.zero_add]
                          refine round_to ⟨(j + 1, out ++ [44] ++ (fd m s').1, (fd m s').2.1), hlj, heq, hkp.2.2 ha', hks, ?_⟩ (by simp; omega) ?_
                          · show (out ++ [44] ++ (fd m s').1).length ≤ 1 + (j + 1) * (5 * B)
                            rw [List.length_append, List.length_append, Nat.succ_mul]
                            simp only [List.length_cons, List.length_nil]
                            omega
                          · refine weak_objs [l, ta, tb] (by simp -dsimp only [go_sem]) (by simp -dsimp only [go_sem]) (by simp -dsimp only [go_sem, hl, List.map_append, Need.row, List.append_assoc]) ?_ ?_ ?_
                            · intro x h1 h2; have h2 : ¬ x = l ∧ ¬ x = ta ∧ ¬ x = tb := by simpa using h2
                              have h3 : ¬ x = h.n := by have h1 : x < h.n := h1; omega
                              simp -dsimp only [go_sem, h2, h3]
                            · intro x h1 h2; have h1 : x < h.n := h1; simp at h2 ⊢; omega
                            · simp -dsimp only [go_sem, gCells, hla, hlb, hab, hal', hbl, hba, hob, hln, htn, hbn, hta, htb, hks, hcz, Wld.row, List.map_nil]
                      · rw [if_neg hwy] at heq
                        have ec : closeG ms (askGL fd ms 0 (digitL k) (s.ask n)) = ([], (fd m s').2.1, (fd m s').2.2) := by rw [heq]; unfold closeG; rw [if_neg hwy]
                        rw [ec]
                        simp -dsimp only [go_sem, hwy]
                        exact fin_three hla hlb hab (by simp -dsimp only [go_sem]) (by simp -dsimp only [go_sem]) (by simp -dsimp only [go_sem, gCells, hla, hlb, hln, hta, htb, hcz, Wld.row]) (by simp -dsimp only [go_sem, htn, hab]) (by simp -dsimp only [go_sem, hbn])
                    · have hjm : j = ms.length := by omega
                      have ed : ms.drop j = [] := List.drop_of_length_le (by omega)
                      rw [ed] at heq
                      rw [askGL_nil] at heq
                      have hjB : j * (5 * B) ≤ 3 * (5 * B) := Nat.mul_le_mul_right _ (by omega)
                      have hl1 : out.length + 1 ≤ 9223372036854775807 := by omega
                      by_cases hm0 : ms.length = 0
                      · have hm0' : ¬ (0 : Int) < (ms.length : Nat) := by omega
                        have ec : closeG ms (askGL fd ms 0 (digitL k) (s.ask n)) = (out, s', []) := by rw [heq]; unfold closeG; simp [hm0]
                        rw [ec]
                        simp -dsimp only [go_sem, hlj, hm0']
                        exact fin_three hla hlb hab (by simp -dsimp only [go_sem]) (by simp -dsimp only [go_sem]) (by simp -dsimp only [go_sem, gCells, hla, hta, htb, hcz, hs', Wld.row]) (by simp -dsimp only [go_sem]) (by simp -dsimp only [go_sem, hba, hbl, hob, hs', List.map_nil])
                      · have hm0' : (0 : Int) < (ms.length : Nat) := by omega
                        have ec : closeG ms (askGL fd ms 0 (digitL k) (s.ask n)) = (out ++ [41], s', []) := by rw [heq]; unfold closeG; simp [hm0]
                        rw [ec]
                        simp -dsimp only [go_sem, hlj, hm0', hl1]
                        exact fin_three hla hlb hab (by simp -dsimp only [go_sem]) (by simp -dsimp only [go_sem]) (by simp -dsimp only [go_sem, gCells, hla, hta, htb, hcz, hs', Wld.row]) (by simp -dsimp only [go_sem]) (by simp -dsimp only [go_sem, hba, hbl, hob, hs', List.map_nil])
  · have eS := askG_got (w := w) (sp := sp) (f := f) (st := st) (s := s) hg
    have e0 : gotB (g n) = true := by
      unfold gotB
      cases hq : g n with
      | nil => exact absurd hq hg
      | cons _ _ => rfl
    rw [e0, eS]
    simp -dsimp only [go_sem]
    exact fin_three hla hlb hab (by simp -dsimp only [go_sem]) (by simp -dsimp only [go_sem]) (by simp -dsimp only [go_sem, ho, gCells, hta, htb, Wld.row, hcz, hs0]) (by simp -dsimp only [go_sem, hoa]) (by simp -dsimp only [go_sem, hob, hs0, List.map_nil])
end Go.Proofs.YtnocdggngfiebaaGreatDoor

namespace Go.Isea
open Go
theorem Good.more {P : Program} {k : FuncId} {args : List AV} {h h' : AH} {T U : List Nat} {r : AV} (hg : Isea.Good P k args h T r h') (hU : ∀ t, t ∈ T → t < h.n → t ∈ U) : Isea.Good P k args h U r h' := by
  refine ⟨hg.1, fun K w vs hK hvs => (hg.2 K w vs hK hvs).mono ?_⟩
  rintro ee w' ⟨K', v, h1, h2, h3, h4⟩
  exact ⟨K', v, h1, h2, h3.mono hU, h4⟩
/-- a search of which nothing is known yet -/
def s0 : SS := ⟨[], ⟨[], []⟩, []⟩
end Go.Isea
namespace Go.Proofs.YtnocdggngfiebaaGreatDoor
open Go Go.Isea
set_option maxRecDepth 100000
set_option maxHeartbeats 8000000
theorem i_askG {w : Wld} {sp : Bool} {fk : FuncId} {cap : List AV} {g : Need → L8} (hcap : PuL cap) (hok : worldOk w = true) (hw : w.Sm) (hgl : ∀ n, NOk w n → (g n).length ≤ 2)
    (hgiv : ∀ n H, NOk w n → Isea.Good Tryz.prog fk (.agg n.row :: cap) H [] (.tup [str (g n), .v (.bool (gotB (g n)))]) H) : ∀ f, AskOkG w sp fk cap g f
  | 0 => i_askG_step hcap hok hw hgl hgiv fun g e => (by cases e)
  | f + 1 => i_askG_step hcap hok hw hgl hgiv fun g e => by cases e; exact i_askG hcap hok hw hgl hgiv f
/-- the search's cells before it has asked -/
def zCells (w : Wld) (sp : Bool) (fk : FuncId) (cap : List AV) : List AV := [.sl (w.cs.map Cls.row), .sl (w.is.map Inst.row), .v (.bool sp), .fn fk cap, .v (.slice none 0 0), str [], str [], .v (.slice none 0 0)]
theorem i_askG_first {w : Wld} {sp : Bool} {fk : FuncId} {cap : List AV} {g : Need → L8} (hcap : PuL cap) (hok : worldOk w = true) (hw : w.Sm) (hgl : ∀ n, NOk w n → (g n).length ≤ 2)
    (hgiv : ∀ n H, NOk w n → Isea.Good Tryz.prog fk (.agg n.row :: cap) H [] (.tup [str (g n), .v (.bool (gotB (g n)))]) H) (l : Nat) (n : Need) (h : AH) (hl : l < h.n) (ho : h.o l = .cells (zCells w sp fk cap)) (hn : NOk w n) :
    ∃ o', Isea.Good Tryz.prog 194 [.ptr l 0, .agg n.row, .v (.slice none 0 0)] h [l] (.tup [str (askG w sp g 31 [] n s0).1, str (askG w sp g 31 [] n s0).2.2]) ⟨h.n + 2, o'⟩ ∧
      o' l = .cells (gCells w sp fk cap h.n (h.n + 1) (askG w sp g 31 [] n s0).2.1) ∧ o' h.n = .rows 28 2 ((askG w sp g 31 [] n s0).2.1.a.map Need.row) ∧ o' (h.n + 1) = .rows 28 2 ((askG w sp g 31 [] n s0).2.1.st.map Need.row) ∧
      ∀ t, t < h.n → ¬ t = l → o' t = h.o t := by
  have h1 : ¬ l = h.n := by omega
  have h2 : ¬ l = h.n + 1 := by omega
  have h3 : ¬ h.n = h.n + 1 := by omega
  have h3' : ¬ h.n + 1 = h.n := by omega
  let m1 : AH := ⟨h.n + 1, upd (upd h.o l (.cells (gCells w sp fk cap h.n (h.n + 1) s0))) h.n (.rows 28 2 [])⟩
  have ha := i_askG (w := w) (sp := sp) hcap hok hw hgl hgiv 31 l h.n (h.n + 1) n [] s0 ⟨h.n + 2, upd (upd m1.o l (.cells (gCells w sp fk cap h.n (h.n + 1) s0))) (h.n + 1) (.rows 28 2 [])⟩ (by show l < h.n + 2; omega) (by show h.n < h.n + 2; omega) (by show h.n + 1 < h.n + 2; omega) h1 h2 h3
    (by show upd (upd m1.o l _) (h.n + 1) _ l = _; rw [upd_ne _ _ h2, upd_same]) (by show upd (upd m1.o l _) (h.n + 1) _ h.n = _; rw [upd_ne _ _ h3, upd_ne _ _ (fun e => h1 e.symm)]; exact upd_same _ _ _) (upd_same _ _ _) rfl hn (by decide) (by decide) rfl
  have hb := Good.ghostT (P := Tryz.prog) (h := m1) (T := [l, h.n]) (l := l) (e := 28) (sz := 2) (cs := gCells w sp fk cap h.n (h.n + 1) s0) (cs' := gCells w sp fk cap h.n (h.n + 1) s0) (by decide) (by simp) (by show l < h.n + 1; omega) (by show upd (upd h.o l _) h.n _ l = _; rw [upd_ne _ _ h1, upd_same]) rfl (fun i x y g1 g2 => .inl (by rw [g1] at g2; cases g2; rfl)) (Good.more ha fun t ht _ => by simp at ht ⊢; rcases ht with e | e | e <;> simp [e, m1])
  have hc := Good.ghostT (P := Tryz.prog) (h := h) (T := [l]) (l := l) (e := 28) (sz := 2) (cs := zCells w sp fk cap) (cs' := gCells w sp fk cap h.n (h.n + 1) s0) (by decide) (by simp) hl ho rfl (fun i x y g1 g2 => by
    unfold zCells at g1
    unfold gCells at g2
    rcases i with _ | _ | _ | _ | _ | _ | _ | _ | i <;> simp [s0, stC] at g1 g2 <;> subst g1 <;> subst g2 <;> simp) (Good.more hb fun t ht _ => by simp at ht ⊢; omega)
  refine ⟨_, hc, ?_, ?_, ?_, fun t ht htl => ?_⟩
  · show upd (upd (upd _ l _) h.n _) (h.n + 1) _ l = _
    rw [upd_ne _ _ h2, upd_ne _ _ h1, upd_same]
  · show upd (upd (upd _ l _) h.n _) (h.n + 1) _ h.n = _
    rw [upd_ne _ _ h3, upd_same]
  · exact upd_same _ _ _
  · have e1 : ¬ t = h.n := by omega
    have e2 : ¬ t = h.n + 1 := by omega
    show upd (upd (upd (upd (upd m1.o l _) (h.n + 1) _) l _) h.n _) (h.n + 1) _ t = _
    rw [upd_ne _ _ e2, upd_ne _ _ e1, upd_ne _ _ htl, upd_ne _ _ e2, upd_ne _ _ htl]
    show upd (upd h.o l _) h.n _ t = _
    rw [upd_ne _ _ e1, upd_ne _ _ htl]
end Go.Proofs.YtnocdggngfiebaaGreatDoor

namespace Go.Isea
open Go
/-- is a class above another one? -/
def upB (w : Wld) (o c : L8) : Bool := (supersOf w o).any fun d => decide (c = [d])
/-- the evidence of a class above that of an instance -/
def evIn (w : Wld) (x : Inst) (c : L8) : L8 × L8 := if upB w x.c c = true then findGiven w x.ns ⟨c, x.t⟩ else ([], wrongL)
def instAt (w : Wld) (i : Int) : Option Inst := if worldOk w = true ∧ 0 ≤ i then w.is[i.toNat]? else none
def evAbove (w : Wld) (i : Int) (c : L8) : L8 × L8 := match instAt w i with
  | some x => evIn w x c
  | none => ([], wrongL)
/-- the classes above that an instance's needs don't give -/
def gapL (w : Wld) (x : Inst) : L8 := (supersOf w x.c).filter fun d => decide ((evIn w x [d]).2 ≠ [])
def gapRow (p : Nat × UInt8) : List AV := [.v (.int .i64 (p.1 : Nat)), str [p.2]]
/-- the gaps of the first instances -/
def gapsTo (w : Wld) (k : Nat) : List (Nat × UInt8) := (List.range k).flatMap fun j => match w.is[j]? with
  | some x => (gapL w x).map fun d => (j, d)
  | none => []
def gapsOf (w : Wld) : List (Nat × UInt8) := if worldOk w = true then gapsTo w w.is.length else []
/-- what a search without givens finds -/
def ask0 (w : Wld) (sp : Bool) (n : Need) : AskR := if (worldOk w && needOk w n) = true then askG w sp (fun _ => []) 31 [] n ⟨[], ⟨[], []⟩, []⟩ else ([], ⟨[], ⟨[], []⟩, []⟩, wrongL)
def findD (w : Wld) (sp : Bool) (n : Need) : L8 × L8 := ((ask0 w sp n).1, (ask0 w sp n).2.2)
def hasI (w : Wld) (n : Need) : Bool := decide ((findD w false n).2 = [])
def dictUp (w : Wld) (n : Need) (c : L8) : L8 × L8 := if (worldOk w && needOk w n) = true ∧ upB w n.c c = true then findD w false ⟨c, n.t⟩ else ([], wrongL)
end Go.Isea
