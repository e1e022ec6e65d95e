/- Contracts of functions of this program, for all arguments that satisfy what each lemma asks for. -/
import Derived.Test.YtnocdggngfiebaaGreatDoorMa
import Derived.LaidEqlPtr
set_option linter.all false
namespace Go.Isea
open Go
section
variable {C : Cx} {K : KM} {w : World} {σ : St} {a : Act} {P : Program} {h : AH}
theorem PT_some {t : TypeId} (e : PT P t = true) : ∃ el i, P.underlying t = some (.pointer el) ∧ P.info? el = some i ∧ i.size ≠ 0 := by
  unfold PT at e
  split at e
  · rename_i el hu
    split at e
    · rename_i i hi; exact ⟨el, i, hu, hi, by simpa using e⟩
    · cases e
  · cases e
theorem MP_some {t : TypeId} {z : AV} (e : MP P t = some z) : ∃ k el i zv, P.underlying t = some (.map k el) ∧ PT P k = true ∧ P.info? el = some i ∧ i.zero = some zv ∧ z = ofV zv := by
  unfold MP at e
  split at e
  · rename_i k el hu
    split at e
    · rename_i hs
      cases hz : ZV P el with
      | none => rw [hz] at e; cases e
      | some zv =>
        rw [hz] at e
        unfold ZV at hz
        split at hz
        · rename_i i hi
          exact ⟨k, el, i, zv, hu, hs, hi, hz, (Option.some.inj e).symm⟩
        · cases hz
    · cases e
  · cases e
theorem pk_some {x : AV} {l : Nat} (e : pk x = some l) : x = .ptr l 0 := by
  unfold pk at e
  split at e
  · injection e with e; rw [e]
  · cases e
/-- the block of an object's cells -/
theorem cell_blk (hK : RH K h w) {l : Nat} (hc : cellAt h l) : ∃ b c ty, K l = .pointer (some ⟨b, 0, none⟩) ∧ w.heap[b]? = some (.cells c ty (0, 0)) := by
  obtain ⟨hl, cs, ho⟩ := hc
  have := hK.obj l hl
  rw [ho] at this
  obtain ⟨b, vs, e, h1, h2, _⟩ := this
  exact ⟨b, vs, e, h1, h2⟩
theorem ptr_val {l : Nat} {v : Value} (hr : Rep K h w (.ptr l 0) v) : v = K l := by
  cases hr with
  | ptr hl hc hk => exact hk.symm
theorem eq_run (hK : RH K h w) {t : TypeId} (hP : PT P t = true) {l q : Nat} (h1 : cellAt h l) (h2 : cellAt h q) : (Op.equal t (K l) (K q)).run P w = .ok (decide (l = q)) w := by
  obtain ⟨el, i, hu, hi, hsz⟩ := PT_some hP
  obtain ⟨b1, c1, t1, e1, g1⟩ := cell_blk hK h1
  obtain ⟨b2, c2, t2, e2, g2⟩ := cell_blk hK h2
  by_cases e : l = q
  · subst e
    have hh : ∀ d : Nat, (Op.equalIn (d + 1) t (.pointer (some ⟨b1, 0, none⟩)) (.pointer (some ⟨b1, 0, none⟩))).run P w = .ok true w := fun d => by
      simp [Op.equalIn, run_underlying hu, sizeOf, typeInfo, hi, hsz, run_sameAddr_same]
    rw [e1, decide_eq_true rfl]
    exact hh 9999
  · have hne : (⟨b1, 0, none⟩ : Addr) ≠ ⟨b2, 0, none⟩ := fun x => by
      injection x with x
      subst x
      exact e (hK.inj l q b1 h1.1 h2.1 (by rw [e1]; rfl) (by rw [e2]; rfl))
    have hh : ∀ d : Nat, (Op.equalIn (d + 1) t (.pointer (some ⟨b1, 0, none⟩)) (.pointer (some ⟨b2, 0, none⟩))).run P w = .ok false w := fun d => by
      simp [Op.equalIn, run_underlying hu, sizeOf, typeInfo, hi, hsz, run_sameAddr_other w hne g1 g2]
    rw [e1, e2, decide_eq_false e]
    exact hh 9999
theorem KeysP.tl {e : AV × AV} {es : List (AV × AV)} (hk : KeysP h (e :: es)) : KeysP h es := fun x hx => hk x (List.mem_cons_of_mem _ hx)
theorem EntRep.tl {e : AV × AV} {es : List (AV × AV)} {m : MapEntry} {l : List MapEntry} (hr : EntRep K h w (e :: es) (m :: l)) : EntRep K h w es l := ⟨by simpa using hr.1, fun i x y a b => hr.2 (i + 1) x y a b⟩
theorem pfind_none (hK : RH K h w) {kt : TypeId} (hP : PT P kt = true) {q : Nat} (hq : cellAt h q) : ∀ {es : List (AV × AV)} {l : List MapEntry} (i0 : Nat), EntRep K h w es l → KeysP h es → pfind es q = none →
    (Instr.findAsking kt (K q) l i0).run P w = .ok none w ∧ (∀ x, pput es q x = es ++ [(.ptr q 0, x)]) ∧ (∀ e ∈ l, e.key ≠ K q) ∧ pdel es q = es
  | [], l, i0, hr, _, _ => by
    have : l = [] := List.eq_nil_of_length_eq_zero hr.1
    subst this; exact ⟨rfl, fun _ => rfl, (fun e he => by cases he), rfl⟩
  | e :: es, [], _, hr, _, _ => by have := hr.1; simp at this
  | e :: es, m :: l, i0, hr, hk, hf => by
    obtain ⟨p, he, hp⟩ := hk e (List.mem_cons_self ..)
    have h0 := (hr.2 0 _ _ rfl rfl).1
    rw [he] at h0
    have hkv := ptr_val h0
    unfold pfind at hf
    have hpk : pk e.1 = some p := by rw [he]; rfl
    rw [hpk] at hf
    have hne : ¬ p = q := fun x => by rw [x, if_pos rfl] at hf; cases hf
    rw [if_neg (by simpa using hne)] at hf
    obtain ⟨g1, g2, g3, g4⟩ := pfind_none hK hP hq (i0 + 1) hr.tl hk.tl hf
    refine ⟨?_, fun x => ?_, fun e' he' => ?_, ?_⟩
    · rw [Instr.findAsking]
      simp only [Sem.run_bind, hkv, eq_run hK hP hq hp, Result.andThen_ok, decide_eq_false (fun x => hne x.symm : ¬ q = p), Bool.false_eq_true, if_false]
      exact g1
    · rw [pput, hpk, if_neg (by simpa using hne), g2 x, List.cons_append]
    · rcases List.mem_cons.1 he' with rfl | he'
      · rw [hkv]
        obtain ⟨b1, c1, t1, e1, _⟩ := cell_blk hK hp
        obtain ⟨b2, c2, t2, e2, _⟩ := cell_blk hK hq
        rw [e1, e2]
        intro x
        injection x with x
        injection x with x
        injection x with x
        subst x
        exact hne (hK.inj p q b1 hp.1 hq.1 (by rw [e1]; rfl) (by rw [e2]; rfl))
      · exact g3 e' he'
    · rw [pdel, hpk, if_neg (by simpa using hne), g4]
theorem pfind_some (hK : RH K h w) {kt : TypeId} (hP : PT P kt = true) {q : Nat} (hq : cellAt h q) {v : AV} : ∀ {es : List (AV × AV)} {l : List MapEntry} (i0 : Nat), EntRep K h w es l → KeysP h es → pfind es q = some v →
    ∃ (j : Nat) (e : MapEntry), l[j]? = some e ∧ e.key = K q ∧ Rep K h w v e.val ∧ (Instr.findAsking kt (K q) l i0).run P w = .ok (some (i0 + j, e.val)) w ∧ (∀ x, pput es q x = es.set j (.ptr q 0, x)) ∧ pdel es q = es.eraseIdx j
  | [], l, i0, hr, _, hf => by cases hf
  | e :: es, [], _, hr, _, _ => by have := hr.1; simp at this
  | e :: es, m :: l, i0, hr, hk, hf => by
    obtain ⟨p, he, hp⟩ := hk e (List.mem_cons_self ..)
    have h0 := hr.2 0 _ _ rfl rfl
    have h0k := h0.1
    rw [he] at h0k
    have hkv := ptr_val h0k
    unfold pfind at hf
    have hpk : pk e.1 = some p := by rw [he]; rfl
    rw [hpk] at hf
    by_cases hpq : p = q
    · subst hpq
      rw [if_pos rfl] at hf
      injection hf with hf
      subst hf
      refine ⟨0, m, rfl, hkv, h0.2, ?_, fun x => by rw [pput, hpk, if_pos rfl]; rfl, by rw [pdel, hpk, if_pos rfl]; rfl⟩
      rw [Instr.findAsking]
      simp only [Sem.run_bind, hkv, eq_run hK hP hq hq, Result.andThen_ok, decide_true, if_true, Sem.run_pure, Nat.add_zero]
    · rw [if_neg (by simpa using hpq)] at hf
      obtain ⟨j, e', g0, g0', g1, g2, g3, g4⟩ := pfind_some hK hP hq (i0 + 1) hr.tl hk.tl hf
      refine ⟨j + 1, e', g0, g0', g1, ?_, fun x => ?_, ?_⟩
      · rw [Instr.findAsking]
        simp only [Sem.run_bind, hkv, eq_run hK hP hq hp, Result.andThen_ok, decide_eq_false (fun x => hpq x.symm : ¬ q = p), Bool.false_eq_true, if_false]
        rw [g2]
        congr 3; omega
      · rw [pput, hpk, if_neg (by simpa using hpq), g3 x, List.set_cons_succ]
      · rw [pdel, hpk, if_neg (by simpa using hpq), g4, List.eraseIdx_cons_succ]
theorem findKey_ptr {kt : TypeId} (hP : PT P kt = true) (k : Value) (l : List MapEntry) (W : World) : (Instr.findKey kt k l).run P W = (Instr.findAsking kt k l 0).run P W := by
  obtain ⟨el, i, hu, _, _⟩ := PT_some hP
  cases l with
  | nil => simp only [Instr.findKey, Sem.run_bind, run_und hu, Result.andThen_ok, Instr.findNow, Instr.findAsking, Sem.run_pure]
  | cons m l =>
    have : Instr.findNow (.pointer el) k (m :: l) 0 = none := by
      unfold Instr.findNow Instr.sameNow
      rfl
    simp only [Instr.findKey, Sem.run_bind, run_und hu, Result.andThen_ok, this]
theorem checkKey_ptr {k : TypeId} (hP : PT P k = true) (b : Bool) (v : Value) (W : World) : (Instr.checkKey b 10000 k v).run P W = .ok () W := by
  obtain ⟨el, i, hu, _, _⟩ := PT_some hP
  have hh : ∀ n : Nat, (Instr.checkKey b (n + 1) k v).run P W = .ok () W := fun n => by
    cases v <;> simp only [Instr.checkKey, Sem.run_bind, run_und hu, Result.andThen_ok, Sem.run_pure]
  exact hh 9999
theorem left_refl (hK : RH K h w) : Left C [] K h w K h w := ⟨hK, [], Ext.refl _ _ _ _, (fun t ht => by cases ht), fun t ht => by cases ht⟩
/-- what an act on a map leaves -/
theorem map_left (hs : RS K σ a w) {l : Nat} (hl : l < σ.h.n) {es es' : List (AV × AV)} (hes : mapAt σ.h l = some es) (ht : touch C l) {b : Nat} {mes : Array MapEntry} {clock : Nat} (hkb : K l = .map (some b)) (hb : w.heap[b]? = some (.map mes clock)) {mes' : Array MapEntry} {clock' : Nat}
    (hre : Ext [l] K σ.h w (upd K l (K l)) (σ.h.set l (.map es')) (w.put' b (.map mes' clock')) → EntRep (upd K l (K l)) (σ.h.set l (.map es')) (w.put' b (.map mes' clock')) es' mes'.toList) (hst : MapKept.Stamped mes' clock') :
    Left C [] K σ.h w (upd K l (K l)) (σ.h.set l (.map es')) (w.put' b (.map mes' clock')) := by
  have hobj : σ.h.o l = .map es := by
    unfold mapAt at hes
    split at hes
    · rename_i e ho'; injection hes with hes; rw [ho', hes]
    · cases hes
  have hlt : b < w.heap.size := (Array.getElem?_eq_some_iff.1 hb).1
  exact left_set (C := C) (pr := []) (o := .map mes' clock') hs.rh (l := l) (b := b) (x := .map es') hl (by rw [hkb]; rfl) (by rw [hobj]; rfl) (by simp) ht (fun hext => by
    obtain ⟨r1, r2⟩ := hre hext
    exact ⟨b, mes', clock', hkb, put'_same _ _ _ hlt, ⟨by simpa using r1, hst⟩, fun i x y h1 h2 => r2 i x y h1 (by simpa using h2)⟩)
theorem run_setMapN {b : Nat} {es : Array MapEntry} {c : Nat} (h : w.heap[b]? = some (.map es c)) : w.put' b (.map es c) = w.put' b (.map es c) := rfl
theorem apkDel_out {t : TypeId} {m k : AV} {N : AV → AH → Prop} (ha : apkDel C t m k h N) : ∃ z l q es, MP C.P t = some z ∧ m = .mp l ∧ k = .ptr q 0 ∧ mapAt h l = some es ∧ KeysP h es ∧ cellAt h q ∧ touch C l ∧ N (.tup []) (h.set l (.map (pdel es q))) := by
  unfold apkDel at ha
  cases hz : MP C.P t with
  | none => rw [hz] at ha; exact ha.elim
  | some z =>
    cases hk : pk k with
    | none => rw [hz, hk] at ha; cases m <;> exact ha.elim
    | some q =>
      rw [hz, hk] at ha
      cases m with
      | mp l =>
        cases hes : mapAt h l with
        | none => simp only [hes] at ha
        | some es =>
          simp only [hes] at ha
          exact ⟨z, l, q, es, rfl, rfl, pk_some hk, hes, ha⟩
      | _ => exact ha.elim
/-- **looking at addresses does what is reckoned** -/
theorem peek_sound (hs : RS K σ a w) {o : Oper} {N : AV → AH → Prop} (ha : apeek C σ.tm σ.h N o.op)
    {next : Act → World → Prop} {Q : Exit → Act → World → Prop} (hn : NextOk C [] K σ.h w a o.dst N next) : o.wp C.P a w next Q := by
  have ev := fun p => eval_rep hs p
  cases ho : o.op <;> rw [ho] at ha <;> (first | (exact ha.elim; done) | skip)
  case binOp op t x y yt =>
    cases op <;> (first | (exact ha.elim; done) | skip)
    have ha : apkEq C t (evA σ.tm x) (evA σ.tm y) σ.h N := ha
    unfold apkEq at ha
    split at ha
    · rename_i l q hx hy
      obtain ⟨hP, h1, h2, hN⟩ := ha
      have e1 := ev x
      have e2 := ev y
      rw [pk_some hx] at e1
      rw [pk_some hy] at e2
      have e1 := ptr_val e1
      have e2 := ptr_val e2
      obtain ⟨el, i, hu, _, _⟩ := PT_some hP
      obtain ⟨b1, c1, t1, k1, _⟩ := cell_blk hs.rh h1
      obtain ⟨b2, c2, t2, k2, _⟩ := cell_blk hs.rh h2
      have hrun : ((do eqGuard .eql t x y (a.eval x) (a.eval y); binOp .eql t (a.eval x) (a.eval y)) : Sem Value).run C.P w = .ok (.bool (decide (l = q))) w := by
        have := eq_run (P := C.P) hs.rh hP h1 h2
        rw [e1, e2]
        rw [k1, k2] at this ⊢
        simp only [eqGuard, binOp, Sem.run_bind, this, Result.andThen_ok, Sem.run_pure, Bool.not_true, Bool.false_eq_true, if_false]
      have hexec : (execOp a.eval o).run C.P w = .ok (.value (.bool (decide (l = q)))) w := by
        simp only [execOp, ho, Sem.run_bind, Sem.run_pure] at hrun ⊢
        rw [hrun]; rfl
      have := hn K _ σ.h _ w (left_refl hs.rh) (.v _) hN
      simp only [Oper.wp, hexec, Oper.upon_value]
      exact this
    · exact ha.elim
  case lookup t m k ok =>
    cases ok with
    | true => exact ha.elim
    | false =>
      have ha : apkLk C t (evA σ.tm m) (evA σ.tm k) σ.h N := ha
      unfold apkLk at ha
      split at ha
      · rename_i z l q hz hm hk
        split at ha
        · rename_i es hes
          obtain ⟨hl, hkp, hq, hN⟩ := ha
          have e1 := ev m
          have e2 := ev k
          rw [hm] at e1
          rw [pk_some hk] at e2
          have e2 := ptr_val e2
          obtain ⟨kt, et, i, zv, hu, hP, hi, hzv, rfl⟩ := MP_some hz
          obtain ⟨b, mes, clock, hkb, hb, hlt, hr, _⟩ := mp_obj hs.rh hl hes
          generalize hve : a.eval m = ve at e1
          cases e1 with
          | mp _ _ =>
          rw [hkb] at hve
          have hg : (getObj b).run C.P w = .ok (.map mes clock) w := run_getMap hb
          obtain ⟨u, hu1, hu2⟩ : ∃ u, Rep K σ.h w ((pfind es q).getD (ofV zv)) u ∧ (Instr.lookup t (.map (some b)) (K q) false).run C.P w = .ok u w := by
            cases hf : pfind es q with
            | none =>
              obtain ⟨g1, _⟩ := pfind_none (P := C.P) hs.rh hP hq 0 hr hkp hf
              refine ⟨zv, ofV_rep _ _ _ _, ?_⟩
              simp only [Instr.lookup, Sem.run_bind, run_und hu, Result.andThen_ok, hg, Sem.run_pure, checkKey_ptr hP, findKey_ptr hP, g1, zeroValue, typeInfo, run_program, hi, hzv, Bool.false_eq_true, if_false]
            | some v =>
              obtain ⟨j, e, g0, g0', g1, g2, _⟩ := pfind_some (P := C.P) hs.rh hP hq 0 hr hkp hf
              refine ⟨e.val, g1, ?_⟩
              simp only [Instr.lookup, Sem.run_bind, run_und hu, Result.andThen_ok, hg, Sem.run_pure, checkKey_ptr hP, findKey_ptr hP, g2, Bool.false_eq_true, if_false]
          have := hn K _ σ.h u w (left_refl hs.rh) hu1 hN
          simp only [Oper.wp, execOp, ho, hve, e2, Sem.run_bind, hu2, Result.andThen_ok, Sem.run_pure, Oper.upon_value]
          exact this
        · exact ha.elim
      · exact ha.elim
  case mapUpdate t m k x =>
    have ha : apkUp C t (evA σ.tm m) (evA σ.tm k) (evA σ.tm x) σ.h N := ha
    unfold apkUp at ha
    split at ha
    · rename_i z l q hz hm hk
      split at ha
      · rename_i es hes
        obtain ⟨hkp, hq, ht, hN⟩ := ha
        have e1 := ev m
        have e2 := ev k
        have hx := ev x
        have e2r := e2
        rw [pk_some hk] at e2r
        rw [hm] at e1
        rw [pk_some hk] at e2
        have e2 := ptr_val e2
        rw [e2] at e2r
        obtain ⟨kt, et, i, zv, hu, hP, _, _, _⟩ := MP_some hz
        generalize hve : a.eval m = ve at e1
        cases e1 with
        | mp hl _ =>
        obtain ⟨b, mes, clock, hkb, hb, hlt, hr, hst0⟩ := mp_obj hs.rh hl hes
        rw [hkb] at hve
        have hg : (getObj b).run C.P w = .ok (.map mes clock) w := run_getMap hb
        have done : ∀ (mes' : Array MapEntry) (clock' : Nat), Left C [] K σ.h w (upd K l (K l)) (σ.h.set l (.map (pput es q (evA σ.tm x)))) (w.put' b (.map mes' clock')) →
            (Instr.mapUpdate t (.map (some b)) (K q) (a.eval x)).run C.P w = .ok () (w.put' b (.map mes' clock')) → o.wp C.P a w next Q := fun mes' clock' hl' hrun => by
          have := hn _ _ _ undef _ hl' (.v undef) hN
          simp only [Oper.wp, execOp, ho, hve, e2, Sem.run_bind, hrun, Result.andThen_ok, Sem.run_pure, Oper.upon_skip]
          exact this
        cases hf : pfind es q with
        | none =>
          obtain ⟨g1, g2, g4, _⟩ := pfind_none (P := C.P) hs.rh hP hq 0 hr hkp hf
          refine done (mes.push { key := K q, val := a.eval x, born := clock }) (clock + 1) (map_left hs hl hes ht hkb hb (fun hext => ?_) (MapKept.stamped_push hst0 fun x hx => g4 x hx)) ?_
          · rw [g2] at hext ⊢
            refine ⟨by simp [hr.1], fun i x' y h1 h2 => ?_⟩
            rw [Array.toList_push] at h2
            rw [List.getElem?_append] at h1 h2
            rw [hr.1] at h2
            split at h1
            · rename_i hi
              rw [if_pos hi] at h2
              exact ⟨((hr.2 i x' y h1 h2).1).ext hext, ((hr.2 i x' y h1 h2).2).ext hext⟩
            · rename_i hi
              rw [if_neg hi] at h2
              rcases hd : i - es.length with _ | d
              · rw [hd] at h1 h2
                simp at h1 h2; subst h1; subst h2
                exact ⟨e2r.ext hext, hx.ext hext⟩
              · rw [hd] at h1; simp at h1
          · simp only [Instr.mapUpdate, Sem.run_bind, run_und hu, Result.andThen_ok, hg, checkKey_ptr hP, findKey_ptr hP, g1, Sem.run_pure, run_setMap C.P _ hb]
        | some v =>
          obtain ⟨j, e, g0, g0', g1, g2, g3, _⟩ := pfind_some (P := C.P) hs.rh hP hq 0 hr hkp hf
          rw [Nat.zero_add] at g2
          have hstay : (Instr.keyThatStays (K q) (K q)).run C.P w = .ok (K q) w := by
            obtain ⟨b2, c2, t2, k2, _⟩ := cell_blk hs.rh hq
            have : Instr.sameBits 10000 (K q) (K q) = true := by
              rw [k2]
              show ((some (⟨b2, 0, none⟩ : Addr)) == some ⟨b2, 0, none⟩) = true
              exact beq_self_eq_true _
            simp only [Instr.keyThatStays, this, if_true, Sem.run_pure]
          have hmj : mes[j]? = some e := by simpa using g0
          refine done (mes.modify j fun e => { e with key := K q, val := a.eval x }) clock (map_left hs hl hes ht hkb hb (fun hext => ?_) (MapKept.stamped_modify hst0 j _ (fun _ _ => rfl) fun e' _ he' => by
            rw [hmj] at he'; injection he' with he'; subst he'; exact g0'.symm)) ?_
          · rw [g3] at hext ⊢
            refine ⟨by simp [hr.1], fun i x' y h1 h2 => ?_⟩
            rw [Array.toList_modify] at h2
            rw [List.getElem?_modify] at h2
            rw [List.getElem?_set] at h1
            by_cases hij : j = i
            · subst hij
              rw [g0] at h2
              simp only [if_true, Option.map_eq_map, Option.map_some, Option.some.injEq] at h1 h2
              split at h1
              · injection h1 with h1
                subst h1; subst h2
                exact ⟨e2r.ext hext, hx.ext hext⟩
              · cases h1
            · rw [if_neg hij] at h1
              simp only [hij, if_false, Option.map_id, id] at h2
              have h2' : mes.toList[i]? = some y := by simpa using h2
              exact ⟨((hr.2 i x' y h1 h2').1).ext hext, ((hr.2 i x' y h1 h2').2).ext hext⟩
          · simp only [Instr.mapUpdate, Sem.run_bind, run_und hu, Result.andThen_ok, hg, checkKey_ptr hP, findKey_ptr hP, g2, hmj, Option.map_some, Option.getD_some, g0', hstay, Sem.run_pure, run_setMap C.P _ hb]
      · exact ha.elim
    · exact ha.elim
  case call c =>
    obtain ⟨callee, args, ats⟩ := c
    have ha : apkCall C callee ats.toList (args.toList.map (evA σ.tm)) σ.h N := ha
    generalize hts : ats.toList = tl at ha
    generalize hargs : args.toList.map (evA σ.tm) = al at ha
    have hvs := map_eval_rep hs args
    rw [hargs] at hvs
    unfold apkCall at ha
    split at ha
    · rename_i t ts m k ha0
      clear ha0
      obtain ⟨z, l, q, es, hz, rfl, hk, hes, hkp, hq, ht, hN⟩ := apkDel_out ha
      obtain ⟨vl, vc⟩ := hvs
      generalize hev : args.map a.eval = vs at vl vc
      obtain ⟨v1, v2, hv⟩ : ∃ v1 v2, vs = #[v1, v2] := by
        match vs, vl with
        | ⟨[v1, v2]⟩, _ => exact ⟨v1, v2, rfl⟩
      rw [hv] at vc hev
      have e1 := vc 0 _ v1 rfl rfl
      have e2 := vc 1 _ v2 rfl rfl
      have e2 := ptr_val (by rw [hk] at e2; exact e2)
      subst e2
      obtain ⟨kt, et, i, zv, hu, hP, _, _, _⟩ := MP_some hz
      cases e1 with
      | mp hl _ =>
      obtain ⟨b, mes, clock, hkb, hb, hlt, hr, hst0⟩ := mp_obj hs.rh hl hes
      have hg : (getObj b).run C.P w = .ok (.map mes clock) w := run_getMap hb
      have h0 : ats[0]? = some t := by
        have : ats.toList[0]? = some t := by rw [hts]; rfl
        simpa using this
      have done : ∀ (mes' : Array MapEntry), Left C [] K σ.h w (upd K l (K l)) (σ.h.set l (.map (pdel es q))) (w.put' b (.map mes' clock)) →
          (Builtin.delete_ ats o.type #[.map (some b), K q]).run C.P w = .ok (.tuple #[]) (w.put' b (.map mes' clock)) → o.wp C.P a w next Q := fun mes' hl' hrun => by
        have := hn _ _ _ (.tuple #[]) _ hl' (.tup rfl fun i x y h1 => by simp at h1) hN
        rw [hkb] at hev
        simp only [Oper.wp, execOp, ho, resolve, invoke, builtin, hev, Sem.run_bind, hrun, Result.andThen_ok, Sem.run_pure, Oper.upon_value]
        exact this
      cases hf : pfind es q with
      | none =>
        obtain ⟨g1, _, _, g4⟩ := pfind_none (P := C.P) hs.rh hP hq 0 hr hkp hf
        refine done mes (map_left hs hl hes ht hkb hb (fun hext => ?_) hst0) ?_
        · rw [g4] at hext ⊢
          exact ⟨hr.1, fun i x y h1 h2 => ⟨((hr.2 i x y h1 h2).1).ext hext, ((hr.2 i x y h1 h2).2).ext hext⟩⟩
        · simp only [Builtin.delete_, h0, List.getElem?_toArray, List.getElem?_cons_zero, List.getElem?_cons_succ, Sem.run_bind, run_und hu, Result.andThen_ok, hg, checkKey_ptr hP, findKey_ptr hP, g1, Sem.run_pure, run_setMap C.P _ hb]
      | some v =>
        obtain ⟨j, e, g0, _, _, g2, _, g4⟩ := pfind_some (P := C.P) hs.rh hP hq 0 hr hkp hf
        rw [Nat.zero_add] at g2
        refine done (mes.eraseIdxIfInBounds j) (map_left hs hl hes ht hkb hb (fun hext => ?_) (MapKept.stamped_erase hst0 j)) ?_
        · rw [g4] at hext ⊢
          have hj : j < mes.toList.length := (List.getElem?_eq_some_iff.1 g0).1
          have hje : (mes.eraseIdxIfInBounds j).toList = mes.toList.eraseIdx j := by simp [Array.eraseIdxIfInBounds, show j < mes.size by simpa using hj]
          rw [hje]
          refine ⟨by rw [List.length_eraseIdx, List.length_eraseIdx, hr.1], fun i x y h1 h2 => ?_⟩
          rw [List.getElem?_eraseIdx] at h1 h2
          split at h1
          · rename_i hi
            rw [if_pos hi] at h2
            exact ⟨((hr.2 i x y h1 h2).1).ext hext, ((hr.2 i x y h1 h2).2).ext hext⟩
          · rename_i hi
            rw [if_neg hi] at h2
            exact ⟨((hr.2 _ x y h1 h2).1).ext hext, ((hr.2 _ x y h1 h2).2).ext hext⟩
        · simp only [Builtin.delete_, h0, List.getElem?_toArray, List.getElem?_cons_zero, List.getElem?_cons_succ, Sem.run_bind, run_und hu, Result.andThen_ok, hg, checkKey_ptr hP, findKey_ptr hP, g2, Sem.run_pure, run_setMap C.P _ hb]
    · exact ha.elim
end
end Go.Isea

namespace Go.Isea
open Go

theorem setn_length : ∀ (l : List AV) (i : Nat) (x : AV), (setn l i x).length = l.length
  | [], _, _ => rfl
  | _ :: l, 0, _ => rfl
  | _ :: l, n + 1, x => by simp [setn, setn_length l n x]
theorem setn_get : ∀ (l : List AV) (i : Nat) (x : AV) (j : Nat), (setn l i x)[j]? = if i = j then (if j < l.length then some x else none) else l[j]?
  | [], i, x, j => by simp [setn]
  | y :: l, 0, x, 0 => by simp [setn]
  | y :: l, 0, x, j + 1 => by simp [setn]
  | y :: l, i + 1, x, 0 => by simp [setn]
  | y :: l, i + 1, x, j + 1 => by simp [setn, setn_get l i x j]

section
variable {K : KM} {w : World}
theorem put_rep {h : AH} {tm : List AV} {a : Act} (hr : RepL K h w tm a.tmps) (dst : Option Tmp) {x : AV} {v : Value} (hx : Rep K h w x v) : RepL K h w (putn tm dst x) (a.put dst v).tmps := by
  cases dst with
  | none => exact hr
  | some d =>
    refine ⟨by simp [putn, Act.put, setn_length, hr.1], fun i y u h1 h2 => ?_⟩
    simp only [putn, setn_get] at h1
    simp only [Act.put, Array.getElem?_setIfInBounds] at h2
    by_cases e : d = i
    · subst e
      simp only [if_true] at h1 h2
      split at h1
      · split at h2
        · injection h1 with h1; injection h2 with h2; subst h1; subst h2; exact hx
        · cases h2
      · cases h1
    · rw [if_neg e] at h1 h2
      exact hr.2 i y u h1 h2
theorem put_df {a : Act} (dst : Option Tmp) (v : Value) : (a.put dst v).defers = a.defers := by cases dst <;> rfl

/-- where a function's run stands: what holds, and what has turned since it was entered -/
structure Live (C : Cx) (K0 : KM) (h0 : AH) (w0 : World) (K : KM) (σ : St) (a : Act) (w : World) : Prop where
  rs : RS K σ a w
  rh0 : RH K0 h0 w0
  n0 : C.n0 = h0.n
  ext : Ext C.T K0 h0 w0 K σ.h w

variable {C : Cx} {K0 : KM} {h0 : AH} {w0 : World} {σ : St} {a : Act}
theorem Live.put (hl : Live C K0 h0 w0 K σ a w) {x : AV} {v : Value} (hx : Rep K σ.h w x v) (dst : Option Tmp) : Live C K0 h0 w0 K ⟨putn σ.tm dst x, σ.h⟩ (a.put dst v) w :=
  ⟨⟨hl.rs.rh, (put_df dst v).trans hl.rs.df, put_rep hl.rs.tm dst hx⟩, hl.rh0, hl.n0, hl.ext⟩
theorem Live.left (hl : Live C K0 h0 w0 K σ a w) {pr : List Nat} {K' : KM} {h' : AH} {w' : World} (hf : Left C pr K σ.h w K' h' w') {x : AV} {v : Value} (hx : Rep K' h' w' x v) (dst : Option Tmp) :
    Live C K0 h0 w0 K' ⟨putn σ.tm dst x, h'⟩ (a.put dst v) w' := by
  obtain ⟨T, e, ht, -⟩ := hf.ext
  refine ⟨⟨hf.rh, (put_df dst v).trans hl.rs.df, put_rep (hl.rs.tm.ext e) dst hx⟩, hl.rh0, hl.n0, hl.ext.trans e (fun t h _ => h) fun t h hlt => (ht t h (Nat.lt_of_lt_of_le hlt hl.ext.n)).resolve_left ?_⟩
  rw [hl.n0]; omega

theorem Live.weak (hl : Live C K0 h0 w0 K σ a w) {σ' : St} (hw : Weak C σ σ') : Live C K0 h0 w0 K σ' a w := by
  have hf : FinS C.T h0 σ.h .junk σ'.h .junk := ⟨by rw [← hl.n0]; exact hw.n0, hw.n, .junk _, fun t ht hT => by
      rw [hw.old t (by rw [hl.n0]; exact ht) hT]; exact (hl.ext.keep t ht hT).2, fun t ht hc => hw.turned t ht (by rw [hl.n0]; exact hc)⟩
  obtain ⟨h1, h2, _⟩ := fin_sound hl.rh0 hl.rs.rh hl.ext hf (.junk undef)
  have hrep : ∀ {x y : AV} {v : Value}, Fz σ.h σ'.h.n x y → Rep K σ.h w x v → Rep K σ'.h w y v := fun hf' hr' => (fin_sound hl.rh0 hl.rs.rh hl.ext (⟨hf.n0, hf.n, hf', hf.old, hf.turned⟩ : FinS C.T h0 σ.h _ σ'.h _) hr').2.2
  refine ⟨⟨h1, hl.rs.df, hl.rs.tm.1.trans hw.tm.1.symm, fun i y v g1 g2 => ?_⟩, hl.rh0, hl.n0, h2⟩
  have hi := (List.getElem?_eq_some_iff.1 g1).1
  have := hw.tm.1
  exact hrep (hw.tm.2 i _ y (List.getElem?_eq_getElem (by omega)) g1) (hl.rs.tm.2 i _ v (List.getElem?_eq_getElem (by omega)) g2)

theorem nth_get (hs : RepL K σ.h w σ.tm a.tmps) (d : Nat) : Rep K σ.h w (nth σ.tm d) (a.tmps.getD d undef) := by
  have := nth_rep (tm := σ.tm) (l := a.tmps.toList) (by simpa using hs.1) (fun i x y h1 h2 => hs.2 i x y h1 (by simpa using h2)) d
  simpa [Array.getD_eq_getD_getElem?, List.getD] using this
theorem wanted_of (hs : RS K σ a w) {all : List Oper} {o : Oper} {b : Bool} (h : awanted all σ.tm o.guard = some b) : Region.wanted o (yielded all.toArray a.tmps) = b := by
  unfold Region.wanted
  cases hg : o.guard with
  | none => rw [hg] at h; simpa [awanted] using h
  | some p =>
    obtain ⟨j, want⟩ := p
    rw [hg] at h
    simp only [awanted] at h
    simp only [yielded, List.getElem?_toArray]
    cases hj : all[j]? with
    | none => rw [hj] at h; cases h
    | some oj =>
      rw [hj] at h
      simp only at h
      cases hd : oj.dst with
      | none => rw [hd] at h; cases h
      | some d =>
        rw [hd] at h
        simp only at h
        have hr := nth_get hs.tm d
        simp only [Option.bind_some, hd]
        split at h
        · rename_i b' hb'
          rw [hb'] at hr
          have hv : a.tmps.getD d undef = .bool b' := raw_rep (x := .v (.bool b')) rfl hr
          have : a.tmps[d]? = some (.bool b') := by
            rw [Array.getD_eq_getD_getElem?] at hv
            cases ht : a.tmps[d]? with
            | none => rw [ht] at hv; simp [undef] at hv
            | some u => rw [ht] at hv; simp at hv; rw [hv]
          rw [this]
          simpa using h
        · rename_i vs hb'
          rw [hb'] at hr
          have hv : a.tmps.getD d undef = .tuple vs := raw_rep (x := .v (.tuple vs)) rfl hr
          have : ∀ b, a.tmps[d]? ≠ some (.bool b) := fun b hb => by
            rw [Array.getD_eq_getD_getElem?, hb] at hv; simp at hv
          injection h with h
          subst h
          split
          · rename_i b hb; exact absurd hb (this b)
          · rfl
        · cases h

/-- one operation, carried out where it stands -/
theorem aop_wp (hl : Live C K0 h0 w0 K σ a w) {o : Oper} {pr : List Nat} {N : AV → AH → Prop} (ha : AOp C pr o σ.tm σ.h N) {next : Act → World → Prop} {Q : Exit → Act → World → Prop}
    (hn : ∀ K' x h' w' v, Live C K0 h0 w0 K' ⟨putn σ.tm o.dst x, h'⟩ (a.put o.dst v) w' → (∃ T, Ext T K σ.h w K' h' w' ∧ ∀ t, t ∈ pr → t ∉ T) → N x h' → next (a.put o.dst v) w') : o.wp C.P a w next Q := by
  unfold AOp at ha
  split at ha
  · exact aact_sound hl.rs ha fun K' x h' v w' h1 h2 h3 => hn K' x h' w' v (hl.left h1 h2 _) (by obtain ⟨T, e, _, g⟩ := h1.ext; exact ⟨T, e, g⟩) h3
  · unfold OptK at ha
    split at ha
    · rename_i x hx
      obtain ⟨u, h1, h2⟩ := aval_sound hl.rs hx
      have := hn K x σ.h w u (hl.put h1 _) ⟨[], Ext.refl _ _ _ _, fun t _ ht => by cases ht⟩ ha
      have hrun : (execOp a.eval o).run C.P w = .ok (.value u) w := by
        rcases h2 with h2 | ⟨b, L, _, _, h5⟩
        · exact h2 w
        · exact h5 w rfl
      simp only [Oper.wp, hrun, Oper.upon_value]
      exact this
    · exact ha.elim

/-- one operation that looks at addresses -/
theorem aopP_wp (hl : Live C K0 h0 w0 K σ a w) {o : Oper} {N : AV → AH → Prop} (ha : AOpP C o σ.tm σ.h N) {next : Act → World → Prop} {Q : Exit → Act → World → Prop}
    (hn : ∀ K' x h' w' v, Live C K0 h0 w0 K' ⟨putn σ.tm o.dst x, h'⟩ (a.put o.dst v) w' → N x h' → next (a.put o.dst v) w') : o.wp C.P a w next Q := by
  unfold AOpP at ha
  split at ha
  · exact peek_sound hl.rs ha fun K' x h' v w' h1 h2 h3 => hn K' x h' w' v (hl.left h1 h2 _) h3
  · exact aop_wp hl ha fun K' x h' w' v h1 _ h3 => hn K' x h' w' v h1 h3
theorem aopsP_list {all : List Oper} {N : St → Prop} {Q : Exit → Act → World → Prop} (hq : ∀ K σ a w, Live C K0 h0 w0 K σ a w → N σ → Q .normal a w) :
    ∀ (l : List Oper) (K : KM) (σ : St) (a : Act) (w : World), Live C K0 h0 w0 K σ a w → AOpsP C l N σ → wpList C.P all.toArray Q l a w
  | [], K, σ, a, w, hl, h => hq K σ a w hl h
  | o :: rest, K, σ, a, w, hl, h => by
    obtain ⟨hg, h⟩ := h
    unfold wpList
    rw [if_pos (wanted_of (all := all) hl.rs (by rw [hg]; rfl))]
    exact .inl (aopP_wp hl h fun K' x h' w' v h1 h3 => aopsP_list hq rest K' _ _ w' h1 h3)
/-- a region in the order of the text -/
theorem aops_list {all : List Oper} {N : St → Prop} {Q : Exit → Act → World → Prop} (hq : ∀ K σ a w, Live C K0 h0 w0 K σ a w → N σ → Q .normal a w) :
    ∀ (l : List Oper) (R : List (Nat × Nat)) (i : Nat) (K : KM) (σ : St) (a : Act) (w : World), Live C K0 h0 w0 K σ a w → AOps C all false R i l N σ → wpList C.P all.toArray Q l a w
  | [], R, i, K, σ, a, w, hl, h => hq K σ a w hl h
  | o :: rest, R, i, K, σ, a, w, hl, h => by
    simp only [AOps] at h
    unfold Wants at h
    split at h
    · rename_i hw
      unfold wpList
      rw [if_pos (wanted_of hl.rs hw)]
      exact .inl (aop_wp hl h fun K' x h' w' v h1 _ h3 => aops_list hq rest _ (i + 1) K' _ _ w' h1 h3)
    · rename_i hw
      unfold wpList
      rw [if_neg (by rw [wanted_of hl.rs hw]; simp)]
      exact aops_list hq rest _ (i + 1) K _ _ w (hl.put (.v undef) _) h
    · exact h.elim
end

/-! whatever order -/
/-- does the order serve? -/
def actAt (ops : Array Oper) (i : Nat) : Bool := match ops[i]? with | some o => isAct o.op | none => false
def lookAt (ops : Array Oper) (i : Nat) : Bool := match ops[i]? with | some o => !isAct o.op | none => false
def OT.ofL : List Nat → OT
  | [] => .e
  | i :: r => .o i (OT.ofL r)
def cntT : OT → Nat
  | .e => 0
  | .o _ t => cntT t + 1
  | .f a _ => cntT a
  | .p => 0
def hdT : OT → List Nat
  | .e => []
  | .o i _ => [i]
  | .f a b => hdT a ++ hdT b
  | .p => []
/-- does the order serve? (br: as one of two ways) -/
def ordOk (ops : Array Oper) : Bool → OT → Array Bool → Bool
  | br, .e, listed => !br && (Region.ready .any ops listed).isEmpty
  | br, .o i t, listed => (match ops[i]? with
     | some o => if br then isAct o.op else (if isAct o.op then Region.ready .any ops listed == [i] else (Region.ready .any ops listed).contains i && Region.free .any ops listed i)
     | none => false) && ordOk ops false t (listed.setIfInBounds i true)
  | br, .f a b, listed => (br || (!(Region.ready .any ops listed).isEmpty && (Region.ready .any ops listed).all fun j => (hdT (.f a b)).contains j)) && (cntT a == cntT b && (ordOk ops true a listed && ordOk ops true b listed))
  | _, .p, _ => false
def OT.isP : OT → Bool
  | .p => true
  | _ => false
def regOk (ops : Array Oper) (ord : OT) : Bool := Region.noSelect ops && cntT ord == ops.size && ordOk ops false ord (Array.replicate ops.size false)
def codeOk (ords : List (Nat × OT)) : Code → Bool
  | .region id ops draw => (match ordAt ords id with
    | some ord => if ord.isP = true then !draw else draw && regOk ops ord
    | none => !draw || regOk ops (OT.ofL (List.range ops.size)))
  | .seq a b => codeOk ords a && codeOk ords b
  | .cond _ a b => codeOk ords a && codeOk ords b
  | .block _ c => codeOk ords c
  | .loop c => codeOk ords c
  | .scope c => codeOk ords c
  | _ => true
/-- what was read: by which operation, in which block, and what stood there -/
abbrev Hs := List (Nat × Nat × Option Obj)
def TH (all : List Oper) (H : Hs) (j : Nat) (w w' : World) : Prop := ∀ r b c, (r, b, c) ∈ H → waitsF all.toArray all.toArray.size j r = false → w.heap[b]? = c → w'.heap[b]? = c
def HOk (K : KM) (h : AH) (w : World) (R : List (Nat × Nat)) (H : Hs) : Prop := ∀ r b c, (r, b, c) ∈ H → b < w.heap.size ∧ ∀ t, t < h.n → blk (K t) = some b → (r, t) ∈ R
theorem wpAnyT_mono {P : Program} {ops : Array Oper} {Q : Exit → Act → World → Prop} {T T' : Nat → World → World → Prop} (hT : ∀ j w w', T j w w' → T' j w w') :
    ∀ (fuel : Nat) (listed : Array Bool) (a : Act) (w : World), wpAnyT P ops Q T fuel listed a w → wpAnyT P ops Q T' fuel listed a w
  | 0, _, _, _, h => h
  | fuel + 1, _, _, w, h => ⟨h.1, fun i hi => wpOp_mono (fun a' w' h' => ⟨hT _ _ _ h'.1, wpAnyT_mono hT fuel _ a' w' h'.2⟩) (h.2 i hi)⟩
theorem Ext.hOk {T : List Nat} {K K' : KM} {h h' : AH} {w w' : World} (e : Ext T K h w K' h' w') {R : List (Nat × Nat)} {H : Hs} (ho : HOk K h w R H) : HOk K' h' w' R H := fun r b c hm => by
  obtain ⟨h1, h2⟩ := ho r b c hm
  refine ⟨Nat.lt_of_lt_of_le h1 e.size, fun t ht hb => ?_⟩
  rcases e.blocks t b ht hb with hh | ⟨hn, hk⟩
  · omega
  · exact h2 t hn hk
theorem nextR_no {draw : Bool} {i : Nat} {op : Op} {tm : List AV} {R : List (Nat × Nat)} (h : marks op = false) : nextR draw i op tm R = R := by
  cases op <;> first | rfl | (simp [marks] at h)
theorem nextR_sub {i : Nat} {op : Op} {tm : List AV} {R : List (Nat × Nat)} : ∀ p, p ∈ R → p ∈ nextR true i op tm R := by
  cases op <;> first | exact fun _ h => h | exact addR_mem.2
section
variable {C : Cx} {K0 : KM} {h0 : AH} {w0 : World}
theorem act_step {all : List Oper} {Q : Exit → Act → World → Prop} {i : Nat} {o : Oper} (hio : all[i]? = some o) (hact : isAct o.op = true) {R : List (Nat × Nat)} {H : Hs} {K : KM} {σ : St} {a : Act} {w : World} (hH : HOk K σ.h w R H) (hl : Live C K0 h0 w0 K σ a w)
    {N : List (Nat × Nat) → St → Prop} (h : OStep C all i R σ N) {Rest : Act → World → Prop} (next : ∀ K' σ' a' w', Live C K0 h0 w0 K' σ' a' w' → HOk K' σ'.h w' R H → N R σ' → Rest a' w') : wpOp C.P all.toArray Q i (fun a' w' => TH all H i w w' ∧ Rest a' w') a w := by
  have hoi : all.toArray[i]? = some o := by simpa using hio
  have hrd : marks o.op = false := by
    generalize o.op = op at hact ⊢
    cases op <;> first | rfl | (simp [isAct] at hact)
  unfold OStep at h
  rw [hio] at h
  simp only at h
  unfold wpOp
  rw [hoi]
  show if Region.wanted o (yielded all.toArray a.tmps) = true then _ else _
  unfold Wants at h
  split at h
  · rename_i hw
    rw [if_pos (wanted_of hl.rs hw)]
    refine .inl (aop_wp hl h fun K' x h' w' v h1 h2 h3 => ?_)
    obtain ⟨T, e, hT⟩ := h2
    refine ⟨fun r b c hm hwt hb => ?_, next K' _ _ w' h1 (e.hOk hH) (by rw [nextR_no hrd] at h3; exact h3)⟩
    obtain ⟨g1, g2⟩ := hH r b c hm
    rw [e.same b g1 fun t ht htn hk => hT t ?_ ht]
    · exact hb
    · exact List.mem_map.2 ⟨(r, t), List.mem_filter.2 ⟨g2 t htn hk, by show (!waitsF all.toArray all.toArray.size _ r) = true; rw [hwt]; rfl⟩, rfl⟩
  · rename_i hw
    rw [if_neg (by rw [wanted_of hl.rs hw]; simp)]
    exact ⟨fun _ _ _ _ _ hb => hb, next K _ _ w (hl.put (.v undef) _) hH h⟩
  · exact h.elim
theorem look_step {all : List Oper} {Q : Exit → Act → World → Prop} (hs : Region.noSelect all.toArray = true) (hQ : ∀ c a d v w, Q (.panic c) (Act.put a d v) w → Q (.panic c) a w) {z : Nat} {listed : Array Bool} (hz : lookAt all.toArray z = true)
    (hr' : z ∈ Region.ready .any all.toArray listed) (hfr : Region.free .any all.toArray listed z = true) {R : List (Nat × Nat)} {H : Hs} {K : KM} {σ : St} {a : Act} {w : World} {fuel : Nat} (hc : Closed all.toArray listed) (hH : HOk K σ.h w R H) (hl : Live C K0 h0 w0 K σ a w)
    {N : List (Nat × Nat) → St → Prop} (h : OStep C all z R σ N)
    (next : ∀ R' H' σ' a', Live C K0 h0 w0 K σ' a' w → HOk K σ'.h w R' H' → N R' σ' → wpAnyT C.P all.toArray Q (TH all H') fuel (listed.setIfInBounds z true) a' w) : wpAnyT C.P all.toArray Q (TH all H) (fuel + 1) listed a w := by
  unfold lookAt at hz
  split at hz
  · rename_i o hoi
    have hio : all[z]? = some o := by simpa using hoi
    have hact : ¬ isAct o.op = true := by simpa using hz
    have hf := Region.free_spec hoi hfr
    unfold OStep at h
    rw [hio] at h
    simp only at h
    unfold Wants at h
    split at h
    · rename_i hw
      unfold AOp at h
      rw [if_neg hact] at h
      unfold OptK at h
      split at h
      · rename_i x hx
        obtain ⟨u, h1, h2⟩ := aval_sound hl.rs hx
        have hH' : HOk K σ.h w (nextR true z o.op σ.tm R) H := fun r b c hm => ⟨(hH r b c hm).1, fun t ht hk => nextR_sub _ ((hH r b c hm).2 t ht hk)⟩
        rcases h2 with h2 | ⟨b, L, ⟨hb1, hb2⟩, hL, h5⟩
        · refine wpAnyT_first (G := fun _ => True) hoi (Region.noSelect_spec hs) (fun c a w => hQ c a _ _ w) (fun W _ _ _ _ _ _ hb => hb) (fun j _ _ => .inr fun _ _ _ _ => trivial) fuel listed a w hc hf hr' (.inl ⟨wanted_of hl.rs hw, fun W _ => h2 W⟩) trivial
            (next _ H _ _ (hl.put h1 _) hH' h)
        · refine wpAnyT_mono (T := TH all ((z, b, w.heap[b]?) :: H)) (fun j W W' ht r b' c hm => ht r b' c (List.mem_cons_of_mem _ hm)) _ _ _ _ ?_
          refine wpAnyT_first (G := fun W => W.heap[b]? = w.heap[b]?) hoi (Region.noSelect_spec hs) (fun c a w => hQ c a _ _ w) (fun W _ _ _ _ _ _ hb => hb) (fun j _ _ => ?_) fuel listed a w hc hf hr' (.inl ⟨wanted_of hl.rs hw, fun W hW => h5 W hW⟩) rfl
            (next _ _ _ _ (hl.put h1 _) ?_ h)
          · cases hwt : waitsF all.toArray all.toArray.size j z with
            | true => exact .inl rfl
            | false => exact .inr fun W W' ht hg => ht z b _ (List.mem_cons_self ..) hwt hg
          · intro r b' c hm
            rcases List.mem_cons.1 hm with hm | hm
            · cases hm
              exact ⟨hb1, fun t ht hk => hL t (hb2 t ht hk) R z⟩
            · exact hH' r b' c hm
      · exact h.elim
    · rename_i hw
      exact wpAnyT_first (G := fun _ => True) hoi (Region.noSelect_spec hs) (fun c a w => hQ c a _ _ w) (fun W _ _ _ _ _ _ hb => hb) (fun j _ _ => .inr fun _ _ _ _ => trivial) fuel listed a w hc hf hr' (.inr ⟨wanted_of hl.rs hw, rfl⟩) trivial
        (next R H _ _ (hl.put (.v undef) _) hH h)
    · exact h.elim
  · cases hz
theorem aops_any {all : List Oper} {N : St → Prop} {Q : Exit → Act → World → Prop} (hq : ∀ K σ a w, Live C K0 h0 w0 K σ a w → N σ → Q .normal a w)
    (hs : Region.noSelect all.toArray = true) (hQ : ∀ c a d v w, Q (.panic c) (Act.put a d v) w → Q (.panic c) a w) :
    ∀ (ord : OT) (R : List (Nat × Nat)) (H : Hs) (listed : Array Bool) (K : KM) (σ : St) (a : Act) (w : World), Closed all.toArray listed → HOk K σ.h w R H →
      Live C K0 h0 w0 K σ a w → AOpsO C all R ord N σ →
      (ordOk all.toArray false ord listed = true → wpAnyT C.P all.toArray Q (TH all H) (cntT ord) listed a w) ∧
      (ordOk all.toArray true ord listed = true → ∀ j, j ∈ hdT ord → j ∈ Region.ready .any all.toArray listed → ∃ m, cntT ord = m + 1 ∧ wpOp C.P all.toArray Q j (fun a' w' => TH all H j w w' ∧ wpAnyT C.P all.toArray Q (TH all H) m (listed.setIfInBounds j true) a' w') a w) := by
  intro ord
  induction ord with
  | e =>
    intro R H listed K σ a w hc _ hl h
    refine ⟨fun hB => ⟨by simpa [ordOk] using hB, hq K σ a w hl h⟩, fun hB => ?_⟩
    simp [ordOk] at hB
  | o i t ih =>
    intro R H listed K σ a w hc hH hl h
    have h : OStep C all i R σ (fun R' => AOpsO C all R' t N) := h
    cases hio : all[i]? with
    | none => unfold OStep at h; rw [hio] at h; exact h.elim
    | some o =>
      have hoi : all.toArray[i]? = some o := by simpa using hio
      have next : ordOk all.toArray false t (listed.setIfInBounds i true) = true → ∀ R' H' K' σ' a' w', i ∈ Region.ready .any all.toArray listed → Live C K0 h0 w0 K' σ' a' w' → HOk K' σ'.h w' R' H' → AOpsO C all R' t N σ' → wpAnyT C.P all.toArray Q (TH all H') (cntT t) (listed.setIfInBounds i true) a' w' :=
        fun hB R' H' K' σ' a' w' hr hl' hH' h' => (ih R' H' _ K' σ' a' w' (hc.set hr) hH' hl' h').1 hB
      constructor
      · intro hB
        unfold ordOk at hB
        rw [hoi] at hB
        simp only [Bool.and_eq_true] at hB
        obtain ⟨hB1, hB2⟩ := hB
        rw [if_neg (by simp)] at hB1
        by_cases hact : isAct o.op = true
        · rw [if_pos hact] at hB1
          have hr : Region.ready .any all.toArray listed = [i] := by simpa using hB1
          have hmem : i ∈ Region.ready .any all.toArray listed := by rw [hr]; simp
          refine ⟨(fun h0 => by rw [h0] at hmem; simp at hmem), fun j hj => ?_⟩
          rw [hr] at hj
          have hji : j = i := by simpa using hj
          subst hji
          exact act_step hio hact hH hl h fun K' σ' a' w' h1 h2 h3 => next hB2 R H K' σ' a' w' hmem h1 h2 h3
        · rw [if_neg hact] at hB1
          simp only [Bool.and_eq_true] at hB1
          have hr' : i ∈ Region.ready .any all.toArray listed := by simpa using hB1.1
          exact look_step hs hQ (by unfold lookAt; rw [hoi]; simpa using hact) hr' hB1.2 hc hH hl h fun R' H' σ' a' g1 g2 g3 => next hB2 R' H' K σ' a' w hr' g1 g2 g3
      · intro hB j hj hjr
        have hji : j = i := by simpa [hdT] using hj
        subst hji
        unfold ordOk at hB
        rw [hoi] at hB
        simp only [Bool.and_eq_true] at hB
        obtain ⟨hB1, hB2⟩ := hB
        rw [if_pos trivial] at hB1
        exact ⟨cntT t, rfl, act_step hio hB1 hH hl h fun K' σ' a' w' h1 h2 h3 => next hB2 R H K' σ' a' w' hjr h1 h2 h3⟩
  | f a b iha ihb =>
    intro R H listed K σ A w hc hH hl h
    obtain ⟨ha, hb⟩ : AOpsO C all R a N σ ∧ AOpsO C all R b N σ := h
    have ga := (iha R H listed K σ A w hc hH hl ha).2
    have gb := (ihb R H listed K σ A w hc hH hl hb).2
    have br : cntT a = cntT b → ordOk all.toArray true a listed = true → ordOk all.toArray true b listed = true → ∀ j, j ∈ hdT (.f a b) → j ∈ Region.ready .any all.toArray listed → ∃ m, cntT (.f a b) = m + 1 ∧ wpOp C.P all.toArray Q j (fun a' w' => TH all H j w w' ∧ wpAnyT C.P all.toArray Q (TH all H) m (listed.setIfInBounds j true) a' w') A w := fun hc1 h1 h2 j hj hjr => by
      rcases List.mem_append.1 (show j ∈ hdT a ++ hdT b from hj) with hj | hj
      · exact ga h1 j hj hjr
      · obtain ⟨m, g1, g2⟩ := gb h2 j hj hjr
        exact ⟨m, by show cntT a = _; rw [hc1, g1], g2⟩
    constructor
    · intro hB
      unfold ordOk at hB
      simp only [Bool.and_eq_true, Bool.or_eq_true, beq_iff_eq, Bool.not_eq_true'] at hB
      obtain ⟨h1, h2, h3, h4⟩ := hB
      have h1 := h1.resolve_left (by simp)
      obtain ⟨hne, hall⟩ := h1
      have hall := List.all_eq_true.1 hall
      have hne : Region.ready .any all.toArray listed ≠ [] := fun e => by rw [e] at hne; simp at hne
      obtain ⟨j0, hj0⟩ := List.exists_mem_of_ne_nil _ hne
      obtain ⟨m, g1, _⟩ := br h2 h3 h4 j0 (by simpa using hall j0 hj0) hj0
      rw [g1]
      refine ⟨fun e => absurd e hne, fun j hj => ?_⟩
      obtain ⟨m', g1', g2'⟩ := br h2 h3 h4 j (by simpa using hall j hj) hj
      have : m' = m := by omega
      subst this
      exact g2'
    · intro hB
      unfold ordOk at hB
      simp only [Bool.and_eq_true, Bool.or_eq_true, beq_iff_eq] at hB
      obtain ⟨_, h2, h3, h4⟩ := hB
      exact br h2 h3 h4
  | p =>
    intro R H listed K σ A w hc hH hl h
    exact ⟨fun hB => (by unfold ordOk at hB; cases hB), fun hB => (by unfold ordOk at hB; cases hB)⟩
/-- the text's order is an order -/
theorem aops_text {all : List Oper} {N : St → Prop} : ∀ (l : List Oper) (R : List (Nat × Nat)) (i : Nat), (∀ k, l[k]? = all[i + k]?) → AOps C all true R i l N = AOpsO C all R (OT.ofL (List.range' i l.length)) N
  | [], R, i, _ => rfl
  | o :: l, R, i, hio => by
    have hoi : all[i]? = some o := by have := hio 0; simpa using this.symm
    have hio' : ∀ k, l[k]? = all[i + 1 + k]? := fun k => by have := hio (k + 1); rw [List.getElem?_cons_succ] at this; rw [this]; congr 1; omega
    have ih := fun R => aops_text (N := N) l R (i + 1) hio'
    funext σ
    simp only [AOps, List.length_cons, List.range'_succ, ih]
    show _ = OStep C all i R σ (fun R' => AOpsO C all R' (OT.ofL (List.range' (i + 1) l.length)) N)
    unfold OStep
    rw [hoi]
/-- **a region**, drawn or not -/
theorem region_sound {id : Nat} {ops : Array Oper} {draw : Bool} {N : St → Prop} {Q : Exit → Act → World → Prop} (hm : C.P.follows .mixedOrders = true) (hok : codeOk C.ords (.region id ops draw) = true)
    (hq : ∀ K σ a w, Live C K0 h0 w0 K σ a w → N σ → Q .normal a w) {K : KM} {σ : St} {a : Act} {w : World} (hl : Live C K0 h0 w0 K σ a w) (h : AReg C (ordAt C.ords id) ops.toList draw N σ) : (Code.region id ops draw).wp C.P Q a w := by
  have drawn : ∀ ord, regOk ops ord = true → AOpsO C ops.toList [] ord N σ → (Code.region id ops true).wp C.P Q a w := fun ord hok h => by
    simp only [regOk, Bool.and_eq_true, beq_iff_eq] at hok
    refine wp_region_noPanic (wp_region_any hm ?_)
    have hl' : Live C K0 h0 w0 K σ a w.drew := by
      have e : Ext [] K σ.h w K σ.h w.drew := Ext.was rfl rfl rfl (Nat.le_refl _) (fun _ _ => rfl)
      exact ⟨⟨hl.rs.rh.stay e, hl.rs.df, hl.rs.tm.ext e⟩, hl.rh0, hl.n0, hl.ext.trans e (fun t h _ => h) (fun t h => by cases h)⟩
    have := aops_any (C := C) (all := ops.toList) (N := N) (Q := NoPanic Q) (fun K σ a w h1 h2 => hq K σ a w h1 h2) (by simpa using hok.1.1) (fun c a d v w h => h) ord [] [] (Array.replicate ops.size false) K σ a w.drew
      (fun k o _ hk => by simp [Array.getElem?_replicate] at hk; split at hk <;> simp at hk) (fun r b c hm => by cases hm) hl' h |>.1 (by have := hok.2; simpa using this)
    have := wpAny_of_T (T := TH ops.toList []) _ _ _ _ (by simpa using this)
    rw [hok.1.2] at this
    exact this
  unfold codeOk at hok
  unfold AReg at h
  cases ho : ordAt C.ords id with
  | some ord =>
    rw [ho] at hok h
    simp only at hok h
    by_cases hp : ord.isP = true
    · rw [if_pos hp] at hok
      have hd : draw = false := by simpa using hok
      subst hd
      have he : ord = .p := by
        cases ord with
        | p => rfl
        | _ => cases hp
      subst he
      exact wp_region_list (by have := aopsP_list (all := ops.toList) hq ops.toList K σ a w hl h; simpa using this)
    · rw [if_neg hp] at hok
      simp only [Bool.and_eq_true] at hok
      obtain ⟨rfl, hok⟩ := hok
      exact drawn ord hok h
  | none =>
    rw [ho] at hok h
    simp only at hok h
    cases draw with
    | false => exact wp_region_list (by have := aops_list hq ops.toList [] 0 K σ a w hl h; simpa using this)
    | true =>
      refine drawn (OT.ofL (List.range ops.size)) (by simpa using hok) ?_
      rw [aops_text (C := C) (all := ops.toList) (N := N) ops.toList [] 0 (fun k => by simp)] at h
      rw [List.range_eq_range']
      simpa using h

def liftQ (C : Cx) (K0 : KM) (h0 : AH) (w0 : World) (Q : Ex → St → Prop) (e : Ex) (a : Act) (w : World) : Prop := ∃ K σ, Live C K0 h0 w0 K σ a w ∧ Q e σ
def Lift (C : Cx) (K0 : KM) (h0 : AH) (w0 : World) (Q : Ex → St → Prop) : Exit → Act → World → Prop
  | .normal, a, w => liftQ C K0 h0 w0 Q .normal a w
  | .exit id, a, w => liftQ C K0 h0 w0 Q (.exit id) a w
  | .ret, a, w => liftQ C K0 h0 w0 Q .ret a w
  | _, _, _ => False

/-- **code does what is reckoned** -/
theorem awp_sound (hm : C.P.follows .mixedOrders = true) : ∀ (c : Code) (Q : Ex → St → Prop) (K : KM) (σ : St) (a : Act) (w : World), codeOk C.ords c = true → Live C K0 h0 w0 K σ a w → awp C c Q σ → c.wp C.P (Lift C K0 h0 w0 Q) a w
  | .skip, Q, K, σ, a, w, _, hl, h => wp_skip ⟨K, σ, hl, h⟩
  | .region id ops draw, Q, K, σ, a, w, hok, hl, h => region_sound hm hok (fun K σ a w h1 h2 => ⟨K, σ, h1, h2⟩) hl h
  | .seq x y, Q, K, σ, a, w, hok, hl, h => by
    simp only [codeOk, Bool.and_eq_true] at hok
    refine wp_seq (wp_mono (awp_sound hm x (Thn (awp C y Q) Q) K σ a w hok.1 hl h) fun e a w he => ?_)
    cases e with
    | normal =>
      obtain ⟨K', σ', h1, h2⟩ := he
      exact awp_sound hm y Q K' σ' a w hok.2 h1 h2
    | exit id => obtain ⟨K', σ', h1, h2⟩ := he; exact ⟨K', σ', h1, h2⟩
    | ret => obtain ⟨K', σ', h1, h2⟩ := he; exact ⟨K', σ', h1, h2⟩
    | goto l => exact he.elim
    | panic c => exact he.elim
    | outgrown => exact he.elim
  | .cond c x y, Q, K, σ, a, w, hok, hl, h => by
    simp only [codeOk, Bool.and_eq_true] at hok
    simp only [awp, ACond] at h
    split at h
    · rename_i t ht
      have hc := eval_rep hl.rs c
      rw [ht] at hc
      have hc' : a.eval c = .bool t := raw_rep (x := .v (.bool t)) rfl hc
      refine wp_cond hc' ?_
      cases t with
      | true => exact awp_sound hm x Q K σ a w hok.1 hl h
      | false => exact awp_sound hm y Q K σ a w hok.2 hl h
    · exact h.elim
  | .block id c, Q, K, σ, a, w, hok, hl, h => by
    refine wp_block (wp_mono (awp_sound hm c (Blk id Q) K σ a w hok hl h) fun e a w he => ?_)
    cases e with
    | normal => obtain ⟨K', σ', h1, h2⟩ := he; exact ⟨K', σ', h1, h2⟩
    | exit id' =>
      obtain ⟨K', σ', h1, h2⟩ := he
      simp only [Blk] at h2
      show if id' = id then _ else _
      split
      · rename_i e; rw [if_pos e] at h2; exact ⟨K', σ', h1, h2⟩
      · rename_i e; rw [if_neg e] at h2; exact ⟨K', σ', h1, h2⟩
    | ret => obtain ⟨K', σ', h1, h2⟩ := he; exact ⟨K', σ', h1, h2⟩
    | goto l => exact he.elim
    | panic c => exact he.elim
    | outgrown => exact he.elim
  | .loop c, Q, K, σ, a, w, hok, hl, h => by
    obtain ⟨α, S, μ, a0, hw1, hr⟩ := h
    have key : ∀ n x, μ x = n → ∀ K a w, Live C K0 h0 w0 K (S x) a w → ∀ b k cs,
        ∃ e a' w', Lift C K0 h0 w0 Q e a' w' ∧ Arrives C.P (lone (b.at a (.code c :: .inLoop c :: k)) cs w) b k cs e a' w' := by
      intro n
      induction n using Nat.strongRecOn with
      | _ n ih =>
        intro x hn K a w hl b k cs
        obtain ⟨e, a₁, w₁, hq, harr⟩ := awp_sound hm c _ K (S x) a w hok hl (hr x) b (.inLoop c :: k) cs
        cases e with
        | normal =>
          obtain ⟨K', σ', h1, x', hlt, hw⟩ := hq
          obtain ⟨e₂, a₂, w₂, hq₂, harr₂⟩ := ih (μ x') (hn ▸ hlt) x' rfl K' a₁ w₁ (h1.weak hw) b k cs
          exact ⟨e₂, a₂, w₂, hq₂, .of_steps (Steps.trans harr (.one step_inLoop)) harr₂⟩
        | exit id =>
          obtain ⟨K', σ', h1, h2⟩ := hq
          exact ⟨.exit id, a₁, w₁, ⟨K', σ', h1, h2⟩, .pass (x := .inLoop c) rfl (fun _ _ => .inl (by simp)) harr⟩
        | goto l => exact hq.elim
        | ret =>
          obtain ⟨K', σ', h1, h2⟩ := hq
          exact ⟨.ret, a₁, w₁, ⟨K', σ', h1, h2⟩, .pass (x := .inLoop c) rfl (fun _ _ => .inl (by simp)) harr⟩
        | panic ch => exact hq.elim
        | outgrown => exact hq.elim
    intro b k cs
    obtain ⟨e, a', w', hq, harr⟩ := key _ a0 rfl K a w (hl.weak hw1) b k cs
    exact ⟨e, a', w', hq, .of_steps (.one step_loop) harr⟩
  | .exit id, Q, K, σ, a, w, _, hl, h => wp_exit ⟨K, σ, hl, h⟩
  | .scope c, Q, K, σ, a, w, hok, hl, h => by
    refine wp_scope_straight (wp_mono (awp_sound hm c Q K σ a w hok hl h) fun e a w he => ?_)
    cases e with
    | goto l => exact he.elim
    | _ => exact he
  | .label l, Q, K, σ, a, w, _, hl, h => wp_label ⟨K, σ, hl, h⟩
  | .ret, Q, K, σ, a, w, _, hl, h => wp_ret ⟨K, σ, hl, h⟩
  | .rangeFunc .., Q, K, σ, a, w, _, hl, h => h.elim
  | .goto l, Q, K, σ, a, w, _, hl, h => h.elim
  | .refuse s, Q, K, σ, a, w, _, hl, h => h.elim
end
end Go.Isea

namespace Go.Isea
open Go
/-- what a function hands back -/
def resV (P : Program) (tm : List AV) (h : AH) : ResultVar → Option AV
  | .tmp t => some (nth tm t)
  | .cell a t => aload P t (nth tm a) h
def resL (P : Program) (tm : List AV) (h : AH) : List ResultVar → Option (List AV)
  | [] => some []
  | r :: rs => match resV P tm h r, resL P tm h rs with | some x, some l => some (x :: l) | _, _ => none
def resT : List AV → AV
  | [x] => x
  | l => .tup l
def FinO (T : List Nat) (h0 h h' : AH) (r : AV) : Option (List AV) → Prop
  | some l => FinS T h0 h (resT l) h' r
  | none => False
def Fin (P : Program) (rs : List ResultVar) (T : List Nat) (h0 h' : AH) (r : AV) : Ex → St → Prop
  | .exit _, _ => False
  | _, σ => FinO T h0 σ.h h' r (resL P σ.tm σ.h rs)
def oneRes (a : Act) : ResultVar → Sem Value
  | .tmp t => pure (a.tmps.getD t undef)
  | .cell p t => do loadVar t (← asAddr (a.tmps.getD p undef))
theorem resL_run {P : Program} {K : KM} {σ : St} {a : Act} {w : World} (hs : RS K σ a w) : ∀ (rs : List ResultVar) (l : List AV), resL P σ.tm σ.h rs = some l →
    ∃ vs : List Value, vs.length = l.length ∧ (∀ (i : Nat) (x : AV) (y : Value), l[i]? = some x → vs[i]? = some y → Rep K σ.h w x y) ∧
      (rs.mapM (oneRes a)).run P w = .ok vs w
  | [], l, h => by
    simp only [resL, Option.some.injEq] at h
    subst h
    exact ⟨[], rfl, fun i x y h1 => by simp at h1, rfl⟩
  | r :: rs, l, h => by
    unfold resL at h
    split at h
    · rename_i x l' hx hl
      injection h with h
      subst h
      obtain ⟨vs, h1, h2, h3⟩ := resL_run hs rs l' hl
      have : ∃ v, Rep K σ.h w x v ∧ (oneRes a r).run P w = .ok v w := by
        cases r with
        | tmp t =>
          simp only [resV, Option.some.injEq] at hx
          subst hx
          exact ⟨_, nth_get hs.tm t, rfl⟩
        | cell p t =>
          simp only [resV] at hx
          have hp := nth_get hs.tm p
          obtain ⟨u, g1, g2⟩ := aload_sound (P := P) hs.rh hp hx
          refine ⟨u, g1, ?_⟩
          obtain ⟨b, -, g2⟩ := g2
          have := g2 w rfl
          simp only [oneRes]
          generalize a.tmps.getD p undef = pv at this
          cases pv with
          | pointer pa =>
            cases pa with
            | some ad => simpa only [Instr.loadAt, Instr.sureAddr, asAddr, Sem.run_bind, Sem.run_pure, Result.andThen_ok] using this
            | none => simp [Instr.loadAt, Instr.sureAddr] at this
          | _ => simp [Instr.loadAt, Instr.sureAddr] at this
      obtain ⟨v, g1, g2⟩ := this
      refine ⟨v :: vs, by simp [h1], fun i x' y a b => ?_, ?_⟩
      · cases i with
        | zero => simp at a b; subst a; subst b; exact g1
        | succ i => exact h2 i x' y (by simpa using a) (by simpa using b)
      · rw [List.mapM_cons]
        simp only [Sem.run_bind]
        rw [g2]
        simp only [Result.andThen_ok]
        rw [h3]
        rfl
    · cases h

/-- **a function's contract** -/
theorem good_of {P : Program} {k : FuncId} {fn : Func} {c : Code} (own : List Nat) (ords : List (Nat × OT)) (hf : P.funcs[k]? = some fn) (hb : fn.body = some c) (hn : (fn.name == "runtime.NumGoroutine") = false) (hm : P.follows .mixedOrders = true) (hok : codeOk ords c = true)
    {args : List AV} {h : AH} {T : List Nat} {r : AV} {h' : AH} (hw : awp ⟨P, h.n, T, own, ords⟩ c (Fin P fn.results.toList T h h' r) ⟨args ++ List.replicate (fn.ntmps - args.length) (.v undef), h⟩) : Good P k args h T r h' := by
  refine ⟨⟨fn, hf, hn, by rw [hb]; rfl⟩, fun K w vs hK hvs => calls_of_wp hf hb ?_⟩
  have hl : Live ⟨P, h.n, T, own, ords⟩ K h w K ⟨args ++ List.replicate (fn.ntmps - args.length) (.v undef), h⟩ { tmps := vs ++ Array.replicate (fn.ntmps - vs.size) undef, defers := [] } w := by
    refine ⟨⟨hK, rfl, by simp [hvs.1], fun i x y h1 h2 => ?_⟩, hK, rfl, Ext.refl _ _ _ _⟩
    rw [List.getElem?_append] at h1
    rw [Array.getElem?_append] at h2
    split at h1
    · rename_i hi
      rw [if_pos (by rw [hvs.1]; exact hi)] at h2
      exact hvs.2 i x y h1 h2
    · rename_i hi
      rw [if_neg (by rw [hvs.1]; exact hi)] at h2
      have e1 : x = .v undef := List.eq_of_mem_replicate (List.mem_of_getElem? h1)
      have e2 : y = undef := by
        rw [Array.getElem?_replicate] at h2
        split at h2
        · injection h2 with h2; exact h2.symm
        · cases h2
      rw [e1, e2]; exact .v _
  refine wp_mono (awp_sound hm c _ K _ _ w hok hl hw) fun e a w' he => ?_
  have fin : liftQ ⟨P, h.n, T, own, ords⟩ K h w (Fin P fn.results.toList T h h' r) .normal a w' → a.defers = [] ∧ ∃ v, (results fn a.tmps).run P w' = .ok v w' ∧ ∃ K' v', Ending.returned v = .returned v' ∧ RH K' h' w' ∧ Ext T K h w K' h' w' ∧ Rep K' h' w' r v' := fun hh => by
    obtain ⟨K', σ, hl', hfin⟩ := hh
    simp only [Fin] at hfin
    cases hres : resL P σ.tm σ.h fn.results.toList with
    | some l =>
      rw [hres] at hfin
      simp only [FinO] at hfin
      obtain ⟨us, h1, h2, h3⟩ := resL_run (P := P) hl'.rs _ _ hres
      have hrun : (results fn a.tmps).run P w' = .ok (if h : us.toArray.size = 1 then us.toArray[0] else .tuple us.toArray) w' := by
        have e : results fn a.tmps = (fn.results.mapM (oneRes a) >>= fun vs => pure (if h : vs.size = 1 then vs[0] else .tuple vs)) := by
          unfold results
          congr 1
        rw [e, Array.mapM_eq_mapM_toList]
        simp only [Sem.run_bind, Sem.run_map, h3, Result.andThen_ok, Sem.run_pure]
      have hrep : Rep K' σ.h w' (resT l) (if h : us.toArray.size = 1 then us.toArray[0] else .tuple us.toArray) := by
        match l, us, h1, h2 with
        | [], [], _, _ => exact .tup rfl fun i x y a => by simp at a
        | [x], [u], _, h2 => exact h2 0 x u rfl rfl
        | x :: y :: l, u :: v :: us, h1, h2 => 
          rw [dif_neg (by simp)]
          exact .tup (by simpa using h1) fun i x' y' a b => h2 i x' y' a (by simpa using b)
      obtain ⟨g1, g2, g3⟩ := fin_sound hK hl'.rs.rh hl'.ext hfin hrep
      exact ⟨hl'.rs.df, _, hrun, K', _, rfl, g1, g2, g3⟩
    | none => rw [hres] at hfin; exact hfin.elim
  cases e with
  | normal => exact fin he
  | ret => exact fin he
  | exit id => obtain ⟨K', σ, hl', hfin⟩ := he; exact hfin.elim
  | goto l => exact he.elim
  | panic c => exact he.elim
  | outgrown => exact he.elim
end Go.Isea
