/- Contracts of functions of this program, for all arguments that satisfy what each lemma asks for. -/
import Derived.Test.YtnocdggngfiebaaGreatDoorMt
import Derived.Test.YtnocdggngfiebaaGreatDoorMe
import Derived.Test.YtnocdggngfiebaaGreatDoorMc
import Derived.Test.YtnocdggngfiebaaGreatDoorMb
set_option linter.all false
namespace Go.Isea
open Go
/-- the variables among some, in their order -/
def sortK (ks : L8) : L8 := vars6.filter fun c => ks.contains c
def cRow (c : UInt8) : List AV := [str [c]]
@[go_sem] theorem puR_cRow {l : L8} : PuR (l.map cRow) = True := puR_map fun n => by simp -dsimp only [cRow, go_sem]
@[go_sem] theorem al_cRow {l : L8} : AllLen 1 (l.map cRow) = True := allLen_map fun _ => rfl
theorem sortK_perm {ks : L8} (hn : ks.Nodup) (hv : ∀ c ∈ ks, isV c = true) : (sortK ks).Perm ks := by
  refine (List.perm_ext_iff_of_nodup ((by decide : vars6.Nodup).sublist List.filter_sublist) hn).2 fun c => ?_
  rw [List.mem_filter]
  constructor
  · rintro ⟨_, h⟩; simpa using h
  · intro h
    have hv := hv c h
    refine ⟨?_, by simpa using h⟩
    revert hv; revert c; exact fun c _ => forall_u8 (p := fun c => isV c = true → c ∈ vars6) (by decide +kernel) c
theorem sortK_sorted (ks : L8) : ((sortK ks).map fun c => [c]).mergeSort leB = (sortK ks).map fun c => [c] := by
  refine List.mergeSort_of_pairwise ?_
  rw [List.pairwise_map]
  refine List.Pairwise.sublist List.filter_sublist ?_
  decide
end Go.Isea
namespace Go.Proofs.YtnocdggngfiebaaGreatDoor
open Go Go.Isea Go.Shelf Go.Sort
set_option maxRecDepth 100000
theorem sortsA (m : Nat) : AnyZ.SortsIn Tryz.prog Tryz.sortedA_ren Fence.wide m :=
  ⟨fun blk off cap ss W hH hblk hsz => callsIn_wide.2 (AnyM.slices_Sort_string Tryz.sortA blk off cap ss W hH hblk hsz),
   fun p cap W => callsIn_wide.2 (AnyM.slices_Sort_string_none Tryz.sortA p cap W)⟩
/-- the texts among the values of a map -/
def txt (v : Value) : Option (DataW Unit × List MemPlace) := match v with
  | .string s => some (.lit (.string s.data.toList), [])
  | _ => none
theorem l_Sorted {l q : Nat} {x : SK} (h : AH) (hl : l < h.n) (hq : q < h.n) (ho : h.o l = .map (mapOf x)) (hoq : h.o q = .cells [.mp l]) (hx : SKOk x) :
    Isea.Good Tryz.prog 311 [.fn 329 [.ptr q 0]] h [] (.sl ((sortK x.2).map cRow)) h := by
  refine ⟨⟨_, Tryz.func311, by kernel_rfl, by kernel_rfl⟩, fun K w vs hK hr => ?_⟩
  obtain ⟨u, rfl, hu⟩ := repL_one hr
  cases hu with
  | @fn _ _ lb hll hcc =>
  obtain ⟨p, rfl, hp⟩ := repL_one ⟨hll, hcc⟩
  cases hp with
  | @ptr _ _ B _ hcn hkq =>
  have hoq' := hK.obj q hq
  rw [hoq] at hoq'
  obtain ⟨B', bvs, be, hkq', hBh, hbr⟩ := hoq'
  rw [hkq] at hkq'
  simp only [Value.pointer.injEq, Option.some.injEq, Addr.mk.injEq, and_true] at hkq'
  subst hkq'
  obtain ⟨bv, rfl, hbv⟩ := repL_one hbr
  have hol := hK.obj l hl
  rw [ho] at hol
  obtain ⟨b, mes, clock, hkl, hbh, ⟨hsz, hst⟩, hent⟩ := hol
  have hbv' : bv = .map (some b) := by
    cases hbv with
    | mp _ _ => exact hkl
  subst hbv'
  have hks : ∀ c ∈ x.2, isV c = true := fun c hc => by
    have := (hx.dom c).1 hc
    cases e : x.1 c with
    | none => rw [e] at this; cases this
    | some t => exact (hx.ok c t e).1
  have hlen6 : x.2.length ≤ 6 := by
    rw [← (sortK_perm hx.nd hks).length_eq]
    exact List.length_filter_le _ vars6
  have hkey : ∀ (i : Nat) (c : UInt8) (e : MapEntry), x.2[i]? = some c → mes[i]? = some e → e.key = .string (bs [c]) ∧ e.val = .string (bs (tx x.1 c)) := fun i c e h1 h2 => by
    obtain ⟨r1, r2⟩ := hent i (str [c], str (tx x.1 c)) e (by simp [mapOf, h1]) h2
    exact ⟨rep_str r1, rep_str r2⟩
  have hms : mes.size = x.2.length := by rw [hsz]; simp [mapOf]
  have hread : ∀ e ∈ mes.toList, ∃ c ∈ x.2, e.key = .string (bs [c]) ∧ e.val = .string (bs (tx x.1 c)) := fun e he => by
    obtain ⟨i, hi⟩ := List.getElem?_of_mem he
    have hil := (List.getElem?_eq_some_iff.1 hi).1
    obtain ⟨c, hc⟩ := get_some (l := x.2) (k := i) (by rw [← hms]; simpa using hil)
    exact ⟨c, List.mem_of_getElem? hc, hkey i c e hc (by simpa using hi)⟩
  have hu9 : Program.underlying Tryz.prog 9 = some .string := by kernel_rfl
  let D0 : DataW Unit := .map ((mes.toList.map (WideElems.rg Tryz.prog 9 txt)).foldr DataW.insert [])
  have hrd : ∀ e ∈ mes.toList, ∀ c, e.key = .string (bs [c]) → e.val = .string (bs (tx x.1 c)) → WideElems.rd Tryz.prog 9 txt e = some (.string [c], .lit (.string (tx x.1 c))) := fun e _ c h1 h2 => by
    unfold WideElems.rd
    rw [h1, h2]
    have hs1 : (bs [c]).size ≤ maxLen := by simp [ByteArray.size, maxLen]
    have e1 : keyOf Tryz.prog 9 (.string (bs [c])) = some (.string [c]) := by
      unfold keyOf
      rw [hu9]
      simp only [mapKey, hu9, hs1, if_true]
    rw [e1]
    simp [txt]
  have hown : w.ownsMap Tryz.prog 9 txt b mes.size D0 := by
    refine ⟨mes, clock, hbh, ⟨by rw [hms]; simp only [maxLen]; omega, hst, fun e he => ?_⟩, Nat.le_refl _, rfl⟩
    obtain ⟨c, hc, h1, h2⟩ := hread e he
    exact ⟨_, hrd e he c h1 h2⟩
  have hsize : Maps.size D0 ≤ 6 := by
    have h1 : Maps.size D0 = (mes.toList.map (WideElems.rg Tryz.prog 9 txt)).length := (WideShapes.sorted_perm _).length_eq
    rw [h1, List.length_map, Array.length_toList, hms]; exact hlen6
  have hBlt : B < w.heap.size := hK.lt q B hq (by rw [hkq]; rfl)
  have hcell : w.cell? ⟨B, 0, none⟩ = some (.map (some b)) := by simp [World.cell?, hBh]
  have hseq : SeqGives Fence.wide 2 Tryz.prog 329 #[.pointer (some ⟨B, 0, none⟩)] encStr (fun ss => ss.Perm (strKeys D0)) (Maps.size D0) w :=
    AnyZ.keys_gives (ρ := Tryz.keysA_ren) { Tryz.keysA with } Fence.wide _ trivial rfl (by omega) B b mes.size D0 w hBlt hcell hown
  have cS := AnyZ.sorted_in Tryz.sortedA Fence.wide 5 trivial trivial trivial trivial rfl (by omega) (sortsA _) (enters_of Tryz.func328 (by kernel_rfl) rfl) 329 #[.pointer (some ⟨B, 0, none⟩)] trivial (enters_of Tryz.func329 (by kernel_rfl) rfl) _ _ (Nat.le_trans hsize (by decide)) (by omega) _ hseq
  change CallsIn _ _ Tryz.prog 311 _ _ _ at cS
  refine (callsIn_wide.1 cS).mono ?_
  rintro e w' ⟨v, ss, rfl, hS, hrow, _, hb⟩
  have hX : Ext [] K h w K h w' := Ext.was hb.os hb.tape hb.output hb.size fun b hlt => hb.block b hlt
  have hperm : ss.Perm ((sortK x.2).map fun c => [c]) := by
    refine hS.trans ?_
    have p1 : (strKeys D0).Perm ((mes.toList.map (WideElems.rg Tryz.prog 9 txt)).map fun p => strOf p.1) := (WideShapes.sorted_perm _).map _
    have p2 : ((mes.toList.map (WideElems.rg Tryz.prog 9 txt)).map fun p => strOf p.1) = x.2.map fun c => [c] := by
      apply List.ext_getElem?
      intro i
      rw [List.map_map, List.getElem?_map, List.getElem?_map]
      cases hm : mes.toList[i]? with
      | none =>
        have : x.2.length ≤ i := by rw [← hms]; simpa using hm
        rw [List.getElem?_eq_none this]; rfl
      | some e =>
        have hil := (List.getElem?_eq_some_iff.1 hm).1
        obtain ⟨c, hc⟩ := get_some (l := x.2) (k := i) (by rw [← hms]; simpa using hil)
        obtain ⟨h1, h2⟩ := hkey i c e hc (by simpa using hm)
        rw [hc]
        simp only [Option.map_some, Function.comp, WideElems.rg, hrd e (List.mem_of_getElem? hm) c h1 h2, Option.getD_some, strOf]
    rw [p2] at p1
    exact p1.trans ((sortK_perm hx.nd hks).symm.map _)
  rw [mergeSort_of_perm hperm, sortK_sorted] at hrow
  have hln : ss.length = (sortK x.2).length := by rw [hperm.length_eq, List.length_map]
  rw [hln] at hrow
  refine ⟨K, v, rfl, hK.stay hX, hX, ?_⟩
  obtain ⟨hxl, hrow⟩ := hrow
  rcases hrow with ⟨rfl, hz⟩ | ⟨g, cap, cur, rfl, hbase, hgb, hcap, _, hcs, htk⟩
  · have : sortK x.2 = [] := List.eq_nil_of_length_eq_zero hz
    rw [this]; exact .sl0 _ _
  · have hglt : g < w'.heap.size := by
      by_cases hh : g < w'.heap.size
      · exact hh
      · rw [Array.getElem?_eq_none (by omega)] at hgb; cases hgb
    have hcur : ∀ k, k < (sortK x.2).length → cur[k]? = (((sortK x.2).map fun c => [c]).map encStr)[k]? := fun k hk => by
      rw [← htk, List.getElem?_take, if_pos (by omega)]; simp
    have := Rep.sl (K := K) (h := h) (w := w') (rows := (sortK x.2).map cRow) (b := g) (o := 0) (c := cap) (sz := 1) (f := fun k => cur.getD k undef) ⟨hglt, fun t ht hbk => by
        have := hK.lt t g ht hbk; omega⟩ (by simpa using hcap) (fun r hr => by obtain ⟨c, _, rfl⟩ := List.mem_map.1 hr; rfl)
      (fun k hk => by
        have hk' : k < cur.size := by rw [hcs]; simp only [List.length_map] at hk; omega
        rw [Nat.zero_add, cell_of_heap hgb, Array.getD_eq_getD_getElem?, Array.getElem?_eq_getElem hk']; rfl)
      (fun i j r y hi hj => by
        rw [List.getElem?_map] at hi
        cases hc : (sortK x.2)[i]? with
        | none => rw [hc] at hi; cases hi
        | some c =>
          rw [hc] at hi
          simp only [Option.map_some, Option.some.injEq] at hi
          subst hi
          have hil := (List.getElem?_eq_some_iff.1 hc).1
          have hj0 : j = 0 := by
            have := (List.getElem?_eq_some_iff.1 hj).1
            simp [cRow] at this; exact this
          subst hj0
          have hy : y = str [c] := by simp [cRow] at hj; exact hj.symm
          subst hy
          have h1 := hcur i hil
          simp only [List.getElem?_map, hc, Option.map_some] at h1
          simp only [Nat.mul_one, Nat.add_zero, Array.getD_eq_getD_getElem?, h1, Option.getD_some]
          exact .v _)
    simpa using this
end Go.Proofs.YtnocdggngfiebaaGreatDoor

namespace Go.Isea
open Go
def bK (σ : Sub) (c : UInt8) : Bnd := ⟨[c], tx σ c⟩
theorem bnds_sortK {x : SK} (hx : SKOk x) : bnds x.1 = (sortK x.2).map (bK x.1) := by
  unfold bnds sortK
  have : ∀ (vs : L8), vs.filterMap (fun c => (x.1 c).map fun t => (⟨[c], t.text⟩ : Bnd)) = (vs.filter fun c => x.2.contains c).map (bK x.1) := by
    intro vs
    induction vs with
    | nil => rfl
    | cons c vs ih =>
      cases hc : x.1 c with
      | none =>
        have : ¬ c ∈ x.2 := fun e => by have := (hx.dom c).1 e; rw [hc] at this; cases this
        rw [List.filterMap_cons_none (by simp [hc]), List.filter_cons_of_neg (by simpa using this), ih]
      | some t =>
        have : c ∈ x.2 := (hx.dom c).2 (by rw [hc]; rfl)
        rw [List.filterMap_cons_some (b := ⟨[c], t.text⟩) (by simp [hc]), List.filter_cons_of_pos (by simpa using this), List.map_cons, ih]
        simp [bK, tx, hc]
  exact this vars6
/-- what a letter stands for -/
def subC (σ : Sub) (c : UInt8) : L8 := match σ c with | some t => t.text | none => [c]
theorem put_text {σ : Sub} (hs : σ.Ok 60) : ∀ t : Ty, t.wf → (put σ t).text = t.text.flatMap (subC σ) := by
  have h1 : ∀ d : UInt8, isV d = false → subC σ d = [d] := fun d hd => by
    unfold subC
    cases e : σ d with
    | none => rfl
    | some t => have := (hs d t e).1; rw [hd] at this; cases this
  have h2 : ∀ d : UInt8, ¬ ar d = 0 → isV d = false := fun d hd => by
    cases e : isV d with
    | false => rfl
    | true => exact absurd (isV_ar e) hd
  have e40 := h1 40 (by decide)
  have e41 := h1 41 (by decide)
  have e44 := h1 44 (by decide)
  intro t
  induction t with
  | leaf c =>
    intro _
    simp only [put, Ty.text, List.flatMap_cons, List.flatMap_nil, List.append_nil, subC]
    cases σ c <;> rfl
  | un c t ih =>
    intro hw
    have hc := h1 c (h2 c (by rw [hw.1]; decide))
    simp only [put, Ty.text, List.flatMap_cons, List.flatMap_append, List.flatMap_nil, hc, e40, e41, ih hw.2]
    simp
  | bin c t u ih1 ih2 =>
    intro hw
    have hc := h1 c (h2 c (by rw [hw.1]; decide))
    simp only [put, Ty.text, List.flatMap_cons, List.flatMap_append, List.flatMap_nil, hc, e40, e41, e44, ih1 hw.2.1, ih2 hw.2.2]
    simp
/-- what bindings say of a letter -/
theorem bnds_find {σ : Sub} (hs : σ.Ok 60) (c : UInt8) : (∃ k, (bnds σ)[k]? = some (⟨[c], subC σ c⟩ : Bnd) ∧ (∀ (j : Nat) (b : Bnd), j < k → (bnds σ)[j]? = some b → b.v ≠ [c])) ∨ ((∀ (j : Nat) (b : Bnd), (bnds σ)[j]? = some b → b.v ≠ [c]) ∧ subC σ c = [c]) := by
  cases hc : σ c with
  | none =>
    right
    refine ⟨fun j b hb e => ?_, by simp [subC, hc]⟩
    have := List.mem_of_getElem? hb
    unfold bnds at this
    rw [List.mem_filterMap] at this
    obtain ⟨d, _, hd⟩ := this
    cases hd' : σ d with
    | none => rw [hd'] at hd; cases hd
    | some t =>
      rw [hd'] at hd
      simp only [Option.map_some, Option.some.injEq] at hd
      subst hd
      simp only [List.cons.injEq, and_true] at e
      subst e
      rw [hc] at hd'; cases hd'
  | some t =>
    left
    have hv := (hs c t hc).1
    have h6 : c ∈ vars6 := forall_u8 (p := fun c => isV c = true → c ∈ vars6) (by decide +kernel) c hv
    have hm : (⟨[c], subC σ c⟩ : Bnd) ∈ bnds σ := by
      unfold bnds
      rw [List.mem_filterMap]
      exact ⟨c, h6, by simp [hc, subC]⟩
    obtain ⟨k, hk⟩ := List.getElem?_of_mem hm
    have hok := bnds_ok hs
    refine ⟨k, hk, fun j b hj hb e => ?_⟩
    -- the letters rise
    have hrise : ∀ (d : Nat) (a b : Bnd), (bnds σ)[j]? = some a → (bnds σ)[j + d + 1]? = some b → a.v ≠ b.v := by
      have hp : (bnds σ).Pairwise fun a b => a.v ≠ b.v := by
        unfold bnds
        rw [List.pairwise_filterMap]
        have hv : vars6.Pairwise fun c d => c ≠ d := by decide
        refine hv.imp fun {c d} hcd b hb b' hb' => ?_
        cases h1 : σ c with
        | none => rw [h1] at hb; cases hb
        | some t =>
          cases h2 : σ d with
          | none => rw [h2] at hb'; cases hb'
          | some u =>
            rw [h1] at hb; rw [h2] at hb'
            simp only [Option.map_some, Option.some.injEq] at hb hb'
            subst hb; subst hb'
            simpa using hcd
      intro d a b ha hb
      rw [List.pairwise_iff_getElem] at hp
      obtain ⟨i1, e1⟩ := List.getElem?_eq_some_iff.1 ha
      obtain ⟨i2, e2⟩ := List.getElem?_eq_some_iff.1 hb
      have := hp j (j + d + 1) i1 i2 (by omega)
      rw [e1, e2] at this; exact this
    have hkj : j + (k - j - 1) + 1 = k := by omega
    exact hrise (k - j - 1) b _ hb (by rw [hkj]; exact hk) e
end Go.Isea
namespace Go.Proofs.YtnocdggngfiebaaGreatDoor
open Go Go.Isea
set_option maxRecDepth 100000
set_option maxHeartbeats 4000000
theorem l_Keys (l : Nat) (h : AH) (hl : l < h.n) : Isea.Good Tryz.prog 312 [.mp l] h [] (.fn 329 [.ptr h.n 0]) (h.push (.cells [.mp l])) := by
  refine good [1] [] Tryz.func312 rfl rfl Tryz.ntmps312 (by kernel_rfl) mixed (by kernel_rfl) ?_
  simp -dsimp only [go_sem]
  exact fin_push (by simp -dsimp only [go_sem]) (by simp -dsimp only [go_sem]) (by simp -dsimp only [go_sem, hl])
theorem i_bindings (l : Nat) (x : SK) (h : AH) (hl : l < h.n) (ho : h.o l = .map (mapOf x)) (hx : SKOk x) : Isea.Good Tryz.prog 286 [.mp l] h [] (.sl ((bnds x.1).map Bnd.row)) h := by
  have hbl := (bnds_ok hx.ok).len
  rw [bnds_sortK hx] at hbl ⊢
  rw [List.length_map] at hbl
  refine good [] [] Tryz.func286 rfl rfl Tryz.ntmps286 (by kernel_rfl) mixed (by kernel_rfl) ?_
  simp -dsimp only [go_sem]
  refine call_pure (l_Keys l _ (by simp -dsimp only [go_sem, hl])) ?_
  simp -dsimp only [go_sem]
  refine call_pure (l_Sorted (l := l) (q := h.n + 1) (x := x) _ (by simp -dsimp only [go_sem, hl]) (by simp -dsimp only [go_sem]) (by simp -dsimp only [go_sem, hl, ho]) (by simp -dsimp only [go_sem]) hx) ?_
  have hmem : ∀ c ∈ sortK x.2, c ∈ x.2 := fun c hc => by
    unfold sortK at hc
    rw [List.mem_filter] at hc
    simpa using hc.2
  generalize sortK x.2 = ks at hbl hmem
  simp -dsimp only [go_sem, List.length_map]
  refine loop_ruleH [0, 8, 0] (fun (k : {k : Nat // k ≤ ks.length}) H => ([(3, .so h.n k.1 k.1), (11, .v (.int .i64 (k.1 : Nat)))], ⟨h.n + 1, upd H.o h.n (.rows 297 2 (((ks.take k.1).map (bK x.1)).map Bnd.row))⟩)) (fun k => ks.length - k.1) ⟨0, Nat.zero_le _⟩ ?_ ?_
  · refine weak_objs [h.n] (by simp -dsimp only [go_sem]) (by simp -dsimp only [go_sem]) (by simp -dsimp only [go_sem, hl]) ?_ ?_ ?_
    · intro x h1 h2; simp -dsimp only [go_sem, h1]
    · intro x h1 h2; have h1 : x < h.n + 1 := h1; simp at h2 ⊢; omega
    · simp -dsimp only [go_sem, List.map_nil]
  · rintro ⟨k, hk⟩
    have hk1 : k + 1 ≤ 9223372036854775807 := by omega
    have htl : (ks.take k).length = k := by rw [List.length_take]; omega
    by_cases hlt : k < ks.length
    · obtain ⟨c, hc⟩ := get_some hlt
      have hcx := hmem c (List.mem_of_getElem? hc)
      have hf : mfind (mapOf x) (bs [c]) = _ := mapOf_find c x.2
      rw [if_pos hcx] at hf
      have e6 : (k + 1) * 32 ≤ 140737488355328 := by omega
      have enx : ks.take (k + 1) = ks.take k ++ [c] := by
        obtain ⟨hl, e⟩ := List.getElem?_eq_some_iff.1 hc
        rw [List.take_succ_eq_append_getElem hl, e]
      simp -dsimp only [go_sem, hlt, hc, cRow, hl, ho, hf, hk1, htl, e6, List.length_map]
      refine round_to ⟨k + 1, hlt⟩ (by simp; omega) ?_
      refine weak_objs [h.n] (by simp -dsimp only [go_sem]) (by simp -dsimp only [go_sem]) (by simp -dsimp only [go_sem, hl]) ?_ ?_ ?_
      · intro x h1 h2; simp -dsimp only [go_sem, h1]
      · intro x h1 h2; have h1 : x < h.n + 1 := h1; simp at h2 ⊢; omega
      · simp -dsimp only [go_sem, enx, List.map_append, List.map_cons, List.map_nil, Bnd.row, bK]
    · have hit : ks.take k = ks := List.take_of_length_le (by omega)
      have hil : k = ks.length := by omega
      rw [hit]
      simp -dsimp only [go_sem, hlt]
      refine fin_pure (by simp -dsimp only [go_sem]) ?_
      simp -dsimp only [go_sem, hil, List.length_map]
end Go.Proofs.YtnocdggngfiebaaGreatDoor

namespace Go.Isea
open Go
theorem matchK_S {p t : L8} {a b : Ty} (ha : typeOf p = some a) (hb : typeOf t = some b) : matchS p t = if (matchK (Sub.none', []) a b).2 = true then some (matchK (Sub.none', []) a b).1.1 else none := by
  obtain ⟨h1, h2⟩ := matchK_R a b (Sub.none', [])
  unfold matchS
  rw [ha, hb]
  simp only
  rw [matchT_R, h1, h2]
theorem sk0_ok : SKOk (Sub.none', []) := ⟨List.nodup_nil, fun c => by simp [Sub.none'], Sub.none_ok 60⟩
def applyTake (σ : Sub) (t : L8) (k : Nat) : L8 := (t.take k).flatMap (subC σ)
theorem applyTake_succ {σ : Sub} {t : L8} {k : Nat} {c : UInt8} (hc : t[k]? = some c) : applyTake σ t (k + 1) = applyTake σ t k ++ subC σ c := by
  obtain ⟨hl, e⟩ := List.getElem?_eq_some_iff.1 hc
  unfold applyTake
  rw [List.take_succ_eq_append_getElem hl, e, List.flatMap_append]
  simp
theorem subC_len {σ : Sub} (hs : σ.Ok 60) (c : UInt8) : (subC σ c).length ≤ 60 := by
  unfold subC
  cases h : σ c with
  | none => simp
  | some t => exact (hs c t h).2.2
theorem applyTake_len {σ : Sub} (hs : σ.Ok 60) (t : L8) (k : Nat) : (applyTake σ t k).length ≤ t.length * 60 := by
  unfold applyTake
  refine Nat.le_trans (flat_len (subC_len hs) _) (Nat.mul_le_mul_right _ ?_)
  rw [List.length_take]; omega
end Go.Isea
namespace Go.Proofs.YtnocdggngfiebaaGreatDoor
open Go Go.Isea
set_option maxRecDepth 100000
set_option maxHeartbeats 4000000
theorem i_BindingsValid {l : List Bnd} (hl : BsOk l) (h : AH) : Isea.Good Tryz.prog 287 [.sl (l.map Bnd.row)] h [] (.v (.bool true)) h := by
  have hlen := hl.len
  refine good [] [] Tryz.func287 rfl rfl Tryz.ntmps287 (by kernel_rfl) mixed (by kernel_rfl) ?_
  simp -dsimp only [go_sem]
  refine loop_ruleH [0, 4, 0] (fun (k : {k : Nat // k ≤ l.length}) H => ([(7, .v (.int .i64 (k.1 : Nat)))], H)) (fun k => l.length - k.1) ⟨0, Nat.zero_le _⟩ ?_ ?_
  · exact weak_at rfl (Nat.le_refl _) (fun _ _ => rfl) (by simp -dsimp only [go_sem])
  · rintro ⟨k, hk⟩
    have h1 : k + 1 ≤ 9223372036854775807 := by omega
    by_cases hlt : k < l.length
    · obtain ⟨b, hb⟩ : ∃ b, l[k]? = some b := ⟨_, List.getElem?_eq_getElem hlt⟩
      obtain ⟨c, t, rfl, hv, hw, ht⟩ := hl.one k b hb
      have htv : tv t.text = true := by simp [tv, typeOf_text hw ht]
      simp -dsimp only [go_sem, hlt, hb, Bnd.row]
      refine call_pure (i_isVar [c] _) ?_
      simp -dsimp only [go_sem, isVL_one, hv]
      refine call_pure (i_TypeValid t.text _ (by omega)) ?_
      cases k with
      | zero =>
        simp -dsimp only [go_sem, htv, h1]
        exact round_to ⟨0 + 1, hlt⟩ (by simp; omega) (weak_at rfl (by simp -dsimp only [go_sem]) (fun x hx => by simp -dsimp only [go_sem, hx]) (by simp -dsimp only [go_sem]))
      | succ j =>
        obtain ⟨a, ha⟩ : ∃ a, l[j]? = some a := ⟨_, List.getElem?_eq_getElem (by omega)⟩
        have hlt2 := hl.lt j a _ ha hb
        obtain ⟨c', t', rfl, _, _, _⟩ := hl.one j a ha
        simp -dsimp only at hlt2
        have h0 : (0 : Int) < ((j + 1 : Nat) : Int) := by omega
        have h2 : j ≤ 9223372036854775807 := by omega
        simp -dsimp only [go_sem, htv, h1, ha, Bnd.row, h0, h2, hlt2]
        exact round_to ⟨j + 1 + 1, hlt⟩ (by simp; omega) (weak_at rfl (by simp -dsimp only [go_sem]) (fun x hx => by simp -dsimp only [go_sem, hx]) (by simp -dsimp only [go_sem]))
    · simp -dsimp only [go_sem, hlt]
      exact fin_bool (Nat.le_refl _) rfl
theorem i_MatchType (p t : L8) (h : AH) (hp : p.length ≤ 4611686018427387904) (ht : t.length ≤ 4611686018427387904) : Isea.Good Tryz.prog 241 [str p, str t] h [] (matchV p t) h := by
  rw [matchV_S]
  have fin0 : matchS p t = none → ∀ H : AH, h.n ≤ H.n → FinS [] h H (.tup [.v (.slice none 0 0), .v (.bool false)]) h (match matchS p t with | some σ => .tup [.sl ((bnds σ).map Bnd.row), .v (.bool true)] | none => .tup [.sl [], .v (.bool false)]) := fun e H hH => by
    rw [e]
    exact fin_pure hH (by simp -dsimp only [go_sem])
  refine good [] [] Tryz.func241 rfl rfl Tryz.ntmps241 (by kernel_rfl) mixed (by kernel_rfl) ?_
  simp -dsimp only [go_sem]
  refine call_pure (i_typeOf p _ hp) ?_
  simp -dsimp only [go_sem]
  refine call_pure (i_typeOf t _ ht) ?_
  cases ha : typeOf p with
  | none =>
    have e0 : matchS p t = none := by simp [matchS, ha]
    simp -dsimp only [go_sem, ndO]
    exact fin0 e0 _ (by simp -dsimp only [go_sem])
  | some a =>
    cases hb : typeOf t with
    | none =>
      have e0 : matchS p t = none := by simp [matchS, ha, hb]
      simp -dsimp only [go_sem, ndO]
      exact fin0 e0 _ (by simp -dsimp only [go_sem])
    | some b =>
      have hwa := (typeOf_some ha).2.1
      have hwb := (typeOf_some hb).2.1
      have eb := (typeOf_some hb).1
      have hlb := (typeOf_some hb).2.2
      have eS := matchK_S ha hb
      have hok := matchK_ok a b (Sub.none', []) sk0_ok hwb (by rw [← eb]; exact hlb)
      simp -dsimp only [go_sem, ndO]
      refine call_one (i_match h.n a b (Sub.none', []) _ (by simp -dsimp only [go_sem]) (by simp -dsimp only [go_sem]; rfl) sk0_ok hwa hwb (by rw [← eb]; exact hlb)) (by simp -dsimp only [go_sem]) (by simp -dsimp only [go_sem]) ?_
      cases hr : (matchK (Sub.none', []) a b).2 with
      | false =>
        have e0 : matchS p t = none := by rw [eS, if_neg (by rw [hr]; simp)]
        simp -dsimp only [go_sem]
        exact fin0 e0 _ (by simp -dsimp only [go_sem])
      | true =>
        rw [if_pos hr] at eS
        simp -dsimp only [go_sem]
        refine call_pure (i_bindings h.n (matchK (Sub.none', []) a b).1 _ (by simp -dsimp only [go_sem]) (by simp -dsimp only [go_sem]) hok) ?_
        simp -dsimp only [go_sem]
        rw [eS]
        exact fin_pure (by simp -dsimp only [go_sem]) (by simp -dsimp only [go_sem])
theorem i_IsInstance (p t : L8) (h : AH) (hp : p.length ≤ 4611686018427387904) (ht : t.length ≤ 4611686018427387904) : Isea.Good Tryz.prog 228 [str p, str t] h [] (.v (.bool (isInst p t))) h := by
  refine good [] [] Tryz.func228 rfl rfl Tryz.ntmps228 (by kernel_rfl) mixed (by kernel_rfl) ?_
  simp -dsimp only [go_sem]
  refine call_pure (i_MatchType p t _ hp ht) ?_
  unfold isInst
  cases hm : matchType p t <;> simp -dsimp only [go_sem, matchV, hm] <;> exact fin_bool (by simp -dsimp only [go_sem]) rfl
end Go.Proofs.YtnocdggngfiebaaGreatDoor

namespace Go.Proofs.YtnocdggngfiebaaGreatDoor
open Go Go.Isea
set_option maxRecDepth 100000
set_option maxHeartbeats 4000000
theorem i_ApplyBindings {σ : Sub} (hs : σ.Ok 60) (t : L8) (h : AH) (ht : t.length ≤ 4611686018427387904) : Isea.Good Tryz.prog 242 [.sl ((bnds σ).map Bnd.row), str t] h [] (textV (applyB σ t)) h := by
  have hbs := bnds_ok hs
  have hlen := hbs.len
  have hfind := bnds_find hs
  generalize bnds σ = l at hbs hlen hfind
  refine good [] [] Tryz.func242 rfl rfl Tryz.ntmps242 (by kernel_rfl) mixed (by kernel_rfl) ?_
  simp -dsimp only [go_sem]
  refine call_pure (i_BindingsValid hbs _) ?_
  simp -dsimp only [go_sem]
  refine call_pure (i_TypeValid t _ ht) ?_
  cases ha : typeOf t with
  | none =>
    have e0 : applyB σ t = none := by simp [applyB, ha]
    have e1 : tv t = false := by simp [tv, ha]
    simp -dsimp only [go_sem, e1]
    rw [e0]
    exact fin_pure (by simp -dsimp only [go_sem]) (by simp -dsimp only [go_sem, textV])
  | some n =>
    obtain ⟨ea, hwa, hla⟩ := typeOf_some ha
    have e1 : tv t = true := by simp [tv, ha]
    have ep : applyB σ t = if (t.flatMap (subC σ)).length ≤ 60 then some (t.flatMap (subC σ)) else none := by
      unfold applyB
      rw [ha]
      simp only
      rw [put_text hs n hwa, ← ea]
    have hal := applyTake_len hs t
    simp -dsimp only [go_sem, e1]
    refine loop_ruleH [0, 0, 18] (fun (k : {k : Nat // k ≤ t.length}) H => ([(6, str (applyTake σ t k.1)), (21, .v (.int .i64 (k.1 : Nat)))], H)) (fun k => t.length - k.1) ⟨0, Nat.zero_le _⟩ ?_ ?_
    · exact weak_at rfl (Nat.le_refl _) (fun _ _ => rfl) (by simp -dsimp only [go_sem, applyTake, List.take_zero, List.flatMap_nil])
    · rintro ⟨k, hk⟩
      have hk1 : k + 1 ≤ 9223372036854775807 := by omega
      have halk := hal k
      by_cases hlt : k < t.length
      · obtain ⟨c, hc⟩ := get_some hlt
        have e5 : (t.drop k).take (k + 1 - k) = [c] := by rw [drop_get hc, Nat.add_sub_cancel_left]; rfl
        have hk2 : k + 1 ≤ t.length := hlt
        have enx := applyTake_succ (σ := σ) hc
        have hsl := subC_len hs c
        have hsc : (applyTake σ t k).length + (subC σ c).length ≤ 9223372036854775807 := by omega
        have hfc := hfind c
        simp -dsimp only [go_sem, hlt, hk1, e5, hk2]
        refine loop_ruleH [0, 0, 4, 1, 11, 0, 7, 0] (fun (m : {m : Nat // m ≤ l.length ∧ ∀ (j : Nat) (b : Bnd), j < m → l[j]? = some b → b.v ≠ [c]}) H => ([(31, .v (.int .i64 (m.1 : Nat)))], H)) (fun m => l.length - m.1) ⟨0, Nat.zero_le _, fun j b hj => absurd hj (Nat.not_lt_zero _)⟩ ?_ ?_
        · exact weak_at rfl (by simp -dsimp only [go_sem]) (fun x hx => by simp -dsimp only [go_sem, hx]) (by simp -dsimp only [go_sem])
        · rintro ⟨m, hm, hno⟩
          have hm1 : m + 1 ≤ 9223372036854775807 := by omega
          by_cases hmt : m < l.length
          · obtain ⟨b, hb⟩ := get_some hmt
            obtain ⟨d, u, rfl, hv, hw, hu⟩ := hbs.one m b hb
            by_cases hdc : d = c
            · subst hdc
              have esub : subC σ d = u.text := by
                rcases hfc with ⟨k', hk', hno'⟩ | ⟨hno', _⟩
                · have : k' = m := by
                    rcases Nat.lt_trichotomy k' m with g | g | g
                    · exact absurd rfl (hno k' _ g hk')
                    · exact g
                    · exact absurd rfl (hno' m _ g hb)
                  subst this
                  rw [hb] at hk'
                  have := Option.some.inj hk'
                  injection this with _ e2
                  exact e2.symm
                · exact absurd rfl (hno' m _ hb)
              rw [esub] at enx hsc
              simp -dsimp only [go_sem, hmt, hb, Bnd.row, hsc, hk1]
              exact round_to ⟨k + 1, hlt⟩ (by simp; omega) (weak_at rfl (by simp -dsimp only [go_sem]) (fun x hx => by simp -dsimp only [go_sem, hx]) (by simp -dsimp only [go_sem, enx]))
            · simp -dsimp only [go_sem, hmt, hb, Bnd.row, hdc, hm1]
              refine round_to ⟨m + 1, hmt, fun j b hj hjb => ?_⟩ (by simp; omega) (weak_at rfl (by simp -dsimp only [go_sem]) (fun x hx => by simp -dsimp only [go_sem, hx]) (by simp -dsimp only [go_sem]))
              rcases Nat.lt_or_eq_of_le (Nat.le_of_lt_succ hj) with g | rfl
              · exact hno j b g hjb
              · rw [hb] at hjb
                have := Option.some.inj hjb
                subst this
                simpa using hdc
          · have esub : subC σ c = [c] := by
              rcases hfc with ⟨k', hk', _⟩ | ⟨_, e⟩
              · have hlt' := (List.getElem?_eq_some_iff.1 hk').1
                exact absurd rfl (hno k' _ (by omega) hk')
              · exact e
            rw [esub] at enx hsc
            simp only [List.length_cons, List.length_nil] at hsc
            simp -dsimp only [go_sem, hmt, hsc, hk1]
            exact round_to ⟨k + 1, hlt⟩ (by simp; omega) (weak_at rfl (by simp -dsimp only [go_sem]) (fun x hx => by simp -dsimp only [go_sem, hx]) (by simp -dsimp only [go_sem, enx]))
      · have eall : applyTake σ t k = t.flatMap (subC σ) := by unfold applyTake; rw [List.take_of_length_le (by omega)]
        rw [eall]
        by_cases h60 : (t.flatMap (subC σ)).length ≤ 60
        · have h60' : ¬ (60 : Int) < ((t.flatMap (subC σ)).length : Nat) := by omega
          rw [if_pos h60] at ep
          simp -dsimp only [go_sem, hlt, h60']
          rw [ep]
          exact fin_pure (by simp -dsimp only [go_sem]) (by simp -dsimp only [go_sem, textV])
        · have h60' : (60 : Int) < ((t.flatMap (subC σ)).length : Nat) := by omega
          rw [if_neg h60] at ep
          simp -dsimp only [go_sem, hlt, h60']
          rw [ep]
          exact fin_pure (by simp -dsimp only [go_sem]) (by simp -dsimp only [go_sem, textV])
end Go.Proofs.YtnocdggngfiebaaGreatDoor

namespace Go.Isea
open Go
def findIx {α : Type} (p : α → Bool) : List α → Int
  | [] => -1
  | a :: l => if p a = true then 0 else if findIx p l < 0 then -1 else findIx p l + 1
theorem findIx_ge {α : Type} (p : α → Bool) (l : List α) : -1 ≤ findIx p l := by
  cases l with
  | nil => simp [findIx]
  | cons a l => simp only [findIx]; split <;> (try split) <;> omega
theorem findIx_iff {α : Type} (p : α → Bool) : ∀ l : List α, 0 ≤ findIx p l ↔ l.any p = true
  | [] => by simp [findIx]
  | a :: l => by
    have ih := findIx_iff p l
    have := findIx_ge p l
    by_cases h : p a = true
    · have e : findIx p (a :: l) = 0 := by rw [findIx, if_pos h]
      rw [e]; simp [h]
    · have e : findIx p (a :: l) = if findIx p l < 0 then -1 else findIx p l + 1 := by rw [findIx, if_neg h]
      have h' : p a = false := by simpa using h
      rw [e, List.any_cons, h', Bool.false_or, ← ih]
      by_cases h0 : findIx p l < 0
      · rw [if_pos h0]; omega
      · rw [if_neg h0]; omega
theorem findIx_any {α : Type} (p : α → Bool) (l : List α) : decide (0 ≤ findIx p l) = l.any p := by
  rw [Bool.eq_iff_iff, decide_eq_true_eq]; exact findIx_iff p l
def FIxAt {α : Type} (p : α → Bool) (l : List α) (k : Nat) : Prop := findIx p l = if findIx p (l.drop k) < 0 then -1 else k + findIx p (l.drop k)
theorem fIxAt_zero {α : Type} (p : α → Bool) (l : List α) : FIxAt p l 0 := by
  unfold FIxAt
  rw [List.drop_zero]
  have := findIx_ge p l
  by_cases h : findIx p l < 0
  · rw [if_pos h]; omega
  · rw [if_neg h]; simp
theorem fIxAt_succ {α : Type} {p : α → Bool} {l : List α} {k : Nat} {a : α} (h : FIxAt p l k) (ha : l[k]? = some a) (hp : p a = false) : FIxAt p l (k + 1) := by
  unfold FIxAt at h ⊢
  have e : findIx p (a :: l.drop (k + 1)) = if findIx p (l.drop (k + 1)) < 0 then -1 else findIx p (l.drop (k + 1)) + 1 := by rw [findIx, if_neg (by rw [hp]; simp)]
  rw [h, drop_get ha, e]
  have := findIx_ge p (l.drop (k + 1))
  by_cases h0 : findIx p (l.drop (k + 1)) < 0
  · rw [if_pos h0, if_pos h0]; rfl
  · rw [if_neg h0, if_neg h0, if_neg (by omega)]; push_cast; omega
theorem fIxAt_here {α : Type} {p : α → Bool} {l : List α} {k : Nat} {a : α} (h : FIxAt p l k) (ha : l[k]? = some a) (hp : p a = true) : findIx p l = k := by
  unfold FIxAt at h
  rw [h, drop_get ha, findIx, if_pos hp]; simp
theorem fIxAt_end {α : Type} {p : α → Bool} {l : List α} {k : Nat} (h : FIxAt p l k) (hk : l.length ≤ k) : findIx p l = -1 := by
  unfold FIxAt at h
  rw [h, List.drop_of_length_le hk]; rfl
theorem any_cls (cs : List Cls) (c : L8) : cs.any (fun x => decide (x.n = c)) = decide (0 ≤ clsIx cs c) := by
  rw [Bool.eq_iff_iff]
  simp only [List.any_eq_true, decide_eq_true_eq]
  exact clsIx_mem.symm
end Go.Isea
namespace Go.Proofs.YtnocdggngfiebaaGreatDoor
open Go Go.Isea
set_option maxRecDepth 100000
set_option maxHeartbeats 4000000
theorem l_IndexFunc_Class (l : List Cls) (k : FuncId) (cap : List AV) (p : Cls → Bool) (h : AH) (hl : l.length ≤ 4611686018427387904) (hcap : ∀ m, FzL h m cap cap) (hp : ∀ c ∈ l, Isea.Good Tryz.prog k (.agg c.row :: cap) h [] (.v (.bool (p c))) h) : Isea.Good Tryz.prog 298 [.sl (l.map Cls.row), .fn k cap] h [] (.v (.int .i64 (findIx p l))) h := by
  refine good [] [] Tryz.func298 rfl rfl Tryz.ntmps298 (by kernel_rfl) mixed (by kernel_rfl) ?_
  simp -dsimp only [go_sem]
  refine loop_ruleH [0, 0, 5] (fun (k : {k : Nat // k ≤ l.length ∧ FIxAt p l k}) H => ([(8, .v (.int .i64 (k.1 : Nat)))], H)) (fun k => l.length - k.1) ⟨0, Nat.zero_le _, fIxAt_zero _ _⟩ ?_ ?_
  · exact weak_at rfl (Nat.le_refl _) (fun _ _ => rfl) (by simp -dsimp only [go_sem, hcap])
  · rintro ⟨k, hk, hi⟩
    have h1 : k + 1 ≤ 9223372036854775807 := by omega
    by_cases hlt : k < l.length
    · obtain ⟨c, hb⟩ := get_some hlt
      have hg := hp c (List.mem_of_getElem? hb)
      simp only [Cls.row] at hg
      simp -dsimp only [go_sem, hlt, hb, Cls.row]
      refine call_pure hg ?_
      cases hpc : p c with
      | true =>
        simp -dsimp only [go_sem]
        exact fin_int (Nat.le_refl _) (fIxAt_here hi hb hpc).symm
      | false =>
        simp -dsimp only [go_sem, h1]
        exact round_to ⟨k + 1, hlt, fIxAt_succ hi hb hpc⟩ (by simp; omega) (weak_at rfl (by simp -dsimp only [go_sem]) (fun x hx => by simp -dsimp only [go_sem, hx]) (by simp -dsimp only [go_sem, hcap]))
    · simp -dsimp only [go_sem, hlt]
      exact fin_int (Nat.le_refl _) (fIxAt_end hi (by omega)).symm
theorem l_ContainsFunc_Class (l : List Cls) (k : FuncId) (cap : List AV) (p : Cls → Bool) (h : AH) (hl : l.length ≤ 4611686018427387904) (hcap : ∀ m, FzL h m cap cap) (hp : ∀ c ∈ l, Isea.Good Tryz.prog k (.agg c.row :: cap) h [] (.v (.bool (p c))) h) : Isea.Good Tryz.prog 251 [.sl (l.map Cls.row), .fn k cap] h [] (.v (.bool (l.any p))) h := by
  refine good [] [] Tryz.func251 rfl rfl Tryz.ntmps251 (by kernel_rfl) mixed (by kernel_rfl) ?_
  simp -dsimp only [go_sem]
  refine call_pure (l_IndexFunc_Class l k cap p h hl hcap hp) ?_
  simp -dsimp only [go_sem]
  exact fin_bool (Nat.le_refl _) (findIx_any p l)
theorem i_known1 (c : Cls) (cl : L8) (h : AH) : Isea.Good Tryz.prog 252 [.agg c.row, .ref [str cl] 0] h [] (.v (.bool (decide (c.n = cl)))) h := by
  refine good [] [] Tryz.func252 rfl rfl Tryz.ntmps252 (by kernel_rfl) mixed (by kernel_rfl) ?_
  simp -dsimp only [go_sem, Cls.row]
  exact fin_bool (Nat.le_refl _) rfl
theorem i_known (cs : List Cls) (cl : L8) (h : AH) (hl : cs.length ≤ 4611686018427387904) : Isea.Good Tryz.prog 182 [.sl (cs.map Cls.row), str cl] h [] (.v (.bool (decide (0 ≤ clsIx cs cl)))) h := by
  refine good [] [] Tryz.func182 rfl rfl Tryz.ntmps182 (by kernel_rfl) mixed (by kernel_rfl) ?_
  simp -dsimp only [go_sem]
  refine call_pure (l_ContainsFunc_Class cs 252 [.ref [str cl] 0] (fun x => decide (x.n = cl)) _ hl (fun m => by simp -dsimp only [go_sem]) (fun c _ => i_known1 c cl _)) ?_
  simp -dsimp only [go_sem]
  exact fin_bool (Nat.le_refl _) (any_cls cs cl)
theorem i_classesOk (w : Wld) (h : AH) (hw : w.Sm) : Isea.Good Tryz.prog 178 [.agg w.row] h [] (.v (.bool (classesOk w.cs))) h := by
  have hcs := hw.cl
  have hc := hw.c
  generalize w.is = is'
  refine good [] [] Tryz.func178 rfl rfl Tryz.ntmps178 (by kernel_rfl) mixed (by kernel_rfl) ?_
  simp -dsimp only [go_sem, Wld.row]
  generalize w.cs = cs at hcs hc
  refine loop_ruleH [1, 5, 0] (fun (k : {k : Nat // k ≤ cs.length ∧ ∀ j, j < k → clsAt cs j = true}) H => ([(9, .v (.int .i64 (k.1 : Nat)))], H)) (fun k => cs.length - k.1) ⟨0, Nat.zero_le _, fun j hj => absurd hj (Nat.not_lt_zero _)⟩ ?_ ?_
  · exact weak_at rfl (Nat.le_refl _) (fun _ _ => rfl) (by simp -dsimp only [go_sem])
  · rintro ⟨k, hk, hi⟩
    have h1 : k + 1 ≤ 9223372036854775807 := by omega
    by_cases hlt : k < cs.length
    · obtain ⟨c, hb⟩ := get_some hlt
      have hsm := hc c (List.mem_of_getElem? hb)
      have bad : clsAt cs k = false → ∀ H : AH, h.n ≤ H.n → FinS [] h H (.v (.bool false)) h (.v (.bool (classesOk cs))) := fun e H hH => by
        refine fin_bool hH ?_
        simp [classesOk, not_all hlt e]
      simp -dsimp only [go_sem, hlt, hb, Cls.row]
      refine call_pure (i_isClass c.n _) ?_
      cases hcap : capital c.n with
      | false =>
        simp -dsimp only [go_sem]
        exact bad (by simp [clsAt, hb, hcap]) _ (by simp -dsimp only [go_sem])
      | true =>
        have two : (k = 0 ∧ ¬ (0 : Int) < (k : Nat)) ∨ (∃ j a, k = j + 1 ∧ (0 : Int) < (k : Nat) ∧ IntKind.i64.wrap (((k : Nat) : Int) - 1) = (j : Nat) ∧ cs[j]? = some a) := by
          cases k with
          | zero => exact .inl ⟨rfl, by omega⟩
          | succ j => obtain ⟨a, ha⟩ := get_some (l := cs) (k := j) (by omega); exact .inr ⟨j, a, rfl, by omega, wrap_pred (by omega), ha⟩
        have three : (Op.bytesLess ((cs[k - 1]?.map Cls.n).getD []) c.n = false ∧ 0 < k) ∨ clsAt cs k = (List.range c.s.length).all (supAt (cs.take k) c.s) := by
          rcases two with ⟨rfl, _⟩ | ⟨j, a, rfl, _, _, ha⟩
          · right; simp [clsAt, hb, hcap]
          · cases hl : Op.bytesLess a.n c.n with
            | false => left; simp [ha, hl]
            | true => right; simp only [clsAt, hb, hcap, ha, hl, Bool.true_and]
        rcases two with ⟨hk0, h0⟩ | ⟨j, a, hk0, h0, hwj, ha⟩
        case' inl =>
          have three := three.resolve_left (by omega)
          simp -dsimp only [go_sem, h0]
        case' inr =>
          have hsa : a.Sm := hc a (List.mem_of_getElem? ha)
          cases hl : Op.bytesLess a.n c.n
          case false =>
            simp -dsimp only [go_sem, h0, hwj, ha, hl, Cls.row]
            exact bad (by rw [hk0] at hb ⊢; simp only [clsAt, hb, hcap, ha, hl]; rfl) _ (by simp -dsimp only [go_sem])
          have three := three.resolve_left (by rw [hk0]; simp [ha, hl])
          simp -dsimp only [go_sem, h0, hwj, ha, hl, Cls.row]
        all_goals
          refine loop_ruleH [1, 1, 0, 2, 0, 0, 26] (fun (m : {m : Nat // m ≤ c.s.length ∧ ∀ j, j < m → supAt (cs.take k) c.s j = true}) H => ([(37, .v (.int .i64 (m.1 : Nat)))], H)) (fun m => c.s.length - m.1) ⟨0, Nat.zero_le _, fun j hj => absurd hj (Nat.not_lt_zero _)⟩ ?_ ?_
          · refine weak_objs [h.n] (by simp -dsimp only [go_sem]) (by simp -dsimp only [go_sem]) (by simp -dsimp only [go_sem]) ?_ ?_ ?_
            · intro x h1 h2; simp -dsimp only [go_sem, h1]
            · intro x h1 h2; have h1 : x < h.n + 1 := h1; simp at h2 ⊢; omega
            · simp -dsimp only [go_sem]
          · rintro ⟨m, hm, hj⟩
            have hsl := hsm.2
            have h2 : m + 1 ≤ 9223372036854775807 := by omega
            by_cases hmt : m < c.s.length
            · obtain ⟨d, hd⟩ := get_some hmt
              have e5 : (c.s.drop m).take (m + 1 - m) = [d] := by rw [drop_get hd, Nat.add_sub_cancel_left]; rfl
              have e6 : (c.s.drop m).take 1 = [d] := by rw [drop_get hd]; rfl
              have hm1 : m + 1 ≤ c.s.length := hmt
              have sbad : supAt (cs.take k) c.s m = false → clsAt cs k = false := fun e => three.trans (not_all hmt e)
              simp -dsimp only [go_sem, hmt, hk, h2, e5, hm1]
              refine call_pure (i_known (cs.take k) [d] _ (by simp; omega)) ?_
              by_cases hcx : clsIx (cs.take k) [d] < 0
              · have hcx' : ¬ 0 ≤ clsIx (cs.take k) [d] := by omega
                have e0 : supAt (cs.take k) c.s m = false := by simp [supAt, e6, hcx']
                simp -dsimp only [go_sem, hcx']
                exact bad (sbad e0) _ (by simp -dsimp only [go_sem])
              · have hcx' : 0 ≤ clsIx (cs.take k) [d] := by omega
                have mcase : (m = 0 ∧ ¬ (0 : Int) < (m : Nat)) ∨ (∃ j e, m = j + 1 ∧ (0 : Int) < (m : Nat) ∧ IntKind.i64.wrap (((m : Nat) : Int) - 1) = (j : Nat) ∧ c.s[j]? = some e) := by
                  cases m with
                  | zero => exact .inl ⟨rfl, by omega⟩
                  | succ j => obtain ⟨a, ha⟩ := get_some (l := c.s) (k := j) (by omega); exact .inr ⟨j, a, rfl, by omega, wrap_pred (by omega), ha⟩
                rcases mcase with ⟨hm0, hz⟩ | ⟨j', e, hm0, hz, hwj', he⟩
                · have e0 : supAt (cs.take k) c.s m = true := by
                    rw [hm0] at e6 ⊢
                    rw [List.drop_zero] at e6
                    simp [supAt, e6, hcx']
                  simp -dsimp only [go_sem, hcx', hz, h2]
                  refine round_to ⟨m + 1, hmt, all_upto hj e0⟩ (by simp; omega) ?_
                  refine weak_objs [h.n] (by simp -dsimp only [go_sem]) (by simp -dsimp only [go_sem]) (by simp -dsimp only [go_sem]) ?_ ?_ ?_
                  · intro x h1 h2; simp -dsimp only [go_sem, h1]
                  · intro x h1 h2; have h1 : x < h.n + 1 := h1; simp at h2 ⊢; omega
                  · simp -dsimp only [go_sem]
                · have e0 : supAt (cs.take k) c.s m = decide (e.toNat < d.toNat) := by
                    rw [hm0] at hd e6 ⊢
                    simp [supAt, e6, hcx', he, hd]
                  by_cases hge : ((d.toNat : Nat) : Int) ≤ ((e.toNat : Nat) : Int)
                  · simp -dsimp only [go_sem, hcx', hz, hwj', he, hd, hge]
                    exact bad (sbad (by rw [e0]; simp; omega)) _ (by simp -dsimp only [go_sem])
                  · simp -dsimp only [go_sem, hcx', hz, hwj', he, hd, hge, h2]
                    refine round_to ⟨m + 1, hmt, all_upto hj (by rw [e0]; simp; omega)⟩ (by simp; omega) ?_
                    refine weak_objs [h.n] (by simp -dsimp only [go_sem]) (by simp -dsimp only [go_sem]) (by simp -dsimp only [go_sem]) ?_ ?_ ?_
                    · intro x h1 h2; simp -dsimp only [go_sem, h1]
                    · intro x h1 h2; have h1 : x < h.n + 1 := h1; simp at h2 ⊢; omega
                    · simp -dsimp only [go_sem]
            · simp -dsimp only [go_sem, hmt, h1]
              refine round_to ⟨k + 1, hlt, all_upto hi ?_⟩ (by simp; omega) ?_
              · rw [three, all_range]
                exact fun j h => hj j (by omega)
              · exact weak_at rfl (by simp -dsimp only [go_sem]) (fun x hx => by simp -dsimp only [go_sem, hx]) (by simp -dsimp only [go_sem])
    · have e1 : (List.range cs.length).all (clsAt cs) = true := all_range.2 fun j hj => hi j (by omega)
      have e2 : classesOk cs = (decide (1 ≤ cs.length) && decide (cs.length ≤ 4)) := by unfold classesOk; rw [e1, Bool.and_true]
      rw [e2]
      by_cases hge : (1 : Int) ≤ (cs.length : Nat)
      · have hge' : 1 ≤ cs.length := by omega
        simp -dsimp only [go_sem, hlt, hge]
        refine fin_bool (by simp -dsimp only [go_sem]) ?_
        simp only [hge', decide_true, Bool.true_and]
        apply decide_eq_decide.2; omega
      · have hge' : ¬ 1 ≤ cs.length := by omega
        simp -dsimp only [go_sem, hlt, hge]
        refine fin_bool (by simp -dsimp only [go_sem]) ?_
        simp [hge']
end Go.Proofs.YtnocdggngfiebaaGreatDoor

namespace Go.Isea
open Go
theorem isVL_tv {t : L8} (h : tv t = true) : isVL t = isV (t.headD 0) := by
  unfold tv at h
  obtain ⟨a, ha⟩ := Option.isSome_iff_exists.1 h
  obtain ⟨e, hw, _⟩ := typeOf_some ha
  subst e
  cases a with
  | leaf c => rfl
  | un c a =>
    have : isV c = false := by
      cases hv : isV c with
      | false => rfl
      | true => have := isV_ar hv; rw [hw.1] at this; cases this
    simp [Ty.text, isVL, this]
  | bin c a b =>
    have : isV c = false := by
      cases hv : isV c with
      | false => rfl
      | true => have := isV_ar hv; rw [hw.1] at this; cases this
    simp [Ty.text, isVL, this]
theorem within_vars (a b : L8) : within (varsIn a) (varsIn b) = (varsIn a).all fun c => decide (0 ≤ ix b c) := by
  unfold within
  rw [Bool.eq_iff_iff, List.all_eq_true, List.all_eq_true]
  have key : ∀ c ∈ varsIn a, (decide (0 ≤ ix (varsIn b) c) = true ↔ decide (0 ≤ ix b c) = true) := fun c hc => by
    simp only [decide_eq_true_eq, ix_mem]
    unfold varsIn at hc ⊢
    rw [List.mem_filter] at hc ⊢
    constructor
    · rintro ⟨_, h⟩; simpa using h
    · intro h; exact ⟨hc.1, by simpa using h⟩
  exact ⟨fun h c hc => (key c hc).1 (h c hc), fun h c hc => (key c hc).2 (h c hc)⟩
def varsK (t : L8) (k : Nat) : L8 := (vars6.take k).filter fun v => t.contains v
theorem varsK_succ {t : L8} {k : Nat} {c : UInt8} (hc : vars6[k]? = some c) : varsK t (k + 1) = if 0 ≤ ix t c then varsK t k ++ [c] else varsK t k := by
  obtain ⟨hl, e⟩ := List.getElem?_eq_some_iff.1 hc
  unfold varsK
  rw [List.take_succ_eq_append_getElem hl, List.filter_append, e]
  by_cases h : c ∈ t
  · rw [if_pos (ix_mem.2 h)]; simp [h]
  · rw [if_neg (fun e => h (ix_mem.1 e))]; simp [h]
theorem varsK_len (t : L8) (k : Nat) : (varsK t k).length ≤ 6 := by
  unfold varsK
  refine Nat.le_trans (List.length_filter_le _ _) ?_
  rw [List.length_take]; simp [vars6]; omega
theorem varsK_all (t : L8) {k : Nat} (h : 6 ≤ k) : varsK t k = varsIn t := by
  unfold varsK varsIn
  rw [List.take_of_length_le (by simpa [vars6] using h)]
end Go.Isea
namespace Go.Proofs.YtnocdggngfiebaaGreatDoor
open Go Go.Isea
set_option maxRecDepth 100000
set_option maxHeartbeats 4000000
theorem i_vars (t : L8) (h : AH) : Isea.Good Tryz.prog 91 [str t] h [] (.sl ((varsIn t).map cRow)) h := by
  refine good [] [] Tryz.func91 rfl rfl Tryz.ntmps91 (by kernel_rfl) mixed (by kernel_rfl) ?_
  simp -dsimp only [go_sem]
  have ev : ([[str [88]], [str [89]], [str [90]], [str [120]], [str [121]], [str [122]]] : List (List AV)) = vars6.map cRow := rfl
  rw [ev]
  have hv6 : vars6.length = 6 := rfl
  refine loop_ruleH [0, 6, 0] (fun (k : {k : Nat // k ≤ 6}) H => ([(3, .so h.n (varsK t k.1).length (varsK t k.1).length), (9, .v (.int .i64 (k.1 : Nat)))], ⟨H.n, upd H.o h.n (.rows 9 1 ((varsK t k.1).map cRow))⟩)) (fun k => 6 - k.1) ⟨0, Nat.zero_le _⟩ ?_ ?_
  · have e0 : varsK t 0 = [] := rfl
    refine weak_objs [h.n] (by simp -dsimp only [go_sem]) (by simp -dsimp only [go_sem]) (by simp -dsimp only [go_sem, e0]) ?_ ?_ ?_
    · intro x h1 h2; simp -dsimp only [go_sem, h1]
    · intro x h1 h2; have h1 : x < h.n + 1 := h1; simp at h2 ⊢; omega
    · simp -dsimp only [go_sem, e0, List.map_nil]
  · rintro ⟨k, hk⟩
    have hk1 : k + 1 ≤ 9223372036854775807 := by omega
    have hkl := varsK_len t k
    have e6 : ((varsK t k).length + 1) * 16 ≤ 140737488355328 := by omega
    by_cases hlt : k < 6
    · obtain ⟨c, hc⟩ := get_some (l := vars6) (k := k) hlt
      have h3 := varsK_succ (t := t) hc
      have hlt' : ((k : Nat) : Int) < 6 := by omega
      simp -dsimp only [go_sem, hlt, hc, cRow]
      refine call_pure (l_Contains t c _) ?_
      by_cases h0 : 0 ≤ ix t c
      · rw [if_pos h0] at h3
        simp -dsimp only [go_sem, h0, hk1, e6, List.length_map]
        refine round_to ⟨k + 1, hlt⟩ (by simp; omega) ?_
        refine weak_objs [h.n] (by simp -dsimp only [go_sem]) (by simp -dsimp only [go_sem]) (by simp -dsimp only [go_sem, h3]) ?_ ?_ ?_
        · intro x h1 h2; simp -dsimp only [go_sem, h1]
        · intro x h1 h2; have h1 : x < h.n + 1 := h1; simp at h2 ⊢; omega
        · simp -dsimp only [go_sem, h3, List.map_append, List.map_cons, List.map_nil, cRow]
      · rw [if_neg h0] at h3
        simp -dsimp only [go_sem, h0, hk1]
        refine round_to ⟨k + 1, hlt⟩ (by simp; omega) ?_
        refine weak_objs [h.n] (by simp -dsimp only [go_sem]) (by simp -dsimp only [go_sem]) (by simp -dsimp only [go_sem, h3]) ?_ ?_ ?_
        · intro x h1 h2; simp -dsimp only [go_sem, h1]
        · intro x h1 h2; have h1 : x < h.n + 1 := h1; simp at h2 ⊢; omega
        · simp -dsimp only [go_sem, h3]
    · have hlt' : ¬ ((k : Nat) : Int) < 6 := by omega
      have e9 := varsK_all t (show 6 ≤ k by omega)
      rw [e9]
      simp -dsimp only [go_sem, hlt]
      exact fin_pure (by simp -dsimp only [go_sem]) (by simp -dsimp only [go_sem, List.length_map])
theorem i_InstanceValid (w : Wld) (i : Inst) (h : AH) (hw : w.Sm) (hi : i.Sm) : Isea.Good Tryz.prog 181 [.agg w.row, .agg i.row] h [] (.v (.bool (instOk w.cs i))) h := by
  have hic := hi.1
  have hit := hi.2.1
  have hin := hi.2.2.1
  have hins := hi.2.2.2
  have hcl := hw.cl
  have hco := i_classesOk w
  have bad : instOk w.cs i = false → ∀ H : AH, h.n ≤ H.n → FinS [] h H (.v (.bool false)) h (.v (.bool (instOk w.cs i))) := fun e H hH => fin_bool hH e.symm
  refine good [] [] Tryz.func181 rfl rfl Tryz.ntmps181 (by kernel_rfl) mixed (by kernel_rfl) ?_
  simp -dsimp only [go_sem, Wld.row, Inst.row]
  refine call_pure (hco _ hw) ?_
  cases h1 : classesOk w.cs with
  | false =>
    simp -dsimp only [go_sem]
    exact bad (by simp [instOk, h1]) _ (by simp -dsimp only [go_sem])
  | true =>
    simp -dsimp only [go_sem]
    refine call_pure (i_known w.cs i.c _ hw.cl) ?_
    by_cases h2' : 0 ≤ clsIx w.cs i.c
    · simp -dsimp only [go_sem, h2']
      refine call_pure (i_TypeValid i.t _ hit) ?_
      cases h3 : tv i.t with
      | false =>
        simp -dsimp only [go_sem]
        exact bad (by simp [instOk, h3]) _ (by simp -dsimp only [go_sem])
      | true =>
        by_cases h4 : (20 : Int) < (i.t.length : Nat)
        · have h4' : ¬ i.t.length ≤ 20 := by omega
          simp -dsimp only [go_sem, h4]
          exact bad (by simp [instOk, h4']) _ (by simp -dsimp only [go_sem])
        · have h4' : i.t.length ≤ 20 := by omega
          simp -dsimp only [go_sem, h4]
          refine call_pure (i_isVar i.t _) ?_
          rw [isVL_tv h3]
          cases h5 : isV (i.t.headD 0) with
          | true =>
            simp -dsimp only [go_sem]
            exact bad (by unfold instOk; rw [h5]; simp) _ (by simp -dsimp only [go_sem])
          | false =>
            by_cases h6 : (3 : Int) < (i.ns.length : Nat)
            · have h6' : ¬ i.ns.length ≤ 3 := by omega
              simp -dsimp only [go_sem, h6]
              exact bad (by simp [instOk, h6']) _ (by simp -dsimp only [go_sem])
            · have h6' : i.ns.length ≤ 3 := by omega
              have e : instOk w.cs i = i.ns.all (needIn w.cs i.t) := by
                simp only [instOk, h1, h2', h3, h4', h6', decide_true, Bool.true_and, Bool.and_true]
                rw [h5]; rfl
              simp -dsimp only [go_sem, h6]
              refine loop_ruleH [2, 0, 44, 0] (fun (k : {k : Nat // k ≤ i.ns.length ∧ i.ns.all (needIn w.cs i.t) = (i.ns.drop k).all (needIn w.cs i.t)}) H => ([(50, .v (.int .i64 (k.1 : Nat)))], H)) (fun k => i.ns.length - k.1) ⟨0, Nat.zero_le _, rfl⟩ ?_ ?_
              · exact weak_at rfl (by simp -dsimp only [go_sem]) (fun x hx => by simp -dsimp only [go_sem, hx]) (by simp -dsimp only [go_sem])
              · rintro ⟨k, hk, hall⟩
                have hk1 : k + 1 ≤ 9223372036854775807 := by omega
                by_cases hlt : k < i.ns.length
                · obtain ⟨n, hb⟩ := get_some hlt
                  have hns := hins n (List.mem_of_getElem? hb)
                  rw [drop_get hb, List.all_cons] at hall
                  have nbad : needIn w.cs i.t n = false → instOk w.cs i = false := fun en => by rw [e, hall, en]; rfl
                  simp -dsimp only [go_sem, hlt, hb, Need.row]
                  refine call_pure (i_known w.cs n.c _ hw.cl) ?_
                  by_cases g2' : 0 ≤ clsIx w.cs n.c
                  · simp -dsimp only [go_sem, g2']
                    refine call_pure (i_TypeValid n.t _ hns.2) ?_
                    cases g3 : tv n.t with
                    | false =>
                      simp -dsimp only [go_sem]
                      exact bad (nbad (by simp [needIn, g3])) _ (by simp -dsimp only [go_sem])
                    | true =>
                      by_cases g4 : (20 : Int) < (n.t.length : Nat)
                      · have g4' : ¬ n.t.length ≤ 20 := by omega
                        simp -dsimp only [go_sem, g4]
                        exact bad (nbad (by simp [needIn, g4'])) _ (by simp -dsimp only [go_sem])
                      · have g4' : n.t.length ≤ 20 := by omega
                        have en : needIn w.cs i.t n = (varsIn n.t).all fun c => decide (0 ≤ ix i.t c) := by
                          rw [← within_vars]; simp [needIn, g2', g3, g4']
                        simp -dsimp only [go_sem, g4]
                        refine call_pure (i_vars n.t _) ?_
                        have hvl : (varsIn n.t).length ≤ 6 := List.length_filter_le _ vars6
                        generalize varsIn n.t = vs at en hvl
                        simp -dsimp only [go_sem, List.length_map]
                        refine loop_ruleH [2, 0, 44, 0, 0, 23, 0] (fun (m : {m : Nat // m ≤ vs.length ∧ needIn w.cs i.t n = (vs.drop m).all fun c => decide (0 ≤ ix i.t c)}) H => ([(76, .v (.int .i64 (m.1 : Nat)))], H)) (fun m => vs.length - m.1) ⟨0, Nat.zero_le _, en⟩ ?_ ?_
                        · refine weak_objs [h.n] (by simp -dsimp only [go_sem]) (by simp -dsimp only [go_sem]) (by simp -dsimp only [go_sem]) ?_ ?_ ?_
                          · intro x h1 h2; simp -dsimp only [go_sem, h1]
                          · intro x h1 h2; have h1 : x < h.n + 1 := h1; simp at h2 ⊢; omega
                          · simp -dsimp only [go_sem]
                        · rintro ⟨m, hm, hen⟩
                          have hm1 : m + 1 ≤ 9223372036854775807 := by omega
                          by_cases hmt : m < vs.length
                          · obtain ⟨d, hd⟩ := get_some hmt
                            rw [drop_get hd, List.all_cons] at hen
                            simp -dsimp only [go_sem, hmt, hd, cRow]
                            refine call_pure (l_Contains i.t d _) ?_
                            by_cases h0 : 0 ≤ ix i.t d
                            · simp -dsimp only [go_sem, h0, hm1]
                              refine round_to ⟨m + 1, hmt, by rw [hen]; simp [h0]⟩ (by simp; omega) ?_
                              refine weak_objs [h.n] (by simp -dsimp only [go_sem]) (by simp -dsimp only [go_sem]) (by simp -dsimp only [go_sem]) ?_ ?_ ?_
                              · intro x h1 h2; simp -dsimp only [go_sem, h1]
                              · intro x h1 h2; have h1 : x < h.n + 1 := h1; simp at h2 ⊢; omega
                              · simp -dsimp only [go_sem]
                            · simp -dsimp only [go_sem, h0]
                              exact bad (nbad (by rw [hen]; simp [h0])) _ (by simp -dsimp only [go_sem])
                          · have hnt : needIn w.cs i.t n = true := by rw [hen, List.drop_of_length_le (by omega)]; rfl
                            simp -dsimp only [go_sem, hmt, hk1]
                            refine round_to ⟨k + 1, hlt, ?_⟩ (by simp; omega) (weak_at rfl (by simp -dsimp only [go_sem]) (fun x hx => by simp -dsimp only [go_sem, hx]) (by simp -dsimp only [go_sem]))
                            rw [hall, hnt]; rfl
                  · simp -dsimp only [go_sem, g2']
                    exact bad (nbad (by simp [needIn, g2'])) _ (by simp -dsimp only [go_sem])
                · simp -dsimp only [go_sem, hlt]
                  refine fin_bool (by simp -dsimp only [go_sem]) ?_
                  rw [e, hall, List.drop_of_length_le (by omega)]; rfl
    · simp -dsimp only [go_sem, h2']
      exact bad (by simp [instOk, h2']) _ (by simp -dsimp only [go_sem])
theorem l_IndexFunc_Instance (l : List Inst) (k : FuncId) (cap : List AV) (p : Inst → Bool) (h : AH) (hl : l.length ≤ 4611686018427387904) (hcap : ∀ m, FzL h m cap cap) (hp : ∀ c ∈ l, Isea.Good Tryz.prog k (.agg c.row :: cap) h [] (.v (.bool (p c))) h) : Isea.Good Tryz.prog 250 [.sl (l.map Inst.row), .fn k cap] h [] (.v (.int .i64 (findIx p l))) h := by
  refine good [] [] Tryz.func250 rfl rfl Tryz.ntmps250 (by kernel_rfl) mixed (by kernel_rfl) ?_
  simp -dsimp only [go_sem]
  refine loop_ruleH [0, 0, 5] (fun (k : {k : Nat // k ≤ l.length ∧ FIxAt p l k}) H => ([(8, .v (.int .i64 (k.1 : Nat)))], H)) (fun k => l.length - k.1) ⟨0, Nat.zero_le _, fIxAt_zero _ _⟩ ?_ ?_
  · exact weak_at rfl (Nat.le_refl _) (fun _ _ => rfl) (by simp -dsimp only [go_sem, hcap])
  · rintro ⟨k, hk, hi⟩
    have h1 : k + 1 ≤ 9223372036854775807 := by omega
    by_cases hlt : k < l.length
    · obtain ⟨c, hb⟩ := get_some hlt
      have hg := hp c (List.mem_of_getElem? hb)
      simp only [Inst.row] at hg
      simp -dsimp only [go_sem, hlt, hb, Inst.row]
      refine call_pure hg ?_
      cases hpc : p c with
      | true =>
        simp -dsimp only [go_sem]
        exact fin_int (Nat.le_refl _) (fIxAt_here hi hb hpc).symm
      | false =>
        simp -dsimp only [go_sem, h1]
        exact round_to ⟨k + 1, hlt, fIxAt_succ hi hb hpc⟩ (by simp; omega) (weak_at rfl (by simp -dsimp only [go_sem]) (fun x hx => by simp -dsimp only [go_sem, hx]) (by simp -dsimp only [go_sem, hcap]))
    · simp -dsimp only [go_sem, hlt]
      exact fin_int (Nat.le_refl _) (fIxAt_end hi (by omega)).symm
theorem l_ContainsFunc_Instance (l : List Inst) (k : FuncId) (cap : List AV) (p : Inst → Bool) (h : AH) (hl : l.length ≤ 4611686018427387904) (hcap : ∀ m, FzL h m cap cap) (hp : ∀ c ∈ l, Isea.Good Tryz.prog k (.agg c.row :: cap) h [] (.v (.bool (p c))) h) : Isea.Good Tryz.prog 179 [.sl (l.map Inst.row), .fn k cap] h [] (.v (.bool (l.any p))) h := by
  refine good [] [] Tryz.func179 rfl rfl Tryz.ntmps179 (by kernel_rfl) mixed (by kernel_rfl) ?_
  simp -dsimp only [go_sem]
  refine call_pure (l_IndexFunc_Instance l k cap p h hl hcap hp) ?_
  simp -dsimp only [go_sem]
  exact fin_bool (Nat.le_refl _) (findIx_any p l)
theorem i_WorldValid1 (w : Wld) (i : Inst) (h : AH) (hw : w.Sm) (hi : i.Sm) : Isea.Good Tryz.prog 180 [.agg i.row, .ref w.row 0] h [] (.v (.bool (!instOk w.cs i))) h := by
  have hg := i_InstanceValid w i h hw hi
  refine good [] [] Tryz.func180 rfl rfl Tryz.ntmps180 (by kernel_rfl) mixed (by kernel_rfl) ?_
  simp -dsimp only [go_sem, Wld.row, Inst.row]
  refine call_pure hg ?_
  simp -dsimp only [go_sem]
  exact fin_bool (Nat.le_refl _) rfl
theorem any_not {α : Type} (p : α → Bool) : ∀ l : List α, (!l.any fun a => !p a) = l.all p
  | [] => rfl
  | a :: l => by
    rw [List.any_cons, List.all_cons, ← any_not p l]
    cases p a <;> simp
theorem i_WorldValid (w : Wld) (h : AH) (hw : w.Sm) : Isea.Good Tryz.prog 93 [.agg w.row] h [] (.v (.bool (worldOk w))) h := by
  have hco := i_classesOk w
  have hil := hw.il
  refine good [] [] Tryz.func93 rfl rfl Tryz.ntmps93 (by kernel_rfl) mixed (by kernel_rfl) ?_
  simp -dsimp only [go_sem, Wld.row]
  refine call_pure (hco _ hw) ?_
  cases h1 : classesOk w.cs with
  | false =>
    simp -dsimp only [go_sem]
    exact fin_bool (Nat.le_refl _) (by simp [worldOk, h1])
  | true =>
    by_cases h2 : ((w.is.length : Nat) : Int) ≤ 10
    · have h2' : w.is.length ≤ 10 := by omega
      simp -dsimp only [go_sem, h2]
      have hcall := l_ContainsFunc_Instance w.is 180 [.ref w.row 0] (fun i => !instOk w.cs i) h hil (fun m => by simp -dsimp only [go_sem, Wld.row]) (fun i hi => i_WorldValid1 w i h hw (hw.i i hi))
      simp only [Wld.row] at hcall
      refine call_pure hcall ?_
      simp -dsimp only [go_sem]
      refine fin_bool (Nat.le_refl _) ?_
      rw [any_not]
      simp [worldOk, h1, h2']
    · have h2' : ¬ w.is.length ≤ 10 := by omega
      simp -dsimp only [go_sem, h2]
      exact fin_bool (Nat.le_refl _) (by simp [worldOk, h2'])
end Go.Proofs.YtnocdggngfiebaaGreatDoor

namespace Go.Isea
open Go
/-- the letter of a class -/
def lt1 (x : Cls) : UInt8 := x.n.headD 0
/-- from the last class to the first -/
def abv (cs : List Cls) (c : L8) : Nat → L8
  | 0 => []
  | j + 1 => match cs[cs.length - (j + 1)]? with
    | some x => if x.n = c ∨ 0 ≤ ix (abv cs c j) (lt1 x) then abv cs c j ++ x.s else abv cs c j
    | none => abv cs c j
/-- what the program tells -/
def outI (cs : List Cls) (a : L8) : L8 := (cs.filter fun x => decide (0 ≤ ix a (lt1 x))).map lt1
end Go.Isea

namespace Go.Isea
open Go
set_option maxRecDepth 100000
def dval (k : Nat) : Int := (k : Int) - 1
def outK (cs : List Cls) (a : L8) (k : Nat) : L8 := outI (cs.take k) a
end Go.Isea
namespace Go.Proofs.YtnocdggngfiebaaGreatDoor
open Go Go.Isea
set_option maxRecDepth 100000
set_option maxHeartbeats 4000000
end Go.Proofs.YtnocdggngfiebaaGreatDoor

namespace Go.Isea
open Go
/-- needs with what could not be applied left empty -/
def nI (σ : Sub) (l : List Need) : List Need := l.map fun n => ⟨n.c, (applyB σ n.t).getD []⟩
def okI (σ : Sub) (l : List Need) : Bool := l.all fun n => (applyB σ n.t).isSome
theorem needsA_I (σ : Sub) : ∀ l, needsA σ l = if okI σ l = true then some (nI σ l) else none
  | [] => rfl
  | n :: l => by
    have ih := needsA_I σ l
    simp only [needsA, okI, nI, List.all_cons, List.map_cons]
    cases hu : applyB σ n.t with
    | none => simp
    | some u =>
      rw [ih]
      unfold okI nI
      by_cases h : (l.all fun n => (applyB σ n.t).isSome) = true
      · simp [h]
      · have h' : (l.all fun n => (applyB σ n.t).isSome) = false := by simpa using h
        simp [h']
theorem okI_take_succ {σ : Sub} {l : List Need} {k : Nat} {n : Need} (hn : l[k]? = some n) : okI σ (l.take (k + 1)) = (okI σ (l.take k) && (applyB σ n.t).isSome) := by
  obtain ⟨hl, e⟩ := List.getElem?_eq_some_iff.1 hn
  unfold okI
  rw [List.take_succ_eq_append_getElem hl, e, List.all_append]
  simp
theorem nI_take_succ {σ : Sub} {l : List Need} {k : Nat} {n : Need} (hn : l[k]? = some n) : nI σ (l.take (k + 1)) = nI σ (l.take k) ++ [⟨n.c, (applyB σ n.t).getD []⟩] := by
  obtain ⟨hl, e⟩ := List.getElem?_eq_some_iff.1 hn
  unfold nI
  rw [List.take_succ_eq_append_getElem hl, e, List.map_append]
  simp
def matchW : Option Sub → AV
  | some σ => .tup [.sl ((bnds σ).map Bnd.row), .v (.bool true)]
  | none => .tup [.sl [], .v (.bool false)]
theorem matchV_W (p t : L8) : matchV p t = matchW (matchS p t) := by
  rw [matchV_S]; cases matchS p t <;> rfl
theorem matchW_needs (i : Inst) (t : L8) : ∃ (σ : Sub) (ok : Bool), σ.Ok 60 ∧ matchW (matchS i.t t) = .tup [.sl ((bnds σ).map Bnd.row), .v (.bool ok)] ∧ needsOf i t = if (ok && okI σ i.ns) = true then some (nI σ i.ns) else none := by
  unfold needsOf
  cases hs : matchS i.t t with
  | none => exact ⟨Sub.none', false, Sub.none_ok 60, rfl, by simp⟩
  | some σ => exact ⟨σ, true, matchS_ok hs, rfl, by simp only [Bool.true_and]; exact needsA_I σ i.ns⟩
end Go.Isea
namespace Go.Proofs.YtnocdggngfiebaaGreatDoor
open Go Go.Isea
set_option maxRecDepth 100000
set_option maxHeartbeats 4000000
@[go_sem] theorem tf_ssI : isSS Tryz.prog 28 = true := by kernel_rfl
theorem i_needOk (w : Wld) (n : Need) (h : AH) (hw : w.Sm) (hn : n.Sm) : Isea.Good Tryz.prog 94 [.agg w.row, .agg n.row] h [] (.v (.bool (needOk w n))) h := by
  have hcl := hw.cl
  have hnt := hn.2
  refine good [] [] Tryz.func94 rfl rfl Tryz.ntmps94 (by kernel_rfl) mixed (by kernel_rfl) ?_
  simp -dsimp only [go_sem, Wld.row, Need.row]
  refine call_pure (i_known w.cs n.c _ hcl) ?_
  by_cases h1 : 0 ≤ clsIx w.cs n.c
  · simp -dsimp only [go_sem, h1]
    refine call_pure (i_TypeValid n.t _ hnt) ?_
    simp -dsimp only [go_sem]
    exact fin_bool (by simp -dsimp only [go_sem]) (by simp [needOk, h1])
  · simp -dsimp only [go_sem, h1]
    exact fin_bool (by simp -dsimp only [go_sem]) (by simp [needOk, h1])
/-- the instances of a class for which something holds -/
theorem i_among (w : Wld) (n : Need) (k : FuncId) (cap : List AV) (h : AH) (hw : w.Sm) (hl : w.is.length ≤ 1000) (hcap : ∀ m H, FzL H m cap cap) (hp : ∀ i ∈ w.is, ∀ H, Isea.Good Tryz.prog k (.agg i.row :: cap) H [] (.v (.bool (isInst i.t n.t))) H) :
    Isea.Good Tryz.prog 226 [.agg w.row, str n.c, .fn k cap] h [] (.sl ((candIx w n).map iRow)) h := by
  refine good [] [] Tryz.func226 rfl rfl Tryz.ntmps226 (by kernel_rfl) mixed (by kernel_rfl) ?_
  simp -dsimp only [go_sem, Wld.row]
  refine loop_ruleH [1, 0, 9, 0] (fun (k : {k : Nat // k ≤ w.is.length}) H => ([(7, .so h.n (candTake w n k.1).length (candTake w n k.1).length), (14, .v (.int .i64 (k.1 : Nat)))], ⟨H.n, upd H.o h.n (.rows 3 1 ((candTake w n k.1).map iRow))⟩)) (fun k => w.is.length - k.1) ⟨0, Nat.zero_le _⟩ ?_ ?_
  · have e0 : candTake w n 0 = [] := rfl
    refine weak_objs [h.n] (by simp -dsimp only [go_sem]) (by simp -dsimp only [go_sem]) (by simp -dsimp only [go_sem, e0, hcap]) ?_ ?_ ?_
    · intro x h1 h2; simp -dsimp only [go_sem, h1]
    · intro x h1 h2; have h1 : x < h.n + 1 := h1; simp at h2 ⊢; omega
    · simp -dsimp only [go_sem, e0, List.map_nil]
  · rintro ⟨k, hk⟩
    have hk1 : k + 1 ≤ 9223372036854775807 := by omega
    have hcl := candTake_len w n k
    have e6 : ((candTake w n k).length + 1) * 8 ≤ 140737488355328 := by omega
    by_cases hlt : k < w.is.length
    · obtain ⟨i, hb⟩ := get_some hlt
      have hg := hp i (List.mem_of_getElem? hb)
      simp only [Inst.row] at hg
      have h3 := candTake_succ w n k
      by_cases hc : i.c = n.c
      · rw [hc] at hg
        simp -dsimp only [go_sem, hlt, hb, Inst.row, hc]
        refine call_pure (hg _) ?_
        cases hm : isInst i.t n.t with
        | true =>
          have ec : candAt w n k = true := by simp [candAt, hb, hc, hm]
          rw [if_pos ec] at h3
          simp -dsimp only [go_sem, hk1, e6]
          refine round_to ⟨k + 1, hlt⟩ (by simp; omega) ?_
          refine weak_objs [h.n] (by simp -dsimp only [go_sem]) (by simp -dsimp only [go_sem]) (by simp -dsimp only [go_sem, h3, hcap]) ?_ ?_ ?_
          · intro x h1 h2; simp -dsimp only [go_sem, h1]
          · intro x h1 h2; have h1 : x < h.n + 1 := h1; simp at h2 ⊢; omega
          · simp -dsimp only [go_sem, h3, iRow]
        | false =>
          have ec : candAt w n k = false := by simp [candAt, hb, hm]
          rw [if_neg (by simp [ec])] at h3
          simp -dsimp only [go_sem, hk1]
          refine round_to ⟨k + 1, hlt⟩ (by simp; omega) ?_
          refine weak_objs [h.n] (by simp -dsimp only [go_sem]) (by simp -dsimp only [go_sem]) (by simp -dsimp only [go_sem, h3, hcap]) ?_ ?_ ?_
          · intro x h1 h2; simp -dsimp only [go_sem, h1]
          · intro x h1 h2; have h1 : x < h.n + 1 := h1; simp at h2 ⊢; omega
          · simp -dsimp only [go_sem, h3]
      · have ec : candAt w n k = false := by simp [candAt, hb, hc]
        rw [if_neg (by simp [ec])] at h3
        simp -dsimp only [go_sem, hlt, hb, Inst.row, hc, hk1]
        refine round_to ⟨k + 1, hlt⟩ (by simp; omega) ?_
        refine weak_objs [h.n] (by simp -dsimp only [go_sem]) (by simp -dsimp only [go_sem]) (by simp -dsimp only [go_sem, h3, hcap]) ?_ ?_ ?_
        · intro x h1 h2; simp -dsimp only [go_sem, h1]
        · intro x h1 h2; have h1 : x < h.n + 1 := h1; simp at h2 ⊢; omega
        · simp -dsimp only [go_sem, h3]
    · simp -dsimp only [go_sem, hlt]
      refine fin_pure (by simp -dsimp only [go_sem]) ?_
      have ek : k = w.is.length := by omega
      subst ek
      simp -dsimp only [go_sem, candIx, List.length_map]
theorem i_candidates1 (i : Inst) (n : Need) (h : AH) (hi : i.t.length ≤ 4611686018427387904) (hn : n.t.length ≤ 4611686018427387904) : Isea.Good Tryz.prog 227 [.agg i.row, .ref n.row 0] h [] (.v (.bool (isInst i.t n.t))) h := by
  refine good [] [] Tryz.func227 rfl rfl Tryz.ntmps227 (by kernel_rfl) mixed (by kernel_rfl) ?_
  simp -dsimp only [go_sem, Inst.row, Need.row]
  refine call_pure (i_IsInstance i.t n.t _ hi hn) ?_
  simp -dsimp only [go_sem]
  exact fin_bool (by simp -dsimp only [go_sem]) rfl
theorem i_candidates (w : Wld) (n : Need) (h : AH) (hw : w.Sm) (hn : n.Sm) (hl : w.is.length ≤ 1000) : Isea.Good Tryz.prog 144 [.agg w.row, .agg n.row] h [] (.sl ((candIx w n).map iRow)) h := by
  have hg := i_among w n 227 [.ref n.row 0] h hw hl (fun m H => by simp -dsimp only [go_sem, Need.row]) (fun i hi H => i_candidates1 i n H (hw.i i hi).2.1 hn.2)
  refine good [] [] Tryz.func144 rfl rfl Tryz.ntmps144 (by kernel_rfl) mixed (by kernel_rfl) ?_
  simp -dsimp only [go_sem, Wld.row, Need.row] at hg ⊢
  refine call_pure hg ?_
  simp -dsimp only [go_sem]
  exact fin_pure (by simp -dsimp only [go_sem]) (by simp -dsimp only [go_sem])
theorem i_needs (i : Inst) (t : L8) (h : AH) (hi : i.Sm) (ht : t.length ≤ 4611686018427387904) (hl : i.ns.length ≤ 1000) : Isea.Good Tryz.prog 165 [.agg i.row, str t] h [] (needsV (needsOf i t)) h := by
  have hm := i_MatchType i.t t
  rw [matchV_W] at hm
  have hit := hi.2.1
  have hins := hi.2.2.2
  obtain ⟨σ, ok, hσ, e1, e2⟩ := matchW_needs i t
  rw [e1] at hm
  rw [e2]
  refine good [] [] Tryz.func165 rfl rfl Tryz.ntmps165 (by kernel_rfl) mixed (by kernel_rfl) ?_
  simp -dsimp only [go_sem, Inst.row]
  refine call_pure (hm _ hit ht) ?_
  simp -dsimp only [go_sem]
  refine loop_ruleH [2, 3, 16, 0] (fun (k : {k : Nat // k ≤ i.ns.length}) H => ([(7, .v (.bool (ok && okI σ (i.ns.take k.1)))), (8, .so h.n k.1 k.1), (25, .v (.int .i64 (k.1 : Nat)))], ⟨H.n, upd H.o h.n (.rows 28 2 ((nI σ (i.ns.take k.1)).map Need.row))⟩)) (fun k => i.ns.length - k.1) ⟨0, Nat.zero_le _⟩ ?_ ?_
  · have e0 : (ok && okI σ ([] : List Need)) = ok := by cases ok <;> rfl
    have e9 : nI σ ([] : List Need) = [] := rfl
    refine weak_objs [h.n] (by simp -dsimp only [go_sem]) (by simp -dsimp only [go_sem]) (by simp -dsimp only [go_sem, e0]) ?_ ?_ ?_
    · intro x h1 h2; simp -dsimp only [go_sem, h1]
    · intro x h1 h2; have h1 : x < h.n + 1 := h1; simp at h2 ⊢; omega
    · simp -dsimp only [go_sem, e9, List.map_nil]
  · rintro ⟨k, hk⟩
    have hk1 : k + 1 ≤ 9223372036854775807 := by omega
    have hnl : (nI σ (i.ns.take k)).length = k := by unfold nI; rw [List.length_map, List.length_take]; omega
    have e6 : (k + 1) * 32 ≤ 140737488355328 := by omega
    by_cases hlt : k < i.ns.length
    · obtain ⟨n, hb⟩ := get_some hlt
      have hn := hins n (List.mem_of_getElem? hb)
      have o1 := okI_take_succ (σ := σ) hb
      have o2 := nI_take_succ (σ := σ) hb
      simp -dsimp only [go_sem, hlt, hb, Need.row]
      refine call_pure (i_ApplyBindings hσ n.t _ hn.2) ?_
      have o3 : textV (applyB σ n.t) = .tup [str ((applyB σ n.t).getD []), .v (.bool (applyB σ n.t).isSome)] := by cases applyB σ n.t <;> rfl
      rw [o3]
      have o4 : (ok && okI σ (i.ns.take (k + 1))) = ((ok && okI σ (i.ns.take k)) && (applyB σ n.t).isSome) := by rw [o1, Bool.and_assoc]
      generalize (ok && okI σ (i.ns.take k)) = b at o4
      generalize (applyB σ n.t).isSome = c at o4
      cases b with
      | false =>
        simp -dsimp only [go_sem, hk1, hnl, e6, List.length_map]
        refine round_to ⟨k + 1, hlt⟩ (by simp; omega) ?_
        rw [Bool.false_and] at o4
        refine weak_objs [h.n] (by simp -dsimp only [go_sem]) (by simp -dsimp only [go_sem]) (by simp -dsimp only [go_sem, o4]) ?_ ?_ ?_
        · intro x h1 h2; simp -dsimp only [go_sem, h1]
        · intro x h1 h2; have h1 : x < h.n + 1 := h1; simp at h2 ⊢; omega
        · simp -dsimp only [go_sem, o2, List.map_append, List.map_cons, List.map_nil, Need.row]
      | true =>
        simp -dsimp only [go_sem, hk1, hnl, e6, List.length_map]
        refine round_to ⟨k + 1, hlt⟩ (by simp; omega) ?_
        rw [Bool.true_and] at o4
        refine weak_objs [h.n] (by simp -dsimp only [go_sem]) (by simp -dsimp only [go_sem]) (by simp -dsimp only [go_sem, o4]) ?_ ?_ ?_
        · intro x h1 h2; simp -dsimp only [go_sem, h1]
        · intro x h1 h2; have h1 : x < h.n + 1 := h1; simp at h2 ⊢; omega
        · simp -dsimp only [go_sem, o2, List.map_append, List.map_cons, List.map_nil, Need.row]
    · have et : i.ns.take k = i.ns := List.take_of_length_le (by omega)
      rw [et] at hnl ⊢
      cases hb : (ok && okI σ i.ns) with
      | true =>
        simp -dsimp only [go_sem, hlt]
        refine fin_pure (by simp -dsimp only [go_sem]) ?_
        simp -dsimp only [go_sem, needsV, List.length_map, hnl, if_true]
      | false =>
        simp -dsimp only [go_sem, hlt]
        refine fin_pure (by simp -dsimp only [go_sem]) ?_
        simp -dsimp only [go_sem, needsV, Bool.false_eq_true, if_false]
end Go.Proofs.YtnocdggngfiebaaGreatDoor

namespace Go.Proofs.YtnocdggngfiebaaGreatDoor
open Go Go.Isea
set_option maxRecDepth 100000
set_option maxHeartbeats 4000000
theorem l_Clone_nil (h : AH) : Isea.Good Tryz.prog 97 [.v (.slice none 0 0)] h [] (.v (.slice none 0 0)) h := by
  refine good [] [] Tryz.func97 rfl rfl Tryz.ntmps97 (by kernel_rfl) mixed (by kernel_rfl) ?_
  simp -dsimp only [go_sem]
  exact fin_v (Nat.le_refl _) rfl
theorem l_Clone_Need (x : Need) (xs : List Need) (h : AH) (hl : xs.length ≤ 1000) : Isea.Good Tryz.prog 97 [.sl ((x :: xs).map Need.row)] h [] (.so h.n (xs.length + 1) (xs.length + 1)) (h.push (.rows 28 2 ((x :: xs).map Need.row))) := by
  have e6 : (xs.length + 1) * 32 ≤ 140737488355328 := by omega
  refine good [] [] Tryz.func97 rfl rfl Tryz.ntmps97 (by kernel_rfl) mixed (by kernel_rfl) ?_
  simp -dsimp only [go_sem, List.map_cons, Need.row]
  simp -dsimp only [go_sem, List.length_map, e6]
  refine ⟨of_eq_true (good_map fun _ => ⟨rfl, rfl⟩), fin_push ?_ ?_ ?_⟩
  · simp
  · simp -dsimp only [go_sem]
  · simp -dsimp only [go_sem]
end Go.Proofs.YtnocdggngfiebaaGreatDoor

namespace Go.Isea
open Go
@[go_sem] theorem objFz_iter {h : AH} {m : Nat} {u : ByteArray} {p : Nat} : ObjFz h m (.iter u p) (.iter u p) = True := by
  simp [ObjFz]
theorem take_next {α : Type} {l : List α} {k : Nat} {a : α} (hn : l[k]? = some a) : l.take (k + 1) = l.take k ++ [a] := by
  obtain ⟨hl, e⟩ := List.getElem?_eq_some_iff.1 hn
  rw [List.take_succ_eq_append_getElem hl, e]
end Go.Isea
namespace Go.Proofs.YtnocdggngfiebaaGreatDoor
open Go Go.Isea
set_option maxRecDepth 100000
set_option maxHeartbeats 4000000
end Go.Proofs.YtnocdggngfiebaaGreatDoor

namespace Go.Isea
open Go
def gotB (l : L8) : Bool := !l.isEmpty
end Go.Isea
namespace Go.Proofs.YtnocdggngfiebaaGreatDoor
open Go Go.Isea
set_option maxRecDepth 100000
set_option maxHeartbeats 4000000
end Go.Proofs.YtnocdggngfiebaaGreatDoor

namespace Go.Isea
open Go
def spB (a b : Inst) : Bool := decide (a.c = b.c) && isInst b.t a.t
def spAt (w : Wld) (i k : Nat) : Bool := match w.is[i]?, w.is[k]? with
  | some a, some b => !spB a b
  | _, _ => true
end Go.Isea
namespace Go.Proofs.YtnocdggngfiebaaGreatDoor
open Go Go.Isea
set_option maxRecDepth 100000
set_option maxHeartbeats 4000000
theorem l_IndexFunc_int (l : List Nat) (k : FuncId) (cap : List AV) (p : Nat → Bool) (h : AH) (hl : l.length ≤ 4611686018427387904) (hcap : FzL h h.n cap cap) (hp : ∀ c ∈ l, Isea.Good Tryz.prog k (.v (.int .i64 (c : Nat)) :: cap) h [] (.v (.bool (p c))) h) : Isea.Good Tryz.prog 284 [.sl (l.map iRow), .fn k cap] h [] (.v (.int .i64 (findIx p l))) h := by
  refine good [] [] Tryz.func284 rfl rfl Tryz.ntmps284 (by kernel_rfl) mixed (by kernel_rfl) ?_
  simp -dsimp only [go_sem]
  refine loop_ruleH [0, 0, 5] (fun (k : {k : Nat // k ≤ l.length ∧ FIxAt p l k}) H => ([(8, .v (.int .i64 (k.1 : Nat)))], H)) (fun k => l.length - k.1) ⟨0, Nat.zero_le _, fIxAt_zero _ _⟩ ?_ ?_
  · exact weak_at rfl (Nat.le_refl _) (fun _ _ => rfl) (by simp -dsimp only [go_sem, hcap])
  · rintro ⟨k, hk, hi⟩
    have h1 : k + 1 ≤ 9223372036854775807 := by omega
    by_cases hlt : k < l.length
    · obtain ⟨c, hb⟩ := get_some hlt
      have hg := hp c (List.mem_of_getElem? hb)
      simp -dsimp only [go_sem, hlt, hb, iRow]
      refine call_pure hg ?_
      cases hpc : p c with
      | true =>
        simp -dsimp only [go_sem]
        exact fin_int (Nat.le_refl _) (fIxAt_here hi hb hpc).symm
      | false =>
        simp -dsimp only [go_sem, h1]
        exact round_to ⟨k + 1, hlt, fIxAt_succ hi hb hpc⟩ (by simp; omega) (weak_at rfl (by simp -dsimp only [go_sem]) (fun x hx => by simp -dsimp only [go_sem, hx]) (by simp -dsimp only [go_sem, hcap]))
    · simp -dsimp only [go_sem, hlt]
      exact fin_int (Nat.le_refl _) (fIxAt_end hi (by omega)).symm
theorem l_ContainsFunc_int (l : List Nat) (k : FuncId) (cap : List AV) (p : Nat → Bool) (h : AH) (hl : l.length ≤ 4611686018427387904) (hcap : FzL h h.n cap cap) (hp : ∀ c ∈ l, Isea.Good Tryz.prog k (.v (.int .i64 (c : Nat)) :: cap) h [] (.v (.bool (p c))) h) : Isea.Good Tryz.prog 236 [.sl (l.map iRow), .fn k cap] h [] (.v (.bool (l.any p))) h := by
  refine good [] [] Tryz.func236 rfl rfl Tryz.ntmps236 (by kernel_rfl) mixed (by kernel_rfl) ?_
  simp -dsimp only [go_sem]
  refine call_pure (l_IndexFunc_int l k cap p h hl hcap hp) ?_
  simp -dsimp only [go_sem]
  exact fin_bool (Nat.le_refl _) (findIx_any p l)
theorem i_special (a b : Inst) (h : AH) (ha : a.t.length ≤ 4611686018427387904) (hb : b.t.length ≤ 4611686018427387904) : Isea.Good Tryz.prog 149 [.agg a.row, .agg b.row] h [] (.v (.bool (spB a b))) h := by
  refine good [] [] Tryz.func149 rfl rfl Tryz.ntmps149 (by kernel_rfl) mixed (by kernel_rfl) ?_
  simp -dsimp only [go_sem, Inst.row]
  by_cases hc : a.c = b.c
  · simp -dsimp only [go_sem, hc]
    refine call_pure (i_IsInstance b.t a.t _ hb ha) ?_
    simp -dsimp only [go_sem]
    exact fin_bool (by simp -dsimp only [go_sem]) (by simp [spB, hc])
  · simp -dsimp only [go_sem, hc]
    exact fin_bool (by simp -dsimp only [go_sem]) (by simp [spB, hc])
theorem i_mostSpecial1 (w : Wld) (i k o : Nat) (h : AH) (hw : w.Sm) (ho : o < h.n) (hoo : h.o o = .cells [.v (.int .i64 (i : Nat))]) (hi : i < w.is.length) (hk : k < w.is.length) : Isea.Good Tryz.prog 237 [.v (.int .i64 (k : Nat)), .ref w.row 0, .ptr o 0] h [] (.v (.bool (spAt w i k))) h := by
  obtain ⟨a, ha⟩ := get_some hi
  obtain ⟨b, hb⟩ := get_some hk
  have hx := i_special a b
  have hal := (hw.i a (List.mem_of_getElem? ha)).2.1
  have hbl := (hw.i b (List.mem_of_getElem? hb)).2.1
  refine good [] [] Tryz.func237 rfl rfl Tryz.ntmps237 (by kernel_rfl) mixed (by kernel_rfl) ?_
  simp -dsimp only [go_sem, Wld.row, ho, hoo, ha, hb, Inst.row] at hx ⊢
  refine call_pure (hx _ hal hbl) ?_
  simp -dsimp only [go_sem]
  exact fin_bool (by simp -dsimp only [go_sem]) (by simp [spAt, ha, hb])
end Go.Proofs.YtnocdggngfiebaaGreatDoor
