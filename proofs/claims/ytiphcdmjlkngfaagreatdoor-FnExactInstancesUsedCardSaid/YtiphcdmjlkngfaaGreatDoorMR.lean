/- Contracts of functions of this program, for all arguments that satisfy what each lemma asks for. -/
import Derived.Test.YtiphcdmjlkngfaaGreatDoorMB
import Derived.Lib.SlicesCompact
import Derived.Test.YtiphcdmjlkngfaaGreatDoorMQ
import Derived.Test.YtiphcdmjlkngfaaGreatDoorMe
import Derived.Test.YtiphcdmjlkngfaaGreatDoorMr
import Derived.Test.YtiphcdmjlkngfaaGreatDoorME
import Derived.Test.YtiphcdmjlkngfaaGreatDoorMD
import Derived.Test.YtiphcdmjlkngfaaGreatDoorMN
set_option linter.all false
namespace Go.Isea
open Go
set_option maxRecDepth 100000
def digC (i : Nat) : UInt8 := UInt8.ofNat (48 + i)
def hasDig (d : L8) (i : Nat) : Bool := d.contains (digC i)
/-- the instances in a text, if it is a dictionary -/
def instsIn (d : L8) : List Nat := if (dictOf d).isSome = true then (List.range 10).filter (hasDig d) else []
/-- the instances in some texts -/
def usedS (N : Nat) (L : List L8) : List Nat := (List.range N).filter fun i => L.any fun d => hasDig d i
def intsOf (l : List Nat) : List Int := l.map fun i => ((i : Nat) : Int)
def usedP (L : List L8) : List Int := ((L.flatMap fun x => intsOf (instsIn x))).mergeSort fun x y => decide (x ≤ y)
theorem inc_unique : ∀ {a b : List Int}, a.Pairwise (· < ·) → b.Pairwise (· < ·) → (∀ x, x ∈ a ↔ x ∈ b) → a = b
  | [], [], _, _, _ => rfl
  | [], y :: b, _, _, h => absurd ((h y).2 (List.mem_cons_self ..)) (by simp)
  | x :: a, [], _, _, h => absurd ((h x).1 (List.mem_cons_self ..)) (by simp)
  | x :: a, y :: b, ha, hb, h => by
    rw [List.pairwise_cons] at ha hb
    have hxy : x = y := by
      have h1 := (h x).1 (List.mem_cons_self ..)
      have h2 := (h y).2 (List.mem_cons_self ..)
      rcases List.mem_cons.1 h1 with e | e
      · exact e
      · rcases List.mem_cons.1 h2 with f | f
        · exact f.symm
        · have := hb.1 x e; have := ha.1 y f; omega
    subst hxy
    have key : ∀ z, z ∈ a ↔ z ∈ b := fun z => ⟨fun hz => by
      rcases List.mem_cons.1 ((h z).1 (List.mem_cons_of_mem _ hz)) with e | e
      · subst e; have := ha.1 z hz; omega
      · exact e, fun hz => by
      rcases List.mem_cons.1 ((h z).2 (List.mem_cons_of_mem _ hz)) with e | e
      · subst e; have := hb.1 z hz; omega
      · exact e⟩
    rw [inc_unique ha.2 hb.2 key]
theorem compact_inc {d : Array Int} (hs : ∀ i j, i ≤ j → j < d.size → d[i]! ≤ d[j]!) : ∀ m, m ≤ d.size → (Lib.compactUpTo d m).Pairwise (· < ·) ∧ (∀ x ∈ Lib.compactUpTo d m, ∃ j, j < m ∧ d[j]! = x) ∧ (∀ j, j < m → d[j]! ∈ Lib.compactUpTo d m)
  | 0, _ => by simp [Lib.compactUpTo]
  | m + 1, hm => by
    obtain ⟨h1, h2, h3⟩ := compact_inc hs m (by omega)
    rw [Lib.compactUpTo_succ]
    by_cases hk : Lib.keeps d m = true
    · rw [if_pos hk]
      refine ⟨?_, ?_, ?_⟩
      · rw [List.pairwise_append]
        refine ⟨h1, List.pairwise_singleton _ _, fun x hx y hy => ?_⟩
        rw [List.mem_singleton] at hy; subst hy
        obtain ⟨j, hj, rfl⟩ := h2 x hx
        have hne : m = 0 ∨ d[m]! ≠ d[m - 1]! := by simpa only [Lib.keeps, decide_eq_true_eq] using hk
        rcases hne with e | e
        · omega
        · have a1 := hs j (m - 1) (by omega) (by omega)
          have a2 := hs (m - 1) m (by omega) (by omega)
          omega
      · intro x hx
        rcases List.mem_append.1 hx with hx | hx
        · obtain ⟨j, hj, e⟩ := h2 x hx; exact ⟨j, by omega, e⟩
        · exact ⟨m, by omega, (List.mem_singleton.1 hx).symm⟩
      · intro j hj
        by_cases e : j = m
        · subst e; exact List.mem_append_right _ (List.mem_singleton.2 rfl)
        · exact List.mem_append_left _ (h3 j (by omega))
    · rw [if_neg hk, List.append_nil]
      refine ⟨h1, fun x hx => by obtain ⟨j, hj, e⟩ := h2 x hx; exact ⟨j, by omega, e⟩, fun j hj => ?_⟩
      by_cases e : j = m
      · subst e
        have hne : ¬ (j = 0 ∨ d[j]! ≠ d[j - 1]!) := by simpa only [Lib.keeps, decide_eq_true_eq] using hk
        have h0 : j ≠ 0 := fun e => hne (.inl e)
        have e2 : d[j]! = d[j - 1]! := Decidable.byContradiction fun e => hne (.inr e)
        rw [e2]; exact h3 (j - 1) (by omega)
      · exact h3 j (by omega)
theorem used_eq {N : Nat} (hN : N ≤ 10) {L : List L8} (hL : ∀ x ∈ L, ∃ d : Dct, dictOf x = some d ∧ d.okN N ∧ d.text = x) : Lib.compactUpTo (usedP L).toArray (usedP L).length = intsOf (usedS N L) := by
  have hsr : (usedP L).Pairwise (fun a b => a ≤ b) := by
    have := List.pairwise_mergeSort (le := fun x y : Int => decide (x ≤ y)) (fun a b c h1 h2 => by simp at h1 h2 ⊢; omega) (fun a b => by simp; omega) (L.flatMap fun x => intsOf (instsIn x))
    exact this.imp fun h => by simpa using h
  have hmem : ∀ z, z ∈ usedP L ↔ ∃ x ∈ L, z ∈ intsOf (instsIn x) := fun z => by unfold usedP; rw [List.mem_mergeSort, List.mem_flatMap]
  generalize usedP L = S at hsr hmem
  have hS : ∀ i (h : i < S.length), S.toArray[i]! = S[i] := fun i h => by
    rw [getElem!_pos S.toArray i (by simpa using h)]; simp
  have hle : ∀ i j, i ≤ j → j < S.toArray.size → S.toArray[i]! ≤ S.toArray[j]! := by
    intro i j hij hj
    have hj : j < S.length := by simpa using hj
    rw [hS i (by omega), hS j hj]
    by_cases e : i = j
    · subst e; exact Int.le_refl _
    · exact List.pairwise_iff_getElem.1 hsr i j (by omega) hj (by omega)
  obtain ⟨c1, c2, c3⟩ := compact_inc hle S.length (by simp)
  refine inc_unique c1 ?_ fun z => ?_
  · unfold intsOf usedS
    rw [List.pairwise_map]
    exact (List.Pairwise.filter _ List.pairwise_lt_range).imp fun h => by omega
  · have e1 : z ∈ Lib.compactUpTo S.toArray S.length ↔ z ∈ S := by
      constructor
      · intro h
        obtain ⟨j, hj, rfl⟩ := c2 z h
        rw [hS j hj]; exact List.getElem_mem hj
      · intro h
        obtain ⟨j, hj, rfl⟩ := List.getElem_of_mem h
        rw [← hS j hj]; exact c3 j hj
    rw [e1, hmem]
    unfold intsOf usedS instsIn
    constructor
    · rintro ⟨x, hx, hz⟩
      obtain ⟨d, h1, h2, h3⟩ := hL x hx
      rw [h1] at hz
      simp only [Option.isSome_some, if_true] at hz
      obtain ⟨i, hi, rfl⟩ := List.mem_map.1 hz
      obtain ⟨hi, hd⟩ := List.mem_filter.1 hi
      have hi := List.mem_range.1 hi
      refine List.mem_map.2 ⟨i, List.mem_filter.2 ⟨List.mem_range.2 ?_, ?_⟩, rfl⟩
      · have h9 := digit_dig i (by omega)
        have := dig_text hN d h2 (digC i) (by rw [h3]; simpa [hasDig] using hd) h9.1
        have h10 : (digC i).toNat - 48 = i := h9.2
        omega
      · exact List.any_eq_true.2 ⟨x, hx, hd⟩
    · intro hz
      obtain ⟨i, hi, rfl⟩ := List.mem_map.1 hz
      obtain ⟨hi, hd⟩ := List.mem_filter.1 hi
      have hi := List.mem_range.1 hi
      obtain ⟨x, hx, hd⟩ := List.any_eq_true.1 hd
      obtain ⟨d, h1, _, _⟩ := hL x hx
      refine ⟨x, hx, ?_⟩
      rw [h1]
      simp only [Option.isSome_some, if_true]
      exact List.mem_map.2 ⟨i, List.mem_filter.2 ⟨List.mem_range.2 (by omega), hd⟩, rfl⟩
end Go.Isea

namespace Go.Isea
open Go Go.Sort
set_option maxRecDepth 100000
def irow (z : Int) : List AV := [.v (.int .i64 z)]
@[go_sem] theorem puR_irow {l : List Int} : PuR (l.map irow) = True := puR_map fun n => by simp -dsimp only [irow, go_sem]
@[go_sem] theorem al_irow {l : List Int} : AllLen 1 (l.map irow) = True := allLen_map fun _ => rfl
def valsZ (l : List Int) : List Value := l.map fun z => .int .i64 z
theorem valsZ_of {K : KM} {h : AH} {w : World} : ∀ (l : List Int) (xs : List Value), xs.length = l.length * 1 →
    (∀ (i j : Nat) (r : List AV) (x : AV) (y : Value), (l.map irow)[i]? = some r → r[j]? = some x → xs[i * 1 + j]? = some y → Rep K h w x y) → xs = valsZ l
  | [], [], _, _ => rfl
  | z :: l, [], h, _ => by simp at h
  | [], x :: xs, h, _ => by simp at h
  | z :: l, a :: xs, h1, hr => by
    have e1 : a = .int .i64 z := raw_rep (x := .v (.int .i64 z)) rfl (hr 0 0 _ _ a rfl rfl rfl)
    have := valsZ_of l xs (by simpa using h1) fun i j r x y g1 g2 g3 => hr (i + 1) j r x y g1 g2 (by
      have : (i + 1) * 1 + j = i * 1 + j + 1 := by omega
      rw [this]; exact g3)
    rw [e1, this]; rfl
theorem valsZ_rep {K : KM} {h : AH} {w : World} (l : List Int) (i j : Nat) (r : List AV) (x : AV) (y : Value) (h1 : (l.map irow)[i]? = some r) (h2 : r[j]? = some x) (h3 : (valsZ l)[i * 1 + j]? = some y) : Rep K h w x y := by
  rw [List.getElem?_map] at h1
  cases hz : l[i]? with
  | none => rw [hz] at h1; cases h1
  | some z =>
    rw [hz] at h1
    simp only [Option.map_some, Option.some.injEq] at h1
    subst h1
    rcases j with _ | j
    · simp [irow] at h2; subst h2
      rw [Nat.mul_one, Nat.add_zero] at h3
      unfold valsZ at h3
      rw [List.getElem?_map, hz] at h3
      simp at h3; subst h3; exact .v _
    · simp [irow] at h2
theorem holds_ints {w : World} {g : Nat} {cur : Array Value} {e : TypeId} {zs : List Int} (hb : w.heap[g]? = some (.cells cur e (0, 0))) (htake : cur.toList.take (zs.length * 1) = valsZ zs) : Holds (Value.int .i64) w g 0 zs.toArray := by
  intro j hj
  have hj : j < zs.length := by simpa using hj
  have hc : cur[j]? = some (.int .i64 zs[j]) := by
    have : (valsZ zs)[j]? = some (.int .i64 zs[j]) := by unfold valsZ; rw [List.getElem?_map, List.getElem?_eq_getElem hj]; rfl
    rw [← htake, List.getElem?_take, if_pos (by omega)] at this
    simpa using this
  constructor
  · rw [Nat.zero_add, cell_of_row w g j cur e (0, 0) hb, hc, getElem!_pos zs.toArray j (by simpa using hj)]
    simp
  · simp [World.frozen?, hb]
theorem heap_put {w : World} {g n : Nat} {d : Array Int} {os : Array Obj} {cur : Array Value} {e : TypeId} {fr : Nat × Nat} (hb : w.heap[g]? = some (.cells cur e fr)) :
    (grow (putRow (Value.int .i64) (Sort.ahead w n) g 0 d) os).heap[g]? = some (.cells (putCells (Value.int .i64) 0 d cur) e fr) := by
  have hlt := (Array.getElem?_eq_some_iff.1 hb).1
  unfold grow putRow mapBlock Sort.ahead
  simp only
  rw [Array.getElem?_append_left (by simpa using hlt), Array.getElem?_modify, if_pos rfl, hb]
  rfl
theorem heap_oth {w : World} {g n b : Nat} {d : Array Int} {os : Array Obj} (hlt : b < w.heap.size) (hne : g ≠ b) :
    (grow (putRow (Value.int .i64) (Sort.ahead w n) g 0 d) os).heap[b]? = w.heap[b]? := by
  unfold grow putRow mapBlock Sort.ahead
  simp only
  rw [Array.getElem?_append_left (by simpa using hlt), Array.getElem?_modify, if_neg hne]
theorem put_take {d : List Int} {cur : Array Value} (h : d.length ≤ cur.size) : (putCells (Value.int .i64) 0 d.toArray cur).toList.take (d.length * 1) = valsZ d := by
  apply List.ext_getElem?
  intro j
  rw [List.getElem?_take]
  unfold valsZ
  rw [List.getElem?_map]
  by_cases hj : j < d.length
  · rw [if_pos (by omega), List.getElem?_eq_getElem hj]
    unfold putCells
    rw [Array.getElem?_toList, Array.getElem?_mapIdx, Array.getElem?_eq_getElem (by omega)]
    simp only [Option.map_some]
    rw [if_pos ⟨Nat.zero_le _, by simpa using hj⟩, Nat.sub_zero, getElem!_pos d.toArray j (by simpa using hj)]
    simp
  · rw [if_neg (by omega), List.getElem?_eq_none (by omega)]; rfl
theorem put_size {d : Array Int} {cur : Array Value} : (putCells (Value.int .i64) 0 d cur).size = cur.size := by simp [putCells]
/-- a row of numbers that turns where it lies -/
theorem turn_ints {K : KM} {h : AH} {w w' : World} {e : TypeId} (hK : RH K h w) {zs zs' : List Int} {t n g cap : Nat} {cur : Array Value} {os : Array Obj} (ht : t < h.n) (ho : h.o t = .rows e 1 (zs.map irow)) (hz : zs'.length = zs.length)
    (hk : K t = .slice (some ⟨g, 0, none⟩) zs.length cap) (hb : w.heap[g]? = some (.cells cur e (0, 0))) (hc1 : zs.length ≤ cap) (hc2 : cap ≤ maxLen) (hc3 : cap * 1 ≤ cur.size)
    (hw : w' = grow (putRow (Value.int .i64) (Sort.ahead w n) g 0 zs'.toArray) os) :
    RH (upd K t (K t)) (h.set t (.rows e 1 (zs'.map irow))) w' ∧ Ext [t] K h w (upd K t (K t)) (h.set t (.rows e 1 (zs'.map irow))) w' := by
  have h1 := heap_put (n := n) (d := zs'.toArray) (os := os) hb
  have h2 := fun b (hlt : b < w.heap.size) (hne : g ≠ b) => heap_oth (w := w) (g := g) (n := n) (b := b) (d := zs'.toArray) (os := os) hlt hne
  rw [← hw] at h1
  have h2 : ∀ b, b < w.heap.size → g ≠ b → w'.heap[b]? = w.heap[b]? := fun b hlt hne => by rw [hw]; exact h2 b hlt hne
  have hos : w'.os = w.os := by rw [hw]; rfl
  have htape : w'.tape = w.tape := by rw [hw]; rfl
  have hout : w'.output = w.output := by rw [hw]; rfl
  have hsize : w.heap.size ≤ w'.heap.size := by
    rw [hw]
    unfold grow putRow mapBlock Sort.ahead
    simp
  have hoth : ∀ b, b < w.heap.size → blk (K t) ≠ some b → w'.heap[b]? = w.heap[b]? := fun b hlt hne => h2 b hlt fun e => hne (by rw [hk, e]; rfl)
  have hgr : Grew (h.o t) (.rows e 1 (zs'.map irow)) (K t) (K t) := by
    rw [ho]
    exact ⟨rfl, rfl, by simp [hz], fun _ => rfl⟩
  have hbk : ∀ b, blk (K t) = some b → b < w'.heap.size ∧ (w.heap.size ≤ b ∨ blk (K t) = some b) := fun b hb2 => ⟨by have := hK.lt t b ht hb2; omega, .inr hb2⟩
  have hp := put_take (d := zs') (cur := cur) (by omega)
  refine ⟨hK.set hos htape hout hsize ht hoth hgr hbk ?_, Ext.set hos htape hout hsize ht hoth hgr (fun b hb2 => (hbk b hb2).2)⟩
  refine ⟨valsZ zs', ⟨by simp [valsZ], .inr ⟨g, cap, _, ?_, Nat.zero_le _, h1, ?_, hc2, ?_, ?_⟩⟩, by decide, ?_, fun i j r x y => valsZ_rep _ i j r x y⟩
  · rw [List.length_map, hz, hk]
  · rw [List.length_map, hz]; exact hc1
  · rw [put_size]; exact hc3
  · rw [List.length_map]; exact hp
  · intro r hr
    obtain ⟨m, _, rfl⟩ := List.mem_map.1 hr
    rfl
end Go.Isea
namespace Go.Proofs.YtiphcdmjlkngfaaGreatDoor
open Go Go.Isea Go.Sort
set_option maxRecDepth 100000
theorem l_SortI (zs : List Int) (t : Nat) (h : AH) (ht : t < h.n) (ho : h.o t = .rows 3 1 (zs.map irow)) (hl : zs.length < 4611686018427387904) :
    Isea.Good Tryz.prog 109 [.so t zs.length zs.length] h [t] (.tup []) (h.set t (.rows 3 1 ((zs.mergeSort fun x y => decide (x ≤ y)).map irow))) := by
  refine ⟨⟨_, Tryz.func109, by kernel_rfl, by kernel_rfl⟩, fun K w vs hK hr => ?_⟩
  obtain ⟨u, rfl, hu⟩ := repL_one hr
  cases hu with
  | so ht' hv =>
    obtain ⟨_, hv⟩ := hv _ _ _ ho
    rw [List.length_map] at hv
    obtain ⟨_, hd⟩ := hv rfl
    have hobj := hK.obj t ht
    have hob := hobj
    rw [ho] at hobj
    obtain ⟨xs, own, _, hrl, hrep⟩ := hobj
    rw [List.length_map] at own
    have hxs : xs = valsZ zs := valsZ_of zs xs own.1 hrep
    subst hxs
    rcases own.2 with ⟨hk, h0⟩ | ⟨g, cap, cur, hk, _, hb, hn, hc, hcur, htake⟩
    · rw [hk] at hd
      obtain ⟨c', q1, q2, rfl⟩ := hd.out
      have hz : zs = [] := List.eq_nil_of_length_eq_zero h0
      subst hz
      refine (Any.slices_Sort_int_none Tryz.lays189 none c' w).mono ?_
      rintro e w' ⟨rfl, rfl⟩
      have hs : h.set t (.rows 3 1 ((([] : List Int).mergeSort fun x y => decide (x ≤ y)).map irow)) = h := by
        have : upd h.o t (.rows 3 1 ((([] : List Int).mergeSort fun x y => decide (x ≤ y)).map irow)) = h.o := by
          funext s
          by_cases e : s = t
          · subst e; rw [upd_same, ho, List.mergeSort_nil]
          · rw [upd_ne _ _ e]
        show AH.mk h.n _ = h
        rw [this]
      rw [hs]
      refine ⟨K, _, rfl, hK, Ext.refl .., .tup rfl fun i x y h1 _ => by simp at h1⟩
    · rw [hk] at hd
      obtain ⟨c', q1, q2, rfl⟩ := hd.out
      have hlt : g < w.heap.size := (Array.getElem?_eq_some_iff.1 hb).1
      refine (Tryz.slices_Sort_int g 0 c' zs w (holds_ints hb htake) hlt hl).mono ?_
      rintro e w' ⟨rfl, n, os, hw⟩
      obtain ⟨r1, r2⟩ := turn_ints hK ht ho (by simp) hk hb hn hc hcur hw
      exact ⟨_, _, rfl, r1, r2, .tup rfl fun i x y h1 _ => by simp at h1⟩
/-- what stands behind the numbers that are left -/
def padZ (zs : List Int) : List Int := Lib.compact zs ++ List.replicate (zs.length - (Lib.compact zs).length) 0
theorem compact_len (zs : List Int) : (Lib.compact zs).length ≤ zs.length := by
  unfold Lib.compact Lib.compactUpTo
  rw [List.length_map]
  exact Nat.le_trans (List.length_filter_le _ _) (by simp)
theorem padZ_len (zs : List Int) : (padZ zs).length = zs.length := by
  have := compact_len zs
  unfold padZ
  simp
  omega
theorem l_CompactI (zs : List Int) (t : Nat) (h : AH) (ht : t < h.n) (ho : h.o t = .rows 3 1 (zs.map irow)) (hl : zs.length < 4611686018427387904) :
    Isea.Good Tryz.prog 111 [.so t zs.length zs.length] h [t] (.so t zs.length (Lib.compact zs).length) (h.set t (.rows 3 1 ((padZ zs).map irow))) := by
  refine ⟨⟨_, Tryz.func111, by kernel_rfl, by kernel_rfl⟩, fun K w vs hK hr => ?_⟩
  obtain ⟨u, rfl, hu⟩ := repL_one hr
  have hcl := compact_len zs
  cases hu with
  | so ht' hv =>
    obtain ⟨_, hv⟩ := hv _ _ _ ho
    rw [List.length_map] at hv
    obtain ⟨_, hd⟩ := hv rfl
    have hobj := hK.obj t ht
    rw [ho] at hobj
    obtain ⟨xs, own, _, hrl, hrep⟩ := hobj
    rw [List.length_map] at own
    have hxs : xs = valsZ zs := valsZ_of zs xs own.1 hrep
    subst hxs
    rcases own.2 with ⟨hk, h0⟩ | ⟨g, cap, cur, hk, _, hb, hn, hc, hcur, htake⟩
    · rw [hk] at hd
      obtain ⟨c', q1, q2, rfl⟩ := hd.out
      have hz : zs = [] := List.eq_nil_of_length_eq_zero h0
      subst hz
      refine (Tryz.slices_Compact_int_empty none c' w).mono ?_
      rintro e w' ⟨rfl, rfl⟩
      have hs : h.set t (.rows 3 1 ((padZ []).map irow)) = h := by
        have : upd h.o t (.rows 3 1 ((padZ []).map irow)) = h.o := by
          funext s
          by_cases e : s = t
          · subst e; rw [upd_same, ho]; rfl
          · rw [upd_ne _ _ e]
        show AH.mk h.n _ = h
        rw [this]
      rw [hs]
      refine ⟨K, _, rfl, hK, Ext.refl .., .so ht fun e' sz' rs' he => ?_⟩
      rw [ho] at he
      injection he with e1 e2 e3
      subst e3
      refine ⟨Nat.le_refl _, fun _ => ⟨Nat.le_refl _, ?_⟩⟩
      rw [hk]
      exact ⟨_, _, _, c', rfl, Nat.zero_le _, q2, rfl⟩
    · rw [hk] at hd
      obtain ⟨c', q1, q2, rfl⟩ := hd.out
      have hm : (maxLen : Int) = 9223372036854775807 := rfl
      refine (Tryz.slices_Compact_int g 0 c' zs w (holds_ints hb htake) (by omega) q1).mono ?_
      rintro e w' ⟨rfl, n, hw⟩
      have hw : w' = grow (putRow (Value.int .i64) (Sort.ahead w n) g 0 (padZ zs).toArray) #[] := by rw [grow_empty]; exact hw
      obtain ⟨r1, r2⟩ := turn_ints hK ht ho (padZ_len zs) hk hb hn hc hcur hw
      refine ⟨_, _, rfl, r1, r2, .so ht fun e' sz' rs' he => ?_⟩
      have he : upd h.o t _ t = _ := he
      rw [upd_same] at he
      injection he with e1 e2 e3
      subst e3
      rw [List.length_map, padZ_len]
      refine ⟨Nat.le_refl _, fun _ => ⟨hcl, ?_⟩⟩
      rw [upd_same, hk]
      exact ⟨_, _, _, c', rfl, by omega, q2, rfl⟩
end Go.Proofs.YtiphcdmjlkngfaaGreatDoor

namespace Go.Isea
open Go
theorem ix_has : ∀ (s : L8) (c : UInt8), decide (0 ≤ ix s c) = s.contains c
  | [], c => by simp [ix]
  | b :: s, c => by
    have ih := ix_has s c
    have hg := ix_ge s c
    rw [ix]
    by_cases e : b = c
    · subst e; simp
    · have e' : ¬ c = b := fun h => e h.symm
      rw [if_neg e, List.contains_cons, ← ih]
      have : (c == b) = false := by simpa using e'
      rw [this, Bool.false_or]
      split <;> simp <;> omega
def insK (d : L8) (k : Nat) : List Nat := if (dictOf d).isSome = true then (List.range k).filter (hasDig d) else []
theorem insK_next (d : L8) (k : Nat) : insK d (k + 1) = if ((dictOf d).isSome && hasDig d k) = true then insK d k ++ [k] else insK d k := by
  unfold insK
  cases (dictOf d).isSome with
  | false => simp
  | true =>
    simp only [if_true, Bool.true_and]
    rw [List.range_succ, List.filter_append, List.filter_cons, List.filter_nil]
    split <;> simp
theorem insK_len (d : L8) (k : Nat) : (insK d k).length ≤ k := by
  unfold insK
  split
  · exact Nat.le_trans (List.length_filter_le _ _) (by simp)
  · exact Nat.zero_le _
theorem insK_0 (d : L8) : insK d 0 = [] := by unfold insK; split <;> rfl
theorem digC_nat (k : Nat) (hk : k ≤ 9) : (digC k).toNat = 48 + k := by
  unfold digC
  simp
  omega
/-- the digits a program writes as bytes -/
theorem wrap_digC (k : Nat) (hk : k ≤ 9) : IntKind.u8.wrap (48 + ((k : Nat) : Int)) = (((digC k).toNat : Nat) : Int) := by
  rw [digC_nat k hk]
  have : k = 0 ∨ k = 1 ∨ k = 2 ∨ k = 3 ∨ k = 4 ∨ k = 5 ∨ k = 6 ∨ k = 7 ∨ k = 8 ∨ k = 9 := by omega
  rcases this with rfl | rfl | rfl | rfl | rfl | rfl | rfl | rfl | rfl | rfl <;> decide
end Go.Isea
namespace Go.Proofs.YtiphcdmjlkngfaaGreatDoor
open Go Go.Isea
set_option maxRecDepth 100000
set_option maxHeartbeats 8000000
theorem i_InstancesIn (d : L8) (h : AH) (hd : d.length ≤ 4611686018427387904) : Isea.Good Tryz.prog 51 [str d] h [] (.so h.n (instsIn d).length (instsIn d).length) (h.push (.rows 3 1 ((instsIn d).map iRow))) := by
  have hV := fun H => i_DictValid d H hd
  have hC : ∀ k H, Isea.Good Tryz.prog 113 [str d, str [digC k]] H [] (.v (.bool (hasDig d k))) H := fun k H => by
    have := l_Contains d (digC k) H
    rw [ix_has] at this
    exact this
  have hI : ∀ k, k ≤ 9 → ∀ H, Isea.Good Tryz.prog 114 [.v (.int .i64 (k : Nat))] H [] (str [digC k]) H := fun k hk H => l_Itoa k H hk
  have e10 : insK d 10 = instsIn d := rfl
  refine good [] [] Tryz.func51 rfl rfl Tryz.ntmps51 (by kernel_rfl) mixed (by kernel_rfl) ?_
  simp -dsimp only [go_sem]
  refine loop_ruleH [0] (fun (k : {k : Nat // k ≤ 10}) H => ([(3, .so h.n (insK d k.1).length (insK d k.1).length), (6, .v (.int .i64 (k.1 : Nat)))], ⟨h.n + 1, upd H.o h.n (.rows 3 1 ((insK d k.1).map iRow))⟩)) (fun k => 10 - k.1) ⟨0, Nat.zero_le _⟩ ?_ ?_
  · refine weak_objs [h.n] (by simp -dsimp only [go_sem]) (by simp -dsimp only [go_sem]) (by simp -dsimp only [go_sem, insK_0, List.length_nil, List.map_nil]) ?_ ?_ ?_
    · intro t h1 h2
      have a1 : ¬ t = h.n := by omega
      simp -dsimp only [go_sem, a1]
    · intro x h1 h2; have h1 : x < h.n + 1 := h1; simp at h2 ⊢; omega
    · simp -dsimp only [go_sem, insK_0, List.length_nil, List.map_nil]
  · rintro ⟨k, hk⟩
    have hk : k ≤ 10 := hk
    have hk1 : k + 1 ≤ 9223372036854775807 := by omega
    have hle := insK_len d k
    have en := insK_next d k
    have e6 : ((insK d k).length + 1) * 8 ≤ 140737488355328 := by omega
    by_cases hlt : k < 10
    · have hkc : (((k : Nat) : Int) < 10) = True := eq_true (by omega)
      have hIk := hI k (by omega)
      have hCk := hC k
      cases hB : (dictOf d).isSome with
      | false =>
        rw [hB] at hV en
        rw [Bool.false_and, if_neg (by simp)] at en
        simp -dsimp only [go_sem, hkc]
        refine call_pure (hV _) ?_
        simp -dsimp only [go_sem, hk1]
        refine round_to ⟨k + 1, hlt⟩ (by simp; omega) ?_
        refine weak_objs [h.n] (by simp -dsimp only [go_sem]) (by simp -dsimp only [go_sem]) (by simp -dsimp only [go_sem, en]) ?_ ?_ ?_
        · intro t h1 h2
          have a1 : ¬ t = h.n := by omega
          simp -dsimp only [go_sem, a1]
        · intro x h1 h2; have h1 : x < h.n + 1 := h1; simp at h2 ⊢; omega
        · simp -dsimp only [go_sem, en]
      | true =>
        rw [hB] at hV en
        rw [Bool.true_and] at en
        simp -dsimp only [go_sem, hkc]
        refine call_pure (hV _) ?_
        simp -dsimp only [go_sem]
        refine call_pure (hIk _) ?_
        simp -dsimp only [go_sem]
        refine call_pure (hCk _) ?_
        cases hh : hasDig d k with
        | true =>
          rw [hh, if_pos rfl] at en
          simp -dsimp only [go_sem, hk1, e6, List.length_map]
          refine round_to ⟨k + 1, hlt⟩ (by simp; omega) ?_
          refine weak_objs [h.n] (by simp -dsimp only [go_sem]) (by simp -dsimp only [go_sem]) (by simp -dsimp only [go_sem, en, List.length_append, List.length_cons, List.length_nil]) ?_ ?_ ?_
          · intro t h1 h2
            have a1 : ¬ t = h.n := by omega
            simp -dsimp only [go_sem, a1]
          · intro x h1 h2; have h1 : x < h.n + 1 := h1; simp at h2 ⊢; omega
          · simp -dsimp only [go_sem, en, List.map_append, List.map_cons, List.map_nil, iRow]
        | false =>
          rw [hh, if_neg (by simp)] at en
          simp -dsimp only [go_sem, hk1]
          refine round_to ⟨k + 1, hlt⟩ (by simp; omega) ?_
          refine weak_objs [h.n] (by simp -dsimp only [go_sem]) (by simp -dsimp only [go_sem]) (by simp -dsimp only [go_sem, en]) ?_ ?_ ?_
          · intro t h1 h2
            have a1 : ¬ t = h.n := by omega
            simp -dsimp only [go_sem, a1]
          · intro x h1 h2; have h1 : x < h.n + 1 := h1; simp at h2 ⊢; omega
          · simp -dsimp only [go_sem, en]
    · have hke : k = 10 := by omega
      have hkc : (((k : Nat) : Int) < 10) = False := eq_false (by omega)
      have ek : insK d k = instsIn d := by rw [hke]; exact e10
      simp -dsimp only [go_sem, hkc, ek]
      exact fin_push (by simp -dsimp only [go_sem]) (by simp -dsimp only [go_sem]) (by simp -dsimp only [go_sem])
theorem i_InstancesInF (d : L8) (h : AH) (hd : d.length ≤ 4611686018427387904) : Isea.Good Tryz.prog 51 [str d] h [] (.sl ((instsIn d).map iRow)) h :=
  (i_InstancesIn d h hd).fin (fin_pure (by simp -dsimp only [go_sem]) (by simp -dsimp only [go_sem, List.length_map]))
end Go.Proofs.YtiphcdmjlkngfaaGreatDoor

namespace Go.Isea
open Go
def usedN (w : Wld) (n : Need) (d : Int) : List Nat := usedS w.is.length (adL w n d)
theorem usedS_next (N : Nat) (L : List L8) : usedS (N + 1) L = if (L.any fun d => hasDig d N) = true then usedS N L ++ [N] else usedS N L := by
  unfold usedS
  rw [List.range_succ, List.filter_append, List.filter_cons, List.filter_nil]
  split <;> simp
theorem usedS_le (N : Nat) (L : List L8) : (usedS N L).length ≤ N := by
  unfold usedS
  exact Nat.le_trans (List.length_filter_le _ _) (by simp)
theorem usedS_nil' (N : Nat) : usedS N [] = [] := by unfold usedS; simp
theorem usedN_len' (w : Wld) (n : Need) (d : Int) : (usedN w n d).length ≤ 1099511627776 := by
  unfold usedN adL
  cases e : allDicts w n d with
  | none => rw [Option.getD_none, usedS_nil']; exact Nat.zero_le _
  | some l =>
    unfold allDicts at e
    split at e
    · rename_i hc
      have hb := hc.1
      rw [Bool.and_eq_true] at hb
      have h1 := world_len hb.1
      have h2 : (usedS w.is.length ((some l).getD [])).length ≤ w.is.length := by
        unfold usedS
        exact Nat.le_trans (List.length_filter_le _ _) (by simp)
      omega
    · cases e
theorem usedS_nil (N : Nat) : usedS N [] = [] := by unfold usedS; simp
theorem usedS_0 (L : List L8) : usedS 0 L = [] := rfl
theorem intsOf_rows (l : List Nat) : (intsOf l).map irow = l.map iRow := by unfold intsOf; rw [List.map_map]; rfl
end Go.Isea
namespace Go.Proofs.YtiphcdmjlkngfaaGreatDoor
open Go Go.Isea
set_option maxRecDepth 100000
set_option maxHeartbeats 16000000
theorem s_InstancesUsed (w : Wld) (n : Need) (d : Int) (h : AH) (hw : w.Sm) (hn : n.Sm) (hd : -9223372036854775808 ≤ d ∧ d ≤ 9223372036854775807) (hc : w.cs.length ≤ 1048576) (hi : w.is.length ≤ 1048576) (hio : ∀ i ∈ w.is, i.Ok) :
    Isea.Good Tryz.prog 50 [.agg w.row, .agg n.row, .v (.int .i64 d)] h [] (.tup [.sl ((usedN w n d).map iRow), .v (.bool (allDicts w n d).isSome)]) h := by
  have hA := fun H => s_AllDicts w n d H hw hn hd hc hi hio
  unfold usedN
  have eL : (allDicts w n d).getD [] = adL w n d := rfl
  rw [eL] at hA
  have hN : adL w n d ≠ [] → w.is.length ≤ 10 := fun hne => by
    rcases opt_cases (allDicts w n d) with e | ⟨l, e⟩
    · unfold adL at hne; rw [e] at hne; exact absurd rfl hne
    · exact world_len (adF hw e).wk
  have hle := fun x (hx : x ∈ adL w n d) => adL_len hw hx
  have hlen : (adL w n d).length ≤ 1099511627776 := allDicts_len w n d
  generalize adL w n d = L at hA hN hle hlen
  generalize (allDicts w n d).isSome = B at hA
  obtain ⟨M, hM⟩ : ∃ M, w.is.length = M := ⟨_, rfl⟩
  rw [hM] at hN hi ⊢
  refine good [] [] Tryz.func50 rfl rfl Tryz.ntmps50 (by kernel_rfl) mixed (by kernel_rfl) ?_
  simp -dsimp only [go_sem, Wld.row, Need.row, List.length_map] at hA ⊢
  refine call_pure (hA _) ?_
  simp -dsimp only [go_sem, hM, List.length_map]
  refine loop_ruleH [9, 0] (fun (k : {k : Nat // k ≤ M}) H => ([(8, .so h.n (usedS k.1 L).length (usedS k.1 L).length), (24, .v (.int .i64 (M : Nat))), (25, .v (.int .i64 (k.1 : Nat)))], ⟨h.n + 1, upd H.o h.n (.rows 3 1 ((usedS k.1 L).map iRow))⟩)) (fun k => M - k.1) ⟨0, Nat.zero_le _⟩ ?_ ?_
  · refine weak_objs [h.n] (by simp -dsimp only [go_sem]) (by simp -dsimp only [go_sem]) (by simp -dsimp only [go_sem, usedS_0, List.length_nil, List.map_nil]) ?_ ?_ ?_
    · intro t h1 h2
      have a1 : ¬ t = h.n := by omega
      simp -dsimp only [go_sem, a1]
    · intro x h1 h2; have h1 : x < h.n + 1 := h1; simp at h2 ⊢; omega
    · simp -dsimp only [go_sem, usedS_0, List.length_nil, List.map_nil]
  · rintro ⟨k, hk⟩
    have hk : k ≤ M := hk
    have hk1 : k + 1 ≤ 9223372036854775807 := by omega
    have hle2 := usedS_le k L
    have en := usedS_next k L
    have e6 : ((usedS k L).length + 1) * 8 ≤ 140737488355328 := by omega
    by_cases hlt : k < M
    · have hkc : (((k : Nat) : Int) < ((M : Nat) : Int)) = True := eq_true (by omega)
      simp -dsimp only [go_sem, hkc, List.length_map]
      refine loop_ruleH [9, 0] (fun (j : {j : Nat // j ≤ L.length ∧ ((L.take j).any fun d => hasDig d k) = false}) H => ([(8, .so h.n (usedS k L).length (usedS k L).length), (11, .v (.int .i64 (k : Nat))), (24, .v (.int .i64 (M : Nat))), (25, .v (.int .i64 (k : Nat))), (28, .sl (L.map sRow)), (29, .v (.int .i64 (L.length : Nat))), (30, .v (.int .i64 (j.1 : Nat)))], ⟨h.n + 1, upd H.o h.n (.rows 3 1 ((usedS k L).map iRow))⟩)) (fun j => L.length - j.1) ⟨0, Nat.zero_le _, rfl⟩ ?_ ?_
      · refine weak_objs [h.n] (by simp -dsimp only [go_sem]) (by simp -dsimp only [go_sem]) (by simp -dsimp only [go_sem, List.length_map]) ?_ ?_ ?_
        · intro t h1 h2
          have a1 : ¬ t = h.n := by omega
          simp -dsimp only [go_sem, a1]
        · intro x h1 h2; have h1 : x < h.n + 1 := h1; simp at h2 ⊢; omega
        · simp -dsimp only [go_sem]
      · rintro ⟨j, hj, hinv⟩
        have hj : j ≤ L.length := hj
        have hinv : ((L.take j).any fun d => hasDig d k) = false := hinv
        have hj1 : j + 1 ≤ 9223372036854775807 := by omega
        by_cases hjl : j < L.length
        · obtain ⟨x, hx⟩ := get_some hjl
          have hM10 := hN (fun e => by rw [e] at hjl; simp at hjl)
          have hxl := hle x (List.mem_of_getElem? hx)
          have hjc : (((j : Nat) : Int) < ((L.length : Nat) : Int)) = True := eq_true (by omega)
          have hwd : IntKind.u8.wrap (IntKind.i64.wrap (48 + ((k : Nat) : Int))) = (((digC k).toNat : Nat) : Int) := by
            have e : IntKind.i64.wrap (48 + ((k : Nat) : Int)) = 48 + ((k : Nat) : Int) := by rw [wrap_i64] <;> omega
            rw [e]; exact wrap_digC k (by omega)
          have hk48 : 48 + k ≤ 9223372036854775807 := by omega
          have hF := fun H => s_l13Find x (digC k) H (by omega)
          have hih := ix_has x (digC k)
          have hnx := take_next hx
          simp -dsimp only [go_sem, hjc, hjl, hx, hk48, hwd, sRow, List.length_map]
          refine call_pure (hF _) ?_
          by_cases hd : 0 ≤ ix x (digC k)
          · have hhd : hasDig x k = true := by unfold hasDig; rw [← hih]; simpa using hd
            have hany : (L.any fun d => hasDig d k) = true := List.any_eq_true.2 ⟨x, List.mem_of_getElem? hx, hhd⟩
            rw [hany, if_pos rfl] at en
            simp -dsimp only [go_sem, hd, hk1, e6, List.length_map]
            refine round_to ⟨k + 1, hlt⟩ (by simp; omega) ?_
            refine weak_objs [h.n] (by simp -dsimp only [go_sem]) (by simp -dsimp only [go_sem]) (by simp -dsimp only [go_sem, en, List.length_append, List.length_cons, List.length_nil]) ?_ ?_ ?_
            · intro t h1 h2
              have a1 : ¬ t = h.n := by omega
              simp -dsimp only [go_sem, a1]
            · intro x h1 h2; have h1 : x < h.n + 1 := h1; simp at h2 ⊢; omega
            · simp -dsimp only [go_sem, en, List.map_append, List.map_cons, List.map_nil, iRow]
          · have hhd : hasDig x k = false := by unfold hasDig; rw [← hih]; simpa using hd
            simp -dsimp only [go_sem, hd, hj1]
            refine round_to ⟨j + 1, hjl, by rw [hnx, List.any_append, hinv, List.any_cons, List.any_nil, hhd]; rfl⟩ (by simp; omega) ?_
            refine weak_objs [h.n] (by simp -dsimp only [go_sem]) (by simp -dsimp only [go_sem]) (by simp -dsimp only [go_sem, List.length_map]) ?_ ?_ ?_
            · intro t h1 h2
              have a1 : ¬ t = h.n := by omega
              simp -dsimp only [go_sem, a1]
            · intro x h1 h2; have h1 : x < h.n + 1 := h1; simp at h2 ⊢; omega
            · simp -dsimp only [go_sem]
        · have hjc : (((j : Nat) : Int) < ((L.length : Nat) : Int)) = False := eq_false (by omega)
          rw [List.take_of_length_le (by omega)] at hinv
          rw [hinv, if_neg (by simp)] at en
          simp -dsimp only [go_sem, hjc, hk1]
          refine round_to ⟨k + 1, hlt⟩ (by simp; omega) ?_
          refine weak_objs [h.n] (by simp -dsimp only [go_sem]) (by simp -dsimp only [go_sem]) (by simp -dsimp only [go_sem, en]) ?_ ?_ ?_
          · intro t h1 h2
            have a1 : ¬ t = h.n := by omega
            simp -dsimp only [go_sem, a1]
          · intro x h1 h2; have h1 : x < h.n + 1 := h1; simp at h2 ⊢; omega
          · simp -dsimp only [go_sem, en]
    · have hkc : (((k : Nat) : Int) < ((M : Nat) : Int)) = False := eq_false (by omega)
      have hke : k = M := by omega
      subst hke
      simp -dsimp only [go_sem, hkc]
      exact fin_pure (by simp -dsimp only [go_sem]) (by simp -dsimp only [go_sem, List.length_map])
theorem l_ClipI (rs : List (List AV)) (t m : Nat) (h : AH) (ht : t < h.n) (ho : h.o t = .rows 3 1 rs) (hr : ∀ r ∈ rs, r.length = 1) (hm : m ≤ rs.length) (hl : rs.length ≤ 4611686018427387904) : Isea.Good Tryz.prog 110 [.so t rs.length m] h [] (.so t rs.length m) h := by
  have hmm : m ≤ 4611686018427387904 := by omega
  refine good [] [] Tryz.func110 rfl rfl Tryz.ntmps110 (by kernel_rfl) mixed (by kernel_rfl) ?_
  simp -dsimp only [go_sem, ht, ho, hm, hmm]
  exact fin_pure (by simp -dsimp only [go_sem]) (by simp -dsimp only [go_sem, ht])
theorem i_InstancesUsed1 (w : Wld) (n : Need) (d : Int) (L : List L8) (h : AH) (hw : w.Sm) (hn : n.Sm) (hd : -9223372036854775808 ≤ d ∧ d ≤ 9223372036854775807) (hl : allDicts w n d = some L) :
    Isea.Good Tryz.prog 49 [.agg w.row, .agg n.row, .v (.int .i64 d)] h [] (.tup [.so h.n (usedP L).length (Lib.compact (usedP L)).length, .v (.bool true)]) (h.push (.rows 3 1 ((padZ (usedP L)).map irow))) := by
  have hA := fun H => i_AllDictsF w n d H hw hn hd
  rw [hl] at hA
  have F := adF hw hl
  have hln := F.ln
  have hI : ∀ x ∈ L, ∀ H, Isea.Good Tryz.prog 51 [str x] H [] (.sl ((instsIn x).map iRow)) H := fun x hx H => by
    obtain ⟨D, _, _, h3, _⟩ := F.ok x hx
    exact i_InstancesInF x H (by omega)
  clear F hl
  obtain ⟨Z, hZ⟩ : ∃ Z : Nat → List Nat, Z = fun k => (L.take k).flatMap instsIn := ⟨_, rfl⟩
  have Z0 : Z 0 = [] := by rw [hZ]; rfl
  have Zs : ∀ k x, L[k]? = some x → Z (k + 1) = Z k ++ instsIn x := fun k x hx => by rw [hZ]; simp only [take_next hx, List.flatMap_append, List.flatMap_cons, List.flatMap_nil, List.append_nil]
  have Zl : ∀ k, (Z k).length ≤ 10 * k := fun k => by
    induction k with
    | zero => rw [Z0]; exact Nat.zero_le _
    | succ k ih =>
      rcases opt_cases (L[k]?) with e | ⟨x, e⟩
      · have : Z (k + 1) = Z k := by
          rw [hZ]
          have e := List.getElem?_eq_none_iff.1 e
          simp only [List.take_of_length_le e, List.take_of_length_le (Nat.le_succ_of_le e)]
        rw [this]; omega
      · rw [Zs k x e, List.length_append]
        have := insK_len x 10
        have e : insK x 10 = instsIn x := rfl
        rw [e] at this
        omega
  have Ze : (intsOf (Z L.length)).mergeSort (fun x y => decide (x ≤ y)) = usedP L := by
    rw [hZ]
    unfold usedP
    simp only [List.take_length]
    congr 1
    unfold intsOf
    rw [List.map_flatMap]
  clear hZ
  refine good [] [] Tryz.func49 rfl rfl Tryz.ntmps49 (by kernel_rfl) mixed (by kernel_rfl) ?_
  simp -dsimp only [go_sem, Wld.row, Need.row, Option.getD_some, Option.isSome_some] at hA ⊢
  refine call_pure (hA _) ?_
  simp -dsimp only [go_sem, List.length_map]
  refine loop_ruleH [23, 0] (fun (k : {k : Nat // k ≤ L.length}) H => ([(10, .so h.n (Z k.1).length (Z k.1).length), (25, .v (.int .i64 (k.1 : Nat)))], ⟨h.n + 1, upd H.o h.n (.rows 3 1 ((Z k.1).map iRow))⟩)) (fun k => L.length - k.1) ⟨0, Nat.zero_le _⟩ ?_ ?_
  · refine weak_objs [h.n] (by simp -dsimp only [go_sem]) (by simp -dsimp only [go_sem]) (by simp -dsimp only [go_sem, Z0, List.length_nil, List.map_nil]) ?_ ?_ ?_
    · intro t h1 h2
      have a1 : ¬ t = h.n := by omega
      simp -dsimp only [go_sem, a1]
    · intro x h1 h2; have h1 : x < h.n + 1 := h1; simp at h2 ⊢; omega
    · simp -dsimp only [go_sem, Z0, List.length_nil, List.map_nil]
  · rintro ⟨k, hk⟩
    have hk : k ≤ L.length := hk
    have hk1 : k + 1 ≤ 9223372036854775807 := by omega
    have hzl := Zl k
    by_cases hlt : k < L.length
    · obtain ⟨x, hx⟩ := get_some hlt
      have hIx := hI x (List.mem_of_getElem? hx)
      have en := Zs k x hx
      have hil := insK_len x 10
      have e10 : insK x 10 = instsIn x := rfl
      rw [e10] at hil
      generalize instsIn x = I at hIx en hil
      have hkc : (((k : Nat) : Int) < ((L.length : Nat) : Int)) = True := eq_true (by omega)
      have e6 : ((Z k).length + I.length) * 8 ≤ 140737488355328 := by omega
      simp -dsimp only [go_sem, hkc, hlt, hx, sRow]
      refine call_pure (hIx _) ?_
      have hgr : ∀ H : AH, goodRows H 1 (I.map iRow) = True := fun H => good_map fun c => by simp -dsimp only [iRow, go_sem, List.length_cons, List.length_nil, List.all_cons, List.all_nil, Bool.and_self]
      simp -dsimp only [go_sem, hk1, e6, hgr, List.length_map]
      refine round_to ⟨k + 1, hlt⟩ (by simp; omega) ?_
      refine weak_objs [h.n] (by simp -dsimp only [go_sem]) (by simp -dsimp only [go_sem]) (by simp -dsimp only [go_sem, en, List.length_append, List.map_append, List.length_map]) ?_ ?_ ?_
      · intro t h1 h2
        have a1 : ¬ t = h.n := by omega
        simp -dsimp only [go_sem, a1]
      · intro x h1 h2; have h1 : x < h.n + 1 := h1; simp at h2 ⊢; omega
      · simp -dsimp only [go_sem, en, List.length_append, List.map_append, List.length_map]
    · have hkc : (((k : Nat) : Int) < ((L.length : Nat) : Int)) = False := eq_false (by omega)
      have hke : k = L.length := by omega
      subst hke
      have hzi : (intsOf (Z L.length)).length = (Z L.length).length := by unfold intsOf; rw [List.length_map]
      have hzr := intsOf_rows (Z L.length)
      simp -dsimp only [go_sem, hkc]
      have hSo := fun H h1 h2 => l_SortI (intsOf (Z L.length)) h.n H h1 (by rw [hzr]; exact h2) (by omega)
      rw [Ze, hzi] at hSo
      refine call_turn (hSo _ (Nat.lt_succ_self _) (by simp -dsimp only [go_sem])) (fun t ht _ => .inl (by simp at ht; show h.n ≤ t; omega)) (fun t ht => by cases ht) ?_
      have hul : (usedP L).length = (Z L.length).length := by rw [← Ze, List.length_mergeSort]; exact hzi
      have hCo := fun H h1 h2 => l_CompactI (usedP L) h.n H h1 h2 (by omega)
      rw [hul] at hCo
      have hcl := compact_len (usedP L)
      have hpl := padZ_len (usedP L)
      have hpr : ((padZ (usedP L)).map irow).length = (Z L.length).length := by rw [List.length_map, hpl, hul]
      have hCc := fun H h1 h2 => l_ClipI ((padZ (usedP L)).map irow) h.n (Lib.compact (usedP L)).length H h1 h2 (fun r hr => by obtain ⟨m, _, rfl⟩ := List.mem_map.1 hr; rfl) (by omega) (by omega)
      rw [hpr] at hCc
      simp -dsimp only [go_sem]
      refine call_turn (hCo _ (Nat.lt_succ_self _) (by simp -dsimp only [go_sem])) (fun t ht _ => .inl (by simp at ht; show h.n ≤ t; omega)) (fun t ht => by cases ht) ?_
      simp -dsimp only [go_sem]
      refine call_pure (hCc _ (Nat.lt_succ_self _) (by simp -dsimp only [go_sem])) ?_
      simp -dsimp only [go_sem]
      rw [hul]
      exact fin_push (by simp -dsimp only [go_sem]) (by simp -dsimp only [go_sem]) (by simp -dsimp only [go_sem])
theorem i_InstancesUsed (w : Wld) (n : Need) (d : Int) (h : AH) (hw : w.Sm) (hn : n.Sm) (hd : -9223372036854775808 ≤ d ∧ d ≤ 9223372036854775807) :
    Isea.Good Tryz.prog 49 [.agg w.row, .agg n.row, .v (.int .i64 d)] h [] (.tup [.so h.n (usedN w n d).length (usedN w n d).length, .v (.bool (allDicts w n d).isSome)]) (h.push (.rows 3 1 ((usedN w n d).map iRow))) := by
  unfold usedN
  rcases opt_cases (allDicts w n d) with e | ⟨L, e⟩
  · have eL : adL w n d = [] := by unfold adL; rw [e]; rfl
    have hA := fun H => i_AllDictsF w n d H hw hn hd
    rw [e] at hA
    rw [eL, usedS_nil, e]
    refine Good.ghostR2 (h' := h) (by decide) ?_
    refine good [] [] Tryz.func49 rfl rfl Tryz.ntmps49 (by kernel_rfl) mixed (by kernel_rfl) ?_
    simp -dsimp only [go_sem, Wld.row, Need.row, Option.getD_none, Option.isSome_none] at hA ⊢
    refine call_pure (hA _) ?_
    simp -dsimp only [go_sem]
    exact fin_pure (by simp -dsimp only [go_sem]) (by simp -dsimp only [go_sem, Option.isSome_none])
  · have eL : adL w n d = L := by unfold adL; rw [e]; rfl
    have F := adF hw e
    have hU := used_eq (N := w.is.length) (world_len F.wk) (L := L) (fun x hx => by
      have hx2 : x ∈ adL w n d := by rw [eL]; exact hx
      obtain ⟨D, h1, h2, h3, h4⟩ := adL_txt hw x hx2
      exact ⟨D, h1, h4, h2⟩)
    have hc : Lib.compact (usedP L) = intsOf (usedS w.is.length L) := hU
    have h1 := i_InstancesUsed1 w n d L h hw hn hd e
    have hcl := compact_len (usedP L)
    have h2 := Good.cutSo h1 (Nat.le_refl _) (Nat.lt_succ_self _) (upd_same _ _ _) (by rw [List.length_map, padZ_len]) hcl (VR.map fun a x hx => by simp [irow] at hx; exact ⟨_, hx⟩)
    have ht : ((padZ (usedP L)).map irow).take (Lib.compact (usedP L)).length = (usedS w.is.length L).map iRow := by
      rw [← List.map_take]
      unfold padZ
      rw [List.take_append_of_le_length (Nat.le_refl _), List.take_length, hc, intsOf_rows]
    have hl : (Lib.compact (usedP L)).length = (usedS w.is.length L).length := by rw [hc]; unfold intsOf; rw [List.length_map]
    rw [ht, hl] at h2
    rw [eL, e]
    exact h2
end Go.Proofs.YtiphcdmjlkngfaaGreatDoor
