/- Contracts of functions of this program, for all arguments that satisfy what each lemma asks for. -/
import Derived.WalkKit
import Derived.KernelRfl
import Derived.WalkSmall
import Derived.Deep.LoopGhost
import Derived.Deep.RegionLaw
import Derived.Lib.Walk
import Derived.Lib.SliceRun
import Derived.Lib.Hide
import Derived.Shelf.RegionOpenPlain
import Derived.Test.YtiphcdmjlkngfaaGreatDoorMi
import Derived.Test.YtiphcdmjlkngfaaGreatDoorProg
import Derived.Test.YtiphcdmjlkngfaaGreatDoorMe
import Derived.Test.YtiphcdmjlkngfaaGreatDoorMq
import Derived.Test.YtiphcdmjlkngfaaGreatDoorMl
import Derived.Test.YtiphcdmjlkngfaaGreatDoorMr
set_option linter.all false
namespace Go.Isea
open Go
theorem step_run {P : Program} {ops : Array Oper} {o : Oper} {a : Act} {w w' : World} {K : Act → World → Prop} {Q : Exit → Act → World → Prop} {E : Prop} {v : Value}
    (hg : o.guard = none) (s x : Operand) (t : TypeId) (hop : o.op = Op.call { callee := Callee.builtin Builtin.append, args := #[s, x], argTypes := #[t, t] })
    (vs vx : Value) (hs : a.eval s = vs) (hx : a.eval x = vx) (hrun : (Builtin.append_ #[t, t] o.type #[vs, vx]).run P w = .ok v w') (hK : K (a.put o.dst v) w') :
    if Region.wanted o (yielded ops a.tmps) = true then Oper.wp P o a w K Q else E := by
  have hw : Region.wanted o (yielded ops a.tmps) = true := by simp [Region.wanted, hg]
  rw [if_pos hw]
  unfold Oper.wp
  simp [execOp, hop, resolve, invoke, builtin, hs, hx, hrun, Result.andThen]
  exact hK
theorem run_clear_one {P : Program} (w : World) (t e ty : TypeId) (z : Value) (ht : P.underlying t = some (.slice e)) (hv : ∀ w, (zeroValue e).run P w = .ok z w) (h1 : ∀ u ∈ z.cells.toList, u.oneCell' = true) (g o c : Nat) (e0 : TypeId) (cur : Array Value)
    (hb : w.heap[g]? = some (.cells cur e0 (0, 0))) (hf : o + z.cells.size ≤ cur.size) :
    (Builtin.clear_ #[t] ty #[.slice (some ⟨g, o, none⟩) 1 c]).run P w = .ok (.tuple #[]) (w.setRow g (cur.toList.take o ++ z.cells.toList ++ cur.toList.drop (o + z.cells.toList.length)).toArray) := by
  have hzc : (Builtin.zeroCells z.cells 1).toList = z.cells.toList := by
    simp only [Builtin.zeroCells, Nat.one_mul]
    apply List.ext_getElem
    · simp
    · intro i h1 h2
      have : i < z.cells.size := by simpa using h2
      simp [Nat.mod_eq_of_lt this, this]
  have hst := run_storeCells_at P g o e0 z.cells.toList 0 cur w hb (by simpa using hf) h1
  simp only [Nat.add_zero] at hst
  simp [Builtin.clear_, run_underlying ht, hv, hzc, hst]
end Go.Isea
namespace Go.Proofs.YtiphcdmjlkngfaaGreatDoor
open Go Go.Isea Go.Lib
set_option maxRecDepth 1000000
set_option maxHeartbeats 4000000
theorem w_Delete (w : World) (g n c i : Nat) (cur news : Array Value) (hb : w.heap[g]? = some (.cells cur 28 (0, 0))) (hn : n ≤ c) (hc : c ≤ 9223372036854775807) (hcur : c * 2 ≤ cur.size) (hi : i < n)
    (hl : news.size = (n - (i + 1)) * 2) (hnews : ∀ j u, news[j]? = some u → cur[(i + 1) * 2 + j]? = some u) (h1 : ∀ u ∈ news.toList, u.oneCell' = true) :
    Calls Tryz.prog 83 #[.slice (some ⟨g, 0, none⟩) n c, .int .i64 (i : Nat), .int .i64 ((i + 1 : Nat) : Int)] w fun e w' => e = .returned (.slice (some ⟨g, 0, none⟩) (n - 1) c) ∧
      w'.os = w.os ∧ w'.tape = w.tape ∧ w'.output = w.output ∧ w'.heap = (w.setRow g ((cur.toList.take (i * 2) ++ news.toList ++ cur.toList.drop (i * 2 + news.toList.length)).take ((n - 1) * 2) ++ [Value.string ⟨#[]⟩, Value.string ⟨#[]⟩] ++ (cur.toList.take (i * 2) ++ news.toList ++ cur.toList.drop (i * 2 + news.toList.length)).drop ((n - 1) * 2 + 2)).toArray).heap := by
  have hne : (((i : Nat) : Int) == ((i + 1 : Nat) : Int)) = false := by simp; omega
  obtain ⟨A, hA⟩ : ∃ A : Addr, (if c = i + 1 then some (⟨g, 0, none⟩ : Addr) else some ⟨g, (i + 1) * 2, none⟩) = some A := by split <;> exact ⟨_, rfl⟩
  go_enter Tryz.func83, Tryz.ntmps83
  go_wp2_with fail
  have mx : Tryz.prog.follows .mixedOrders = true := by kernel_rfl
  have hic : i ≤ c := by omega
  have hjc : i + 1 ≤ c := by omega
  have c1 : (0 : Int) ≤ (i : Int) + 1 := by omega
  have c2 : (i : Int) + 1 ≤ (n : Int) := by omega
  have hin : i ≤ n := by omega
  have hin1 : i + 1 ≤ n := hi
  have hu : Tryz.prog.underlying 33 = some (.slice 28) := by kernel_rfl
  obtain ⟨it, hit, hsz, zz, hzz, hzc⟩ : ∃ it, Tryz.prog.info? 28 = some it ∧ it.size = 2 ∧ ∃ z, it.zero = some z ∧ z.cells = #[Value.string ⟨#[]⟩, Value.string ⟨#[]⟩] := ⟨_, rfl, rfl, _, rfl, rfl⟩
  have hrow : i + (n - (i + 1)) = n - 1 := by omega
  have hfit : i * 2 + news.toList.length ≤ cur.size := by
    have : news.toList.length = (n - (i + 1)) * 2 := by rw [Array.length_toList]; exact hl
    have h2 : n * 2 ≤ c * 2 := Nat.mul_le_mul_right _ hn
    omega
  have hbd : w.drew.heap[g]? = some (.cells cur 28 (0, 0)) := hb
  have hcells : ∀ j u, news.toList[j]? = some u → w.drew.cell? (A.add j) = some u := fun j u hu => by
    have hu : news[j]? = some u := by simpa using hu
    have hj : j < (n - (i + 1)) * 2 := by rw [← hl]; exact (Array.getElem?_eq_some_iff.1 hu).1
    split at hA
    · rename_i e; omega
    · injection hA with hA
      subst hA
      rw [add_none, Isea.cell_of_heap hbd]
      exact hnews j u hu
  obtain ⟨W1, hW1⟩ : ∃ W1, W1 = w.drew.setRow g (cur.toList.take (i * 2) ++ news.toList ++ cur.toList.drop (i * 2 + news.toList.length)).toArray := ⟨_, rfl⟩
  have hap : RowKit.Hid (∀ ty, (Builtin.append_ #[33, 33] ty #[.slice (some ⟨g, 0, none⟩) i c, .slice (some A) (n - (i + 1)) (c - (i + 1))]).run Tryz.prog w.drew = .ok (.slice (some ⟨g, 0, none⟩) (n - 1) c) W1) := fun ty => by
    have := run_append_room (P := Tryz.prog) w.drew 33 ty 28 it hu hit g i c cur hbd A (n - (i + 1)) (c - (i + 1)) news.toList (by rw [hsz, Array.length_toList]; exact hl) hcells h1 (by omega) (by rw [hsz]; exact hfit)
    rw [hsz, hrow] at this
    rw [this, hW1]
  generalize hcur1 : cur.toList.take (i * 2) ++ news.toList ++ cur.toList.drop (i * 2 + news.toList.length) = cur1 at hW1 ⊢
  have hc1 : cur1.length = cur.size := by rw [← hcur1]; simp at hfit ⊢; omega
  have hb1 : W1.heap[g]? = some (.cells cur1.toArray 28 (0, 0)) := by rw [hW1]; exact setRow_heap _ g cur _ _ _ hbd
  have hcl : ∀ ty, (Builtin.clear_ #[33] ty #[.slice (some ⟨g, (n - 1) * 2, none⟩) 1 (c - (n - 1))]).run Tryz.prog W1 = .ok (.tuple #[]) (W1.setRow g (cur1.take ((n - 1) * 2) ++ [Value.string ⟨#[]⟩, Value.string ⟨#[]⟩] ++ cur1.drop ((n - 1) * 2 + 2)).toArray) := fun ty => by
    have := run_clear_one (P := Tryz.prog) W1 33 28 ty zz hu (fun w => by simp [zeroValue, typeInfo, hit, hzz]) (by rw [hzc]; simp [Value.oneCell']) g ((n - 1) * 2) (c - (n - 1)) _ _ hb1 (by rw [hzc]; simp; omega)
    rw [hzc] at this
    simpa using this
  have X : RowKit.Hid (W1.os = w.os ∧ W1.tape = w.tape ∧ W1.output = w.output ∧ ∀ cs, (W1.setRow g cs).heap = (w.setRow g cs).heap) := by
    rw [hW1]
    exact ⟨rfl, rfl, rfl, fun cs => (congrArg World.heap (setRow_setRow w.drew g _ cs) :)⟩
  have hn1 : n - 1 ≤ c := by omega
  have hn1c : ¬ c = n - 1 := by omega
  have hnn : n - (n - 1) = 1 := by omega
  have Y : RowKit.Hid (cur.toList.take (i * 2) ++ news.toList ++ cur.toList.drop (i * 2 + news.toList.length) = cur1) := hcur1
  clear hW1 hcells hbd hnews hl h1 hfit hcur1 hc1 hb1
  go_region_law_o (refine step_run rfl (.tmp 22) (.tmp 25) 33 rfl _ _ (by simp [Act.eval, Act.put]) (by simp [Act.eval, Act.put]) (hap.out _) ?_)
  go_wp2
  go_ret
  refine ⟨rfl, X.out.1, X.out.2.1, X.out.2.2.1, ?_⟩
  rw [Y.out, List.append_assoc]
  exact X.out.2.2.2 _
end Go.Proofs.YtiphcdmjlkngfaaGreatDoor

namespace Go.Isea
open Go
def valsN : List Need → List Value
  | [] => []
  | n :: l => .string (bs n.c) :: .string (bs n.t) :: valsN l
theorem valsN_len : ∀ l, (valsN l).length = l.length * 2
  | [] => rfl
  | n :: l => by simp only [valsN, List.length_cons, valsN_len l]; omega
theorem valsN_app : ∀ a b, valsN (a ++ b) = valsN a ++ valsN b
  | [], b => rfl
  | n :: a, b => by simp only [valsN, List.cons_append, valsN_app a b]
theorem valsN_take : ∀ (l : List Need) (i : Nat), (valsN l).take (i * 2) = valsN (l.take i)
  | [], i => by simp [valsN]
  | n :: l, 0 => by simp [valsN]
  | n :: l, i + 1 => by
    have : (i + 1) * 2 = i * 2 + 1 + 1 := by omega
    rw [this]
    simp only [valsN, List.take_succ_cons, valsN_take l i]
theorem valsN_drop : ∀ (l : List Need) (i : Nat), (valsN l).drop (i * 2) = valsN (l.drop i)
  | [], i => by simp [valsN]
  | n :: l, 0 => by simp [valsN]
  | n :: l, i + 1 => by
    have : (i + 1) * 2 = i * 2 + 1 + 1 := by omega
    rw [this]
    simp only [valsN, List.drop_succ_cons, valsN_drop l i]
theorem valsN_of {K : KM} {h : AH} {w : World} : ∀ (l : List Need) (xs : List Value), xs.length = l.length * 2 →
    (∀ (i j : Nat) (r : List AV) (x : AV) (y : Value), (l.map Need.row)[i]? = some r → r[j]? = some x → xs[i * 2 + j]? = some y → Rep K h w x y) → xs = valsN l
  | [], [], _, _ => rfl
  | n :: l, [], h1, _ => by simp at h1
  | n :: l, [a], h1, _ => by simp at h1; omega
  | [], a :: xs, h1, _ => by simp at h1
  | n :: l, a :: b :: xs, h1, hr => by
    have e1 : a = .string (bs n.c) := rep_str (hr 0 0 _ _ a rfl rfl rfl)
    have e2 : b = .string (bs n.t) := rep_str (hr 0 1 _ _ b rfl rfl rfl)
    have := valsN_of l xs (by simp only [List.length_cons] at h1; omega) fun i j r x y g1 g2 g3 => hr (i + 1) j r x y g1 g2 (by
      have : (i + 1) * 2 + j = i * 2 + j + 1 + 1 := by omega
      rw [this]; exact g3)
    rw [e1, e2, this]; rfl
theorem valsN_rep {K : KM} {h : AH} {w : World} : ∀ (l : List Need) (i j : Nat) (r : List AV) (x : AV) (y : Value), (l.map Need.row)[i]? = some r → r[j]? = some x → (valsN l)[i * 2 + j]? = some y → Rep K h w x y
  | [], i, j, r, x, y, h1, _, _ => by simp at h1
  | n :: l, 0, j, r, x, y, h1, h2, h3 => by
    have h1 : n.row = r := by simpa using h1
    subst h1
    rcases j with _ | _ | j
    · simp [Need.row] at h2; simp [valsN] at h3; subst h2; subst h3; exact .v _
    · simp [Need.row] at h2; simp [valsN] at h3; subst h2; subst h3; exact .v _
    · simp [Need.row] at h2
  | n :: l, i + 1, j, r, x, y, h1, h2, h3 => valsN_rep l i j r x y h1 h2 (by
      have : (i + 1) * 2 + j = i * 2 + j + 1 + 1 := by omega
      rw [this] at h3; exact h3)
theorem valsN_one : ∀ (l : List Need), ∀ u ∈ valsN l, u.oneCell' = true
  | [], u, h => by cases h
  | n :: l, u, h => by
    simp only [valsN, List.mem_cons] at h
    rcases h with rfl | rfl | h
    · rfl
    · rfl
    · exact valsN_one l u h
theorem repL_three {K : KM} {h : AH} {w : World} {a b c : AV} {vs : Array Value} (hr : RepL K h w [a, b, c] vs) : ∃ u v x, vs = #[u, v, x] ∧ Rep K h w a u ∧ Rep K h w b v ∧ Rep K h w c x := by
  obtain ⟨hl, hc⟩ := hr
  match vs, hl with
  | ⟨[u, v, x]⟩, _ => exact ⟨u, v, x, rfl, hc 0 a u rfl rfl, hc 1 b v rfl rfl, hc 2 c x rfl rfl⟩
end Go.Isea
namespace Go.Proofs.YtiphcdmjlkngfaaGreatDoor
open Go Go.Isea
theorem l_Delete_Need (l : List Need) (t i : Nat) (h : AH) (ht : t < h.n) (ho : h.o t = .rows 28 2 (l.map Need.row)) (hi : i < l.length) :
    Isea.Good Tryz.prog 83 [.so t l.length l.length, .v (.int .i64 (i : Nat)), .v (.int .i64 ((i + 1 : Nat) : Int))] h [t] (.so t l.length (l.length - 1)) (h.set t (.rows 28 2 ((l.eraseIdx i ++ [(⟨[], []⟩ : Need)]).map Need.row))) := by
  refine ⟨⟨_, Tryz.func83, by kernel_rfl, by kernel_rfl⟩, fun K w vs hK hr => ?_⟩
  obtain ⟨u, v1, v2, rfl, hu, h1, h2⟩ := repL_three hr
  cases h1
  cases h2
  cases hu with
  | so ht' hv =>
    obtain ⟨_, hv⟩ := hv _ _ _ ho
    rw [List.length_map] at hv
    obtain ⟨_, hd⟩ := hv rfl
    have hobj := hK.obj t ht
    rw [ho] at hobj
    obtain ⟨xs, own, _, hrl, hrep⟩ := hobj
    rw [List.length_map] at own
    have hxs : xs = valsN l := valsN_of l xs own.1 hrep
    subst hxs
    rcases own.2 with ⟨_, h0⟩ | ⟨g, cap, cur, hk, _, hb, hn, hc, hcur, htake⟩
    · omega
    rw [hk] at hd
    obtain ⟨c', q1, q2, rfl⟩ := hd.out
    have hm : (maxLen : Int) = 9223372036854775807 := rfl
    have htl : ∀ j, j < l.length * 2 → cur[j]? = (valsN l)[j]? := fun j hj => by
      rw [← htake, List.getElem?_take, if_pos hj, Array.getElem?_toList]
    have hdl := valsN_len (l.drop (i + 1))
    rw [List.length_drop] at hdl
    have hw := w_Delete w g l.length c' i cur (valsN (l.drop (i + 1))).toArray hb q1 (by have : cap ≤ 9223372036854775807 := hc; omega) (Nat.le_trans (Nat.mul_le_mul_right _ q2) hcur) hi (by simpa using hdl)
      (fun j u hj => by
        have hj : (valsN (l.drop (i + 1)))[j]? = some u := by simpa using hj
        rw [← valsN_drop, List.getElem?_drop] at hj
        rw [htl _ (by have := (List.getElem?_eq_some_iff.1 hj).1; rw [valsN_len] at this; exact this)]
        exact hj) (fun u hu => valsN_one _ u (by simpa using hu))
    refine hw.mono ?_
    rintro e w' ⟨rfl, hos, htape, hout, hheap⟩
    have hE : (l.eraseIdx i).length = l.length - 1 := by rw [List.length_eraseIdx, if_pos hi]
    have hcut : cur.toList.take (i * 2) = valsN (l.take i) := by
      rw [← valsN_take, ← htake, List.take_take, Nat.min_eq_left (Nat.mul_le_mul_right _ (Nat.le_of_lt hi))]
    have hfit : l.length * 2 ≤ cur.size := Nat.le_trans (Nat.mul_le_mul_right _ hn) hcur
    obtain ⟨cur', hcur'⟩ : ∃ cur', cur' = ((cur.toList.take (i * 2) ++ (valsN (l.drop (i + 1))).toArray.toList ++ cur.toList.drop (i * 2 + (valsN (l.drop (i + 1))).toArray.toList.length)).take ((l.length - 1) * 2) ++ [Value.string ⟨#[]⟩, Value.string ⟨#[]⟩] ++ (cur.toList.take (i * 2) ++ (valsN (l.drop (i + 1))).toArray.toList ++ cur.toList.drop (i * 2 + (valsN (l.drop (i + 1))).toArray.toList.length)).drop ((l.length - 1) * 2 + 2)).toArray := ⟨_, rfl⟩
    rw [← hcur'] at hheap
    have hpre : (cur.toList.take (i * 2) ++ (valsN (l.drop (i + 1))).toArray.toList ++ cur.toList.drop (i * 2 + (valsN (l.drop (i + 1))).toArray.toList.length)).take ((l.length - 1) * 2) = valsN (l.eraseIdx i) := by
      have e0 : l.eraseIdx i = l.take i ++ l.drop (i + 1) := List.eraseIdx_eq_take_drop_succ ..
      have e1 : (valsN (l.drop (i + 1))).toArray.toList = valsN (l.drop (i + 1)) := rfl
      rw [e1, hcut, ← valsN_app, ← e0, List.take_append_of_le_length (by rw [valsN_len, hE]; exact Nat.le_refl _), List.take_of_length_le (by rw [valsN_len, hE]; exact Nat.le_refl _)]
    rw [hpre] at hcur'
    have hnew : cur'.toList.take (l.length * 2) = valsN (l.eraseIdx i ++ [(⟨[], []⟩ : Need)]) := by
      rw [hcur', valsN_app]
      show (valsN (l.eraseIdx i) ++ [Value.string ⟨#[]⟩, Value.string ⟨#[]⟩] ++ _).take _ = _
      rw [List.take_append_of_le_length (by rw [List.length_append, valsN_len, hE]; simp only [List.length_cons, List.length_nil]; omega), List.take_of_length_le (by rw [List.length_append, valsN_len, hE]; simp only [List.length_cons, List.length_nil]; omega)]
      rfl
    have hsz : cur'.size = cur.size := by
      rw [hcur']
      simp [valsN_len, hE, hdl]
      have : (l.take i).length = i := by rw [List.length_take]; omega
      omega
    have hsize : w'.heap.size = w.heap.size := by rw [hheap, size_setRow]
    have hoth : ∀ b, b < w.heap.size → blk (K t) ≠ some b → w'.heap[b]? = w.heap[b]? := fun b hlt hne => by
      rw [hheap]
      exact setRow_other w g b cur' (fun e => hne (by rw [hk, e]; rfl))
    have hgr : Grew (h.o t) (.rows 28 2 ((l.eraseIdx i ++ [(⟨[], []⟩ : Need)]).map Need.row)) (K t) (K t) := by
      rw [ho]
      refine ⟨rfl, rfl, ?_, fun _ => rfl⟩
      simp [hE]; omega
    have hbk : ∀ b, blk (K t) = some b → b < w'.heap.size ∧ (w.heap.size ≤ b ∨ blk (K t) = some b) := fun b hb2 => ⟨by rw [hsize]; exact hK.lt t b ht hb2, .inr hb2⟩
    have hlen : ((l.eraseIdx i ++ [(⟨[], []⟩ : Need)]).map Need.row).length = l.length := by simp [hE]; omega
    refine ⟨upd K t (K t), _, rfl, hK.set hos htape hout (by omega) ht hoth hgr hbk ?_, Ext.set hos htape hout (by omega) ht hoth hgr (fun b hb2 => (hbk b hb2).2), ?_⟩
    · refine ⟨valsN (l.eraseIdx i ++ [(⟨[], []⟩ : Need)]), ⟨by rw [valsN_len, List.length_map], .inr ⟨g, cap, cur', ?_, Nat.zero_le _, ?_, ?_, hc, ?_, ?_⟩⟩, by decide, ?_, fun i j r x y => valsN_rep _ i j r x y⟩
      · rw [hlen, hk]
      · rw [hheap]; exact setRow_heap _ g cur _ _ _ hb
      · rw [hlen]; exact hn
      · rw [hsz]; exact hcur
      · rw [hlen]; exact hnew
      · intro r hr
        obtain ⟨m, _, rfl⟩ := List.mem_map.1 hr
        rfl
    · refine .so ht fun e' sz' rs' he => ?_
      have he : upd h.o t _ t = _ := he
      rw [upd_same] at he
      injection he with e1 e2 e3
      subst e1; subst e2; subst e3
      rw [hlen]
      refine ⟨Nat.le_refl _, fun _ => ⟨Nat.sub_le _ _, ?_⟩⟩
      rw [upd_same, hk]
      exact ⟨_, _, _, c', rfl, by omega, q2, rfl⟩
end Go.Proofs.YtiphcdmjlkngfaaGreatDoor

namespace Go.Proofs.YtiphcdmjlkngfaaGreatDoor
open Go Go.Isea
set_option maxRecDepth 100000
set_option maxHeartbeats 8000000
theorem s_LeastGivens (w : Wld) (gs : List Need) (h : AH) (hw : w.Sm) (hgl : gs.length ≤ 4611686018427387904) (hgs : ∀ g ∈ gs, g.Sm) : Isea.Good Tryz.prog 30 [.agg w.row, .sl (gs.map Need.row)] h [] (.tup [.sl (((leastGivens w gs).getD []).map Need.row), .v (.bool (leastGivens w gs).isSome)]) h := by
  have hV := fun H => s_GivensValid w gs H hw hgl hgs
  cases e : givensOk w gs with
  | false =>
    have er : leastGivens w gs = none := by unfold leastGivens; rw [if_neg (by rw [e]; simp)]
    rw [er]
    refine good [] [(7, OT.o 1 (OT.o 2 (OT.o 3 (OT.o 5 (OT.o 6 (OT.o 7 (OT.o 8 (OT.o 0 (OT.o 4 (OT.o 9 (OT.o 10 OT.e)))))))))))] Tryz.func30 rfl rfl Tryz.ntmps30 (by kernel_rfl) mixed (by kernel_rfl) ?_
    simp -dsimp only [go_sem, Wld.row] at hV ⊢
    refine call_pure (hV _) ?_
    rw [e]
    simp -dsimp only [go_sem]
    exact fin_pure (by simp -dsimp only [go_sem]) (by simp -dsimp only [go_sem, Option.getD_none, Option.isSome_none, List.map_nil])
  | true =>
    have er : leastGivens w gs = some (leastG w gs.length gs) := by unfold leastGivens; rw [if_pos e]
    have h6 : gs.length ≤ 6 := by have := e; simp only [givensOk, Bool.and_eq_true, decide_eq_true_eq] at this; exact this.2
    have e6 : (0 + gs.length) * 32 ≤ 140737488355328 := by omega
    have e6' : gs.length * 32 ≤ 140737488355328 := by omega
    have hwr0 : IntKind.i64.wrap (((gs.length : Nat) : Int) - 1) = ((gs.length : Nat) : Int) - 1 := by rw [wrap_i64] <;> omega
    rw [er]
    generalize hT : leastG w gs.length gs = T
    refine good [] [(7, OT.o 1 (OT.o 2 (OT.o 3 (OT.o 5 (OT.o 6 (OT.o 7 (OT.o 8 (OT.o 0 (OT.o 4 (OT.o 9 (OT.o 10 OT.e)))))))))))] Tryz.func30 rfl rfl Tryz.ntmps30 (by kernel_rfl) mixed (by kernel_rfl) ?_
    simp -dsimp only [go_sem, Wld.row] at hV ⊢
    refine call_pure (hV _) ?_
    rw [e]
    simp -dsimp only [go_sem, List.length_map, e6, e6', hwr0]
    refine loop_ruleH [2] (fun (y : {y : Nat × List Need // y.1 ≤ y.2.length ∧ T = leastG w y.1 y.2 ∧ y.2.length ≤ 6 ∧ ∀ g ∈ y.2, g.Sm}) H => ([(6, .sl (y.1.2.map Need.row)), (7, .v (.int .i64 (((y.1.1 : Nat) : Int) - 1)))], h)) (fun y => y.1.1) ⟨(gs.length, gs), Nat.le_refl _, hT.symm, h6, hgs⟩ ?_ ?_
    · refine weak_objs [] (by simp -dsimp only [go_sem]) (by simp -dsimp only [go_sem]) (by simp -dsimp only [go_sem, List.length_map]) ?_ ?_ ?_
      · intro t h1 h2
        have a1 : ¬ t = h.n := by omega
        simp -dsimp only [go_sem, a1]
      · intro x h1 h2; have h1 : x < h.n := h1; simp at h2; omega
      · simp -dsimp only [go_sem]
    · rintro ⟨⟨k, l⟩, hk, heq, hl6, hls⟩
      have hk : k ≤ l.length := hk
      have heq : T = leastG w k l := heq
      clear hT
      have hl6 : l.length ≤ 6 := hl6
      have hls : ∀ g ∈ l, g.Sm := hls
      cases k with
      | zero =>
        have c0 : ¬ (0 : Int) ≤ ((0 : Nat) : Int) - 1 := by omega
        have heq : T = l := heq
        subst heq
        simp -dsimp only [go_sem, c0]
        exact fin_pure (by simp -dsimp only [go_sem]) (by simp -dsimp only [go_sem, Option.getD_some, Option.isSome_some])
      | succ k =>
        have hlt : k < l.length := hk
        obtain ⟨g, hg⟩ := get_some hlt
        have ek : (((k + 1 : Nat) : Int) - 1) = ((k : Nat) : Int) := by omega
        have hle : k ≤ l.length := by omega
        have hle1 : k + 1 ≤ l.length := hlt
        have hk1 : k + 1 ≤ 9223372036854775807 := by omega
        have hwr : IntKind.i64.wrap (((k : Nat) : Int) - 1) = ((k : Nat) : Int) - 1 := by rw [wrap_i64] <;> omega
        have hF := fun H => s_Follows w (l.eraseIdx k) g H hw (by have := List.length_eraseIdx_le l k; omega) (fun x hx => hls x (mem_erase hx)) (hls g (List.mem_of_getElem? hg))
        have e1 : (l.take k).length = k := by rw [List.length_take]; omega
        have e2 : (0 + k) * 32 ≤ 140737488355328 := by omega
        have e2' : k * 32 ≤ 140737488355328 := by omega
        have e3 : (k + (l.length - (k + 1))) * 32 ≤ 140737488355328 := by omega
        have er2 : (l.take k).map Need.row ++ (l.drop (k + 1)).map Need.row = (l.eraseIdx k).map Need.row := by rw [erase_eq, List.map_append]
        have el : k + (l.length - (k + 1)) = (l.eraseIdx k).length := by rw [erase_eq, List.length_append, List.length_take, List.length_drop]; omega
        rw [leastG_succ hg] at heq
        have etk : (l.drop (k + 1)).take (l.length - (k + 1)) = l.drop (k + 1) := List.take_of_length_le (by rw [List.length_drop]; exact Nat.le_refl _)
        simp -dsimp only [go_sem, ek, hle, hle1, hk1, e1, e2, e2', e3, hg, etk, el, er2, List.length_map, List.length_drop, Need.row] at hF ⊢
        have e3' : (l.eraseIdx k).length * 32 ≤ 140737488355328 := by rw [← el]; exact e3
        simp -dsimp only [go_sem, e3', er2]
        refine call_pure (Good.frozen (hF ⟨0, h.o⟩) (.v _) (FzL.cons ?_ (FzL.cons ?_ (FzL.cons ?_ FzL.nil)))) ?_
        · simp -dsimp only [go_sem, Wld.row]
        · refine fz_rowsL (e := 28) (sz := 2) ?_ (of_eq_true puR_needs)
          simp -dsimp only [go_sem]
        · simp -dsimp only [go_sem]
        by_cases hfw : (findGiven w (l.eraseIdx k) g).2 = []
        · rw [if_pos hfw] at heq
          simp -dsimp only [go_sem, hfw, hwr]
          refine round_to ⟨(k, l.eraseIdx k), by simp only; rw [← el]; omega, heq, by simp only; rw [← el]; omega, fun x hx => hls x (mem_erase hx)⟩ (by simp) ?_
          refine weak_objs [] (by simp -dsimp only [go_sem]) (by simp -dsimp only [go_sem]) (by simp -dsimp only [go_sem, List.length_map]) ?_ ?_ ?_
          · intro t h1 h2
            have a1 : ¬ t = h.n := by omega
            simp -dsimp only [go_sem, a1]
          · intro x h1 h2; have h1 : x < h.n := h1; simp at h2; omega
          · simp -dsimp only [go_sem]
        · rw [if_neg hfw] at heq
          simp -dsimp only [go_sem, hfw, hwr]
          refine round_to ⟨(k, l), by simp only; omega, heq, hl6, hls⟩ (by simp) ?_
          refine weak_objs [] (by simp -dsimp only [go_sem]) (by simp -dsimp only [go_sem]) (by simp -dsimp only [go_sem, List.length_map]) ?_ ?_ ?_
          · intro t h1 h2
            have a1 : ¬ t = h.n := by omega
            simp -dsimp only [go_sem, a1]
          · intro x h1 h2; have h1 : x < h.n := h1; simp at h2; omega
          · simp -dsimp only [go_sem]
end Go.Proofs.YtiphcdmjlkngfaaGreatDoor

namespace Go.Proofs.YtiphcdmjlkngfaaGreatDoor
open Go Go.Isea
set_option maxRecDepth 100000
set_option maxHeartbeats 8000000
theorem i_LeastGivens1 (w : Wld) (gs : List Need) (h : AH) (hw : w.Sm) (hgl : gs.length ≤ 4611686018427387904) (hgs : ∀ g ∈ gs, g.Sm) (e : givensOk w gs = true) :
    Isea.Good Tryz.prog 29 [.agg w.row, .sl (gs.map Need.row)] h [] (.tup [.so (h.n + (leastM w gs.length ([gs], 0, gs.length)).2.1) (((leastM w gs.length ([gs], 0, gs.length)).1[(leastM w gs.length ([gs], 0, gs.length)).2.1]?).getD []).length (leastM w gs.length ([gs], 0, gs.length)).2.2, .v (.bool true)])
      (memR 28 h (leastM w gs.length ([gs], 0, gs.length)).1) := by
  have hV := fun H => i_GivensValid w gs H hw hgl hgs
  have h6 : gs.length ≤ 6 := by have := e; simp only [givensOk, Bool.and_eq_true, decide_eq_true_eq] at this; exact this.2
  have hC0 := fun H => l_CloneA_Need gs H (by omega)
  have hwr0 : IntKind.i64.wrap (((gs.length : Nat) : Int) - 1) = ((gs.length : Nat) : Int) - 1 := by rw [wrap_i64] <;> omega
  have hok0 : lsOk ([gs], 0, gs.length) := ⟨by simp, by simp⟩
  have hv0 : lsVal ([gs], 0, gs.length) = gs := by unfold lsVal; simp
  generalize hT : leastM w gs.length ([gs], 0, gs.length) = T
  refine good [] [] Tryz.func29 rfl rfl Tryz.ntmps29 (by kernel_rfl) mixed (by kernel_rfl) ?_
  simp -dsimp only [go_sem, Wld.row] at hV hC0 ⊢
  refine call_pure (hV _) ?_
  rw [e]
  simp -dsimp only [go_sem]
  refine call_pure (hC0 _) ?_
  simp -dsimp only [go_sem, hwr0]
  refine loop_ruleH [2] (fun (y : {y : Nat × LsT // y.1 ≤ (lsVal y.2).length ∧ T = leastM w y.1 y.2 ∧ lsOk y.2 ∧ (lsVal y.2).length ≤ 6 ∧ ∀ g ∈ lsVal y.2, g.Sm}) H => ([(6, .so (h.n + y.1.2.2.1) ((y.1.2.1[y.1.2.2.1]?).getD []).length y.1.2.2.2), (7, .v (.int .i64 (((y.1.1 : Nat) : Int) - 1)))], memR 28 h y.1.2.1)) (fun y => y.1.1) ⟨(gs.length, [gs], 0, gs.length), by rw [hv0]; exact Nat.le_refl _, hT.symm, hok0, by rw [hv0]; exact h6, by rw [hv0]; exact hgs⟩ ?_ ?_
  · refine weak_objs [h.n] (by simp -dsimp only [go_sem]) (by simp -dsimp only [go_sem]) (by simp -dsimp only [go_sem, List.length_map, Option.getD_some]) ?_ ?_ ?_
    · intro t h1 h2
      have a1 : ¬ t = h.n := by omega
      show (if t < h.n then h.o t else _) = _
      rw [if_pos h1, upd_ne _ _ a1]
    · intro x h1 h2; have h1 : x < h.n + 1 := h1; simp at h2 ⊢; omega
    · simp -dsimp only [go_sem, Nat.lt_irrefl, if_false, Nat.sub_self, List.getElem?_cons_zero, Option.getD_some]
  · rintro ⟨⟨k, s⟩, hk, heq, hso, hl6, hls⟩
    have hk : k ≤ (lsVal s).length := hk
    have heq : T = leastM w k s := heq
    clear hT
    have hso : lsOk s := hso
    have hl6 : (lsVal s).length ≤ 6 := hl6
    have hls : ∀ g ∈ lsVal s, g.Sm := hls
    obtain ⟨Ls, a, len⟩ := s
    have hat := memR_at (e := 28) (h := h) (Ls := Ls) (a := a)
    have ha : a < Ls.length := hso.1
    have hlen : len ≤ ((Ls[a]?).getD []).length := hso.2
    have hvl := lsVal_len hso
    have hvd : lsVal (Ls, a, len) = ((Ls[a]?).getD []).take len := rfl
    have hnn : (memR 28 h Ls).n = h.n + Ls.length := rfl
    cases k with
    | zero =>
      have c0 : ¬ (0 : Int) ≤ ((0 : Nat) : Int) - 1 := by omega
      have heq : T = (Ls, a, len) := heq
      subst heq
      have hcur : isCur ((Ls[a]?).getD []).length ((memR 28 h Ls).o (h.n + a)) = true := by rw [hat]; simp [isCur]
      simp -dsimp only [go_sem, c0, hcur]
      refine ⟨by show h.n ≤ h.n + Ls.length; omega, Nat.le_refl _, ?_, fun t h1 _ => memR_lo h1, fun t h1 h2 => ?_⟩
      · have hlt : h.n + a < h.n + Ls.length := by omega
        have hlt' : h.n + a < (memR 28 h Ls).n := hlt
        simp -dsimp only [go_sem, hlt', hlt]
      · have h2 : h.n ≤ t := by
          rcases h2 with h2 | h2
          · cases h2
          · exact h2
        obtain ⟨d, rfl⟩ : ∃ d, t = h.n + d := ⟨t - h.n, by omega⟩
        rw [memR_at]
        exact of_eq_true (objFz_r (of_eq_true puR_needs))
    | succ k =>
      have hlt : k < (lsVal (Ls, a, len)).length := hk
      obtain ⟨g, hg⟩ := get_some hlt
      have hg' : ((Ls[a]?).getD [])[k]? = some g := by
        rw [hvd, List.getElem?_take] at hg
        split at hg
        · exact hg
        · cases hg
      have hkl : k < len := by rw [hvl] at hlt; exact hlt
      rw [leastM_succ hg] at heq
      obtain ⟨hok', hval'⟩ := lsNext_ok (w := w) (g := g) hso hlt
      have ek : (((k + 1 : Nat) : Int) - 1) = ((k : Nat) : Int) := by omega
      have hk1 : k + 1 ≤ 9223372036854775807 := by omega
      have hwr : IntKind.i64.wrap (((k : Nat) : Int) - 1) = ((k : Nat) : Int) - 1 := by rw [wrap_i64] <;> omega
      have hC : Isea.Good Tryz.prog 82 [.so (h.n + a) ((Ls[a]?).getD []).length len] (memR 28 h Ls) [] (.so (h.n + Ls.length) (lsVal (Ls, a, len)).length (lsVal (Ls, a, len)).length) (memR 28 h (Ls ++ [lsVal (Ls, a, len)])) := by
        rw [← memR_push rfl]
        refine Good.liftSo (fun o => l_CloneA_Need (lsVal (Ls, a, len)) ⟨0, o⟩ (by omega)) (FzL.cons ?_ FzL.nil) (VR.map fun a x hx => by
          simp [Need.row] at hx
          rcases hx with rfl | rfl <;> exact ⟨_, rfl⟩)
        rw [hvd, List.map_take]
        exact Fz.so_lo_take (Nat.zero_le _) hat (List.length_map ..) hlen (of_eq_true puR_needs 0)
      have hD : Isea.Good Tryz.prog 83 [.so (h.n + Ls.length) (lsVal (Ls, a, len)).length (lsVal (Ls, a, len)).length, .v (.int .i64 (k : Nat)), .v (.int .i64 ((k : Int) + 1))] (memR 28 h (Ls ++ [lsVal (Ls, a, len)])) [h.n + Ls.length] (.so (h.n + Ls.length) (lsVal (Ls, a, len)).length ((lsVal (Ls, a, len)).length - 1)) (memR 28 h (Ls ++ [(lsVal (Ls, a, len)).eraseIdx k ++ [⟨[], []⟩]])) := by
        have := l_Delete_Need (lsVal (Ls, a, len)) (h.n + Ls.length) k (memR 28 h (Ls ++ [lsVal (Ls, a, len)])) (by show h.n + Ls.length < h.n + (Ls ++ [_]).length; simp) (by rw [memR_at, List.getElem?_append_right (Nat.le_refl _), Nat.sub_self]; rfl) hlt
        rw [memR_set rfl] at this
        exact this
      have hE : ((lsVal (Ls, a, len)).eraseIdx k).length = (lsVal (Ls, a, len)).length - 1 := by rw [List.length_eraseIdx, if_pos hlt]
      have hat2 : (memR 28 h (Ls ++ [(lsVal (Ls, a, len)).eraseIdx k ++ [(⟨[], []⟩ : Need)]])).o (h.n + a) = .rows 28 2 (((Ls[a]?).getD []).map Need.row) := by
        rw [memR_at, List.getElem?_append_left ha]
      have hat3 : (memR 28 h (Ls ++ [(lsVal (Ls, a, len)).eraseIdx k ++ [(⟨[], []⟩ : Need)]])).o (h.n + Ls.length) = .rows 28 2 (((lsVal (Ls, a, len)).eraseIdx k ++ [(⟨[], []⟩ : Need)]).map Need.row) := by
        rw [memR_at, List.getElem?_append_right (Nat.le_refl _), Nat.sub_self]; rfl
      have hF : ∀ H : AH, H.o (h.n + Ls.length) = .rows 28 2 (((lsVal (Ls, a, len)).eraseIdx k ++ [(⟨[], []⟩ : Need)]).map Need.row) → Isea.Good Tryz.prog 84 [.agg w.row, .so (h.n + Ls.length) (lsVal (Ls, a, len)).length ((lsVal (Ls, a, len)).length - 1), .agg g.row] H [] (.v (.bool (decide ((findGiven w ((lsVal (Ls, a, len)).eraseIdx k) g).2 = [])))) H := fun H hH => by
        have h0 := i_Follows w ((lsVal (Ls, a, len)).eraseIdx k) g ⟨0, H.o⟩ hw (by omega) (fun x hx => hls x (mem_erase hx)) (hls g (List.mem_of_getElem? hg))
        refine Good.frozen h0 (.v _) (FzL.cons ?_ (FzL.cons ?_ (FzL.cons ?_ FzL.nil)))
        · simp -dsimp only [go_sem, Wld.row]
        · have := Fz.so_lo_take (m := 0) (h := H) (Nat.zero_le _) hH (by rw [List.length_map, List.length_append, hE]; simp only [List.length_cons, List.length_nil]; omega) (Nat.sub_le (lsVal (Ls, a, len)).length 1) (of_eq_true puR_needs 0)
          rw [← List.map_take, List.take_append_of_le_length (by omega), List.take_of_length_le (by omega)] at this
          exact this
        · simp -dsimp only [go_sem, Need.row]
      simp -dsimp only [go_sem, ek, hk1, hwr]
      refine call_pure hC ?_
      simp -dsimp only [go_sem, hk1]
      refine call_one hD (.inl (Nat.le_add_right _ _)) (by simp) ?_
      have hkl' : k < ((Ls[a]?).getD []).length := by omega
      have hAL : (∀ (r : List AV), r ∈ List.map Need.row ((Ls[a]?).getD []) → r.length = 2) = True := eq_true fun r hr => by obtain ⟨j, _, rfl⟩ := List.mem_map.1 hr; rfl
      have hF1 := hF _ hat3
      simp -dsimp only [go_sem, hat2, hkl, hkl', hg', hAL, Need.row] at hF1 ⊢
      refine call_pure hF1 ?_
      have hlast : (Ls ++ [(lsVal (Ls, a, len)).eraseIdx k ++ [(⟨[], []⟩ : Need)]])[Ls.length]? = some ((lsVal (Ls, a, len)).eraseIdx k ++ [(⟨[], []⟩ : Need)]) := by
        rw [List.getElem?_append_right (Nat.le_refl _), Nat.sub_self]; rfl
      have hsame : (Ls ++ [(lsVal (Ls, a, len)).eraseIdx k ++ [(⟨[], []⟩ : Need)]])[a]? = Ls[a]? := List.getElem?_append_left ha
      have hll : ((lsVal (Ls, a, len)).eraseIdx k ++ [(⟨[], []⟩ : Need)]).length = (lsVal (Ls, a, len)).length := by rw [List.length_append, hE]; simp only [List.length_cons, List.length_nil]; omega
      have hn1 : h.n + Ls.length < (memR 28 h (Ls ++ [(lsVal (Ls, a, len)).eraseIdx k ++ [(⟨[], []⟩ : Need)]])).n := by show h.n + Ls.length < h.n + (Ls ++ [_]).length; simp
      have hn2 : h.n + a < (memR 28 h (Ls ++ [(lsVal (Ls, a, len)).eraseIdx k ++ [(⟨[], []⟩ : Need)]])).n := by omega
      have hlow : ∀ t, t < h.n → (memR 28 h (Ls ++ [(lsVal (Ls, a, len)).eraseIdx k ++ [(⟨[], []⟩ : Need)]])).o t = h.o t := fun t h1 => memR_lo h1
      have hweak : ∀ t, t < (memR 28 h (Ls ++ [(lsVal (Ls, a, len)).eraseIdx k ++ [(⟨[], []⟩ : Need)]])).n → (t ∈ ([] : List Nat) ∨ h.n ≤ t) → ObjFz (memR 28 h (Ls ++ [(lsVal (Ls, a, len)).eraseIdx k ++ [(⟨[], []⟩ : Need)]])) (memR 28 h (Ls ++ [(lsVal (Ls, a, len)).eraseIdx k ++ [(⟨[], []⟩ : Need)]])).n ((memR 28 h (Ls ++ [(lsVal (Ls, a, len)).eraseIdx k ++ [(⟨[], []⟩ : Need)]])).o t) ((memR 28 h (Ls ++ [(lsVal (Ls, a, len)).eraseIdx k ++ [(⟨[], []⟩ : Need)]])).o t) := fun t h1 h2 => by
        have h2 : h.n ≤ t := by
          rcases h2 with h2 | h2
          · cases h2
          · exact h2
        obtain ⟨d, rfl⟩ : ∃ d, t = h.n + d := ⟨t - h.n, by omega⟩
        rw [memR_at]
        exact of_eq_true (objFz_r (of_eq_true puR_needs))
      by_cases hfw : (findGiven w ((lsVal (Ls, a, len)).eraseIdx k) g).2 = []
      · have hnx : lsNext w k g (Ls, a, len) = (Ls ++ [(lsVal (Ls, a, len)).eraseIdx k ++ [⟨[], []⟩]], Ls.length, (lsVal (Ls, a, len)).length - 1) := by unfold lsNext; rw [if_pos hfw]
        rw [hnx] at heq hok' hval'
        rw [if_pos hfw] at hval'
        simp -dsimp only [go_sem, hfw, hwr]
        refine round_to ⟨(k, (Ls ++ [(lsVal (Ls, a, len)).eraseIdx k ++ [⟨[], []⟩]], Ls.length, (lsVal (Ls, a, len)).length - 1)), by simp only [hval', hE]; omega, heq, hok', by simp only [hval', hE]; omega, by simp only [hval']; exact fun x hx => hls x (mem_erase hx)⟩ (by simp) ?_
        refine ⟨Nat.le_add_right _ _, Nat.le_refl _, ?_, fun _ _ _ => rfl, hweak⟩
        simp -dsimp only [go_sem, hlast, Option.getD_some, hll, hn1]
      · have hnx : lsNext w k g (Ls, a, len) = (Ls ++ [(lsVal (Ls, a, len)).eraseIdx k ++ [⟨[], []⟩]], a, len) := by unfold lsNext; rw [if_neg hfw]
        rw [hnx] at heq hok' hval'
        rw [if_neg hfw] at hval'
        simp -dsimp only [go_sem, hfw, hwr]
        refine round_to ⟨(k, (Ls ++ [(lsVal (Ls, a, len)).eraseIdx k ++ [⟨[], []⟩]], a, len)), by simp only [hval']; omega, heq, hok', by simp only [hval']; omega, by simp only [hval']; exact hls⟩ (by simp) ?_
        refine ⟨Nat.le_add_right _ _, Nat.le_refl _, ?_, fun _ _ _ => rfl, hweak⟩
        simp -dsimp only [go_sem, hsame, hn2]
theorem i_LeastGivens (w : Wld) (gs : List Need) (h : AH) (hw : w.Sm) (hgl : gs.length ≤ 4611686018427387904) (hgs : ∀ g ∈ gs, g.Sm) : Isea.Good Tryz.prog 29 [.agg w.row, .sl (gs.map Need.row)] h [] (.tup [.so h.n ((leastGivens w gs).getD []).length ((leastGivens w gs).getD []).length, .v (.bool (leastGivens w gs).isSome)]) (h.push (.rows 28 2 (((leastGivens w gs).getD []).map Need.row))) := by
  have hV := fun H => i_GivensValid w gs H hw hgl hgs
  cases e : givensOk w gs with
  | false =>
    have er : leastGivens w gs = none := by unfold leastGivens; rw [if_neg (by rw [e]; simp)]
    rw [er]
    refine Good.ghostR2 (h' := h) (by decide) ?_
    refine good [] [] Tryz.func29 rfl rfl Tryz.ntmps29 (by kernel_rfl) mixed (by kernel_rfl) ?_
    simp -dsimp only [go_sem, Wld.row] at hV ⊢
    refine call_pure (hV _) ?_
    rw [e]
    simp -dsimp only [go_sem]
    exact fin_pure (by simp -dsimp only [go_sem]) (by simp -dsimp only [go_sem, Option.getD_none, Option.isSome_none, List.map_nil])
  | true =>
    have er : leastGivens w gs = some (leastG w gs.length gs) := by unfold leastGivens; rw [if_pos e]
    have h1 := i_LeastGivens1 w gs h hw hgl hgs e
    have hv0 : lsVal ([gs], 0, gs.length) = gs := by unfold lsVal; simp
    obtain ⟨ho, hv⟩ := leastM_ok (w := w) gs.length ([gs], 0, gs.length) ⟨by simp, by simp⟩ (by rw [hv0]; exact Nat.le_refl _)
    rw [hv0] at hv
    rw [er, ← hv]
    generalize leastM w gs.length ([gs], 0, gs.length) = T at h1 ho
    have hl := lsVal_len ho
    have := h1.cutSo (Nat.le_add_right _ _) (Nat.add_lt_add_left ho.1 _) memR_at (List.length_map ..) ho.2 (VR.map fun a x hx => by
          simp [Need.row] at hx
          rcases hx with rfl | rfl <;> exact ⟨_, rfl⟩)
    rw [← List.map_take] at this
    simp only [Option.getD_some, Option.isSome_some]
    rw [hl]
    exact this
end Go.Proofs.YtiphcdmjlkngfaaGreatDoor
