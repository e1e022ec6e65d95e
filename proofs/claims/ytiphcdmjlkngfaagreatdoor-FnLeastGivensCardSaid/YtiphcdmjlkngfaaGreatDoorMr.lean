/- Contracts of functions of this program, for all arguments that satisfy what each lemma asks for. -/
import Derived.Test.YtiphcdmjlkngfaaGreatDoorMi
import Derived.Test.YtiphcdmjlkngfaaGreatDoorMk
import Derived.Test.YtiphcdmjlkngfaaGreatDoorMe
set_option linter.all false
namespace Go.Isea
open Go
def onceL (l : List Need) (n : Need) : List Need := if n ∈ l then l else l ++ [n]
def onceA (l : List Need) : List Need → List Need
  | [] => l
  | n :: ns => onceA (onceL l n) ns
abbrev RdS := List Need × Nat
def redL (fd : Need → RdS → Bool × RdS) : List Need → RdS → Bool × RdS
  | [], s => (true, s)
  | m :: ms, s => if (fd m s).1 = true then redL fd ms (fd m s).2 else (false, (fd m s).2)
def redB (fd : Need → RdS → Bool × RdS) (w : Wld) (n : Need) (s : RdS) : Bool × RdS := match candIx w n with
  | [k] => if 300 ≤ s.2 then (false, s) else (match w.is[k]? with
    | some i => (match needsOf i n.t with
      | some ms => redL fd ms (s.1, s.2 + 1)
      | none => (false, (s.1, s.2 + 1)))
    | none => (false, s))
  | _ => (false, s)
def redF (w : Wld) : Nat → Need → RdS → Bool × RdS
  | 0, n, s => if isV (n.t.headD 0) = true then (true, (onceL s.1 n, s.2)) else (false, s)
  | f + 1, n, s => if isV (n.t.headD 0) = true then (true, (onceL s.1 n, s.2)) else redB (redF w f) w n s
def reduceN (w : Wld) (n : Need) : Option (List Need) := if (worldOk w && needOk w n) = true then (if (redF w 31 n ([], 0)).1 = true then some (redF w 31 n ([], 0)).2.1 else none) else none
/-- the needs for the gaps, behind those that an instance has -/
def fullL (w : Wld) (x : Inst) : L8 → List Need → Option (List Need)
  | [], l => some l
  | d :: ds, l => match reduceN w ⟨[d], x.t⟩ with
    | some r => fullL w x ds (onceA l r)
    | none => none
def fullN (w : Wld) (i : Int) : Option (List Need) := match instAt w i with
  | some x => fullL w x (gapL w x) x.ns
  | none => none
def closedB (w : Wld) : Bool := worldOk w && decide (gapsOf w = [])
def closeL' (w : Wld) : List Inst → Nat → Option (List Inst)
  | [], _ => some []
  | x :: xs, k => match fullN w (k : Nat), closeL' w xs (k + 1) with
    | some ns, some r => some (⟨x.c, x.t, ns⟩ :: r)
    | _, _ => none
def closeW (w : Wld) : Option Wld := if worldOk w = true then (match closeL' w w.is 0 with
  | some is => if closedB ⟨w.cs, is⟩ = true then some ⟨w.cs, is⟩ else none
  | none => none) else none
def leastG (w : Wld) : Nat → List Need → List Need
  | 0, l => l
  | k + 1, l => leastG w k (match l[k]? with
    | some g => if (findGiven w (l.eraseIdx k) g).2 = [] then l.eraseIdx k else l
    | none => l)
def leastGivens (w : Wld) (gs : List Need) : Option (List Need) := if givensOk w gs = true then some (leastG w gs.length gs) else none
end Go.Isea

namespace Go.Isea
open Go
/-- how much a need adds: leaves against inner ones -/
def RBd (k : Nat) (s r : RdS) : Prop := r.1.length + 2 * s.2 ≤ s.1.length + k + 2 * r.2 ∧ s.2 ≤ r.2 ∧ (s.2 ≤ 300 → r.2 ≤ 300)
theorem RBd.rfl' {k : Nat} (s : RdS) : RBd k s s := ⟨by omega, Nat.le_refl _, id⟩
end Go.Isea

namespace Go.Isea
open Go
theorem erase_eq {α : Type} (l : List α) (k : Nat) : l.eraseIdx k = l.take k ++ l.drop (k + 1) := List.eraseIdx_eq_take_drop_succ ..
theorem leastG_succ {w : Wld} {k : Nat} {l : List Need} {g : Need} (h : l[k]? = some g) : leastG w (k + 1) l = leastG w k (if (findGiven w (l.eraseIdx k) g).2 = [] then l.eraseIdx k else l) := by
  show leastG w k (match l[k]? with | some g => if (findGiven w (l.eraseIdx k) g).2 = [] then l.eraseIdx k else l | none => l) = _
  rw [h]
theorem mem_erase {l : List Need} {k : Nat} {x : Need} (h : x ∈ l.eraseIdx k) : x ∈ l := List.mem_of_mem_eraseIdx h
end Go.Isea

namespace Go.Isea
open Go
/-- rows of needs, one after another, above a memory -/
def memR (e : Nat) (h : AH) (Ls : List (List Need)) : AH := ⟨h.n + Ls.length, fun t => if t < h.n then h.o t else .rows e 2 (((Ls[t - h.n]?).getD []).map Need.row)⟩
theorem memR_lo {e : Nat} {h : AH} {Ls : List (List Need)} {t : Nat} (ht : t < h.n) : (memR e h Ls).o t = h.o t := if_pos ht
theorem memR_at {e : Nat} {h : AH} {Ls : List (List Need)} {a : Nat} : (memR e h Ls).o (h.n + a) = .rows e 2 (((Ls[a]?).getD []).map Need.row) := by
  show (if h.n + a < h.n then _ else _) = _
  rw [if_neg (by omega), Nat.add_sub_cancel_left]
theorem memR_push {e : Nat} {h : AH} {Ls : List (List Need)} {x : List Need} {n : Nat} (hn : n = 2) : (memR e h Ls).push (.rows e n (x.map Need.row)) = memR e h (Ls ++ [x]) := by
  subst hn
  unfold AH.push memR
  simp only [List.length_append, List.length_cons, List.length_nil, AH.mk.injEq]
  refine ⟨rfl, funext fun t => ?_⟩
  unfold upd
  dsimp only
  by_cases h1 : t < h.n
  · rw [if_neg (by omega), if_pos h1, if_pos h1]
  · rw [if_neg h1, if_neg h1]
    by_cases h2 : t = h.n + Ls.length
    · subst h2
      rw [if_pos rfl, Nat.add_sub_cancel_left, List.getElem?_append_right (Nat.le_refl _), Nat.sub_self]
      rfl
    · rw [if_neg h2]
      by_cases h3 : t - h.n < Ls.length
      · rw [List.getElem?_append_left h3]
      · rw [List.getElem?_eq_none (by omega), List.getElem?_eq_none (by simp; omega)]
theorem memR_set {e : Nat} {h : AH} {Ls : List (List Need)} {x y : List Need} {n : Nat} (hn : n = 2) : (memR e h (Ls ++ [x])).set (h.n + Ls.length) (.rows e n (y.map Need.row)) = memR e h (Ls ++ [y]) := by
  rw [← memR_push rfl, ← memR_push rfl]
  subst hn
  unfold AH.set AH.push
  simp only [AH.mk.injEq]
  refine ⟨trivial, funext fun t => ?_⟩
  show upd (upd _ (h.n + Ls.length) _) _ _ t = upd _ (h.n + Ls.length) _ t
  unfold upd
  split <;> rfl
/-- rows, the row that is left, its length -/
abbrev LsT := List (List Need) × Nat × Nat
def lsVal (s : LsT) : List Need := ((s.1[s.2.1]?).getD []).take s.2.2
def lsOk (s : LsT) : Prop := s.2.1 < s.1.length ∧ s.2.2 ≤ ((s.1[s.2.1]?).getD []).length
def lsNext (w : Wld) (k : Nat) (g : Need) (s : LsT) : LsT :=
  if (findGiven w ((lsVal s).eraseIdx k) g).2 = [] then (s.1 ++ [(lsVal s).eraseIdx k ++ [⟨[], []⟩]], s.1.length, (lsVal s).length - 1) else (s.1 ++ [(lsVal s).eraseIdx k ++ [⟨[], []⟩]], s.2.1, s.2.2)
def leastM (w : Wld) : Nat → LsT → LsT
  | 0, s => s
  | k + 1, s => match (lsVal s)[k]? with
    | some g => leastM w k (lsNext w k g s)
    | none => leastM w k s
theorem leastM_succ {w : Wld} {k : Nat} {s : LsT} {g : Need} (h : (lsVal s)[k]? = some g) : leastM w (k + 1) s = leastM w k (lsNext w k g s) := by
  show (match (lsVal s)[k]? with | some g => leastM w k (lsNext w k g s) | none => leastM w k s) = _
  rw [h]
theorem lsVal_len {s : LsT} (h : lsOk s) : (lsVal s).length = s.2.2 := by unfold lsVal; rw [List.length_take]; exact Nat.min_eq_left h.2
theorem lsNext_ok {w : Wld} {k : Nat} {g : Need} {s : LsT} (h : lsOk s) (hk : k < (lsVal s).length) : lsOk (lsNext w k g s) ∧ lsVal (lsNext w k g s) = if (findGiven w ((lsVal s).eraseIdx k) g).2 = [] then (lsVal s).eraseIdx k else lsVal s := by
  have hE : ((lsVal s).eraseIdx k).length = (lsVal s).length - 1 := by rw [List.length_eraseIdx, if_pos hk]
  unfold lsNext
  split
  · refine ⟨⟨by simp, ?_⟩, ?_⟩
    · simp [hE]
    · unfold lsVal
      simp only [List.getElem?_append_right (Nat.le_refl _), Nat.sub_self, List.getElem?_cons_zero, Option.getD_some]
      rw [List.take_append_of_le_length (by have := hE; unfold lsVal at this; omega)]
      exact List.take_of_length_le (by have := hE; unfold lsVal at this; omega)
  · have e : (s.1 ++ [(lsVal s).eraseIdx k ++ [(⟨[], []⟩ : Need)]])[s.2.1]? = s.1[s.2.1]? := List.getElem?_append_left h.1
    refine ⟨⟨?_, ?_⟩, ?_⟩
    · have := h.1
      simp only [List.length_append, List.length_cons, List.length_nil]; omega
    · show _ ≤ ((((s.1 ++ _)[s.2.1]?).getD []) : List Need).length
      rw [e]; exact h.2
    · show (((s.1 ++ _)[s.2.1]?).getD []).take _ = _
      rw [e]; rfl
theorem leastM_ok {w : Wld} : ∀ (k : Nat) (s : LsT), lsOk s → k ≤ (lsVal s).length → lsOk (leastM w k s) ∧ lsVal (leastM w k s) = leastG w k (lsVal s)
  | 0, s, h, _ => ⟨h, rfl⟩
  | k + 1, s, h, hk => by
    obtain ⟨g, hg⟩ : ∃ g, (lsVal s)[k]? = some g := ⟨_, List.getElem?_eq_getElem hk⟩
    rw [leastM_succ hg, leastG_succ hg]
    obtain ⟨h1, h2⟩ := lsNext_ok (w := w) (g := g) h hk
    rw [← h2]
    refine leastM_ok k _ h1 ?_
    rw [h2]
    split
    · have hk : k < (lsVal s).length := hk
      rw [List.length_eraseIdx, if_pos hk]; omega
    · omega
end Go.Isea

namespace Go.Isea
open Go
section
variable {P : Program} {t : TypeId} {p q : Operand} {h h' : AH}
theorem sem_slnil {el : TypeId} (hu : P.underlying t = some (.slice el)) {a : Addr} {n c : Nat} : semPure P (Op.equal t (.slice (some a) n c) (.slice none 0 0)) = some false := by
  show semPure P (Op.equalIn (9999 + 1) t _ _) = _
  rw [Op.equalIn, semPure_bind', semPure_und hu]
  rfl
theorem sem_slnil0 {el : TypeId} (hu : P.underlying t = some (.slice el)) {n c : Nat} : semPure P (Op.equal t (.slice none n c) (.slice none 0 0)) = some true := by
  show semPure P (Op.equalIn (9999 + 1) t _ _) = _
  rw [Op.equalIn, semPure_bind', semPure_und hu]
  rfl
@[go_sem] theorem bin_sln {a : Addr} {n c : Nat} (hp : isSl P t = true) : abin P .eql t p q (.v (.slice (some a) n c)) (.v (.slice none 0 0)) = some (.v (.bool false)) := by
  obtain ⟨el, hu⟩ := und_sl hp
  exact bin_eq_sem rfl rfl (sem_slnil hu)
theorem bin_sln0 {n c : Nat} (hp : isSl P t = true) : abin P .eql t p q (.v (.slice none n c)) (.v (.slice none 0 0)) = some (.v (.bool true)) := by
  obtain ⟨el, hu⟩ := und_sl hp
  exact bin_eq_sem rfl rfl (sem_slnil0 hu)
/-- less told at a contract's end -/
theorem Good.fin {k : FuncId} {args : List AV} {T : List Nat} {x r : AV} {h1 : AH} (hg : Isea.Good P k args h T x h1) (hf : FinS T h h1 x h' r) : Isea.Good P k args h T r h' :=
  ⟨hg.1, fun K w vs hK hvs => (hg.2 K w vs hK hvs).mono (by
    rintro e w' ⟨K', v, rfl, hK', hE, hr⟩
    obtain ⟨a, b, c⟩ := fin_sound hK hK' hE hf hr
    exact ⟨K', v, rfl, a, b, c⟩)⟩
/-- a slice without parts, whatever its header -/
theorem Good.sl0 {k : FuncId} {T : List Nat} {r : AV} (hg : ∀ a c, Isea.Good P k [.v (.slice a 0 c)] h T r h') : Isea.Good P k [.sl []] h T r h' := by
  refine ⟨(hg none 0).1, fun K w vs hK hvs => ?_⟩
  obtain ⟨u, rfl, hu⟩ := repL_one hvs
  have : ∃ a c, u = .slice a 0 c := by
    cases hu with
    | sl0 a c => exact ⟨a, c, rfl⟩
    | sl hi hlc hsz hcell hr => exact ⟨_, _, rfl⟩
  obtain ⟨a, c, rfl⟩ := this
  refine (hg a c).2 K w _ hK ⟨rfl, fun i x y h1 h2 => ?_⟩
  rcases i with _ | i
  · simp at h1 h2; subst h1; subst h2; exact .v _
  · simp at h1
end
end Go.Isea
namespace Go.Proofs.YtiphcdmjlkngfaaGreatDoor
open Go Go.Isea
set_option maxRecDepth 100000
set_option maxHeartbeats 4000000
theorem l_CloneA_Need (l : List Need) (h : AH) (hl : l.length ≤ 1099511627776) : Isea.Good Tryz.prog 82 [.sl (l.map Need.row)] h [] (.so h.n l.length l.length) (h.push (.rows 28 2 (l.map Need.row))) := by
  cases l with
  | nil =>
    refine Good.sl0 fun a c => ?_
    cases a with
    | none =>
      refine Good.ghostR (by decide) ?_
      refine good [] [] Tryz.func82 rfl rfl Tryz.ntmps82 (by kernel_rfl) mixed (by kernel_rfl) ?_
      simp -dsimp only [go_sem, bin_sln0]
      exact fin_v (Nat.le_refl _) rfl
    | some a =>
      refine good [] [] Tryz.func82 rfl rfl Tryz.ntmps82 (by kernel_rfl) mixed (by kernel_rfl) ?_
      simp -dsimp only [go_sem]
      refine fin_push ?_ ?_ ?_
      · simp
      · simp -dsimp only [go_sem, List.length_nil]
      · simp -dsimp only [go_sem, List.map_nil]
  | cons x xs =>
    have e6 : (xs.length + 1) * 32 ≤ 140737488355328 := by simp at hl; omega
    refine good [] [] Tryz.func82 rfl rfl Tryz.ntmps82 (by kernel_rfl) mixed (by kernel_rfl) ?_
    simp -dsimp only [go_sem, List.map_cons, Need.row, List.length_cons]
    simp -dsimp only [go_sem, List.length_map, e6]
    first | refine ⟨of_eq_true (good_map fun _ => ⟨rfl, rfl⟩), fin_push ?_ ?_ ?_⟩ | refine fin_push ?_ ?_ ?_
    · simp
    · simp -dsimp only [go_sem]
    · simp -dsimp only [go_sem]
theorem l_CloneA_string (l : List L8) (h : AH) (hl : l.length ≤ 1099511627776) : Isea.Good Tryz.prog 76 [.sl (l.map sRow)] h [] (.so h.n l.length l.length) (h.push (.rows 9 1 (l.map sRow))) := by
  cases l with
  | nil =>
    refine Good.sl0 fun a c => ?_
    cases a with
    | none =>
      refine Good.ghostR (by decide) ?_
      refine good [] [] Tryz.func76 rfl rfl Tryz.ntmps76 (by kernel_rfl) mixed (by kernel_rfl) ?_
      simp -dsimp only [go_sem, bin_sln0]
      exact fin_v (Nat.le_refl _) rfl
    | some a =>
      refine good [] [] Tryz.func76 rfl rfl Tryz.ntmps76 (by kernel_rfl) mixed (by kernel_rfl) ?_
      simp -dsimp only [go_sem]
      refine fin_push ?_ ?_ ?_
      · simp
      · simp -dsimp only [go_sem, List.length_nil]
      · simp -dsimp only [go_sem, List.map_nil]
  | cons x xs =>
    have e6 : (xs.length + 1) * 16 ≤ 140737488355328 := by simp at hl; omega
    refine good [] [] Tryz.func76 rfl rfl Tryz.ntmps76 (by kernel_rfl) mixed (by kernel_rfl) ?_
    simp -dsimp only [go_sem, List.map_cons, sRow, List.length_cons]
    simp -dsimp only [go_sem, List.length_map, e6]
    first | refine ⟨of_eq_true (good_map fun _ => ⟨rfl, rfl⟩), fin_push ?_ ?_ ?_⟩ | refine fin_push ?_ ?_ ?_
    · simp
    · simp -dsimp only [go_sem]
    · simp -dsimp only [go_sem]
end Go.Proofs.YtiphcdmjlkngfaaGreatDoor

namespace Go.Isea
open Go
def cutH (k : Value) (len : Nat) : Value := match k with
  | .slice a _ c => .slice a len c
  | x => x
theorem ownsR.short {w : World} {e : TypeId} {sz n len : Nat} {k : Value} {xs : List Value} (h : ownsR w e sz k n xs) (hl : len ≤ n) : ownsR w e sz (cutH k len) len (xs.take (len * sz)) := by
  refine ⟨?_, ?_⟩
  · rw [List.length_take, h.1]
    exact Nat.min_eq_left (Nat.mul_le_mul_right _ hl)
  · rcases h.2 with ⟨rfl, rfl⟩ | ⟨g, cap, cur, rfl, h0, h1, h2, h3, h4, h5⟩
    · have : len = 0 := by omega
      subst this
      exact .inl ⟨rfl, rfl⟩
    · refine .inr ⟨g, cap, cur, rfl, h0, h1, by omega, h3, h4, ?_⟩
      rw [← h5, List.take_take, Nat.min_eq_left (Nat.mul_le_mul_right _ hl)]
theorem blk_cutH (k : Value) (len : Nat) : blk (cutH k len) = blk k := by
  cases k with
  | slice a n c => cases a <;> rfl
  | _ => rfl
section
variable {P : Program} {k : FuncId} {args : List AV} {h h1 : AH} {e sz n len t : Nat} {rs : List (List AV)} {v : Value}
theorem Good.cutSo (hg : Isea.Good P k args h [] (.tup [.so t n len, .v v]) h1) (ht : h.n ≤ t) (ht1 : t < h1.n) (ho : h1.o t = .rows e sz rs) (hn : rs.length = n) (hl : len ≤ n) (hv : VR rs) : Isea.Good P k args h [] (.tup [.so h.n len len, .v v]) (h.push (.rows e sz (rs.take len))) := by
  refine ⟨hg.1, fun K w vs hK hvs => (hg.2 K w vs hK hvs).mono ?_⟩
  rintro ee w' ⟨K', v0, rfl, hK', hE, hrv⟩
  let K2 : KM := fun s => if s < h.n then K s else cutH (K' t) len
  have kl : ∀ s, s < h.n → K2 s = K s := fun s hs => if_pos hs
  have kn : K2 h.n = cutH (K' t) len := if_neg (Nat.lt_irrefl _)
  have hso : ∀ s, s < h.n → (h.push (.rows e sz (rs.take len))).o s = h.o s := fun s hs => upd_ne _ _ (by omega)
  have hsn : (h.push (.rows e sz (rs.take len))).o h.n = .rows e sz (rs.take len) := upd_same _ _ _
  have hs : ∀ b, b < w.heap.size → w'.heap[b]? = w.heap[b]? := fun b hb => hE.same b hb fun t ht => by cases ht
  have hnew : ∀ b, blk (K' t) = some b → w.heap.size ≤ b := fun b hb => by
    rcases hE.blocks t b ht1 hb with hh | ⟨hh, _⟩
    · exact hh
    · omega
  have hX : Ext [] K h w K2 (h.push (.rows e sz (rs.take len))) w' := ⟨hE.os, hE.tape, hE.output, hE.size, Nat.le_succ _, fun b hb _ => hs b hb, fun s hs _ => ⟨kl s hs, hso s hs⟩, fun _ _ ht => (by cases ht), fun s b hs hb => by
    have hs : s < h.n + 1 := hs
    by_cases hh : s < h.n
    · exact .inr ⟨hh, by rw [kl s hh] at hb; exact hb⟩
    · have : s = h.n := by omega
      subst this
      rw [kn, blk_cutH] at hb
      exact .inl (hnew b hb)⟩
  have hobj := hK'.obj t ht1
  rw [ho] at hobj
  obtain ⟨xs, own, h0, hlen, hrep⟩ := hobj
  have own2 : ownsR w' e sz (cutH (K' t) len) (rs.take len).length (xs.take (len * sz)) := by
    rw [List.length_take, hn, Nat.min_eq_left hl]
    rw [hn] at own
    exact own.short hl
  refine ⟨K2, v0, rfl, ⟨fun s b hs' hb => ?_, fun s u b hs' hu a1 a2 => ?_, fun s hs' => ?_⟩, hX, ?_⟩
  · have hs' : s < h.n + 1 := hs'
    by_cases hh : s < h.n
    · rw [kl s hh] at hb
      exact Nat.lt_of_lt_of_le (hK.lt s b hh hb) hE.size
    · have : s = h.n := by omega
      subst this
      rw [kn, blk_cutH] at hb
      exact hK'.lt t b ht1 hb
  · have hs' : s < h.n + 1 := hs'
    have hu : u < h.n + 1 := hu
    by_cases c1 : s < h.n
    · rw [kl s c1] at a1
      by_cases c2 : u < h.n
      · rw [kl u c2] at a2
        exact hK.inj s u b c1 c2 a1 a2
      · have : u = h.n := by omega
        subst this
        rw [kn, blk_cutH] at a2
        have := hnew b a2
        have := hK.lt s b c1 a1
        omega
    · have e1 : s = h.n := by omega
      by_cases c2 : u < h.n
      · subst e1
        rw [kn, blk_cutH] at a1
        rw [kl u c2] at a2
        have := hnew b a1
        have := hK.lt u b c2 a2
        omega
      · omega
  · have hs' : s < h.n + 1 := hs'
    by_cases hh : s < h.n
    · rw [kl s hh, hso s hh]
      exact (hK.obj s hh).ext hX fun b hb => hs b (hK.lt s b hh hb)
    · have : s = h.n := by omega
      subst this
      rw [kn, hsn]
      refine ⟨_, own2, h0, fun r hr => hlen r (List.mem_of_mem_take hr), fun i j r x y g1 g2 g3 => ?_⟩
      have g1' : rs[i]? = some r := by
        rw [List.getElem?_take] at g1
        split at g1
        · exact g1
        · cases g1
      obtain ⟨z, rfl⟩ := hv r (List.mem_of_getElem? g1') x (List.mem_of_getElem? g2)
      have g3' : xs[i * sz + j]? = some y := by
        rw [List.getElem?_take] at g3
        split at g3
        · exact g3
        · cases g3
      have := hrep i j r _ y g1' g2 g3'
      cases this
      exact .v _
  · cases hrv with
    | tup hl' hc =>
      refine .tup hl' fun i x z g1 g2 => ?_
      rcases i with _ | _ | i
      · simp at g1
        subst g1
        have h5 := hc 0 _ z rfl g2
        cases h5 with
        | so ht' hvv =>
          obtain ⟨q1, a, m, c, c', q2, q3, q4, rfl⟩ := (hvv _ _ _ ho).2 hn.symm
          refine .so (Nat.lt_succ_self _) fun e' sz' rs' he => ?_
          rw [hsn] at he
          cases he
          refine ⟨by rw [List.length_take]; omega, fun _ => ⟨Nat.le_refl _, ?_⟩⟩
          rw [kn]
          exact ⟨a, len, c, c', by rw [q2]; rfl, q3, q4, rfl⟩
      · simp at g1
        subst g1
        have h5 := hc 1 _ z rfl g2
        cases h5
        exact .v _
      · simp at g1
end
end Go.Isea
