/- Contracts of functions of this program, for all arguments that satisfy what each lemma asks for. -/
import Derived.Test.YtnocdggngfiebaaGreatDoorMF
import Derived.Test.YtnocdggngfiebaaGreatDoorMq
import Derived.Test.YtnocdggngfiebaaGreatDoorMk
set_option linter.all false
namespace Go.Isea
open Go
set_option maxRecDepth 100000
def cutG (c : UInt8) : L8 → L8 → List L8
  | cur, [] => [cur]
  | cur, x :: r => if x = c then cur :: cutG c [] r else cutG c (cur ++ [x]) r
def cutL (s : L8) (c : UInt8) : List L8 := cutG c [] s
theorem cutG_len (c : UInt8) : ∀ (r cur : L8), (cutG c cur r).length ≤ r.length + 1
  | [], cur => Nat.le_refl _
  | x :: r, cur => by
    unfold cutG
    split
    · have := cutG_len c r []; simp; omega
    · have := cutG_len c r (cur ++ [x]); simp; omega
theorem cutG_mem (c : UInt8) : ∀ (r cur : L8), ∀ y ∈ cutG c cur r, y.length ≤ cur.length + r.length
  | [], cur, y, h => by simp [cutG] at h; rw [h]; simp
  | x :: r, cur, y, h => by
    unfold cutG at h
    split at h
    · rcases List.mem_cons.1 h with rfl | h
      · simp
      · have := cutG_mem c r [] y h; simp at this ⊢; omega
    · have := cutG_mem c r (cur ++ [x]) y h; simp at this ⊢; omega
theorem cutG_ne (c : UInt8) : ∀ (r cur : L8), ∃ a l, cutG c cur r = a :: l
  | [], cur => ⟨cur, [], rfl⟩
  | x :: r, cur => by
    unfold cutG
    split
    · exact ⟨_, _, rfl⟩
    · exact cutG_ne c r _
theorem cur_next {s : L8} {f i : Nat} {b : UInt8} (hf : f ≤ i) (hb : s[i]? = some b) : (s.drop f).take (i + 1 - f) = (s.drop f).take (i - f) ++ [b] := by
  have e : i + 1 - f = (i - f) + 1 := by omega
  rw [e, List.take_add_one]
  have : (s.drop f)[i - f]? = some b := by
    rw [List.getElem?_drop, show f + (i - f) = i by omega, hb]
  rw [this]; rfl
/-- a need from its text -/
def parseNd : L8 → Option Need
  | a :: b :: d :: r => if b = 32 ∧ capital [a] = true ∧ tv (d :: r) = true then some ⟨[a], d :: r⟩ else none
  | _ => none
def parseNds : List L8 → Option (List Need)
  | [] => some []
  | x :: l => match parseNd x, parseNds l with
    | some n, some r => some (n :: r)
    | _, _ => none
def parseIn (s : L8) : Option Inst := match cutL s 58 with
  | [a] => (match parseNd a with
    | some n => some ⟨n.c, n.t, []⟩
    | none => none)
  | [a, b] => (match parseNd a, parseNds (cutL b 38) with
    | some n, some l => some ⟨n.c, n.t, l⟩
    | _, _ => none)
  | _ => none
def parseIns : List L8 → Option (List Inst)
  | [] => some []
  | x :: l => match parseIn x, parseIns l with
    | some n, some r => some (n :: r)
    | _, _ => none
def clsOf (p : L8) : Cls := if 2 < p.length ∧ p[1]? = some 60 then ⟨p.take 1, p.drop 2⟩ else ⟨p, []⟩
def rawW (s : L8) : Option Wld := match cutL s 59 with
  | a :: l => (match parseIns l with
    | some is => if worldOk ⟨(cutL a 32).map clsOf, is⟩ = true then some ⟨(cutL a 32).map clsOf, is⟩ else none
    | none => none)
  | [] => none
def needR (o : Option Need) : AV := .tup [.agg (o.getD ⟨[], []⟩).row, .v (.bool o.isSome)]
def instR (o : Option Inst) : AV := .tup [.agg (o.getD ⟨[], [], []⟩).row, .v (.bool o.isSome)]
def worldR (o : Option Wld) : AV := .tup [.agg (o.getD ⟨[], []⟩).row, .v (.bool o.isSome)]
theorem parseNd_len {s : L8} {n : Need} (h : parseNd s = some n) : n.c.length ≤ s.length ∧ n.t.length ≤ s.length := by
  unfold parseNd at h
  split at h
  · split at h
    · injection h with h; rw [← h]; simp
    · cases h
  · cases h
end Go.Isea
namespace Go.Proofs.YtnocdggngfiebaaGreatDoor
open Go Go.Isea
set_option maxRecDepth 100000
set_option maxHeartbeats 8000000
theorem s_l13Cut (s : L8) (c : UInt8) (h : AH) (hs : s.length ≤ 1000000) : Isea.Good Tryz.prog 315 [str s, .v (.int .u8 c.toNat)] h [] (.sl ((cutL s c).map sRow)) h := by
  generalize hY : cutL s c = Y
  refine good [] [] Tryz.func315 rfl rfl Tryz.ntmps315 (by kernel_rfl) mixed (by kernel_rfl) ?_
  simp -dsimp only [go_sem]
  refine loop_ruleH [0, 0] (fun (x : {x : (Nat × Nat) × List L8 // x.1.1 ≤ s.length + 1 ∧ x.2.length ≤ x.1.1 ∧ ((x.1.1 ≤ s.length ∧ x.1.2 ≤ x.1.1 ∧ Y = x.2 ++ cutG c ((s.drop x.1.2).take (x.1.1 - x.1.2)) (s.drop x.1.1)) ∨ (x.1.1 = s.length + 1 ∧ Y = x.2))}) H =>
      ([(5, .so h.n x.1.2.length x.1.2.length), (6, .v (.int .i64 (x.1.1.2 : Nat))), (7, .v (.int .i64 (x.1.1.1 : Nat)))], ⟨h.n + 1, upd H.o h.n (.rows 9 1 (x.1.2.map sRow))⟩))
    (fun x => s.length + 1 - x.1.1.1) ⟨((0, 0), []), Nat.zero_le _, Nat.zero_le _, .inl ⟨Nat.zero_le _, Nat.zero_le _, hY.symm⟩⟩ ?_ ?_
  · refine weak_objs [h.n] (by simp -dsimp only [go_sem]) (by simp -dsimp only [go_sem]) (by simp -dsimp only [go_sem]) ?_ ?_ ?_
    · intro t h1 h2
      have a1 : ¬ t = h.n := by omega
      simp -dsimp only [go_sem, a1]
    · intro x h1 h2; have h1 : x < h.n + 1 := h1; simp at h2 ⊢; omega
    · simp -dsimp only [go_sem, List.map_nil]
  · rintro ⟨⟨⟨i, f⟩, out⟩, hi, ho, hc⟩
    have hi : i ≤ s.length + 1 := hi
    have ho : out.length ≤ i := ho
    have hc : (i ≤ s.length ∧ f ≤ i ∧ Y = out ++ cutG c ((s.drop f).take (i - f)) (s.drop i)) ∨ (i = s.length + 1 ∧ Y = out) := hc
    clear hY
    have h1 : i + 1 ≤ 9223372036854775807 := by omega
    have e6 : (out.length + 1) * 16 ≤ 140737488355328 := by omega
    rcases hc with ⟨hil, hf, hY⟩ | ⟨rfl, hY⟩
    · by_cases hlt : i < s.length
      · obtain ⟨b, hb⟩ := get_some hlt
        have hne : ¬ i = s.length := by omega
        rw [drop_get hb, cutG] at hY
        by_cases hbc : b = c
        · rw [if_pos hbc] at hY
          have en : (s.drop (i + 1)).take (i + 1 - (i + 1)) = [] := by simp
          simp -dsimp only [go_sem, hil, hne, hb, hbc, hf, h1, e6, List.length_map]
          refine round_to ⟨((i + 1, i + 1), out ++ [(s.drop f).take (i - f)]), by show i + 1 ≤ s.length + 1; omega, by show (out ++ [_]).length ≤ i + 1; simp; omega, .inl ⟨hlt, Nat.le_refl _, by show Y = (out ++ [_]) ++ cutG c ((s.drop (i + 1)).take (i + 1 - (i + 1))) _; rw [en, hY]; simp⟩⟩ (by show s.length + 1 - (i + 1) < s.length + 1 - i; omega) ?_
          refine weak_objs [h.n] (by simp -dsimp only [go_sem]) (by simp -dsimp only [go_sem]) (by simp -dsimp only [go_sem, List.length_append, List.length_cons, List.length_nil]) ?_ ?_ ?_
          · intro t h1 h2
            have a1 : ¬ t = h.n := by omega
            simp -dsimp only [go_sem, a1]
          · intro x h1 h2; have h1 : x < h.n + 1 := h1; simp at h2 ⊢; omega
          · simp -dsimp only [go_sem, List.map_append, List.map_cons, List.map_nil, sRow]
        · rw [if_neg hbc] at hY
          have en := cur_next hf hb
          simp -dsimp only [go_sem, hil, hne, hb, hbc, hf, h1, e6, List.length_map]
          refine round_to ⟨((i + 1, f), out), by show i + 1 ≤ s.length + 1; omega, by show out.length ≤ i + 1; omega, .inl ⟨hlt, by show f ≤ i + 1; omega, by show Y = out ++ cutG c ((s.drop f).take (i + 1 - f)) _; rw [en, hY]⟩⟩ (by show s.length + 1 - (i + 1) < s.length + 1 - i; omega) ?_
          refine weak_objs [h.n] (by simp -dsimp only [go_sem]) (by simp -dsimp only [go_sem]) (by simp -dsimp only [go_sem]) ?_ ?_ ?_
          · intro t h1 h2
            have a1 : ¬ t = h.n := by omega
            simp -dsimp only [go_sem, a1]
          · intro x h1 h2; have h1 : x < h.n + 1 := h1; simp at h2 ⊢; omega
          · simp -dsimp only [go_sem]
      · have hie : i = s.length := by omega
        subst hie
        have hll : s.length ≤ s.length := Nat.le_refl _
        rw [List.drop_length, cutG] at hY
        simp -dsimp only [go_sem, hll, hf, h1, e6, List.length_map]
        refine round_to ⟨((s.length + 1, s.length + 1), out ++ [(s.drop f).take (s.length - f)]), Nat.le_refl _, by show (out ++ [_]).length ≤ s.length + 1; simp; omega, .inr ⟨rfl, hY⟩⟩ (by show s.length + 1 - (s.length + 1) < s.length + 1 - s.length; omega) ?_
        refine weak_objs [h.n] (by simp -dsimp only [go_sem]) (by simp -dsimp only [go_sem]) (by simp -dsimp only [go_sem, List.length_append, List.length_cons, List.length_nil]) ?_ ?_ ?_
        · intro t h1 h2
          have a1 : ¬ t = h.n := by omega
          simp -dsimp only [go_sem, a1]
        · intro x h1 h2; have h1 : x < h.n + 1 := h1; simp at h2 ⊢; omega
        · simp -dsimp only [go_sem, List.map_append, List.map_cons, List.map_nil, sRow]
    · have hll : ¬ s.length + 1 ≤ s.length := by omega
      subst hY
      simp -dsimp only [go_sem, hll]
      exact fin_pure (by simp -dsimp only [go_sem]) (by simp -dsimp only [go_sem, List.length_map])
theorem s_ParseNeed (s : L8) (h : AH) (hs : s.length ≤ 1000000) : Isea.Good Tryz.prog 330 [str s] h [] (needR (parseNd s)) h := by
  have short : ∀ l : L8, l.length < 3 → parseNd l = none := by
    intro l hl
    match l, hl with
    | [], _ => rfl
    | [_], _ => rfl
    | [_, _], _ => rfl
    | _ :: _ :: _ :: _, hl => simp at hl; omega
  by_cases h3 : s.length < 3
  · have h3' : ((s.length : Nat) : Int) < 3 := by omega
    rw [short s h3]
    refine good [] [] Tryz.func330 rfl rfl Tryz.ntmps330 (by kernel_rfl) mixed (by kernel_rfl) ?_
    simp -dsimp only [go_sem, h3']
    exact fin_pure (by simp -dsimp only [go_sem]) (by simp -dsimp only [go_sem, needR, Need.row, Option.getD_none, Option.isSome_none])
  · obtain ⟨a, b, d, r, rfl⟩ : ∃ a b d r, s = a :: b :: d :: r := by
      match s, h3 with
      | [], h3 => simp at h3
      | [_], h3 => simp at h3
      | [_, _], h3 => simp at h3
      | a :: b :: d :: r, _ => exact ⟨a, b, d, r, rfl⟩
    have hl3 : ¬ ((r.length + 1 + 1 + 1 : Nat) : Int) < 3 := by omega
    have l1 : 1 ≤ r.length + 1 + 1 + 1 := by omega
    have l2 : 2 ≤ r.length + 1 + 1 + 1 := by omega
    have htk : (d :: r).take (r.length + 1 + 1 + 1 - 2) = d :: r := List.take_of_length_le (by simp)
    have hb32 : (((b.toNat : Nat) : Int) = 32) = (b = 32) := u8_lit (by decide)
    have hC := fun H => s_l3Capital [a] H
    have hT := fun H => s_TypeValid (d :: r) (by simp at hs ⊢; omega) H
    by_cases hb : b = 32
    · have hbT : (((b.toNat : Nat) : Int) = 32) = True := by rw [hb32]; exact eq_true hb
      cases hc : capital [a] with
      | false =>
        have e : parseNd (a :: b :: d :: r) = none := by simp [parseNd, hc]
        rw [e]
        rw [hc] at hC
        refine good [] [] Tryz.func330 rfl rfl Tryz.ntmps330 (by kernel_rfl) mixed (by kernel_rfl) ?_
        simp -dsimp only [go_sem, hl3, l1, l2, hbT]
        refine call_pure (hC _) ?_
        simp -dsimp only [go_sem, hl3, l1, l2, hbT, htk]
        exact fin_pure (by simp -dsimp only [go_sem]) (by simp -dsimp only [go_sem, needR, Need.row, Option.getD_none, Option.isSome_none])
      | true =>
        rw [hc] at hC
        cases ht : tv (d :: r) with
        | false =>
          have e : parseNd (a :: b :: d :: r) = none := by simp [parseNd, ht]
          rw [e]
          rw [ht] at hT
          refine good [] [] Tryz.func330 rfl rfl Tryz.ntmps330 (by kernel_rfl) mixed (by kernel_rfl) ?_
          simp -dsimp only [go_sem, hl3, l1, l2, hbT]
          refine call_pure (hC _) ?_
          simp -dsimp only [go_sem, hl3, l1, l2, hbT, htk]
          refine call_pure (hT _) ?_
          simp -dsimp only [go_sem]
          exact fin_pure (by simp -dsimp only [go_sem]) (by simp -dsimp only [go_sem, needR, Need.row, Option.getD_none, Option.isSome_none])
        | true =>
          have e : parseNd (a :: b :: d :: r) = some ⟨[a], d :: r⟩ := by simp [parseNd, hb, hc, ht]
          rw [e]
          rw [ht] at hT
          refine good [] [] Tryz.func330 rfl rfl Tryz.ntmps330 (by kernel_rfl) mixed (by kernel_rfl) ?_
          simp -dsimp only [go_sem, hl3, l1, l2, hbT]
          refine call_pure (hC _) ?_
          simp -dsimp only [go_sem, hl3, l1, l2, hbT, htk]
          refine call_pure (hT _) ?_
          simp -dsimp only [go_sem, hl3, l1, l2, htk]
          exact fin_pure (by simp -dsimp only [go_sem]) (by simp -dsimp only [go_sem, needR, Need.row, Option.getD_some, Option.isSome_some])
    · have e : parseNd (a :: b :: d :: r) = none := by simp [parseNd, hb]
      have hbF : (((b.toNat : Nat) : Int) = 32) = False := by rw [hb32]; exact eq_false hb
      rw [e]
      refine good [] [] Tryz.func330 rfl rfl Tryz.ntmps330 (by kernel_rfl) mixed (by kernel_rfl) ?_
      simp -dsimp only [go_sem, hl3, l1, l2, hbF]
      exact fin_pure (by simp -dsimp only [go_sem]) (by simp -dsimp only [go_sem, needR, Need.row, Option.getD_none, Option.isSome_none])
end Go.Proofs.YtnocdggngfiebaaGreatDoor

namespace Go.Isea
open Go
set_option maxRecDepth 100000
theorem parseNds_sm : ∀ {l : List L8} {r : List Need}, parseNds l = some r → (∀ x ∈ l, x.length ≤ 1000000) → r.length = l.length ∧ ∀ n ∈ r, n.c.length ≤ 1000000 ∧ n.t.length ≤ 1000000
  | [], r, h, _ => by injection h with h; rw [← h]; simp
  | x :: l, r, h, hl => by
    unfold parseNds at h
    split at h
    · rename_i n r' h1 h2
      injection h with h
      obtain ⟨g1, g2⟩ := parseNds_sm h2 fun y hy => hl y (List.mem_cons_of_mem _ hy)
      have hx := hl x (List.mem_cons_self ..)
      have hn := parseNd_len h1
      rw [← h]
      refine ⟨by simp [g1], fun m hm => ?_⟩
      rcases List.mem_cons.1 hm with rfl | hm
      · exact ⟨by omega, by omega⟩
      · exact g2 m hm
    · cases h
theorem parseIn_sm {s : L8} {x : Inst} (hs : s.length ≤ 1000000) (h : parseIn s = some x) : x.Sm ∧ x.ns.length ≤ 1000001 := by
  have hm := cutG_mem 58 s []
  unfold parseIn at h
  have e0 : cutL s 58 = cutG 58 [] s := rfl
  split at h
  · rename_i a ha
    split at h
    · rename_i n hn
      injection h with h
      have hl := parseNd_len hn
      have := hm a (by rw [← e0, ha]; simp)
      simp only [List.length_nil] at this
      rw [← h]
      exact ⟨⟨by show n.c.length ≤ _; omega, by show n.t.length ≤ _; omega, by simp, fun m hm => by cases hm⟩, by simp⟩
    · cases h
  · rename_i a b ha
    split at h
    · rename_i n l hn hl2
      injection h with h
      have hl := parseNd_len hn
      have h1 := hm a (by rw [← e0, ha]; simp)
      have h2 := hm b (by rw [← e0, ha]; simp)
      simp only [List.length_nil] at h1 h2
      obtain ⟨g1, g2⟩ := parseNds_sm hl2 fun y hy => by
        have := cutG_mem 38 b [] y hy
        simp only [List.length_nil] at this; omega
      have g3 := cutG_len 38 b []
      have g1 : l.length = (cutG 38 [] b).length := g1
      rw [← h]
      exact ⟨⟨by show n.c.length ≤ _; omega, by show n.t.length ≤ _; omega, by show l.length ≤ _; omega, fun m hm => by have := g2 m hm; exact ⟨by omega, by omega⟩⟩, by show l.length ≤ _; omega⟩
    · cases h
  · cases h
theorem parseIns_sm : ∀ {l : List L8} {r : List Inst}, parseIns l = some r → (∀ x ∈ l, x.length ≤ 1000000) → r.length = l.length ∧ ∀ n ∈ r, n.Sm ∧ n.ns.length ≤ 1000001
  | [], r, h, _ => by injection h with h; rw [← h]; simp
  | x :: l, r, h, hl => by
    unfold parseIns at h
    split at h
    · rename_i n r' h1 h2
      injection h with h
      obtain ⟨g1, g2⟩ := parseIns_sm h2 fun y hy => hl y (List.mem_cons_of_mem _ hy)
      rw [← h]
      refine ⟨by simp [g1], fun m hm => ?_⟩
      rcases List.mem_cons.1 hm with rfl | hm
      · exact parseIn_sm (hl x (List.mem_cons_self ..)) h1
      · exact g2 m hm
    · cases h
theorem clsOf_sm {p : L8} (hp : p.length ≤ 1000000) : (clsOf p).n.length ≤ 1000000 ∧ (clsOf p).s.length ≤ 1000000 := by
  unfold clsOf
  split
  · exact ⟨by show (p.take 1).length ≤ _; rw [List.length_take]; omega, by show (p.drop 2).length ≤ _; rw [List.length_drop]; omega⟩
  · exact ⟨hp, by simp⟩
def mapOp {α β : Type} (f : α → β) : Option α → Option β
  | some a => some (f a)
  | none => none
theorem parseNds_next {x : L8} {l : List L8} {done : List Need} : mapOp (done ++ ·) (parseNds (x :: l)) = match parseNd x with | some n => mapOp ((done ++ [n]) ++ ·) (parseNds l) | none => none := by
  rw [parseNds]
  cases parseNd x with
  | none => rfl
  | some n =>
    cases parseNds l with
    | none => rfl
    | some r => simp [mapOp]
theorem parseIns_next {x : L8} {l : List L8} {done : List Inst} : mapOp (done ++ ·) (parseIns (x :: l)) = match parseIn x with | some n => mapOp ((done ++ [n]) ++ ·) (parseIns l) | none => none := by
  rw [parseIns]
  cases parseIn x with
  | none => rfl
  | some n =>
    cases parseIns l with
    | none => rfl
    | some r => simp [mapOp]
/-- the instance of a need and of its needs -/
def inOf (n : Need) : Option (List Need) → Option Inst
  | some l => some ⟨n.c, n.t, l⟩
  | none => none
end Go.Isea
namespace Go.Proofs.YtnocdggngfiebaaGreatDoor
open Go Go.Isea
set_option maxRecDepth 100000
set_option maxHeartbeats 8000000
theorem s_ParseInstance (s : L8) (h : AH) (hs : s.length ≤ 1000000) : Isea.Good Tryz.prog 316 [str s] h [] (instR (parseIn s)) h := by
  have hCut := fun H => s_l13Cut s 58 H hs
  have hm := cutG_mem 58 s []
  obtain ⟨a, l, hP⟩ := cutG_ne 58 s []
  rw [hP] at hm
  have hP : cutL s 58 = a :: l := hP
  rw [hP] at hCut
  have ha := hm a (List.mem_cons_self ..)
  simp only [List.length_nil] at ha
  have hN := fun H => s_ParseNeed a H (by omega)
  cases hn : parseNd a with
  | none =>
    have e : parseIn s = none := by
      unfold parseIn
      rw [hP]
      rcases l with _ | ⟨b, _ | ⟨c, l⟩⟩ <;> simp [hn]
    rw [e]
    rw [hn] at hN
    refine good [] [] Tryz.func316 rfl rfl Tryz.ntmps316 (by kernel_rfl) mixed (by kernel_rfl) ?_
    simp -dsimp only [go_sem, needR, Need.row, Option.getD_none, Option.isSome_none] at hN ⊢
    refine call_pure (hCut _) ?_
    simp -dsimp only [go_sem, sRow]
    refine call_pure (hN _) ?_
    simp -dsimp only [go_sem]
    exact fin_pure (by simp -dsimp only [go_sem]) (by simp -dsimp only [go_sem, instR, Inst.row, Option.getD_none, Option.isSome_none, List.map_nil])
  | some n =>
    rw [hn] at hN
    rcases l with _ | ⟨b, _ | ⟨c, l⟩⟩
    · have e : parseIn s = some ⟨n.c, n.t, []⟩ := by unfold parseIn; rw [hP]; simp [hn]
      rw [e]
      refine good [] [] Tryz.func316 rfl rfl Tryz.ntmps316 (by kernel_rfl) mixed (by kernel_rfl) ?_
      simp -dsimp only [go_sem, needR, Need.row, Option.getD_some, Option.isSome_some] at hN ⊢
      refine call_pure (hCut _) ?_
      simp -dsimp only [go_sem, sRow]
      refine call_pure (hN _) ?_
      simp -dsimp only [go_sem]
      exact fin_pure (by simp -dsimp only [go_sem]) (by simp -dsimp only [go_sem, instR, Inst.row, Option.getD_some, Option.isSome_some, List.map_nil])
    · have hb := hm b (by simp)
      simp only [List.length_nil] at hb
      have hCut2 := fun H => s_l13Cut b 38 H (by omega)
      have hm2 := cutG_mem 38 b []
      have hl2 := cutG_len 38 b []
      have e : parseIn s = inOf n (parseNds (cutL b 38)) := by
        unfold parseIn inOf
        rw [hP]
        simp only [hn]
        cases parseNds (cutL b 38) <;> rfl
      have ec : cutL b 38 = cutG 38 [] b := rfl
      rw [e]
      rw [← ec] at hm2 hl2
      generalize cutL b 38 = L at hCut2 hm2 hl2 ⊢
      have q1 : ((2 : Int) < ((2 : Nat) : Int)) = False := eq_false (by decide)
      have q2 : (((2 : Nat) : Int) = 2) = True := eq_true (by decide)
      refine good [] [] Tryz.func316 rfl rfl Tryz.ntmps316 (by kernel_rfl) mixed (by kernel_rfl) ?_
      simp -dsimp only [go_sem, needR, Need.row, Option.getD_some, Option.isSome_some] at hN ⊢
      refine call_pure (hCut _) ?_
      simp -dsimp only [go_sem, sRow]
      refine call_pure (hN _) ?_
      simp -dsimp only [go_sem, sRow, q1, q2]
      refine call_pure (hCut2 _) ?_
      simp -dsimp only [go_sem, List.length_map]
      generalize hR : parseNds L = R
      refine loop_ruleH [2, 2, 33, 0] (fun (x : {x : Nat × List Need // x.1 ≤ L.length ∧ x.2.length = x.1 ∧ R = mapOp (x.2 ++ ·) (parseNds (L.drop x.1))}) H =>
          ([(41, .v (.int .i64 (x.1.1 : Nat)))], ⟨h.n + 3, upd (upd H.o (h.n + 1) (.rows 28 2 (x.1.2.map Need.row))) (h.n + 2) (.cells [str n.c, str n.t, .so (h.n + 1) x.1.2.length x.1.2.length])⟩))
        (fun x => L.length - x.1.1) ⟨(0, []), Nat.zero_le _, rfl, by show R = mapOp ([] ++ ·) (parseNds (L.drop 0)); rw [List.drop_zero, hR]; cases R <;> rfl⟩ ?_ ?_
      · refine weak_objs [h.n, h.n + 1, h.n + 2] (by simp -dsimp only [go_sem]) (by simp -dsimp only [go_sem]) (by simp -dsimp only [go_sem]) ?_ ?_ ?_
        · intro t h1 h2
          have a1 : ¬ t = h.n := by omega
          have a2 : ¬ t = h.n + 1 := by omega
          have a3 : ¬ t = h.n + 2 := by omega
          have a4 : ¬ t = h.n + 3 := by omega
          simp -dsimp only [go_sem, a1, a2, a3, a4]
        · intro x h1 h2; have h1 : x < h.n + 3 := h1; simp at h2 ⊢; omega
        · simp -dsimp only [go_sem, List.map_nil, List.length_nil]
      · rintro ⟨⟨k, done⟩, hk, hd, hinv⟩
        have hk : k ≤ L.length := hk
        have hd : done.length = k := hd
        have hinv : R = mapOp (done ++ ·) (parseNds (L.drop k)) := hinv
        clear hR
        have h1 : k + 1 ≤ 9223372036854775807 := by omega
        have e6 : (done.length + 1) * 32 ≤ 140737488355328 := by omega
        by_cases hkl : k < L.length
        · obtain ⟨x, hx⟩ := get_some hkl
          have hxl := hm2 x (List.mem_of_getElem? hx)
          simp only [List.length_nil] at hxl
          have hN2 := fun H => s_ParseNeed x H (by omega)
          rw [drop_get hx, parseNds_next] at hinv
          cases hnx : parseNd x with
          | none =>
            rw [hnx] at hinv hN2
            simp only at hinv
            subst hinv
            simp -dsimp only [go_sem, hkl, hx, sRow, needR, Need.row, Option.getD_none, Option.isSome_none] at hN2 ⊢
            refine call_pure (hN2 _) ?_
            simp -dsimp only [go_sem]
            exact fin_pure (by simp -dsimp only [go_sem]) (by simp -dsimp only [go_sem, inOf, instR, Inst.row, Option.getD_none, Option.isSome_none, List.map_nil])
          | some m =>
            rw [hnx] at hinv hN2
            simp only at hinv
            simp -dsimp only [go_sem, hkl, hx, sRow, needR, Need.row, Option.getD_some, Option.isSome_some] at hN2 ⊢
            refine call_pure (hN2 _) ?_
            simp -dsimp only [go_sem, h1, e6, List.length_map]
            refine round_to ⟨(k + 1, done ++ [m]), hkl, by show (done ++ [m]).length = k + 1; simp [hd], hinv⟩ (by show L.length - (k + 1) < L.length - k; omega) ?_
            refine weak_objs [h.n, h.n + 1, h.n + 2] (by simp -dsimp only [go_sem]) (by simp -dsimp only [go_sem]) (by simp -dsimp only [go_sem]) ?_ ?_ ?_
            · intro t h1 h2
              have a1 : ¬ t = h.n := by omega
              have a2 : ¬ t = h.n + 1 := by omega
              have a3 : ¬ t = h.n + 2 := by omega
              have a4 : ¬ t = h.n + 3 := by omega
              simp -dsimp only [go_sem, a1, a2, a3, a4]
            · intro x h1 h2; have h1 : x < h.n + 3 := h1; simp at h2 ⊢; omega
            · simp -dsimp only [go_sem, List.map_append, List.map_cons, List.map_nil, List.length_append, List.length_cons, List.length_nil, Need.row]
        · have hke : k = L.length := by omega
          rw [hke, List.drop_length] at hinv
          have hinv : R = some done := by rw [hinv]; show some (done ++ []) = _; simp
          subst hinv
          simp -dsimp only [go_sem, hkl]
          exact fin_pure (by simp -dsimp only [go_sem]) (by simp -dsimp only [go_sem, inOf, instR, Inst.row, Option.getD_some, Option.isSome_some, List.length_map])
    · have e : parseIn s = none := by unfold parseIn; rw [hP]
      have h3 : (2 : Int) < ((l.length + 1 + 1 + 1 : Nat) : Int) := by omega
      have h3' : (2 : Int) < ((l.length + 3 : Nat) : Int) := by omega
      rw [e]
      refine good [] [] Tryz.func316 rfl rfl Tryz.ntmps316 (by kernel_rfl) mixed (by kernel_rfl) ?_
      simp -dsimp only [go_sem, needR, Need.row, Option.getD_some, Option.isSome_some] at hN ⊢
      refine call_pure (hCut _) ?_
      simp -dsimp only [go_sem, sRow]
      refine call_pure (hN _) ?_
      simp -dsimp only [go_sem, h3, h3', List.length_map]
      exact fin_pure (by simp -dsimp only [go_sem]) (by simp -dsimp only [go_sem, instR, Inst.row, Option.getD_none, Option.isSome_none, List.map_nil])
end Go.Proofs.YtnocdggngfiebaaGreatDoor

namespace Go.Isea
open Go
set_option maxRecDepth 100000
def smNd (n : Need) : Bool := decide (n.c.length ≤ 60) && decide (n.t.length ≤ 60)
def smIn (x : Inst) : Bool := decide (x.c.length ≤ 60) && decide (x.t.length ≤ 60) && decide (x.ns.length ≤ 10) && x.ns.all smNd
def smCl (c : Cls) : Bool := decide (c.n.length ≤ 60) && decide (c.s.length ≤ 60)
def smW (w : Wld) : Bool := decide (w.cs.length ≤ 10) && w.cs.all smCl && decide (w.is.length ≤ 40) && w.is.all smIn
theorem smNd_iff {n : Need} : smNd n = true ↔ n.c.length ≤ 60 ∧ n.t.length ≤ 60 := by simp [smNd]
theorem smCl_iff {n : Cls} : smCl n = true ↔ n.n.length ≤ 60 ∧ n.s.length ≤ 60 := by simp [smCl]
theorem smIn_iff {x : Inst} : smIn x = true ↔ x.c.length ≤ 60 ∧ x.t.length ≤ 60 ∧ x.ns.length ≤ 10 ∧ ∀ n ∈ x.ns, smNd n = true := by
  simp [smIn, List.all_eq_true, and_assoc]
theorem smW_iff {w : Wld} : smW w = true ↔ w.cs.length ≤ 10 ∧ (∀ c ∈ w.cs, smCl c = true) ∧ w.is.length ≤ 40 ∧ ∀ i ∈ w.is, smIn i = true := by
  simp [smW, List.all_eq_true, and_assoc]
theorem smW_Sm {w : Wld} (h : smW w = true) : w.Sm := by
  obtain ⟨h1, h2, h3, h4⟩ := smW_iff.1 h
  refine ⟨by omega, fun c hc => ?_, by omega, fun i hi => ?_⟩
  · have := smCl_iff.1 (h2 c hc)
    exact ⟨by omega, by omega⟩
  · obtain ⟨a1, a2, a3, a4⟩ := smIn_iff.1 (h4 i hi)
    refine ⟨by omega, by omega, by omega, fun n hn => ?_⟩
    have := smNd_iff.1 (a4 n hn)
    exact ⟨by omega, by omega⟩
def wls9 : List L8 := [[69, 32, 79, 60, 69, 59, 69, 32, 105, 59, 69, 32, 98, 59, 69, 32, 108, 40, 120, 41, 58, 69, 32, 120, 59, 69, 32, 112, 40, 120, 44, 121, 41, 58, 69, 32, 120, 38, 69, 32, 121, 59, 79, 32, 105, 59, 79, 32, 108, 40, 120, 41, 58, 79, 32, 120], [69, 32, 83, 59, 69, 32, 105, 59, 69, 32, 108, 40, 120, 41, 58, 69, 32, 120, 59, 69, 32, 108, 40, 105, 41, 59, 83, 32, 112, 40, 120, 44, 120, 41, 58, 83, 32, 120, 59, 83, 32, 112, 40, 105, 44, 98, 41, 59, 83, 32, 105, 59, 83, 32, 98], [65, 32, 66, 59, 65, 32, 105, 59, 65, 32, 108, 40, 120, 41, 58, 65, 32, 120, 38, 66, 32, 120, 59, 66, 32, 105, 59, 66, 32, 108, 40, 120, 41, 58, 65, 32, 108, 40, 120, 41], [65, 59, 65, 32, 108, 40, 120, 41, 58, 65, 32, 108, 40, 120, 41, 59, 65, 32, 109, 40, 120, 41, 58, 65, 32, 108, 40, 109, 40, 120, 41, 41, 59, 65, 32, 105], [69, 32, 79, 60, 69, 32, 83, 60, 69, 79, 59, 69, 32, 117, 59, 69, 32, 105, 59, 79, 32, 105, 59, 83, 32, 105, 59, 69, 32, 109, 40, 120, 41, 58, 69, 32, 120, 59, 79, 32, 109, 40, 120, 41, 58, 79, 32, 120, 59, 83, 32, 109, 40, 120, 41, 58, 83, 32, 120, 38, 69, 32, 109, 40, 120, 41], [69, 32, 70, 59, 69, 32, 105, 59, 69, 32, 98, 59, 70, 32, 108, 40, 120, 41, 58, 69, 32, 120, 59, 70, 32, 109, 40, 120, 41, 58, 70, 32, 120, 38, 69, 32, 120, 59, 70, 32, 112, 40, 108, 40, 120, 41, 44, 121, 41, 58, 69, 32, 120, 38, 70, 32, 121, 59, 70, 32, 105], [69, 32, 79, 60, 69, 59, 79, 32, 105, 59, 69, 32, 98, 59, 69, 32, 108, 40, 120, 41, 58, 69, 32, 120], [65, 32, 66, 60, 65, 32, 67, 60, 65, 66, 59, 65, 32, 105, 59, 66, 32, 105, 59, 67, 32, 105, 59, 65, 32, 108, 40, 120, 41, 58, 67, 32, 120, 59, 66, 32, 108, 40, 120, 41, 58, 67, 32, 120, 59, 67, 32, 108, 40, 120, 41, 58, 67, 32, 120, 59, 65, 32, 117], [69, 59, 69, 32, 112, 40, 120, 44, 105, 41, 58, 69, 32, 120, 59, 69, 32, 112, 40, 105, 44, 120, 41, 58, 69, 32, 120, 59, 69, 32, 105, 59, 69, 32, 98]]
def wls5 : List L8 := [[69], [69, 32, 79, 60, 69], [65, 32, 66], [65, 32, 66, 60, 65, 32, 67, 60, 65, 66], [69, 32, 79, 60, 69, 32, 83]]
theorem wls9_ok : (wls9.all fun x => match rawW x with | some w => smW w && decide (0 < w.cs.length) && decide (w.cs.length ≤ 5) && decide (w.is.length ≤ 20) | none => false) = true := by decide +kernel
theorem wls5_ok : (wls5.all fun x => match rawW x with | some w => smW w && decide (0 < w.cs.length) && decide (w.cs.length ≤ 5) && decide (w.is = []) | none => false) = true := by decide +kernel
theorem wls_len : (∀ x ∈ wls9, x.length ≤ 100) ∧ ∀ x ∈ wls5, x.length ≤ 100 := by decide +kernel
theorem known9 {x : L8} (h : x ∈ wls9) : ∃ w, rawW x = some w ∧ smW w = true ∧ 0 < w.cs.length ∧ w.cs.length ≤ 5 ∧ w.is.length ≤ 20 := by
  have := List.all_eq_true.1 wls9_ok x h
  cases hr : rawW x with
  | none => rw [hr] at this; cases this
  | some w =>
    rw [hr] at this
    simp only [Bool.and_eq_true, decide_eq_true_eq] at this
    exact ⟨w, rfl, this.1.1.1, this.1.1.2, this.1.2, this.2⟩
theorem known5 {x : L8} (h : x ∈ wls5) : ∃ cs, rawW x = some ⟨cs, []⟩ ∧ smW ⟨cs, []⟩ = true ∧ 0 < cs.length ∧ cs.length ≤ 5 := by
  have := List.all_eq_true.1 wls5_ok x h
  cases hr : rawW x with
  | none => rw [hr] at this; cases this
  | some w =>
    rw [hr] at this
    simp only [Bool.and_eq_true, decide_eq_true_eq] at this
    obtain ⟨cs, is⟩ := w
    have e : is = [] := this.2
    subst e
    exact ⟨cs, rfl, this.1.1.1, this.1.1.2, this.1.2⟩
theorem rawSm {s : L8} {w : Wld} (hs : s.length ≤ 1000000) (h : rawW s = some w) : w.Sm ∧ w.cs.length ≤ 1000001 ∧ w.is.length ≤ 1000001 ∧ ∀ i ∈ w.is, i.ns.length ≤ 1000001 := by
  have hm := cutG_mem 59 s []
  have hl := cutG_len 59 s []
  obtain ⟨a, l, hP⟩ := cutG_ne 59 s []
  rw [hP] at hm hl
  have hP : cutL s 59 = a :: l := hP
  unfold rawW at h
  rw [hP] at h
  simp only at h
  split at h
  · rename_i is hi
    split at h
    · injection h with h
      have ha := hm a (List.mem_cons_self ..)
      simp only [List.length_nil] at ha
      have hc := cutG_len 32 a []
      have hcm := cutG_mem 32 a []
      obtain ⟨g1, g2⟩ := parseIns_sm hi fun y hy => by
        have := hm y (List.mem_cons_of_mem _ hy)
        simp only [List.length_nil] at this; omega
      simp only [List.length_cons] at hl
      have hcl : (cutL a 32).length ≤ 1000001 := Nat.le_trans hc (by omega)
      rw [← h]
      refine ⟨⟨by show ((cutL a 32).map clsOf).length ≤ _; rw [List.length_map]; omega, fun c hcc => ?_, by show is.length ≤ _; omega, fun i hii => (g2 i hii).1⟩, by show ((cutL a 32).map clsOf).length ≤ _; rw [List.length_map]; omega, by show is.length ≤ _; omega, fun i hii => (g2 i hii).2⟩
      obtain ⟨p, hp, rfl⟩ := List.mem_map.1 hcc
      have := hcm p hp
      simp only [List.length_nil] at this
      have := clsOf_sm (p := p) (by omega)
      exact ⟨by omega, by omega⟩
    · cases h
  · cases h
end Go.Isea
namespace Go.Proofs.YtnocdggngfiebaaGreatDoor
open Go Go.Isea
set_option maxRecDepth 100000
set_option maxHeartbeats 16000000
theorem s_l3RawParseWorld (s : L8) (h : AH) (hs : s.length ≤ 1000000) : Isea.Good Tryz.prog 299 [str s] h [] (worldR (rawW s)) h := by
  have hCut := fun H => s_l13Cut s 59 H hs
  have hm := cutG_mem 59 s []
  have hln := cutG_len 59 s []
  obtain ⟨a, l, hP⟩ := cutG_ne 59 s []
  rw [hP] at hm hln
  have hP : cutL s 59 = a :: l := hP
  rw [hP] at hCut
  have ha := hm a (List.mem_cons_self ..)
  simp only [List.length_nil] at ha
  simp only [List.length_cons] at hln
  have hCut2 := fun H => s_l13Cut a 32 H (by omega)
  have hcl := cutG_len 32 a []
  have hcm := cutG_mem 32 a []
  have ec : cutL a 32 = cutG 32 [] a := rfl
  have hSm : ∀ is, parseIns l = some is → Wld.Sm ⟨(cutL a 32).map clsOf, is⟩ := fun is hi => by
    obtain ⟨g1, g2⟩ := parseIns_sm hi fun y hy => by
      have := hm y (List.mem_cons_of_mem _ hy)
      simp only [List.length_nil] at this; omega
    have hcl2 : (cutL a 32).length ≤ 1000001 := Nat.le_trans hcl (by omega)
    refine ⟨by show ((cutL a 32).map clsOf).length ≤ _; rw [List.length_map]; omega, fun c hcc => ?_, by show is.length ≤ _; omega, fun i hii => (g2 i hii).1⟩
    obtain ⟨p, hp, rfl⟩ := List.mem_map.1 hcc
    have := hcm p hp
    simp only [List.length_nil] at this
    have := clsOf_sm (p := p) (by omega)
    exact ⟨by omega, by omega⟩
  have e : rawW s = match parseIns l with | some is => (if worldOk ⟨(cutL a 32).map clsOf, is⟩ = true then some ⟨(cutL a 32).map clsOf, is⟩ else none) | none => none := by unfold rawW; rw [hP] <;> rfl
  rw [e]
  rw [← ec] at hcl hcm
  generalize cutL a 32 = Cs at hCut2 hcl hcm hSm ⊢
  have hV := fun is (hi : parseIns l = some is) o => s_WorldValid ⟨Cs.map clsOf, is⟩ ⟨0, o⟩ (hSm is hi)
  generalize hR : parseIns l = R at hV ⊢
  have hR2 : parseIns l = R := hR
  have l1 : 1 ≤ l.length + 1 := by omega
  have htl : l.take (l.length + 1 - 1) = l := List.take_of_length_le (by omega)
  refine good [] [] Tryz.func299 rfl rfl Tryz.ntmps299 (by kernel_rfl) mixed (by kernel_rfl) ?_
  simp -dsimp only [go_sem]
  refine call_pure (hCut _) ?_
  simp -dsimp only [go_sem, sRow]
  refine call_pure (hCut2 _) ?_
  simp -dsimp only [go_sem, List.length_map]
  refine loop_ruleH [2, 1, 0, 15, 0] (fun (k : {k : Nat // k ≤ Cs.length}) H => ([(23, .v (.int .i64 (k.1 : Nat)))], ⟨h.n + 4, upd (upd H.o (h.n + 1) (.rows 122 2 (((Cs.take k.1).map clsOf).map Cls.row))) (h.n + 3) (.cells [.so (h.n + 1) k.1 k.1, .so (h.n + 2) 0 0])⟩)) (fun k => Cs.length - k.1) ⟨0, Nat.zero_le _⟩ ?_ ?_
  · refine weak_objs [h.n, h.n + 1, h.n + 2, h.n + 3] (by simp -dsimp only [go_sem]) (by simp -dsimp only [go_sem]) (by simp -dsimp only [go_sem]) ?_ ?_ ?_
    · intro t h1 h2
      have a1 : ¬ t = h.n := by omega
      have a2 : ¬ t = h.n + 1 := by omega
      have a3 : ¬ t = h.n + 2 := by omega
      have a4 : ¬ t = h.n + 3 := by omega
      simp -dsimp only [go_sem, a1, a2, a3, a4]
    · intro x h1 h2; have h1 : x < h.n + 4 := h1; simp at h2 ⊢; omega
    · simp -dsimp only [go_sem, List.take_zero, List.map_nil]
  · rintro ⟨k, hk⟩
    have h1 : k + 1 ≤ 9223372036854775807 := by omega
    have e6 : (k + 1) * 32 ≤ 140737488355328 := by omega
    have htk : (Cs.take k).length = k := by rw [List.length_take]; omega
    by_cases hkl : k < Cs.length
    · obtain ⟨p, hp⟩ := get_some hkl
      have enx := take_next hp
      have fin2 : ∀ (c : Cls), clsOf p = c → ((Cs.take (k + 1)).map clsOf).map Cls.row = ((Cs.take k).map clsOf).map Cls.row ++ [c.row] := fun c e => by rw [enx, List.map_append, List.map_append]; simp [e]
      by_cases h2 : 2 < p.length
      · obtain ⟨p0, p1, p2, pr, rfl⟩ : ∃ a b d r, p = a :: b :: d :: r := by
          match p, h2 with
          | [], h3 => simp at h3
          | [_], h3 => simp at h3
          | [_, _], h3 => simp at h3
          | a :: b :: d :: r, _ => exact ⟨a, b, d, r, rfl⟩
        have h2' : (2 : Int) < ((pr.length + 1 + 1 + 1 : Nat) : Int) := by omega
        have hb60 : (((p1.toNat : Nat) : Int) = 60) = (p1 = 60) := u8_lit (by decide)
        have s1 : 1 ≤ pr.length + 1 + 1 + 1 := by omega
        have s2 : 2 ≤ pr.length + 1 + 1 + 1 := by omega
        have hdt : (p2 :: pr).take (pr.length + 1 + 1 + 1 - 2) = p2 :: pr := List.take_of_length_le (by simp)
        by_cases h60 : p1 = 60
        · have ecl := fin2 ⟨[p0], p2 :: pr⟩ (by simp [clsOf, h60])
          have hbT : (((p1.toNat : Nat) : Int) = 60) = True := by rw [hb60]; exact eq_true h60
          simp -dsimp only [go_sem, hkl, hp, sRow, h2', hbT, s1, s2, hdt, h1, e6, htk, List.length_map]
          refine round_to ⟨k + 1, hkl⟩ (by show Cs.length - (k + 1) < Cs.length - k; omega) ?_
          refine weak_objs [h.n, h.n + 1, h.n + 2, h.n + 3] (by simp -dsimp only [go_sem]) (by simp -dsimp only [go_sem]) (by simp -dsimp only [go_sem]) ?_ ?_ ?_
          · intro t h1 h2
            have a1 : ¬ t = h.n := by omega
            have a2 : ¬ t = h.n + 1 := by omega
            have a3 : ¬ t = h.n + 2 := by omega
            have a4 : ¬ t = h.n + 3 := by omega
            have a5 : ¬ t = h.n + 4 := by omega
            simp -dsimp only [go_sem, a1, a2, a3, a4, a5]
          · intro x h1 h2; have h1 : x < h.n + 4 := h1; simp at h2 ⊢; omega
          · rw [ecl]
            simp -dsimp only [go_sem, Cls.row]
        · have ecl := fin2 ⟨p0 :: p1 :: p2 :: pr, []⟩ (by simp [clsOf, h60])
          have hbF : (((p1.toNat : Nat) : Int) = 60) = False := by rw [hb60]; exact eq_false h60
          simp -dsimp only [go_sem, hkl, hp, sRow, h2', hbF, h1, e6, htk, List.length_map]
          refine round_to ⟨k + 1, hkl⟩ (by show Cs.length - (k + 1) < Cs.length - k; omega) ?_
          refine weak_objs [h.n, h.n + 1, h.n + 2, h.n + 3] (by simp -dsimp only [go_sem]) (by simp -dsimp only [go_sem]) (by simp -dsimp only [go_sem]) ?_ ?_ ?_
          · intro t h1 h2
            have a1 : ¬ t = h.n := by omega
            have a2 : ¬ t = h.n + 1 := by omega
            have a3 : ¬ t = h.n + 2 := by omega
            have a4 : ¬ t = h.n + 3 := by omega
            have a5 : ¬ t = h.n + 4 := by omega
            simp -dsimp only [go_sem, a1, a2, a3, a4, a5]
          · intro x h1 h2; have h1 : x < h.n + 4 := h1; simp at h2 ⊢; omega
          · rw [ecl]
            simp -dsimp only [go_sem, Cls.row]
      · have h2' : ¬ (2 : Int) < ((p.length : Nat) : Int) := by omega
        have ecl := fin2 ⟨p, []⟩ (by simp [clsOf, h2])
        simp -dsimp only [go_sem, hkl, hp, sRow, h2', h1, e6, htk, List.length_map]
        refine round_to ⟨k + 1, hkl⟩ (by show Cs.length - (k + 1) < Cs.length - k; omega) ?_
        refine weak_objs [h.n, h.n + 1, h.n + 2, h.n + 3] (by simp -dsimp only [go_sem]) (by simp -dsimp only [go_sem]) (by simp -dsimp only [go_sem]) ?_ ?_ ?_
        · intro t h1 h2
          have a1 : ¬ t = h.n := by omega
          have a2 : ¬ t = h.n + 1 := by omega
          have a3 : ¬ t = h.n + 2 := by omega
          have a4 : ¬ t = h.n + 3 := by omega
          have a5 : ¬ t = h.n + 4 := by omega
          simp -dsimp only [go_sem, a1, a2, a3, a4, a5]
        · intro x h1 h2; have h1 : x < h.n + 4 := h1; simp at h2 ⊢; omega
        · rw [ecl]
          simp -dsimp only [go_sem, Cls.row]
    · have hke : k = Cs.length := by omega
      subst hke
      have hAL : AllLen 1 ([str a] :: l.map sRow) = True := eq_true (fun r hr => by
        rcases List.mem_cons.1 hr with rfl | hr
        · rfl
        · obtain ⟨j, _, rfl⟩ := List.mem_map.1 hr; rfl)
      simp -dsimp only [go_sem, hkl, List.take_length, l1, htl, hAL, List.length_map]
      refine loop_ruleH [2, 2, 44, 0] (fun (x : {x : Nat × List Inst // x.1 ≤ l.length ∧ x.2.length = x.1 ∧ R = mapOp (x.2 ++ ·) (parseIns (l.drop x.1))}) H =>
          ([(52, .v (.int .i64 (x.1.1 : Nat)))], ⟨h.n + 4, upd (upd H.o (h.n + 2) (.rows 45 3 (x.1.2.map Inst.row))) (h.n + 3) (.cells [.so (h.n + 1) Cs.length Cs.length, .so (h.n + 2) x.1.2.length x.1.2.length])⟩))
        (fun x => l.length - x.1.1) ⟨(0, []), Nat.zero_le _, rfl, by show R = mapOp ([] ++ ·) (parseIns (l.drop 0)); rw [List.drop_zero, hR]; cases R <;> rfl⟩ ?_ ?_
      · refine weak_objs [h.n, h.n + 1, h.n + 2, h.n + 3] (by simp -dsimp only [go_sem]) (by simp -dsimp only [go_sem]) (by simp -dsimp only [go_sem]) ?_ ?_ ?_
        · intro t h1 h2
          have a1 : ¬ t = h.n := by omega
          have a2 : ¬ t = h.n + 1 := by omega
          have a3 : ¬ t = h.n + 2 := by omega
          have a4 : ¬ t = h.n + 3 := by omega
          simp -dsimp only [go_sem, a1, a2, a3, a4]
        · intro x h1 h2; have h1 : x < h.n + 4 := h1; simp at h2 ⊢; omega
        · simp -dsimp only [go_sem, List.map_nil, List.length_nil]
      · rintro ⟨⟨j, done⟩, hj, hd, hinv⟩
        have hj : j ≤ l.length := hj
        have hd : done.length = j := hd
        have hinv : R = mapOp (done ++ ·) (parseIns (l.drop j)) := hinv
        clear hR
        have h1 : j + 1 ≤ 9223372036854775807 := by omega
        have e6 : (done.length + 1) * 56 ≤ 140737488355328 := by omega
        by_cases hjl : j < l.length
        · obtain ⟨x, hx⟩ := get_some hjl
          have hxl := hm x (List.mem_cons_of_mem _ (List.mem_of_getElem? hx))
          simp only [List.length_nil] at hxl
          have hN2 := fun H => s_ParseInstance x H (by omega)
          rw [drop_get hx, parseIns_next] at hinv
          cases hnx : parseIn x with
          | none =>
            rw [hnx] at hinv hN2
            simp only at hinv
            clear hV hR2
            subst hinv
            simp -dsimp only [go_sem, hjl, hx, sRow, instR, Inst.row, Option.getD_none, Option.isSome_none] at hN2 ⊢
            refine call_pure (hN2 _) ?_
            simp -dsimp only [go_sem]
            exact fin_pure (by simp -dsimp only [go_sem]) (by simp -dsimp only [go_sem, worldR, Wld.row, Option.getD_none, Option.isSome_none, List.map_nil])
          | some m =>
            rw [hnx] at hinv hN2
            simp only at hinv
            simp -dsimp only [go_sem, hjl, hx, sRow, instR, Inst.row, Option.getD_some, Option.isSome_some] at hN2 ⊢
            refine call_pure (hN2 _) ?_
            simp -dsimp only [go_sem, h1, e6, List.length_map]
            refine round_to ⟨(j + 1, done ++ [m]), hjl, by show (done ++ [m]).length = j + 1; simp [hd], hinv⟩ (by show l.length - (j + 1) < l.length - j; omega) ?_
            refine weak_objs [h.n, h.n + 1, h.n + 2, h.n + 3] (by simp -dsimp only [go_sem]) (by simp -dsimp only [go_sem]) (by simp -dsimp only [go_sem]) ?_ ?_ ?_
            · intro t h1 h2
              have a1 : ¬ t = h.n := by omega
              have a2 : ¬ t = h.n + 1 := by omega
              have a3 : ¬ t = h.n + 2 := by omega
              have a4 : ¬ t = h.n + 3 := by omega
              have a5 : ¬ t = h.n + 4 := by omega
              simp -dsimp only [go_sem, a1, a2, a3, a4, a5]
            · intro x h1 h2; have h1 : x < h.n + 4 := h1; simp at h2 ⊢; omega
            · simp -dsimp only [go_sem, List.map_append, List.map_cons, List.map_nil, List.length_append, List.length_cons, List.length_nil, Inst.row]
        · have hje : j = l.length := by omega
          rw [hje, List.drop_length] at hinv
          have hinv : R = some done := by rw [hinv]; show some (done ++ []) = _; simp
          subst hinv
          have hV2 := hV done rfl
          simp -dsimp only [go_sem, hjl]
          refine call_pure (Good.frozen (hV2 h.o) (.v _) (by simp -dsimp only [go_sem, Wld.row, List.length_map])) ?_
          cases hw : worldOk ⟨Cs.map clsOf, done⟩ with
          | true =>
            simp -dsimp only [go_sem]
            exact fin_pure (by simp -dsimp only [go_sem]) (by simp -dsimp only [go_sem, worldR, Wld.row, hw, Option.getD_some, Option.isSome_some, List.length_map, if_true])
          | false =>
            simp -dsimp only [go_sem]
            exact fin_pure (by simp -dsimp only [go_sem]) (by simp -dsimp only [go_sem, worldR, Wld.row, hw, Option.getD_none, Option.isSome_none, List.map_nil, Bool.false_eq_true, if_false])
theorem s_ParseWorld (s : L8) (h : AH) (hs : s.length ≤ 1000000) : Isea.Good Tryz.prog 254 [str s] h [] (worldR (rawW s)) h := by
  have hRaw := fun H => s_l3RawParseWorld s H hs
  have hO : ∀ H, Isea.Good Tryz.prog 131 [.agg ((rawW s).getD ⟨[], []⟩).row] H [] (.agg ((rawW s).getD ⟨[], []⟩).row) H := fun H => by
    cases hr : rawW s with
    | none => exact s_l13OwnWorld ⟨[], []⟩ H (by simp) (by simp) (by simp)
    | some w =>
      obtain ⟨_, h2, h3, h4⟩ := rawSm hs hr
      exact s_l13OwnWorld w H (by omega) (by omega) (fun i hi => by have := h4 i hi; omega)
  unfold worldR at hRaw ⊢
  generalize (rawW s).getD ⟨[], []⟩ = w at hRaw hO ⊢
  generalize (rawW s).isSome = b at hRaw ⊢
  refine good [] [] Tryz.func254 rfl rfl Tryz.ntmps254 (by kernel_rfl) mixed (by kernel_rfl) ?_
  simp -dsimp only [go_sem, Wld.row] at hRaw hO ⊢
  refine call_pure (hRaw _) ?_
  simp -dsimp only [go_sem]
  refine call_pure (hO _) ?_
  simp -dsimp only [go_sem]
  exact fin_pure (by simp -dsimp only [go_sem]) (by simp -dsimp only [go_sem, Wld.row])
end Go.Proofs.YtnocdggngfiebaaGreatDoor

namespace Go.Isea
open Go
set_option maxRecDepth 100000
theorem lk_eq {e e' : Option AV} {K : AV → AH → Prop} {k : Sealed K} {H : AH} (h : e = e') (g : Lk e' k H) : Lk e k H := h ▸ g
theorem drop1 {l : L8} {k : Nat} {c : UInt8} (h : l[k]? = some c) : (l.drop k).take (k + 1 - k) = [c] := by
  rw [show k + 1 - k = 1 by omega, drop_get h]; rfl
end Go.Isea
namespace Go.Proofs.YtnocdggngfiebaaGreatDoor
open Go Go.Isea
set_option maxRecDepth 100000
set_option maxHeartbeats 16000000
theorem s_OwnList0 (h : AH) : Isea.Good Tryz.prog 216 [.sl []] h [] (.so h.n 0 0) (h.push (.rows 45 3 [])) := by
  refine good [] [] Tryz.func216 rfl rfl Tryz.ntmps216 (by kernel_rfl) mixed (by kernel_rfl) ?_
  simp -dsimp only [go_sem, List.length_nil]
  refine loop_ruleH [7, 0] (fun (_ : Unit) H => ([(3, .so h.n 0 0), (9, .v (.int .i64 0))], ⟨h.n + 1, upd H.o h.n (.rows 45 3 [])⟩)) (fun _ => 0) () ?_ ?_
  · refine weak_objs [h.n] (by simp -dsimp only [go_sem]) (by simp -dsimp only [go_sem]) (by simp -dsimp only [go_sem]) ?_ ?_ ?_
    · intro t h1 h2
      have a1 : ¬ t = h.n := by omega
      simp -dsimp only [go_sem, a1]
    · intro x h1 h2; have h1 : x < h.n + 1 := h1; simp at h2 ⊢; omega
    · simp -dsimp only [go_sem]
  · intro u
    simp -dsimp only [go_sem]
    refine fin_push (Nat.le_refl _) ?_ ?_ <;> simp -dsimp only [go_sem]
theorem s_OwnWorld0 (cs : List Cls) (h : AH) (hc : cs.length ≤ 1000000) : Isea.Good Tryz.prog 131 [.agg [.sl (cs.map Cls.row), .sl []]] h [] (.agg [.so h.n cs.length cs.length, .so (h.n + 1) 0 0]) ⟨h.n + 2, upd (upd h.o h.n (.rows 122 2 (cs.map Cls.row))) (h.n + 1) (.rows 45 3 [])⟩ := by
  have e6 : cs.length * 32 ≤ 140737488355328 := by omega
  have hgr : ∀ H : AH, goodRows H 2 (cs.map Cls.row) = True := fun H => good_map fun c => by simp -dsimp only [Cls.row, go_sem, List.length_cons, List.length_nil, List.all_cons, List.all_nil, Bool.and_self]
  have hg : Isea.Good Tryz.prog 131 [.agg [.sl (cs.map Cls.row), .sl []]] h [] (.agg [.so (h.n + 2) cs.length cs.length, .so (h.n + 3) 0 0]) ⟨h.n + 4, upd (upd (upd (upd h.o h.n (.cells [.so (h.n + 2) cs.length cs.length, .so (h.n + 3) 0 0])) (h.n + 1) (.cells [.so (h.n + 2) cs.length cs.length, .so (h.n + 3) 0 0])) (h.n + 2) (.rows 122 2 (cs.map Cls.row))) (h.n + 3) (.rows 45 3 [])⟩ := by
    have hO := fun H => s_OwnList0 H
    refine good [1] [] Tryz.func131 rfl rfl Tryz.ntmps131 (by kernel_rfl) mixed (by kernel_rfl) ?_
    simp -dsimp only [go_sem, e6, List.length_map, Nat.zero_add, List.nil_append, hgr] at hO ⊢
    refine call_pure (hO _) ?_
    simp -dsimp only [go_sem]
    refine fin_objs [h.n, h.n + 1, h.n + 2, h.n + 3] (by simp -dsimp only [go_sem]) (Nat.le_refl _) (by simp -dsimp only [go_sem]) ?_ ?_ ?_
    · intro t h1 h2
      have a1 : ¬ t = h.n := by omega
      have a2 : ¬ t = h.n + 1 := by omega
      have a3 : ¬ t = h.n + 2 := by omega
      have a4 : ¬ t = h.n + 3 := by omega
      simp -dsimp only [go_sem, a1, a2, a3, a4]
    · intro x h1 h2; have h1 : x < h.n + 4 := h1; simp at h2 ⊢; omega
    · simp -dsimp only [go_sem]
  refine Good.shift 2 hg rfl (Nat.le_add_right _ _) (fun t ht => ?_) (fun t h1 h2 => ?_) ?_
  · show upd (upd h.o h.n _) (h.n + 1) _ t = _
    rw [upd_ne _ _ (by omega), upd_ne _ _ (by omega)]
  · have h2 : t < h.n + 2 := h2
    have ht : t = h.n ∨ t = h.n + 1 := by omega
    rcases ht with rfl | rfl
    · show RenO True _ _ (upd (upd (upd (upd _ _ _) _ _) _ _) (h.n + 3) _ (h.n + 2)) (upd (upd _ h.n _) (h.n + 1) _ h.n)
      rw [upd_ne _ _ (by omega), upd_same, upd_ne _ _ (by omega), upd_same]
      exact RenO.of_rows (of_eq_true puR_clss)
    · show RenO True _ _ (upd (upd (upd (upd _ _ _) _ _) _ _) (h.n + 3) _ (h.n + 1 + 2)) (upd (upd _ h.n _) (h.n + 1) _ (h.n + 1))
      rw [upd_same, upd_same]
      exact RenO.of_rows (of_eq_true puR_n)
  · refine .agg rfl fun i x y h1 h2 => ?_
    rcases i with _ | _ | i
    · simp at h1 h2; subst h1; subst h2
      exact Ren.so' (by show h.n < h.n + 2; omega) (dn_hi (Nat.le_refl _))
    · simp at h1 h2; subst h1; subst h2
      exact Ren.so' (by show h.n + 1 < h.n + 2; omega) (dn_hi (Nat.le_succ _))
    · simp at h1
theorem s_ParseWorld0 (s : L8) (cs : List Cls) (h : AH) (hs : s.length ≤ 1000000) (hr : rawW s = some ⟨cs, []⟩) (hcl : cs.length ≤ 1000) : Isea.Good Tryz.prog 254 [str s] h [] (.tup [.agg [.so h.n cs.length cs.length, .so (h.n + 1) 0 0], .v (.bool true)]) ⟨h.n + 2, upd (upd h.o h.n (.rows 122 2 (cs.map Cls.row))) (h.n + 1) (.rows 45 3 [])⟩ := by
  have hg : Isea.Good Tryz.prog 254 [str s] h [] (.tup [.agg [.so (h.n + 2) cs.length cs.length, .so (h.n + 3) 0 0], .v (.bool true)]) ⟨h.n + 4, upd (upd (upd (upd h.o h.n (.cells [.so (h.n + 2) cs.length cs.length, .so (h.n + 3) 0 0])) (h.n + 1) (.cells [.sl (cs.map Cls.row), .sl []])) (h.n + 2) (.rows 122 2 (cs.map Cls.row))) (h.n + 3) (.rows 45 3 [])⟩ := by
    have hRaw := fun H => s_l3RawParseWorld s H hs
    have hO := fun H => s_OwnWorld0 cs H (by omega)
    unfold worldR at hRaw
    rw [hr] at hRaw
    refine good [] [] Tryz.func254 rfl rfl Tryz.ntmps254 (by kernel_rfl) mixed (by kernel_rfl) ?_
    simp -dsimp only [go_sem, Wld.row, Option.getD_some, Option.isSome_some, List.map_nil] at hRaw hO ⊢
    refine call_pure (hRaw _) ?_
    simp -dsimp only [go_sem]
    refine call_pure (hO _) ?_
    simp -dsimp only [go_sem, List.length_map]
    refine fin_objs [h.n, h.n + 1, h.n + 2, h.n + 3] (by simp -dsimp only [go_sem]) (Nat.le_refl _) (by simp -dsimp only [go_sem]) ?_ ?_ ?_
    · intro t h1 h2
      have a1 : ¬ t = h.n := by omega
      have a2 : ¬ t = h.n + 1 := by omega
      have a3 : ¬ t = h.n + 2 := by omega
      have a4 : ¬ t = h.n + 3 := by omega
      simp -dsimp only [go_sem, a1, a2, a3, a4]
    · intro x h1 h2; have h1 : x < h.n + 4 := h1; simp at h2 ⊢; omega
    · simp -dsimp only [go_sem]
  refine Good.shift 2 hg rfl (Nat.le_add_right _ _) (fun t ht => ?_) (fun t h1 h2 => ?_) ?_
  · show upd (upd h.o h.n _) (h.n + 1) _ t = _
    rw [upd_ne _ _ (by omega), upd_ne _ _ (by omega)]
  · have h2 : t < h.n + 2 := h2
    have ht : t = h.n ∨ t = h.n + 1 := by omega
    rcases ht with rfl | rfl
    · show RenO True _ _ (upd (upd (upd (upd _ _ _) _ _) _ _) (h.n + 3) _ (h.n + 2)) (upd (upd _ h.n _) (h.n + 1) _ h.n)
      rw [upd_ne _ _ (by omega), upd_same, upd_ne _ _ (by omega), upd_same]
      exact RenO.of_rows (of_eq_true puR_clss)
    · show RenO True _ _ (upd (upd (upd (upd _ _ _) _ _) _ _) (h.n + 3) _ (h.n + 1 + 2)) (upd (upd _ h.n _) (h.n + 1) _ (h.n + 1))
      rw [upd_same, upd_same]
      exact RenO.of_rows (of_eq_true puR_n)
  · refine .tup rfl fun i x y h1 h2 => ?_
    rcases i with _ | _ | i
    · simp at h1 h2; subst h1; subst h2
      refine .agg rfl fun i x y h1 h2 => ?_
      rcases i with _ | _ | i
      · simp at h1 h2; subst h1; subst h2
        exact Ren.so' (by show h.n < h.n + 2; omega) (dn_hi (Nat.le_refl _))
      · simp at h1 h2; subst h1; subst h2
        exact Ren.so' (by show h.n + 1 < h.n + 2; omega) (dn_hi (Nat.le_succ _))
      · simp at h1
    · simp at h1 h2; subst h1; subst h2; exact .v _
    · simp at h1
theorem s_l3Known (v : Nat) (hv : v < 9) : ∃ w, smW w = true ∧ 0 < w.cs.length ∧ w.cs.length ≤ 5 ∧ w.is.length ≤ 20 ∧ ∀ h : AH, Isea.Good Tryz.prog 253 [.v (.int .i64 (v : Nat))] h [] (.agg w.row) h := by
  obtain ⟨x, hx⟩ := get_some (l := wls9) (k := v) hv
  have hxm := List.mem_of_getElem? hx
  obtain ⟨w, h1, h2, h3, h4, h5⟩ := known9 hxm
  have hP := fun H => s_ParseWorld x H (by have := wls_len.1 x hxm; omega)
  have hr : ([[str [69, 32, 79, 60, 69, 59, 69, 32, 105, 59, 69, 32, 98, 59, 69, 32, 108, 40, 120, 41, 58, 69, 32, 120, 59, 69, 32, 112, 40, 120, 44, 121, 41, 58, 69, 32, 120, 38, 69, 32, 121, 59, 79, 32, 105, 59, 79, 32, 108, 40, 120, 41, 58, 79, 32, 120]], [str [69, 32, 83, 59, 69, 32, 105, 59, 69, 32, 108, 40, 120, 41, 58, 69, 32, 120, 59, 69, 32, 108, 40, 105, 41, 59, 83, 32, 112, 40, 120, 44, 120, 41, 58, 83, 32, 120, 59, 83, 32, 112, 40, 105, 44, 98, 41, 59, 83, 32, 105, 59, 83, 32, 98]], [str [65, 32, 66, 59, 65, 32, 105, 59, 65, 32, 108, 40, 120, 41, 58, 65, 32, 120, 38, 66, 32, 120, 59, 66, 32, 105, 59, 66, 32, 108, 40, 120, 41, 58, 65, 32, 108, 40, 120, 41]], [str [65, 59, 65, 32, 108, 40, 120, 41, 58, 65, 32, 108, 40, 120, 41, 59, 65, 32, 109, 40, 120, 41, 58, 65, 32, 108, 40, 109, 40, 120, 41, 41, 59, 65, 32, 105]], [str [69, 32, 79, 60, 69, 32, 83, 60, 69, 79, 59, 69, 32, 117, 59, 69, 32, 105, 59, 79, 32, 105, 59, 83, 32, 105, 59, 69, 32, 109, 40, 120, 41, 58, 69, 32, 120, 59, 79, 32, 109, 40, 120, 41, 58, 79, 32, 120, 59, 83, 32, 109, 40, 120, 41, 58, 83, 32, 120, 38, 69, 32, 109, 40, 120, 41]], [str [69, 32, 70, 59, 69, 32, 105, 59, 69, 32, 98, 59, 70, 32, 108, 40, 120, 41, 58, 69, 32, 120, 59, 70, 32, 109, 40, 120, 41, 58, 70, 32, 120, 38, 69, 32, 120, 59, 70, 32, 112, 40, 108, 40, 120, 41, 44, 121, 41, 58, 69, 32, 120, 38, 70, 32, 121, 59, 70, 32, 105]], [str [69, 32, 79, 60, 69, 59, 79, 32, 105, 59, 69, 32, 98, 59, 69, 32, 108, 40, 120, 41, 58, 69, 32, 120]], [str [65, 32, 66, 60, 65, 32, 67, 60, 65, 66, 59, 65, 32, 105, 59, 66, 32, 105, 59, 67, 32, 105, 59, 65, 32, 108, 40, 120, 41, 58, 67, 32, 120, 59, 66, 32, 108, 40, 120, 41, 58, 67, 32, 120, 59, 67, 32, 108, 40, 120, 41, 58, 67, 32, 120, 59, 65, 32, 117]], [str [69, 59, 69, 32, 112, 40, 120, 44, 105, 41, 58, 69, 32, 120, 59, 69, 32, 112, 40, 105, 44, 120, 41, 58, 69, 32, 120, 59, 69, 32, 105, 59, 69, 32, 98]]] : List (List AV))[v]? = some [str x] := by
    have : ([[str [69, 32, 79, 60, 69, 59, 69, 32, 105, 59, 69, 32, 98, 59, 69, 32, 108, 40, 120, 41, 58, 69, 32, 120, 59, 69, 32, 112, 40, 120, 44, 121, 41, 58, 69, 32, 120, 38, 69, 32, 121, 59, 79, 32, 105, 59, 79, 32, 108, 40, 120, 41, 58, 79, 32, 120]], [str [69, 32, 83, 59, 69, 32, 105, 59, 69, 32, 108, 40, 120, 41, 58, 69, 32, 120, 59, 69, 32, 108, 40, 105, 41, 59, 83, 32, 112, 40, 120, 44, 120, 41, 58, 83, 32, 120, 59, 83, 32, 112, 40, 105, 44, 98, 41, 59, 83, 32, 105, 59, 83, 32, 98]], [str [65, 32, 66, 59, 65, 32, 105, 59, 65, 32, 108, 40, 120, 41, 58, 65, 32, 120, 38, 66, 32, 120, 59, 66, 32, 105, 59, 66, 32, 108, 40, 120, 41, 58, 65, 32, 108, 40, 120, 41]], [str [65, 59, 65, 32, 108, 40, 120, 41, 58, 65, 32, 108, 40, 120, 41, 59, 65, 32, 109, 40, 120, 41, 58, 65, 32, 108, 40, 109, 40, 120, 41, 41, 59, 65, 32, 105]], [str [69, 32, 79, 60, 69, 32, 83, 60, 69, 79, 59, 69, 32, 117, 59, 69, 32, 105, 59, 79, 32, 105, 59, 83, 32, 105, 59, 69, 32, 109, 40, 120, 41, 58, 69, 32, 120, 59, 79, 32, 109, 40, 120, 41, 58, 79, 32, 120, 59, 83, 32, 109, 40, 120, 41, 58, 83, 32, 120, 38, 69, 32, 109, 40, 120, 41]], [str [69, 32, 70, 59, 69, 32, 105, 59, 69, 32, 98, 59, 70, 32, 108, 40, 120, 41, 58, 69, 32, 120, 59, 70, 32, 109, 40, 120, 41, 58, 70, 32, 120, 38, 69, 32, 120, 59, 70, 32, 112, 40, 108, 40, 120, 41, 44, 121, 41, 58, 69, 32, 120, 38, 70, 32, 121, 59, 70, 32, 105]], [str [69, 32, 79, 60, 69, 59, 79, 32, 105, 59, 69, 32, 98, 59, 69, 32, 108, 40, 120, 41, 58, 69, 32, 120]], [str [65, 32, 66, 60, 65, 32, 67, 60, 65, 66, 59, 65, 32, 105, 59, 66, 32, 105, 59, 67, 32, 105, 59, 65, 32, 108, 40, 120, 41, 58, 67, 32, 120, 59, 66, 32, 108, 40, 120, 41, 58, 67, 32, 120, 59, 67, 32, 108, 40, 120, 41, 58, 67, 32, 120, 59, 65, 32, 117]], [str [69, 59, 69, 32, 112, 40, 120, 44, 105, 41, 58, 69, 32, 120, 59, 69, 32, 112, 40, 105, 44, 120, 41, 58, 69, 32, 120, 59, 69, 32, 105, 59, 69, 32, 98]]] : List (List AV)) = wls9.map sRow := rfl
    rw [this, List.getElem?_map, hx]; rfl
  have hmod : v % 9 = v := Nat.mod_eq_of_lt hv
  have h90 : (((9 : Nat) : Int) = 0) = False := eq_false (by decide)
  refine ⟨w, h2, h3, h4, h5, fun h => ?_⟩
  unfold worldR at hP
  rw [h1] at hP
  refine good [] [] Tryz.func253 rfl rfl Tryz.ntmps253 (by kernel_rfl) mixed (by kernel_rfl) ?_
  simp -dsimp only [go_sem, Wld.row, Option.getD_some, Option.isSome_some, h90, tmod_nat, hmod, List.length_cons, List.length_nil] at hP ⊢
  refine lk_eq (e' := some (.ref [str x] 0)) ((congrArg (fun z => arow z 1) hr).trans (by simp -dsimp only [go_sem, List.length_cons, List.length_nil])) ?_
  simp -dsimp only [go_sem]
  refine call_pure (hP _) ?_
  simp -dsimp only [go_sem]
  exact fin_pure (by simp -dsimp only [go_sem]) (by simp -dsimp only [go_sem, Wld.row])
/-- where a world of one's own stands -/
structure OwnC (cs : List Cls) (l U V m : Nat) (h : AH) : Prop where
  ll : l < h.n
  lu : U < h.n
  lv : V < h.n
  nu : ¬ U = l
  nv : ¬ V = l
  cc : h.o U = .rows 122 2 (cs.map Cls.row)
  ii : isCur m (h.o V) = true
theorem s_l3DrawNeed (b : L8) (p : Nat) (cs : List Cls) (vars : L8) (hb : b.length ≤ 2000) (hp : p + 20 ≤ 1000000000) (hc0 : 0 < cs.length) (hcs : ∀ c ∈ cs, smCl c = true) (hc5 : cs.length ≤ 10) (hvl : vars.length ≤ 60) :
    ∃ (n : Need) (q : Nat), smNd n = true ∧ p ≤ q ∧ q ≤ p + 20 ∧ ∀ (l U V m : Nat) (h : AH), OwnC cs l U V m h → h.o l = .cells (rdCE b p) →
      Isea.Good Tryz.prog 300 [.ptr l 0, .agg [.so U cs.length cs.length, .so V m m], str vars] h [l] (.agg n.row) (h.set l (.cells (rdCE b q))) := by
  obtain ⟨v1, hv1, hG1⟩ := s_rpick b p cs.length hb (by omega)
  have hv1 := hv1 hc0
  obtain ⟨c, hc⟩ := get_some hv1
  have hsc := smCl_iff.1 (hcs c (List.mem_of_getElem? hc))
  by_cases hv : vars = []
  · subst hv
    obtain ⟨v2, hv2, hG2⟩ := s_rpick b (p + 1) 2 hb (by omega)
    have hv2 := hv2 (by decide)
    rw [show ((2 : Nat) : Int) = 2 from rfl] at hG2
    have hpw : 2 ^ v2 ≤ 2 := by
      have : v2 = 0 ∨ v2 = 1 := by omega
      rcases this with rfl | rfl <;> decide
    obtain ⟨t, q, w1, l1, g1, e1, hD⟩ := s_l1Draw v2 b (p + 1 + 1) true hb (by omega)
    refine ⟨⟨c.n, t.text⟩, q, smNd_iff.2 ⟨hsc.1, by show t.text.length ≤ 60; omega⟩, by omega, by omega, fun l U V m h hw ho => ?_⟩
    have hl := hw.ll
    have hU := hw.lu
    have hUl := hw.nu
    have hVl := hw.nv
    have hV := hw.lv
    have hcc := hw.cc
    have hii := hw.ii
    have a1 : ¬ U = h.n := by omega
    have a2 : ¬ V = h.n := by omega
    have hAl2 : (∀ r, r ∈ cs.map Cls.row → r.length = 2) = True := eq_true fun r hr => by obtain ⟨j, _, rfl⟩ := List.mem_map.1 hr; rfl
    refine good [] [] Tryz.func300 rfl rfl Tryz.ntmps300 (by kernel_rfl) mixed (by kernel_rfl) ?_
    simp -dsimp only [go_sem, hl, hU, hV, hUl, hVl, hcc, hii, a1, a2, List.length_map]
    refine call_one (hG1 l _ (by simp -dsimp only [go_sem, hl]) (by simp -dsimp only [go_sem, ho, hl])) (by simp -dsimp only [go_sem]) (by simp -dsimp only [go_sem, hl, not_false_eq_true]) ?_
    simp -dsimp only [go_sem, hl, hU, hV, hUl, hVl, hcc, hii, a1, a2, hv1, hc, hAl2, Cls.row, List.length_map]
    refine call_one (hG2 l _ (by simp -dsimp only [go_sem, hl]) (by simp -dsimp only [go_sem, ho, hl])) (by simp -dsimp only [go_sem]) (by simp -dsimp only [go_sem, hl, not_false_eq_true]) ?_
    simp -dsimp only [go_sem, hl]
    refine call_one (hD l _ (by simp -dsimp only [go_sem, hl]) (by simp -dsimp only [go_sem, ho, hl])) (by simp -dsimp only [go_sem]) (by simp -dsimp only [go_sem, hl, not_false_eq_true]) ?_
    simp -dsimp only [go_sem, hl]
    refine fin_one (by simp -dsimp only [go_sem]) ?_ ?_ <;> simp -dsimp only [go_sem, hl, rdCE, Need.row]
  · have hvp : 0 < vars.length := List.length_pos_iff.2 hv
    obtain ⟨k, hk, hG2⟩ := s_rpick b (p + 1) vars.length hb (by omega)
    have hk := hk hvp
    obtain ⟨x, hx⟩ := get_some hk
    have hd1 := drop1 hx
    obtain ⟨t, ht, hG3⟩ := s_of b (p + 1 + 1) [[x], [x], [x], [108, 40, x, 41], [x]] hb (by omega) (by simp)
    simp only [List.map_cons, List.map_nil, sRow] at hG3
    have hall : ∀ y ∈ ([[x], [x], [x], [108, 40, x, 41], [x]] : List L8), y.length ≤ 60 := by simp
    have htl : t.length ≤ 60 := hall t ht
    have hk1 : k + 1 ≤ 9223372036854775807 := by omega
    have hk2 : k ≤ k + 1 := Nat.le_succ _
    have hk3 : k + 1 ≤ vars.length := hk
    refine ⟨⟨c.n, t⟩, p + 1 + 1 + 1, smNd_iff.2 ⟨hsc.1, htl⟩, by omega, by omega, fun l U V m h hw ho => ?_⟩
    have hl := hw.ll
    have hU := hw.lu
    have hUl := hw.nu
    have hVl := hw.nv
    have hV := hw.lv
    have hcc := hw.cc
    have hii := hw.ii
    have a1 : ¬ U = h.n := by omega
    have a2 : ¬ V = h.n := by omega
    have hAl2 : (∀ r, r ∈ cs.map Cls.row → r.length = 2) = True := eq_true fun r hr => by obtain ⟨j, _, rfl⟩ := List.mem_map.1 hr; rfl
    refine good [] [] Tryz.func300 rfl rfl Tryz.ntmps300 (by kernel_rfl) mixed (by kernel_rfl) ?_
    simp -dsimp only [go_sem, hl, hU, hV, hUl, hVl, hcc, hii, a1, a2, List.length_map]
    refine call_one (hG1 l _ (by simp -dsimp only [go_sem, hl]) (by simp -dsimp only [go_sem, ho, hl])) (by simp -dsimp only [go_sem]) (by simp -dsimp only [go_sem, hl, not_false_eq_true]) ?_
    simp -dsimp only [go_sem, hl, hU, hV, hUl, hVl, hcc, hii, a1, a2, hv1, hc, hAl2, hv, Cls.row, List.length_map]
    refine call_one (hG2 l _ (by simp -dsimp only [go_sem, hl]) (by simp -dsimp only [go_sem, ho, hl])) (by simp -dsimp only [go_sem]) (by simp -dsimp only [go_sem, hl, not_false_eq_true]) ?_
    simp -dsimp only [go_sem, hl, hk1, hk2, hk3, hd1]
    refine call_one (hG3 l _ (by simp -dsimp only [go_sem, hl]) (by simp -dsimp only [go_sem, ho, hl])) (by simp -dsimp only [go_sem]) (by simp -dsimp only [go_sem, hl, not_false_eq_true]) ?_
    simp -dsimp only [go_sem, hl]
    refine fin_one (by simp -dsimp only [go_sem]) ?_ ?_ <;> simp -dsimp only [go_sem, hl, rdCE, Need.row]
end Go.Proofs.YtnocdggngfiebaaGreatDoor
