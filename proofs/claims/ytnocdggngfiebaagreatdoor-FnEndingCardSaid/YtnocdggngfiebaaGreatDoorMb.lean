/- Rules by which the abstract machine reckons, lists of bytes, types of this program. -/
import Derived.Lib.IndexLaws
import Derived.Lib.Hide
import Derived.Test.YtnocdggngfiebaaGreatDoorNz
import Derived.Laws.Strings
import Derived.IntWalk
import Derived.Test.YtnocdggngfiebaaGreatDoorProg
set_option linter.all false
namespace Go.Isea
set_option maxRecDepth 100000
abbrev L8 := List UInt8
abbrev lb (s : ByteArray) : L8 := s.data.toList
abbrev bs (l : L8) : ByteArray := ⟨l.toArray⟩
theorem lb_bs (l : L8) : lb (bs l) = l := by simp
theorem bs_lb (s : ByteArray) : bs (lb s) = s := by cases s; simp
theorem bs_inj {a b : L8} (h : bs a = bs b) : a = b := by simpa using congrArg lb h
theorem lb_inj {a b : ByteArray} (h : lb a = lb b) : a = b := by rw [← bs_lb a, ← bs_lb b, h]

theorem forall_u8 {p : UInt8 → Prop} (h : ∀ n : _root_.Fin 256, p (UInt8.ofNat n.val)) (c : UInt8) : p c := by
  have := h ⟨c.toNat, UInt8.toNat_lt c⟩
  simpa using this

structure Need where
  c : L8
  t : L8
deriving DecidableEq
structure Cls where
  n : L8
  s : L8
deriving DecidableEq
structure Inst where
  c : L8
  t : L8
  ns : List Need
deriving DecidableEq
structure Wld where
  cs : List Cls
  is : List Inst
deriving DecidableEq
structure Bnd where
  v : L8
  t : L8
deriving DecidableEq

/-- the letters of types, in the order of the specification -/
def letters : L8 := [105, 98, 117, 108, 109, 112, 120, 121, 122, 88, 89, 90]
/-- how many parts a letter has -/
def ar (c : UInt8) : Int :=
  if c = 105 ∨ c = 98 ∨ c = 117 ∨ c = 120 ∨ c = 121 ∨ c = 122 ∨ c = 88 ∨ c = 89 ∨ c = 90 then 0 else if c = 108 ∨ c = 109 then 1 else if c = 112 then 2 else -1
def isV (c : UInt8) : Bool := decide (c = 120 ∨ c = 121 ∨ c = 122 ∨ c = 88 ∨ c = 89 ∨ c = 90)

inductive Ty where
  | leaf (c : UInt8)
  | un (c : UInt8) (t : Ty)
  | bin (c : UInt8) (t u : Ty)
deriving DecidableEq, Inhabited

def Ty.head : Ty → UInt8
  | .leaf c => c
  | .un c _ => c
  | .bin c _ _ => c
def Ty.parts : Ty → List Ty
  | .leaf _ => []
  | .un _ t => [t]
  | .bin _ t u => [t, u]
def Ty.text : Ty → L8
  | .leaf c => [c]
  | .un c t => c :: 40 :: (t.text ++ [41])
  | .bin c t u => c :: 40 :: (t.text ++ 44 :: (u.text ++ [41]))
def Ty.wf : Ty → Prop
  | .leaf c => ar c = 0
  | .un c t => ar c = 1 ∧ t.wf
  | .bin c t u => ar c = 2 ∧ t.wf ∧ u.wf

/-- a type from the beginning of a text, and what is behind it -/
def parse : Nat → L8 → Option (Ty × L8)
  | 0, _ => none
  | _ + 1, [] => none
  | f + 1, c :: r =>
    if ar c = 0 then some (.leaf c, r)
    else if ar c = 1 then
      match r with
      | 40 :: r1 => match parse f r1 with
        | some (t, 41 :: r2) => some (.un c t, r2)
        | _ => none
      | _ => none
    else if ar c = 2 then
      match r with
      | 40 :: r1 => match parse f r1 with
        | some (t, 44 :: r2) => match parse f r2 with
          | some (u, 41 :: r3) => some (.bin c t u, r3)
          | _ => none
        | _ => none
      | _ => none
    else none
def typeOf (l : L8) : Option Ty :=
  if 60 < l.length then none
  else match parse (l.length + 1) l with
    | some (t, []) => some t
    | _ => none
def tv (s : L8) : Bool := (typeOf s).isSome

theorem Ty.text_pos (t : Ty) : 0 < t.text.length := by cases t <;> simp [Ty.text]

theorem parse_text : ∀ {f : Nat} {l : L8} {t : Ty} {r : L8}, parse f l = some (t, r) → l = t.text ++ r ∧ t.wf
  | 0, _, _, _, h => by simp [parse] at h
  | f + 1, [], _, _, h => by simp [parse] at h
  | f + 1, c :: l, t, r, h => by
    unfold parse at h
    split at h
    · rename_i h0
      simp only [Option.some.injEq, Prod.mk.injEq] at h
      obtain ⟨rfl, rfl⟩ := h
      exact ⟨rfl, h0⟩
    · split at h
      · rename_i h1
        split at h
        · rename_i r1
          split at h
          · rename_i t1 r2 hp
            simp only [Option.some.injEq, Prod.mk.injEq] at h
            obtain ⟨rfl, rfl⟩ := h
            obtain ⟨e, hw⟩ := parse_text hp
            refine ⟨?_, h1, hw⟩
            rw [e]; simp [Ty.text]
          · cases h
        · cases h
      · split at h
        · rename_i h2
          split at h
          · split at h
            · rename_i t1 r2 hp
              split at h
              · rename_i u r3 hp2
                simp only [Option.some.injEq, Prod.mk.injEq] at h
                obtain ⟨rfl, rfl⟩ := h
                obtain ⟨e, hw⟩ := parse_text hp
                obtain ⟨e2, hw2⟩ := parse_text hp2
                refine ⟨?_, h2, hw, hw2⟩
                rw [e, e2]; simp [Ty.text]
              · cases h
            · cases h
          · cases h
        · cases h

theorem parse_of_text : ∀ (t : Ty) (f : Nat) (r : L8), t.wf → t.text.length < f + 1 → parse f (t.text ++ r) = some (t, r)
  | .leaf c, 0, r, _, h => by simp [Ty.text] at h
  | .leaf c, f + 1, r, hw, h => by
    have : ar c = 0 := hw
    simp [Ty.text, parse, this]
  | .un c t, 0, r, _, h => by simp [Ty.text] at h
  | .un c t, f + 1, r, hw, h => by
    obtain ⟨h1, hw⟩ := hw
    have ih := parse_of_text t f (41 :: r) hw (by simp [Ty.text] at h; omega)
    simp [Ty.text, parse, h1, ih]
  | .bin c t u, 0, r, _, h => by simp [Ty.text] at h
  | .bin c t u, f + 1, r, hw, h => by
    obtain ⟨h1, hw, hw2⟩ := hw
    have ih := parse_of_text t f (44 :: (u.text ++ 41 :: r)) hw (by simp [Ty.text] at h; omega)
    have ih2 := parse_of_text u f (41 :: r) hw2 (by simp [Ty.text] at h; omega)
    simp [Ty.text, parse, h1, ih, ih2]

theorem parse_len {f : Nat} {l : L8} {t : Ty} {r : L8} (h : parse f l = some (t, r)) : r.length < l.length := by
  have := (parse_text h).1
  have hp := t.text_pos
  rw [this]; simp; omega
/-- enough rounds tell the same -/
theorem parse_enough {f g : Nat} {l : L8} (hf : l.length < f) (hg : l.length < g) : parse f l = parse g l := by
  cases h : parse f l with
  | some x =>
    obtain ⟨t, r⟩ := x
    obtain ⟨e, hw⟩ := parse_text h
    rw [e, parse_of_text t g r hw (by rw [e] at hg; simp at hg; omega)]
  | none =>
    cases h' : parse g l with
    | none => rfl
    | some x =>
      obtain ⟨t, r⟩ := x
      obtain ⟨e, hw⟩ := parse_text h'
      rw [e, parse_of_text t f r hw (by rw [e] at hf; simp at hf; omega)] at h
      cases h
/-- a type is the one of its text -/
theorem typeOf_text {t : Ty} (hw : t.wf) (hl : t.text.length ≤ 60) : typeOf t.text = some t := by
  unfold typeOf
  rw [if_neg (by omega)]
  have := parse_of_text t (t.text.length + 1) [] hw (by omega)
  rw [List.append_nil] at this
  rw [this]
theorem typeOf_some {l : L8} {t : Ty} (h : typeOf l = some t) : l = t.text ∧ t.wf ∧ l.length ≤ 60 := by
  unfold typeOf at h
  split at h
  · cases h
  · rename_i hl
    split at h
    · rename_i t' hp
      injection h with h
      subst h
      obtain ⟨e, hw⟩ := parse_text hp
      rw [List.append_nil] at e
      exact ⟨e, hw, by omega⟩
    · cases h
theorem text_inj {t u : Ty} (ht : t.wf) (hu : u.wf) (h : t.text = u.text) : t = u := by
  have h1 := parse_of_text t (t.text.length + 1) [] ht (by omega)
  have h2 := parse_of_text u (t.text.length + 1) [] hu (by rw [h]; omega)
  rw [← h, h1] at h2
  injection h2 with h2
  injection h2
theorem typeOf_iff {l : L8} {t : Ty} : typeOf l = some t ↔ l = t.text ∧ t.wf ∧ l.length ≤ 60 :=
  ⟨typeOf_some, fun ⟨e, hw, hl⟩ => by subst e; exact typeOf_text hw hl⟩

/-- the variables, in their order -/
def vars6 : L8 := [88, 89, 90, 120, 121, 122]
/-- the variables that stand in a text, in their order -/
def varsIn (l : L8) : L8 := vars6.filter fun v => l.contains v
/-- how often a variable stands in a type, -1 if one is none -/
def countVar (s v : L8) : Int :=
  match v with
  | [c] => if tv s && isV c then (s.count c : Int) else -1
  | _ => -1
def capital (l : L8) : Bool := match l with
  | [c] => decide (65 ≤ c.toNat) && decide (c.toNat ≤ 84)
  | _ => false

theorem bs_app (a b : L8) : bs a ++ bs b = bs (a ++ b) := by
  apply lb_inj
  simp [ByteArray.data_append]
theorem ba_app (s t : ByteArray) : s ++ t = bs (lb s ++ lb t) := by rw [← bs_app, bs_lb, bs_lb]
theorem bs_drop (l : L8) (a b : Nat) : (bs l).extract a b = bs ((l.take b).drop a) := by
  apply lb_inj
  simp [ByteArray.data_extract, List.extract, List.take_drop]
  rcases Nat.le_total a b with h | h
  · rw [Nat.add_sub_of_le h]
  · rw [List.drop_of_length_le (by simp; omega), List.drop_of_length_le (by simp; omega)]
theorem ba_extract (s : ByteArray) (a b : Nat) : s.extract a b = bs (((lb s).take b).drop a) := by rw [← bs_drop, bs_lb]
/-- the first place of a letter, or -1 -/
def ix : L8 → UInt8 → Int
  | [], _ => -1
  | b :: l, c => if b = c then 0 else if ix l c < 0 then -1 else ix l c + 1
theorem ix_ge (l : L8) (c : UInt8) : -1 ≤ ix l c := by
  cases l with
  | nil => simp [ix]
  | cons b l => simp only [ix]; split <;> (try split) <;> omega
def IxAt (l : L8) (c : UInt8) (k : Nat) : Prop := ix l c = if ix (l.drop k) c < 0 then -1 else k + ix (l.drop k) c
theorem ixAt_zero (l : L8) (c : UInt8) : IxAt l c 0 := by
  unfold IxAt
  rw [List.drop_zero]
  have := ix_ge l c
  by_cases h : ix l c < 0
  · rw [if_pos h]; omega
  · rw [if_neg h]; simp
/-- places among the letters of types -/
def arK (k : Int) : Int := if k < 0 then -1 else if k = 3 ∨ k = 4 then 1 else if k = 5 then 2 else 0
theorem ar_ix (c : UInt8) : ar c = arK (ix letters c) := by
  revert c; exact forall_u8 (by decide)
theorem isV_ix (c : UInt8) : isV c = decide (6 ≤ ix letters c) := by
  revert c; exact forall_u8 (by decide)
end Go.Isea

namespace Go.Isea
open Go

/-- a text -/
def str (l : L8) : AV := .v (.string (bs l))

section
variable {C : Cx} {Q : Ex → St → Prop} {σ : St} {K : AV → AH → Prop} {N : St → Prop} {s : List Nat} {R : List (Nat × Nat)} {tm : List AV} {h : AH} {d : Option Tmp} {ty : TypeId} {pos : String} {af : Array Edge} {all rest : List Oper} {draw : Bool} {i : Nat} {x y z : Operand} {t : TypeId} {P : Program}

/-! code -/
/-- what simp shall not look into -/
inductive Sealed {α : Type} : α → Type
  | mk (a : α) : Sealed a
/-- code to come -/
def W (C : Cx) {c : Code} {Q : Ex → St → Prop} (_ : Sealed (c, Q)) (σ : St) : Prop := awp C c Q σ
/-- operations to come; R: what was read -/
def O (C : Cx) (R : List (Nat × Nat)) {all : List Oper} {draw : Bool} {i : Nat} {l : List Oper} {N : St → Prop} (_ : Sealed (all, draw, i, l, N)) (σ : St) : Prop := AOps C all draw R i l N σ
/-- the same in an order that is given -/
def OO (C : Cx) (R : List (Nat × Nat)) {all : List Oper} {N : St → Prop} (_ : Sealed (all, N)) (ord : OT) (σ : St) : Prop := AOpsO C all R ord N σ
def RegS (C : Cx) (o : Option OT) {all : List Oper} {draw : Bool} {N : St → Prop} (_ : Sealed (all, draw, N)) (σ : St) : Prop := AReg C o all draw N σ
/-- what comes behind -/
def Z {Q : Ex → St → Prop} (_ : Sealed Q) (e : Ex) (σ : St) : Prop := Q e σ
theorem w_start {c : Code} (h : W C (.mk (c, Q)) σ) : awp C c Q σ := h
@[go_sem ↓] theorem r_z {e : Ex} : Z (.mk Q) e σ = Q e σ := (rfl)
@[go_sem ↓] theorem r_skip : W C (.mk (.skip, Q)) σ = Z (.mk Q) .normal σ := (rfl)
@[go_sem ↓] theorem r_region {id : Nat} {l : List Oper} : W C (.mk (.region id l.toArray draw, Q)) σ = RegS C (ordAt C.ords id) (.mk (l, draw, Q .normal)) σ := (rfl)
@[go_sem] theorem r_reg_n {N : St → Prop} : RegS C none (.mk (all, draw, N)) σ = O C [] (.mk (all, draw, 0, all, N)) σ := (rfl)
@[go_sem] theorem r_reg_s {N : St → Prop} {ord : OT} : RegS C (some ord) (.mk (all, draw, N)) σ = OO C [] (.mk (all, N)) ord σ := (rfl)
@[go_sem] theorem ordAt_n {id : Nat} : ordAt [] id = none := (rfl)
@[go_sem] theorem ordAt_c {id a : Nat} {o : OT} {r : List (Nat × OT)} : ordAt ((a, o) :: r) id = if a = id then some o else ordAt r id := (rfl)
@[go_sem ↓] theorem r_seq {a b : Code} : W C (.mk (.seq a b, Q)) σ = W C (.mk (a, Thn (awp C b Q) Q)) σ := (rfl)
def CondS (C : Cx) (v : AV) {a b : Code} {Q : Ex → St → Prop} (_ : Sealed (a, b, Q)) (σ : St) : Prop := ACond v (awp C a Q σ) (awp C b Q σ)
@[go_sem ↓] theorem r_cond {c : Operand} {a b : Code} {tm : List AV} {h : AH} : W C (.mk (.cond c a b, Q)) ⟨tm, h⟩ = CondS C (evA tm c) (.mk (a, b, Q)) ⟨tm, h⟩ := (rfl)
@[go_sem] theorem r_cond_t {a b : Code} : CondS C (.v (.bool true)) (.mk (a, b, Q)) σ = W C (.mk (a, Q)) σ := (rfl)
@[go_sem] theorem r_cond_f {a b : Code} : CondS C (.v (.bool false)) (.mk (a, b, Q)) σ = W C (.mk (b, Q)) σ := (rfl)
theorem cond_split {p : Bool} {a b : Code} (ht : p = true → W C (.mk (a, Q)) σ) (hf : p = false → W C (.mk (b, Q)) σ) : CondS C (.v (.bool p)) (.mk (a, b, Q)) σ := by
  cases p
  · exact hf rfl
  · exact ht rfl
@[go_sem ↓] theorem r_block {id : Nat} {c : Code} : W C (.mk (.block id c, Q)) σ = W C (.mk (c, Blk id Q)) σ := (rfl)
@[go_sem ↓] theorem r_exit {id : Nat} : W C (.mk (.exit id, Q)) σ = Q (.exit id) σ := (rfl)
@[go_sem ↓] theorem r_scope {c : Code} : W C (.mk (.scope c, Q)) σ = W C (.mk (c, Q)) σ := (rfl)
@[go_sem ↓] theorem r_label {l : Nat} : W C (.mk (.label l, Q)) σ = Q .normal σ := (rfl)
@[go_sem ↓] theorem r_ret : W C (.mk (.ret, Q)) σ = Q .ret σ := (rfl)
def LoopS (C : Cx) {c : Code} {Q : Ex → St → Prop} (_ : Sealed (c, Q)) (σ : St) : Prop := ALoop C (awp C c) Q σ
@[go_sem ↓] theorem r_loop {c : Code} : W C (.mk (.loop c, Q)) σ = LoopS C (.mk (c, Q)) σ := (rfl)
@[go_sem ↓] theorem r_thn_n {c : Code} : Thn (awp C c Q) Q .normal σ = W C (.mk (c, Q)) σ := (rfl)
@[go_sem ↓] theorem r_thn_e {K : St → Prop} {id : Nat} : Thn K Q (.exit id) σ = Q (.exit id) σ := (rfl)
@[go_sem ↓] theorem r_thn_r {K : St → Prop} : Thn K Q .ret σ = Q .ret σ := (rfl)
@[go_sem ↓] theorem r_blk_n {id : Nat} : Blk id Q .normal σ = Q .normal σ := (rfl)
@[go_sem ↓] theorem r_blk_r {id : Nat} : Blk id Q .ret σ = Q .ret σ := (rfl)
@[go_sem ↓] theorem r_blk_e {id id' : Nat} : Blk id Q (.exit id') σ = if id' = id then Q .normal σ else Q (.exit id') σ := (rfl)
@[go_sem] theorem r_optk {α : Type} {a : α} {K : α → Prop} : OptK (some a) K = K a := (rfl)
@[congr] theorem OptK_congr {α : Type} {o o' : Option α} {K : α → Prop} (e : o = o') : OptK o K = OptK o' K := by rw [e]
/-- what an act may not turn -/
def PrS (R : List (Nat × Nat)) {all : List Oper} {i : Nat} (_ : Sealed (all, i)) : List Nat := protAt all R i
@[go_sem] theorem prS_n : PrS [] (.mk (all, i)) = [] := (rfl)
/-- all that was read is waited for -/
theorem prS_nil (h : (R.map Prod.fst).all (fun r => waitsF all.toArray all.toArray.size i r) = true) : PrS R (.mk (all, i)) = [] := by
  simp only [PrS, protAt]
  rw [List.map_eq_nil_iff, List.filter_eq_nil_iff]
  intro p hp
  have := List.all_eq_true.1 h p.1 (List.mem_map.2 ⟨p, hp, rfl⟩)
  rw [this]; simp
theorem prS_all {T : List Nat} (h : ∀ p ∈ R, p.2 ∉ T) : ∀ t, t ∈ PrS R (.mk (all, i)) → t ∉ T := by
  intro t ht
  obtain ⟨p, hp, rfl⟩ := List.mem_map.1 ht
  exact h p (List.mem_filter.1 hp).1
@[go_sem ↓] theorem r_nil : O C R (.mk (all, draw, i, [], N)) σ = N σ := (rfl)
@[go_sem ↓] theorem r_nilO : OO C R (.mk (all, N)) .e σ = N σ := (rfl)
@[go_sem ↓] theorem r_forkO {a b : OT} : OO C R (.mk (all, N)) (.f a b) σ = (OO C R (.mk (all, N)) a σ ∧ OO C R (.mk (all, N)) b σ) := (rfl)
@[go_sem] theorem addR_f {v : AV} : addR false i v R = R := by cases v <;> rfl
@[go_sem] theorem addR_ref {cs : List AV} {o : Nat} : addR draw i (.ref cs o) R = R := by cases draw <;> rfl
@[go_sem] theorem addR_ptr {l o : Nat} : addR true i (.ptr l o) R = (i, l) :: R := (rfl)
@[go_sem] theorem addR_pel {l n k o : Nat} : addR true i (.pel l n k o) R = (i, l) :: R := (rfl)
@[go_sem] theorem addR_mp {l : Nat} : addR true i (.mp l) R = (i, l) :: R := (rfl)
@[go_sem] theorem addR_nilmap {m : Option Nat} : addR draw i (.v (.map m)) R = R := by cases draw <;> rfl
def OpS (C : Cx) (pr : List Nat) {o : Oper} {K : AV → AH → Prop} (_ : Sealed (o, K)) (tm : List AV) (h : AH) : Prop := AOp C pr o tm h K
@[go_sem] theorem marks_move {x : Operand} : marks (.move x) = false := (rfl)
@[go_sem] theorem marks_assign {x : Operand} : marks (.assign x) = false := (rfl)
@[go_sem] theorem marks_pick {x y z : Operand} : marks (.pick x y z) = false := (rfl)
@[go_sem] theorem marks_nilCheck {x : Operand} : marks (.nilCheck x) = false := (rfl)
@[go_sem] theorem marks_binOp {op : BinOp} {t u : TypeId} {x y : Operand} : marks (.binOp op t x y u) = false := (rfl)
@[go_sem] theorem marks_unOp {op : UnOp} {t : TypeId} {x : Operand} : marks (.unOp op t x) = false := (rfl)
@[go_sem] theorem marks_convert {t u : TypeId} {x : Operand} : marks (.convert t u x) = false := (rfl)
@[go_sem] theorem marks_slice {t : TypeId} {x : Operand} {a b c : Option Operand} : marks (.slice t x a b c) = false := (rfl)
@[go_sem] theorem marks_fieldAddr {t : TypeId} {x : Operand} {f : Nat} : marks (.fieldAddr t x f) = false := (rfl)
@[go_sem] theorem marks_field {t : TypeId} {x : Operand} {f : Nat} : marks (.field t x f) = false := (rfl)
@[go_sem] theorem marks_indexAddr {t : TypeId} {x y : Operand} : marks (.indexAddr t x y) = false := (rfl)
@[go_sem] theorem marks_index {t : TypeId} {x y : Operand} : marks (.index t x y) = false := (rfl)
@[go_sem] theorem marks_extract {x : Operand} {f : Nat} : marks (.extract x f) = false := (rfl)
@[go_sem] theorem marks_build {t : TypeId} {l : Array (Nat × Operand)} : marks (.build t l) = false := (rfl)
@[go_sem] theorem marks_makeFunc {f : Fn} {a b : Array Operand} : marks (.makeFunc f a b) = false := (rfl)
@[go_sem] theorem marks_call {c : Call} : marks (.call c) = false := (rfl)
@[go_sem] theorem marks_alloc {t : TypeId} : marks (.alloc t) = false := (rfl)
@[go_sem] theorem marks_box {t : TypeId} {x : Operand} : marks (.box t x) = false := (rfl)
@[go_sem] theorem marks_buildSlice {t : TypeId} {n : Nat} {l : Array (Nat × Operand)} : marks (.buildSlice t n l) = false := (rfl)
@[go_sem] theorem marks_store {t : TypeId} {x y : Operand} : marks (.store t x y) = false := (rfl)
@[go_sem] theorem marks_makeSlice {t : TypeId} {x y : Operand} : marks (.makeSlice t x y) = false := (rfl)
@[go_sem] theorem r_cons0 {op : Op} (hr : marks op = false) : O C R (.mk (all, draw, i, ⟨d, op, ty, pos, af, none⟩ :: rest, N)) ⟨tm, h⟩ = OpS C (PrS R (.mk (all, i))) (.mk (⟨d, op, ty, pos, af, none⟩, PutK d tm (AOps C all draw R (i + 1) rest N))) tm h := by
  show OpS C (PrS R (.mk (all, i))) (.mk (⟨d, op, ty, pos, af, none⟩, PutK d tm (AOps C all draw (nextR draw i op tm R) (i + 1) rest N))) tm h = _
  rw [nextR_no hr]
@[go_sem] theorem r_cons0_load : O C R (.mk (all, draw, i, ⟨d, .load t x, ty, pos, af, none⟩ :: rest, N)) ⟨tm, h⟩ = OpS C (PrS R (.mk (all, i))) (.mk (⟨d, .load t x, ty, pos, af, none⟩, PutK d tm (AOps C all draw (addR draw i (evA tm x) R) (i + 1) rest N))) tm h := (rfl)
def dstAt : List Oper → Nat → Option Tmp
  | [], _ => none
  | o :: _, 0 => o.dst
  | _ :: l, n + 1 => dstAt l n
def dstS {l : List Oper} (_ : Sealed l) (n : Nat) : Option Tmp := dstAt l n
@[go_sem ↓] theorem dstAt_z {op : Op} {g : Option (Nat × Bool)} : dstS (.mk (⟨d, op, ty, pos, af, g⟩ :: rest)) 0 = d := (rfl)
@[go_sem ↓] theorem dstAt_s {o : Oper} {n : Nat} : dstS (.mk (o :: rest)) (n + 1) = dstS (.mk rest) n := (rfl)
theorem dstAt_eq : ∀ (l : List Oper) (j : Nat), dstAt l j = (match l[j]? with | some o => o.dst | none => none)
  | [], j => rfl
  | o :: l, 0 => rfl
  | o :: l, j + 1 => by simpa [dstAt] using dstAt_eq l j
def wantV (want : Bool) : AV → Option Bool
  | .v (.bool b) => some (b == want)
  | .v (.tuple _) => some false
  | _ => none
def wantAt (tm : List AV) (want : Bool) : Option Tmp → Option Bool
  | some d => wantV want (nth tm d)
  | none => none
@[go_sem] theorem wantAt_some {want : Bool} {d : Tmp} : wantAt tm want (some d) = wantV want (nth tm d) := (rfl)
@[go_sem] theorem wantV_t {b : Bool} : wantV true (.v (.bool b)) = some b := by cases b <;> rfl
@[go_sem] theorem wantV_f {b : Bool} : wantV false (.v (.bool b)) = some (!b) := by cases b <;> rfl
@[go_sem] theorem wantV_u {want : Bool} : wantV want (.v undef) = some false := (rfl)
theorem awanted_eq {j : Nat} {want : Bool} : awanted all tm (some (j, want)) = wantAt tm want (dstAt all j) := by
  rw [dstAt_eq]
  simp only [awanted, wantAt, wantV]
  cases all[j]? with
  | none => rfl
  | some o => cases o.dst <;> rfl
def WantS (C : Cx) (w : Option Bool) (pr : List Nat) {o : Oper} {K : AV → AH → Prop} {N : St → Prop} (_ : Sealed (o, K, N)) (tm : List AV) (h : AH) : Prop := Wants w (AOp C pr o tm h K) (N ⟨putn tm o.dst (.v undef), h⟩)
theorem r_consg' {op : Op} {j : Nat} {want : Bool} : O C R (.mk (all, draw, i, ⟨d, op, ty, pos, af, some (j, want)⟩ :: rest, N)) ⟨tm, h⟩ =
    WantS C (wantAt tm want (dstS (.mk all) j)) (PrS R (.mk (all, i))) (.mk (⟨d, op, ty, pos, af, none⟩, PutK d tm (AOps C all draw (nextR draw i op tm R) (i + 1) rest N), AOps C all draw R (i + 1) rest N)) tm h := by
  simp only [O, AOps, awanted_eq]
  rfl
@[go_sem] theorem r_consg {op : Op} {j : Nat} {want : Bool} (hr : marks op = false) : O C R (.mk (all, draw, i, ⟨d, op, ty, pos, af, some (j, want)⟩ :: rest, N)) ⟨tm, h⟩ =
    WantS C (wantAt tm want (dstS (.mk all) j)) (PrS R (.mk (all, i))) (.mk (⟨d, op, ty, pos, af, none⟩, PutK d tm (AOps C all draw R (i + 1) rest N), AOps C all draw R (i + 1) rest N)) tm h := by
  rw [r_consg', nextR_no hr]
@[go_sem] theorem r_consg_load {j : Nat} {want : Bool} : O C R (.mk (all, draw, i, ⟨d, .load t x, ty, pos, af, some (j, want)⟩ :: rest, N)) ⟨tm, h⟩ =
    WantS C (wantAt tm want (dstS (.mk all) j)) (PrS R (.mk (all, i))) (.mk (⟨d, .load t x, ty, pos, af, none⟩, PutK d tm (AOps C all draw (addR draw i (evA tm x) R) (i + 1) rest N), AOps C all draw R (i + 1) rest N)) tm h := r_consg'
variable {o : Oper} {M : St → Prop}
@[go_sem] theorem r_wants_t : WantS C (some true) s (.mk (o, K, M)) tm h = OpS C s (.mk (o, K)) tm h := (rfl)
@[go_sem] theorem r_wants_f {op : Op} {i' : Tmp} : WantS C (some false) s (.mk (⟨some i', op, ty, pos, af, none⟩, K, AOps C all draw R i rest N)) tm h = O C R (.mk (all, draw, i, rest, N)) ⟨setn tm i' (.v undef), h⟩ := (rfl)
@[go_sem] theorem r_wants_g {op : Op} : WantS C (some false) s (.mk (⟨none, op, ty, pos, af, none⟩, K, AOps C all draw R i rest N)) tm h = O C R (.mk (all, draw, i, rest, N)) ⟨tm, h⟩ := (rfl)
theorem wants_split {p : Bool} (ht : p = true → OpS C s (.mk (o, K)) tm h) (hf : p = false → WantS C (some false) s (.mk (o, K, M)) tm h) : WantS C (some p) s (.mk (o, K, M)) tm h := by
  cases p
  · exact hf rfl
  · exact ht rfl
@[go_sem ↓] theorem r_putk {d : Tmp} {v : AV} : PutK (some d) tm (AOps C all draw R i rest N) v h = O C R (.mk (all, draw, i, rest, N)) ⟨setn tm d v, h⟩ := (rfl)
@[go_sem ↓] theorem r_putk0 {v : AV} : PutK none tm (AOps C all draw R i rest N) v h = O C R (.mk (all, draw, i, rest, N)) ⟨tm, h⟩ := (rfl)
/-! in an order that is given -/
variable {ord : OT}
@[go_sem] theorem r_wantsO_f {op : Op} {i' : Tmp} : WantS C (some false) s (.mk (⟨some i', op, ty, pos, af, none⟩, K, AOpsO C all R ord N)) tm h = OO C R (.mk (all, N)) ord ⟨setn tm i' (.v undef), h⟩ := (rfl)
@[go_sem] theorem r_wantsO_g {op : Op} : WantS C (some false) s (.mk (⟨none, op, ty, pos, af, none⟩, K, AOpsO C all R ord N)) tm h = OO C R (.mk (all, N)) ord ⟨tm, h⟩ := (rfl)
@[go_sem ↓] theorem r_putkO {d : Tmp} {v : AV} : PutK (some d) tm (AOpsO C all R ord N) v h = OO C R (.mk (all, N)) ord ⟨setn tm d v, h⟩ := (rfl)
@[go_sem ↓] theorem r_putkO0 {v : AV} : PutK none tm (AOpsO C all R ord N) v h = OO C R (.mk (all, N)) ord ⟨tm, h⟩ := (rfl)
/-- the operation at a place -/
def OpAt (C : Cx) (R : List (Nat × Nat)) (i : Nat) {l all : List Oper} {ord : OT} {N : St → Prop} (_ : Sealed (l, all, ord, N)) (n : Nat) (tm : List AV) (h : AH) : Prop := match l[n]? with
  | some o => Wants (awanted all tm o.guard) (AOp C (protAt all R i) o tm h (PutK o.dst tm (AOpsO C all (nextR true i o.op tm R) ord N))) (AOpsO C all R ord N ⟨putn tm o.dst (.v undef), h⟩)
  | none => False
@[go_sem] theorem r_consO : OO C R (.mk (all, N)) (.o i ord) ⟨tm, h⟩ = OpAt C R i (.mk (all, all, ord, N)) i tm h := (rfl)
variable {l : List Oper}
@[go_sem ↓] theorem opAt_s {n : Nat} : OpAt C R i (.mk (o :: l, all, ord, N)) (n + 1) tm h = OpAt C R i (.mk (l, all, ord, N)) n tm h := (rfl)
@[go_sem] theorem opAt_0 {op : Op} (hr : marks op = false) : OpAt C R i (.mk (⟨d, op, ty, pos, af, none⟩ :: l, all, ord, N)) 0 tm h = OpS C (PrS R (.mk (all, i))) (.mk (⟨d, op, ty, pos, af, none⟩, PutK d tm (AOpsO C all R ord N))) tm h := by
  show OpS C (PrS R (.mk (all, i))) (.mk (⟨d, op, ty, pos, af, none⟩, PutK d tm (AOpsO C all (nextR true i op tm R) ord N))) tm h = _
  rw [nextR_no hr]
@[go_sem] theorem opAt_0_load : OpAt C R i (.mk (⟨d, .load t x, ty, pos, af, none⟩ :: l, all, ord, N)) 0 tm h = OpS C (PrS R (.mk (all, i))) (.mk (⟨d, .load t x, ty, pos, af, none⟩, PutK d tm (AOpsO C all (addR true i (evA tm x) R) ord N))) tm h := (rfl)
theorem opAt_g' {op : Op} {j : Nat} {want : Bool} : OpAt C R i (.mk (⟨d, op, ty, pos, af, some (j, want)⟩ :: l, all, ord, N)) 0 tm h =
    WantS C (wantAt tm want (dstS (.mk all) j)) (PrS R (.mk (all, i))) (.mk (⟨d, op, ty, pos, af, none⟩, PutK d tm (AOpsO C all (nextR true i op tm R) ord N), AOpsO C all R ord N)) tm h := by
  simp only [OpAt, List.getElem?_cons_zero, awanted_eq]
  rfl
@[go_sem] theorem opAt_g {op : Op} {j : Nat} {want : Bool} (hr : marks op = false) : OpAt C R i (.mk (⟨d, op, ty, pos, af, some (j, want)⟩ :: l, all, ord, N)) 0 tm h =
    WantS C (wantAt tm want (dstS (.mk all) j)) (PrS R (.mk (all, i))) (.mk (⟨d, op, ty, pos, af, none⟩, PutK d tm (AOpsO C all R ord N), AOpsO C all R ord N)) tm h := by
  rw [opAt_g', nextR_no hr]
@[go_sem] theorem opAt_g_load {j : Nat} {want : Bool} : OpAt C R i (.mk (⟨d, .load t x, ty, pos, af, some (j, want)⟩ :: l, all, ord, N)) 0 tm h =
    WantS C (wantAt tm want (dstS (.mk all) j)) (PrS R (.mk (all, i))) (.mk (⟨d, .load t x, ty, pos, af, none⟩, PutK d tm (AOpsO C all (addR true i (evA tm x) R) ord N), AOpsO C all R ord N)) tm h := opAt_g'
@[go_sem ↓] theorem nth_z {v : AV} {l : List AV} : nth (v :: l) 0 = v := (rfl)
@[go_sem ↓] theorem nth_s {v : AV} {l : List AV} {n : Nat} : nth (v :: l) (n + 1) = nth l n := (rfl)
@[go_sem ↓] theorem setn_z {v u : AV} {l : List AV} : setn (v :: l) 0 u = u :: l := (rfl)
@[go_sem ↓] theorem setn_s {v u : AV} {l : List AV} {n : Nat} : setn (v :: l) (n + 1) u = v :: setn l n u := (rfl)

/-! operands -/
@[go_sem ↓] theorem ev_tmp {n : Nat} : evA tm (.tmp n) = nth tm n := (rfl)
@[go_sem ↓] theorem ev_func {f : FuncId} : evA tm (.func f) = .fn f [] := (rfl)
@[go_sem ↓] theorem ev_int {k : IntKind} {n : Int} : evA tm (.const (.int k n)) = .v (.int k n) := (rfl)
@[go_sem ↓] theorem ev_bool {b : Bool} : evA tm (.const (.bool b)) = .v (.bool b) := (rfl)
@[go_sem ↓] theorem ev_str {l : List UInt8} : evA tm (.const (.string (ByteArray.mk (List.toArray l)))) = str l := (rfl)
@[go_sem ↓] theorem ev_nil : evA tm (.const (.slice none 0 0)) = .v (.slice none 0 0) := (rfl)
@[go_sem ↓] theorem ev_ptr : evA tm (.const (.pointer none)) = .v (.pointer none) := (rfl)
@[go_sem ↓] theorem ev_agg {cs : List Value} : evA tm (.const (.agg (List.toArray cs))) = .agg (cs.map .v) := (rfl)
@[go_sem] theorem v_str {l : List UInt8} : AV.v (.string (ByteArray.mk (List.toArray l))) = str l := (rfl)

/-! what only looks -/
def Lk (o : Option AV) {K : AV → AH → Prop} (_ : Sealed K) (h : AH) : Prop := OptK o fun x => K x h
@[go_sem] theorem r_lk {v : AV} : Lk (some v) (.mk K) h = K v h := (rfl)
variable {g : Option (Nat × Bool)}
@[go_sem ↓] theorem r_move : OpS C s (.mk (⟨d, .move x, ty, pos, af, g⟩, K)) tm h = Lk (some (evA tm x)) (.mk K) h := (rfl)
@[go_sem ↓] theorem r_assign : OpS C s (.mk (⟨d, .assign x, ty, pos, af, g⟩, K)) tm h = Lk (some (evA tm x)) (.mk K) h := (rfl)
@[go_sem ↓] theorem r_pick : OpS C s (.mk (⟨d, .pick x y z, ty, pos, af, g⟩, K)) tm h = Lk (acond (evA tm x) (evA tm y) (evA tm z)) (.mk K) h := (rfl)
@[go_sem ↓] theorem r_load : OpS C s (.mk (⟨d, .load t x, ty, pos, af, g⟩, K)) tm h = Lk (aload C.P t (evA tm x) h) (.mk K) h := (rfl)
@[go_sem ↓] theorem r_nilCheck : OpS C s (.mk (⟨d, .nilCheck x, ty, pos, af, g⟩, K)) tm h = Lk (anil (evA tm x)) (.mk K) h := (rfl)
@[go_sem ↓] theorem r_binOp {op : BinOp} {yt : TypeId} : OpS C s (.mk (⟨d, .binOp op t x y yt, ty, pos, af, g⟩, K)) tm h = Lk (abin C.P op t x y (evA tm x) (evA tm y)) (.mk K) h := (rfl)
def aunop (P : Program) (op : UnOp) (v : AV) : Option AV := match v.raw with | some v => ofVo (semPure P (Op.unary op v)) | none => none
@[go_sem ↓] theorem r_unOp {op : UnOp} : OpS C s (.mk (⟨d, .unOp op t x, ty, pos, af, g⟩, K)) tm h = Lk (aunop C.P op (evA tm x)) (.mk K) h := (rfl)
@[go_sem ↓] theorem r_convert {t' : TypeId} : OpS C s (.mk (⟨d, .convert t t' x, ty, pos, af, g⟩, K)) tm h = Lk (aconv C.P t t' (evA tm x)) (.mk K) h := (rfl)
def mapE (tm : List AV) : Option Operand → Option AV
  | some x => some (evA tm x)
  | none => none
@[go_sem] theorem mapE_s : mapE tm (some x) = some (evA tm x) := (rfl)
@[go_sem] theorem mapE_n : mapE tm none = none := (rfl)
@[go_sem ↓] theorem r_slice {lo hi : Option Operand} : OpS C s (.mk (⟨d, .slice t x lo hi none, ty, pos, af, g⟩, K)) tm h = Lk (aslice C.P t (evA tm x) (mapE tm lo) (mapE tm hi) h) (.mk K) h := by
  cases lo <;> cases hi <;> rfl
@[go_sem ↓] theorem r_slice3 {lo hi : Option Operand} {m : Operand} : OpS C s (.mk (⟨d, .slice t x lo hi (some m), ty, pos, af, g⟩, K)) tm h = Lk (aslice3 C.P t (evA tm x) (mapE tm lo) (mapE tm hi) (evA tm m) h) (.mk K) h := by
  cases lo <;> cases hi <;> rfl
@[go_sem ↓] theorem r_fieldAddr {f : Nat} : OpS C s (.mk (⟨d, .fieldAddr t x f, ty, pos, af, g⟩, K)) tm h = Lk (afieldAddr C.P t (evA tm x) f h) (.mk K) h := (rfl)
@[go_sem ↓] theorem r_field {f : Nat} : OpS C s (.mk (⟨d, .field t x f, ty, pos, af, g⟩, K)) tm h = Lk (afield C.P t (evA tm x) f) (.mk K) h := (rfl)
@[go_sem ↓] theorem r_indexAddr : OpS C s (.mk (⟨d, .indexAddr t x y, ty, pos, af, g⟩, K)) tm h = Lk (aindexAddr C.P t (evA tm x) (evA tm y) h) (.mk K) h := (rfl)
@[go_sem ↓] theorem r_index : OpS C s (.mk (⟨d, .index t x y, ty, pos, af, g⟩, K)) tm h = Lk (aindex C.P t (evA tm x) (evA tm y)) (.mk K) h := (rfl)
@[go_sem ↓] theorem r_extract {f : Nat} : OpS C s (.mk (⟨d, .extract x f, ty, pos, af, g⟩, K)) tm h = Lk (aextract (evA tm x) f) (.mk K) h := (rfl)
def mapP (tm : List AV) : List (Nat × Operand) → List (Nat × AV)
  | [] => []
  | (i, x) :: l => (i, evA tm x) :: mapP tm l
@[go_sem] theorem mapP_n : mapP tm [] = [] := (rfl)
@[go_sem] theorem mapP_c {l : List (Nat × Operand)} : mapP tm ((i, x) :: l) = (i, evA tm x) :: mapP tm l := (rfl)
theorem mapP_eq : ∀ l, mapP tm l = l.map fun p => (p.1, evA tm p.2)
  | [] => rfl
  | (i, x) :: l => by simp [mapP, mapP_eq l]
def mapA (tm : List AV) : List Operand → List AV
  | [] => []
  | x :: l => evA tm x :: mapA tm l
@[go_sem] theorem mapA_n : mapA tm [] = [] := (rfl)
@[go_sem] theorem mapA_c {l : List Operand} : mapA tm (x :: l) = evA tm x :: mapA tm l := (rfl)
theorem mapA_eq : ∀ l, mapA tm l = l.map (evA tm)
  | [] => rfl
  | x :: l => by simp [mapA, mapA_eq l]
@[go_sem ↓] theorem r_build {l : List (Nat × Operand)} : OpS C s (.mk (⟨d, .build t l.toArray, ty, pos, af, g⟩, K)) tm h = Lk (abuild C.P t h (mapP tm l)) (.mk K) h := by rw [mapP_eq]; rfl
@[go_sem ↓] theorem r_makeFunc {f : FuncId} {l : List Operand} : OpS C s (.mk (⟨d, .makeFunc (.func f) #[] l.toArray, ty, pos, af, g⟩, K)) tm h = Lk (some (.fn f (mapA tm l))) (.mk K) h := by rw [mapA_eq]; rfl
@[go_sem ↓] theorem r_len {l : List Operand} {ts : Array TypeId} : OpS C s (.mk (⟨d, .call ⟨.builtin .len, l.toArray, ts⟩, ty, pos, af, g⟩, K)) tm h = Lk (abuiltin C.P .len ts ty (mapA tm l) h) (.mk K) h := by rw [mapA_eq]; rfl
@[go_sem ↓] theorem r_min {l : List Operand} {ts : Array TypeId} : OpS C s (.mk (⟨d, .call ⟨.builtin .min, l.toArray, ts⟩, ty, pos, af, g⟩, K)) tm h = Lk (abuiltin C.P .min ts ty (mapA tm l) h) (.mk K) h := by rw [mapA_eq]; rfl
@[go_sem ↓] theorem r_max {l : List Operand} {ts : Array TypeId} : OpS C s (.mk (⟨d, .call ⟨.builtin .max, l.toArray, ts⟩, ty, pos, af, g⟩, K)) tm h = Lk (abuiltin C.P .max ts ty (mapA tm l) h) (.mk K) h := by rw [mapA_eq]; rfl

end
end Go.Isea

namespace Go.Isea
open Go
section
variable {P : Program} {h : AH} {t : TypeId} {x y : AV} {K : AV → AH → Prop} {C : Cx} {s : List Nat} {op : BinOp} {p q : Operand}

attribute [go_sem] AH.push AH.set
@[go_sem] theorem upd_at {α : Type} (f : Nat → α) (i : Nat) (x : α) (j : Nat) : upd f i x j = if j = i then x else f j := (rfl)

@[go_sem] theorem cutT_s {a : Bool} {n : Nat} {cs : List AV} {off : Nat} : cutT (some (a, n)) cs off = cut a n cs off := (rfl)
@[go_sem] theorem cut_t {n : Nat} {cs : List AV} {off : Nat} : cut true n cs off = if off + n ≤ cs.length then some (.agg ((cs.drop off).take n)) else none := (rfl)
@[go_sem] theorem cut_f {n : Nat} {cs : List AV} {off : Nat} : cut false n cs off = cs[off]? := (rfl)
@[go_sem] theorem aload_ref {cs : List AV} {off : Nat} : aload P t (.ref cs off) h = cutT (LT P t) cs off := (rfl)
def loadObj (l : Option (Bool × Nat)) (off : Nat) : AObj → Option AV
  | .cells cs => cutT l cs off
  | _ => none
@[go_sem] theorem loadObj_c {l : Option (Bool × Nat)} {off : Nat} {cs : List AV} : loadObj l off (.cells cs) = cutT l cs off := (rfl)
@[go_sem] theorem aload_ptr {l off : Nat} : aload P t (.ptr l off) h = loadObj (LT P t) off (h.o l) := by
  simp only [aload]; cases h.o l <;> rfl
def curR (n : Nat) : AObj → Option (List (List AV))
  | .rows _ _ rs => if rs.length = n then some rs else none
  | _ => none
@[go_sem] theorem curR_r {n e sz : Nat} {rs : List (List AV)} : curR n (.rows e sz rs) = if rs.length = n then some rs else none := (rfl)
@[go_sem] theorem curRows_eq {l n : Nat} : curRows h l n = curR n (h.o l) := by
  simp only [curRows]; cases h.o l <;> rfl
def rowAtO (l : Option (Bool × Nat)) (i off : Nat) : Option (List (List AV)) → Option AV
  | some rs => (match rs[i]? with | some r => cutT l r off | none => none)
  | none => none
def rowO (l : Option (Bool × Nat)) (off : Nat) : Option (List AV) → Option AV
  | some r => cutT l r off
  | none => none
@[go_sem] theorem rowO_s {l : Option (Bool × Nat)} {off : Nat} {r : List AV} : rowO l off (some r) = cutT l r off := (rfl)
@[go_sem] theorem rowAtO_s {l : Option (Bool × Nat)} {i off : Nat} {rs : List (List AV)} : rowAtO l i off (some rs) = rowO l off rs[i]? := by
  simp only [rowAtO]; cases rs[i]? <;> rfl
@[go_sem] theorem aload_pel {l n i off : Nat} : aload P t (.pel l n i off) h = rowAtO (LT P t) i off (curRows h l n) := (rfl)

def fldO (cs : List AV) : Option (Nat × Bool × Nat) → Option AV
  | some (off, a, n) => cut a n cs off
  | none => none
@[go_sem] theorem fldO_s {cs : List AV} {off n : Nat} {a : Bool} : fldO cs (some (off, a, n)) = cut a n cs off := (rfl)
@[go_sem] theorem afield_agg {f : Nat} {cs : List AV} : afield P t (.agg cs) f = fldO cs (FO P t f) := by
  simp only [afield]; cases FO P t f <;> rfl
def fldA (h : AH) (x : AV) : Option (Nat × Bool × Nat) → Option AV
  | some (off, _, n) => if n = 0 then none else ashift h x off
  | none => none
@[go_sem] theorem fldA_s {off n : Nat} {a : Bool} : fldA h x (some (off, a, n)) = if n = 0 then none else ashift h x off := (rfl)
@[go_sem] theorem afieldAddr_eq {f : Nat} : afieldAddr P t x f h = fldA h x (FO P t f) := by
  simp only [afieldAddr]; cases FO P t f <;> rfl
@[go_sem] theorem ashift_ref {cs : List AV} {o d : Nat} : ashift h (.ref cs o) d = some (.ref cs (o + d)) := (rfl)
@[go_sem] theorem ashift_ptr {l o d : Nat} : ashift h (.ptr l o) d = some (.ptr l (o + d)) := (rfl)
def shiftP (t m i o d : Nat) : Option (List (List AV)) → Option AV
  | some _ => some (.pel t m i (o + d))
  | none => none
@[go_sem] theorem shiftP_s {t m i o d : Nat} {rs : List (List AV)} : shiftP t m i o d (some rs) = some (.pel t m i (o + d)) := (rfl)
@[go_sem] theorem ashift_pel {l m i o d : Nat} : ashift h (.pel l m i o) d = shiftP l m i o d (curRows h l m) := by
  simp only [ashift]; cases curRows h l m <;> rfl

def idxA (h : AH) (x : AV) (k : Int) : Option (Option Nat × Bool × Nat) → Option AV
  | some (some n, _, s) => if 0 ≤ k ∧ k < n then ashift h x (k.toNat * s) else none
  | some (none, _, s) => if 0 ≤ k then (match x with
    | .sl rows => arow rows[k.toNat]? s
    | .so t n len => aelem (curRows h t n) s k len t n
    | _ => none) else none
  | none => none
@[go_sem] theorem aindexAddr_eq {kk : IntKind} {k : Int} : aindexAddr P t x (.v (.int kk k)) h = idxA h x k (EO P t) := by
  simp only [aindexAddr]
  cases EO P t with
  | none => rfl
  | some e => obtain ⟨n, a, b⟩ := e; cases n <;> rfl
@[go_sem] theorem idxA_sl {rows : List (List AV)} {k : Nat} {a : Bool} {s : Nat} : idxA h (.sl rows) (k : Int) (some (none, a, s)) = arow rows[k]? s := by
  simp [idxA]
@[go_sem] theorem idxA_sl_lit {rows : List (List AV)} {k : Nat} {a : Bool} {s : Nat} : idxA h (.sl rows) (OfNat.ofNat k : Int) (some (none, a, s)) = arow rows[k]? s := idxA_sl
@[go_sem] theorem arow_s {r : List AV} {s : Nat} : arow (some r) s = if r.length = s then some (.ref r 0) else none := (rfl)
@[go_sem] theorem idxA_so {l n len : Nat} {k : Nat} {a : Bool} {s : Nat} : idxA h (.so l n len) (k : Int) (some (none, a, s)) = aelem (curRows h l n) s k len l n := by
  simp [idxA]
@[go_sem] theorem aelem_s {rs : List (List AV)} {s : Nat} {k len l n : Nat} : aelem (some rs) s (k : Int) len l n = if k < len ∧ (∀ r ∈ rs, r.length = s) then some (.pel l n k 0) else none := by
  simp [aelem]
@[go_sem] theorem idxA_arr {n : Nat} {k : Nat} {a : Bool} {s : Nat} : idxA h x (k : Int) (some (some n, a, s)) = if k < n then ashift h x (k * s) else none := by
  simp [idxA]
def byteAt : Option UInt8 → Option AV
  | some b => some (.v (.int .u8 b.toNat))
  | none => none
@[go_sem] theorem byteAt_s {b : UInt8} : byteAt (some b) = some (.v (.int .u8 b.toNat)) := (rfl)
theorem bs_get (l : L8) (k : Nat) : (bs l)[k]? = l[k]? := by
  by_cases h : k < l.length
  · have : k < (bs l).size := by simpa [ByteArray.size] using h
    rw [getElem?_pos (bs l) k this, List.getElem?_eq_getElem h]
    rfl
  · have : ¬ k < (bs l).size := by simpa [ByteArray.size] using h
    rw [getElem?_neg (bs l) k this, List.getElem?_eq_none (by omega)]
@[go_sem] theorem aindex_str {l : L8} {kk : IntKind} {k : Nat} (hs : isStr P t = true) : aindex P t (str l) (.v (.int kk (k : Int))) = byteAt l[k]? := by
  simp only [aindex, str, hs, true_and, Int.natCast_nonneg, if_true, Int.toNat_natCast, bs_get]
  cases l[k]? <;> rfl
@[go_sem] theorem aindex_str_lit {l : L8} {kk : IntKind} {k : Nat} (hs : isStr P t = true) : aindex P t (str l) (.v (.int kk (OfNat.ofNat k : Int))) = byteAt l[k]? := aindex_str hs

@[go_sem] theorem slen_sl {rows : List (List AV)} : slen h (.sl rows) = some rows.length := (rfl)
@[go_sem] theorem slen_str {l : L8} : slen h (str l) = some l.length := by simp [slen, str, ByteArray.size]
def lenO (len : Nat) : Option (List (List AV)) → Option Nat
  | some _ => some len
  | none => none
@[go_sem] theorem lenO_s {len : Nat} {r : List (List AV)} : lenO len (some r) = some len := (rfl)
@[go_sem] theorem slen_so {l n len : Nat} : slen h (.so l n len) = lenO len (curRows h l n) := by
  simp only [slen]; cases curRows h l n <;> rfl
def sliceO (P : Program) (t : TypeId) (x : AV) (lo hi : Option AV) (h : AH) : Option Nat → Option AV
  | some n => acutS P t x (bound 0 lo) (bound n hi) h
  | none => none
@[go_sem] theorem sliceO_s {lo hi : Option AV} {n : Nat} : sliceO P t x lo hi h (some n) = acutS P t x (bound 0 lo) (bound n hi) h := (rfl)
@[go_sem] theorem aslice_eq {lo hi : Option AV} : aslice P t x lo hi h = sliceO P t x lo hi h (slen h x) := by
  simp only [aslice]; cases slen h x <;> rfl
@[go_sem] theorem bound_n {d : Nat} : bound d none = some d := (rfl)
@[go_sem] theorem bound_k {d k : Nat} {kk : IntKind} : bound d (some (.v (.int kk (k : Int)))) = some k := by simp [bound]
@[go_sem] theorem bound_l {d k : Nat} {kk : IntKind} : bound d (some (.v (.int kk (OfNat.ofNat k : Int)))) = some k := bound_k
theorem bs_extract (l : L8) (i j : Nat) : (bs l).extract i j = bs ((l.drop i).take (j - i)) := by
  apply lb_inj
  simp [ByteArray.data_extract, List.extract_eq_take_drop]
@[go_sem] theorem acutS_str {l : L8} {i j : Nat} (hs : isStr P t = true) : acutS P t (str l) (some i) (some j) h = if i ≤ j ∧ j ≤ l.length then some (str ((l.drop i).take (j - i))) else none := by
  simp only [acutS, str, hs, true_and, bs_extract]
  rfl
@[go_sem] theorem acutS_sl {rows : List (List AV)} {i j : Nat} {a : Bool} {s : Nat} (he : EO P t = some (none, a, s)) : acutS P t (.sl rows) (some i) (some j) h = if i ≤ j ∧ j ≤ rows.length ∧ (∀ r ∈ rows, r.length = s) then some (.sl ((rows.drop i).take (j - i))) else none := by
  simp only [acutS, he]
@[go_sem] theorem acutS_so {l n len i j : Nat} {a : Bool} {s : Nat} (he : EO P t = some (none, a, s)) : acutS P t (.so l n len) (some i) (some j) h = if i = 0 ∧ j ≤ len ∧ (curRows h l n).isSome then some (.so l n j) else none := by
  simp only [acutS, he]
@[go_sem] theorem aextract_tup {xs : List AV} {i : Nat} : aextract (.tup xs) i = xs[i]? := (rfl)
@[go_sem] theorem anil_ref {cs : List AV} {o : Nat} : anil (.ref cs o) = some (.ref cs o) := (rfl)
@[go_sem] theorem anil_ptr {l o : Nat} : anil (.ptr l o) = some (.ptr l o) := (rfl)
@[go_sem] theorem anil_fn {f : FuncId} {c : List AV} : anil (.fn f c) = some (.fn f c) := (rfl)
@[go_sem] theorem acond_b {b : Bool} : acond (.v (.bool b)) x y = some (if b = true then x else y) := (rfl)
@[go_sem] theorem ite_v {b : Bool} {u v : Bool} : (if b = true then AV.v (.bool u) else AV.v (.bool v)) = AV.v (.bool (if b = true then u else v)) := by cases b <;> rfl

/-! lengths -/
def alenO (x : AV) : Option TypeDesc → Option Nat → Option AV
  | some .string, some n => (match x with | .v (.string _) => some (.v (.int .i64 n)) | _ => none)
  | some (.slice _), some n => (match x with | .v (.string _) => none | _ => some (.v (.int .i64 n)))
  | _, _ => none
def alenD (P : Program) (x : AV) (h : AH) (u : Option TypeDesc) : Option AV := match u with
  | some (.pointer e) => (match P.underlying e with | some (.array n _) => some (.v (.int .i64 n)) | _ => none)
  | _ => alenO x u (slen h x)
@[go_sem] theorem alen_eq {ty : TypeId} : abuiltin P .len (List.toArray [t]) ty [x] h = alenD P x h (P.underlying t) := by
  simp only [abuiltin, alenD, List.getElem?_toArray, List.getElem?_cons_zero]
  cases P.underlying t with
  | none => rfl
  | some d => cases d <;> cases slen h x <;> rfl
@[go_sem] theorem alen_str {l : L8} : alenD P (str l) h (some .string) = some (.v (.int .i64 (l.length : Nat))) := by
  simp only [alenD, alenO, slen_str]; rfl
@[go_sem] theorem alen_sl {rows : List (List AV)} {e : TypeId} : alenD P (.sl rows) h (some (.slice e)) = some (.v (.int .i64 (rows.length : Nat))) := (rfl)
@[go_sem] theorem alen_nil {e n c : Nat} : alenD P (.v (.slice none n c)) h (some (.slice e)) = some (.v (.int .i64 (n : Nat))) := (rfl)
def alenS : Option Nat → Option AV
  | some n => some (.v (.int .i64 n))
  | none => none
@[go_sem] theorem alenS_s {n : Nat} : alenS (some n) = some (.v (.int .i64 (n : Nat))) := (rfl)
@[go_sem] theorem alen_so {l n len : Nat} {e : TypeId} : alenD P (.so l n len) h (some (.slice e)) = alenS (slen h (.so l n len)) := by
  simp only [alenD, alenO]
  cases slen h (.so l n len) <;> rfl
def alenA : Option TypeDesc → Option AV
  | some (.array n _) => some (.v (.int .i64 n))
  | _ => none
@[go_sem] theorem alenA_s {n e : Nat} : alenA (some (.array n e)) = some (.v (.int .i64 (n : Nat))) := (rfl)
@[go_sem] theorem alen_ptr {e : TypeId} : alenD P x h (some (.pointer e)) = alenA (P.underlying e) := by
  simp only [alenD]
  cases P.underlying e with
  | none => rfl
  | some d => cases d <;> rfl

/-! operators -/
@[go_sem] theorem raw_str {l : L8} : AV.raw (str l) = some (.string (bs l)) := (rfl)
theorem beq_dec {α : Type} [BEq α] [LawfulBEq α] [DecidableEq α] (a b : α) : (a == b) = decide (a = b) := by
  by_cases h : a = b <;> simp [h]
section ints
variable {k : IntKind} {a b : Int}
@[go_sem] theorem bin_add : abin P .add t p q (.v (.int k a)) (.v (.int k b)) = some (.v (.int k (k.wrap (a + b)))) := by
  simp [abin, AV.raw, eqGuard, binOp, Op.intArith, semPure, bind, Sem.bind, pure, ofVo, ofV]
@[go_sem] theorem bin_sub : abin P .sub t p q (.v (.int k a)) (.v (.int k b)) = some (.v (.int k (k.wrap (a - b)))) := by
  simp [abin, AV.raw, eqGuard, binOp, Op.intArith, semPure, bind, Sem.bind, pure, ofVo, ofV]
@[go_sem] theorem bin_mul : abin P .mul t p q (.v (.int k a)) (.v (.int k b)) = some (.v (.int k (k.wrap (a * b)))) := by
  simp [abin, AV.raw, eqGuard, binOp, Op.intArith, semPure, bind, Sem.bind, pure, ofVo, ofV]
@[go_sem] theorem bin_lss : abin P .lss t p q (.v (.int k a)) (.v (.int k b)) = some (.v (.bool (decide (a < b)))) := by
  simp [abin, AV.raw, eqGuard, binOp, Op.intCmp, semPure, bind, Sem.bind, pure, ofVo, ofV]
@[go_sem] theorem bin_leq : abin P .leq t p q (.v (.int k a)) (.v (.int k b)) = some (.v (.bool (decide (a ≤ b)))) := by
  simp [abin, AV.raw, eqGuard, binOp, Op.intCmp, semPure, bind, Sem.bind, pure, ofVo, ofV]
@[go_sem] theorem bin_gtr : abin P .gtr t p q (.v (.int k a)) (.v (.int k b)) = some (.v (.bool (decide (b < a)))) := by
  simp [abin, AV.raw, eqGuard, binOp, Op.intCmp, semPure, bind, Sem.bind, pure, ofVo, ofV]
@[go_sem] theorem bin_geq : abin P .geq t p q (.v (.int k a)) (.v (.int k b)) = some (.v (.bool (decide (b ≤ a)))) := by
  simp [abin, AV.raw, eqGuard, binOp, Op.intCmp, semPure, bind, Sem.bind, pure, ofVo, ofV]
@[go_sem] theorem bin_eql : abin P .eql t p q (.v (.int k a)) (.v (.int k b)) = some (.v (.bool (decide (a = b)))) := by
  simp [abin, AV.raw, eqGuard, binOp, Op.intCmp, semPure, bind, Sem.bind, pure, ofVo, ofV, beq_dec]
@[go_sem] theorem bin_neq : abin P .neq t p q (.v (.int k a)) (.v (.int k b)) = some (.v (.bool (decide (¬ a = b)))) := by
  simp [abin, AV.raw, eqGuard, binOp, Op.intCmp, semPure, bind, Sem.bind, pure, ofVo, ofV, bne, beq_dec]
end ints
section strs
variable {a b : L8}
theorem toList_bs (l : L8) : (bs l).toList = l := by
  rw [ByteArray.toList_eq]
theorem bs_append (a b : L8) : bs a ++ bs b = bs (a ++ b) := by
  apply lb_inj; simp
@[go_sem] theorem bin_eqls : abin P .eql t p q (str a) (str b) = some (.v (.bool (decide (a = b)))) := by
  simp [abin, str, AV.raw, eqGuard, binOp, Op.stringOp, semPure, bind, Sem.bind, pure, ofVo, ofV, toList_bs, beq_dec]
@[go_sem] theorem bin_neqs : abin P .neq t p q (str a) (str b) = some (.v (.bool (decide (¬ a = b)))) := by
  simp [abin, str, AV.raw, eqGuard, binOp, Op.stringOp, semPure, bind, Sem.bind, pure, ofVo, ofV, toList_bs, beq_dec]
@[go_sem] theorem bin_lsss : abin P .lss t p q (str a) (str b) = some (.v (.bool (Op.bytesLess a b))) := by
  simp [abin, str, AV.raw, eqGuard, binOp, Op.stringOp, semPure, bind, Sem.bind, pure, ofVo, ofV, toList_bs]
@[go_sem] theorem bin_geqs : abin P .geq t p q (str a) (str b) = some (.v (.bool (!Op.bytesLess a b))) := by
  simp [abin, str, AV.raw, eqGuard, binOp, Op.stringOp, semPure, bind, Sem.bind, pure, ofVo, ofV, toList_bs]
@[go_sem] theorem bin_leqs : abin P .leq t p q (str a) (str b) = some (.v (.bool (Op.bytesLess a b || decide (a = b)))) := by
  simp [abin, str, AV.raw, eqGuard, binOp, Op.stringOp, semPure, bind, Sem.bind, pure, ofVo, ofV, toList_bs, beq_dec]
@[go_sem] theorem bin_adds (hl : a.length + b.length ≤ 9223372036854775807) : abin P .add t p q (str a) (str b) = some (str (a ++ b)) := by
  have h1 : ¬ ((((bs a).size + (bs b).size : Nat) : Int) > IntKind.i64.max) := by
    have : IntKind.i64.max = 9223372036854775807 := rfl
    have h2 : (bs a).size = a.length := by simp [ByteArray.size]
    have h3 : (bs b).size = b.length := by simp [ByteArray.size]
    rw [this, h2, h3]; omega
  have h2 : semPure P (do eqGuard .add t p q (.string (bs a)) (.string (bs b)); binOp .add t (.string (bs a)) (.string (bs b))) = some (.string (bs (a ++ b))) := by
    rw [← bs_append]
    show semPure P (if (((bs a).size + (bs b).size : Nat) : Int) > IntKind.i64.max then _ else _) = _
    rw [if_neg h1]; rfl
  simp only [abin, raw_str, h2]
  rfl
end strs
theorem wrap_i64 {n : Int} (h1 : -9223372036854775808 ≤ n) (h2 : n ≤ 9223372036854775807) : IntKind.i64.wrap n = n := IntWalk.i64_in n ⟨h1, h2⟩
theorem wrap_nat {k m : Nat} (h : k + m ≤ 9223372036854775807) : IntKind.i64.wrap ((k : Int) + (m : Int)) = ((k + m : Nat) : Int) := by rw [wrap_i64] <;> omega
@[go_sem] theorem wrap_succ {k : Nat} (h : k + 1 ≤ 9223372036854775807) : IntKind.i64.wrap ((k : Int) + 1) = ((k + 1 : Nat) : Int) := wrap_nat h
attribute [go_sem] Int.reduceLT Int.reduceLE Int.reduceEq Int.reduceAdd Int.reduceSub Int.reduceNeg Int.ofNat_lt Int.ofNat_le Int.ofNat_inj
theorem wrap_u8 {n : Int} (h1 : 0 ≤ n) (h2 : n ≤ 255) : IntKind.u8.wrap n = n := by
  have : IntKind.u8.wrap n = n % 256 := by simp [IntKind.wrap, IntKind.bits, IntKind.signed]
  rw [this]; omega
end
end Go.Isea

namespace Go.Isea
open Go
section
variable {P : Program} {h h0 h' : AH} {t : TypeId} {x y r : AV} {K : AV → AH → Prop} {C : Cx} {s : List Nat} {n0 : Nat} {T own : List Nat} {ords : List (Nat × OT)}

attribute [go_sem] Nat.reduceAdd Nat.reduceSub Nat.reduceMul Nat.reduceEqDiff Nat.reduceBEq Nat.reduceBNe Nat.reduceLeDiff Nat.reduceLT Nat.reduceDiv Nat.reduceMod
attribute [go_sem ↓] reduceIte
attribute [go_sem] List.contains_cons List.contains_nil Bool.or_false Bool.or_true Bool.false_or Bool.true_or List.all_cons List.all_nil List.length_map List.drop_succ_cons List.drop_zero List.take_succ_cons List.take_zero List.getElem?_cons_zero List.getElem?_cons_succ List.getElem?_map Option.map_some Bool.false_eq_true ne_eq not_true_eq_false not_false_eq_true List.length_append List.length_replicate true_and and_true List.replicate_succ List.replicate_zero List.nil_append List.cons_append List.set_cons_zero List.set_cons_succ List.length_set List.map_cons List.map_nil Nat.le_refl
attribute [go_sem] decide_true decide_false Bool.not_true Bool.not_false if_true if_false List.length_cons List.length_nil Nat.zero_add Nat.add_zero Bool.true_and Bool.and_true Bool.false_and Bool.and_false
@[go_sem] theorem one_str {l : L8} : AV.one h (str l) = true := (rfl)
@[go_sem] theorem one_int {k : IntKind} {n : Int} : AV.one h (.v (.int k n)) = true := (rfl)
@[go_sem] theorem one_bool {b : Bool} : AV.one h (.v (.bool b)) = true := (rfl)
@[go_sem] theorem one_nil {a : Option Addr} {n c : Nat} : AV.one h (.v (.slice a n c)) = true := (rfl)
@[go_sem] theorem one_ptr0 {a : Option Addr} : AV.one h (.v (.pointer a)) = true := (rfl)
@[go_sem] theorem one_map0 {a : Option Nat} : AV.one h (.v (.map a)) = true := (rfl)
@[go_sem] theorem one_nf : AV.one h (.v .nilFunc) = true := (rfl)
@[go_sem] theorem one_sl {r : List (List AV)} : AV.one h (.sl r) = true := (rfl)
@[go_sem] theorem one_ref {r : List AV} {o : Nat} : AV.one h (.ref r o) = true := (rfl)
@[go_sem] theorem one_ptr {l o : Nat} : AV.one h (.ptr l o) = true := (rfl)
@[go_sem] theorem one_mp {l : Nat} : AV.one h (.mp l) = true := (rfl)
@[go_sem] theorem one_fn {f : FuncId} {c : List AV} : AV.one h (.fn f c) = true := (rfl)
def isCur (n : Nat) : AObj → Bool
  | .rows _ _ rs => rs.length == n
  | _ => false
@[go_sem] theorem isCur_r {n e sz : Nat} {rs : List (List AV)} : isCur n (.rows e sz rs) = (rs.length == n) := (rfl)
@[go_sem] theorem one_so {l n len : Nat} : AV.one h (.so l n len) = isCur n (h.o l) := by
  simp only [AV.one]; cases h.o l <;> rfl
@[go_sem] theorem ok_agg {cs : List AV} : AV.ok h (.agg cs) = cs.all (AV.one h) := (rfl)
@[go_sem] theorem ok_str {l : L8} : AV.ok h (str l) = true := (rfl)
@[go_sem] theorem ok_int {k : IntKind} {n : Int} : AV.ok h (.v (.int k n)) = true := (rfl)
@[go_sem] theorem ok_bool {b : Bool} : AV.ok h (.v (.bool b)) = true := (rfl)
@[go_sem] theorem ok_nil {a : Option Addr} {n c : Nat} : AV.ok h (.v (.slice a n c)) = true := (rfl)
@[go_sem] theorem ok_ptr0 {a : Option Addr} : AV.ok h (.v (.pointer a)) = true := (rfl)
@[go_sem] theorem ok_sl {r : List (List AV)} : AV.ok h (.sl r) = true := (rfl)
@[go_sem] theorem ok_ref {r : List AV} {o : Nat} : AV.ok h (.ref r o) = true := (rfl)
@[go_sem] theorem ok_ptr {l o : Nat} : AV.ok h (.ptr l o) = true := (rfl)
@[go_sem] theorem ok_mp {l : Nat} : AV.ok h (.mp l) = true := (rfl)
@[go_sem] theorem ok_fn {f : FuncId} {c : List AV} : AV.ok h (.fn f c) = true := (rfl)
@[go_sem] theorem ok_so {l n len : Nat} : AV.ok h (.so l n len) = isCur n (h.o l) := one_so (len := len)
@[go_sem] theorem cells_agg {cs : List AV} : AV.cells (.agg cs) = cs := (rfl)
@[go_sem] theorem cells_str {l : L8} : AV.cells (str l) = [str l] := (rfl)
@[go_sem] theorem cells_int {k : IntKind} {n : Int} : AV.cells (.v (.int k n)) = [.v (.int k n)] := (rfl)
@[go_sem] theorem cells_bool {b : Bool} : AV.cells (.v (.bool b)) = [.v (.bool b)] := (rfl)
@[go_sem] theorem cells_nil {a : Option Addr} {n c : Nat} : AV.cells (.v (.slice a n c)) = [.v (.slice a n c)] := (rfl)
@[go_sem] theorem cells_ptr0 {a : Option Addr} : AV.cells (.v (.pointer a)) = [.v (.pointer a)] := (rfl)
@[go_sem] theorem cells_sl {r : List (List AV)} : AV.cells (.sl r) = [.sl r] := (rfl)
@[go_sem] theorem cells_ref {r : List AV} {o : Nat} : AV.cells (.ref r o) = [.ref r o] := (rfl)
@[go_sem] theorem cells_ptr {l o : Nat} : AV.cells (.ptr l o) = [.ptr l o] := (rfl)
@[go_sem] theorem cells_so {l n len : Nat} : AV.cells (.so l n len) = [.so l n len] := (rfl)
@[go_sem] theorem cells_mp {l : Nat} : AV.cells (.mp l) = [.mp l] := (rfl)
@[go_sem] theorem cells_fn {f : FuncId} {c : List AV} : AV.cells (.fn f c) = [.fn f c] := (rfl)
/-- a zero, as cells -/
def zcells : Value → List AV
  | .agg cs => cs.toList.map .v
  | v => [.v v]
theorem zcells_eq (z : Value) : z.cells.toList.map .v = zcells z := by cases z <;> simp [Value.cells, zcells]
@[go_sem] theorem zc_agg {l : List Value} : zcells (.agg l.toArray) = l.map .v := (rfl)
@[go_sem] theorem zc_int {k : IntKind} {n : Int} : zcells (.int k n) = [.v (.int k n)] := (rfl)
@[go_sem] theorem zc_bool {b : Bool} : zcells (.bool b) = [.v (.bool b)] := (rfl)
@[go_sem] theorem zc_str {b : ByteArray} : zcells (.string b) = [.v (.string b)] := (rfl)
@[go_sem] theorem zc_sl {a : Option Addr} {n c : Nat} : zcells (.slice a n c) = [.v (.slice a n c)] := (rfl)
@[go_sem] theorem zc_ptr {a : Option Addr} : zcells (.pointer a) = [.v (.pointer a)] := (rfl)
@[go_sem] theorem zc_map {a : Option Nat} : zcells (.map a) = [.v (.map a)] := (rfl)
attribute [go_sem] zcells_eq

variable {tm : List AV} {d : Option Tmp} {ty : TypeId} {pos : String} {af : Array Edge} {g : Option (Nat × Bool)} {u v : Operand}
@[go_sem] theorem isOwn_s {d : Tmp} : isOwn ⟨P, n0, T, own, ords⟩ (some d) = own.contains d := (rfl)
@[go_sem] theorem touch_eq {l : Nat} : touch ⟨P, n0, T, own, ords⟩ l = (n0 ≤ l ∨ l ∈ T) := (rfl)
/-! boxes -/
def BoxS (own : Bool) (x : AV) {K : AV → AH → Prop} (_ : Sealed K) (h : AH) : Prop := x.ok h = true ∧ if own = true then K (.ptr h.n 0) (h.push (.cells x.cells)) else K (.ref x.cells 0) h
@[go_sem ↓] theorem r_box : OpS C s (.mk (⟨d, .box t u, ty, pos, af, g⟩, K)) tm h = BoxS (isOwn C d) (evA tm u) (.mk K) h := (rfl)
@[go_sem] theorem boxS_t : BoxS true x (.mk K) h = (x.ok h = true ∧ K (.ptr h.n 0) (h.push (.cells x.cells))) := (rfl)
@[go_sem] theorem boxS_f : BoxS false x (.mk K) h = (x.ok h = true ∧ K (.ref x.cells 0) h) := (rfl)
def AllocS (o : Option Value) {K : AV → AH → Prop} (_ : Sealed K) (h : AH) : Prop := OptK o fun z => K (.ptr h.n 0) (h.push (.cells (zcells z)))
@[go_sem ↓] theorem r_alloc : OpS C s (.mk (⟨d, .alloc t, ty, pos, af, g⟩, K)) tm h = AllocS (ZV C.P t) (.mk K) h := by
  simp only [AllocS, ← zcells_eq]; rfl
@[go_sem] theorem allocS_s {z : Value} : AllocS (some z) (.mk K) h = K (.ptr h.n 0) (h.push (.cells (zcells z))) := (rfl)
/-! appends -/
def appD (C : Cx) (s : List Nat) (o : Option (TypeId × Nat × Nat × Value)) (r : Option (List (List AV))) (a : AV) {K : AV → AH → Prop} (_ : Sealed K) (h : AH) : Prop := match o, r with
  | some (e, sz, bt, _), some r => goodRows h sz r ∧ appendTo C s e sz bt a r h K
  | _, _ => False
def appT (C : Cx) (s : List Nat) (e sz bt : Nat) (a : AV) (r : List (List AV)) {K : AV → AH → Prop} (_ : Sealed K) (h : AH) : Prop := appendTo C s e sz bt a r h K
@[go_sem ↓] theorem r_append : OpS C s (.mk (⟨d, .call ⟨.builtin .append, List.toArray [u, v], List.toArray [t, t]⟩, ty, pos, af, g⟩, K)) tm h = appD C s (AP C.P t) (rowsOf h (evA tm v)) (evA tm u) (.mk K) h := by
  show aappend C s (List.toArray [t, t]) [evA tm u, evA tm v] h K = _
  simp only [aappend, appD, true_and]
  cases AP C.P t <;> cases rowsOf h (evA tm v) <;> rfl
@[go_sem] theorem appD_s {e sz bt : Nat} {z : Value} {r : List (List AV)} {a : AV} : appD C s (some (e, sz, bt, z)) (some r) a (.mk K) h = (goodRows h sz r ∧ appT C s e sz bt a r (.mk K) h) := (rfl)
@[go_sem] theorem rows_sl {r : List (List AV)} : rowsOf h (.sl r) = some r := (rfl)
@[go_sem] theorem rows_nil {a : Option Addr} {c : Nat} : rowsOf h (.v (.slice a 0 c)) = some [] := (rfl)
def takeO (len : Nat) : Option (List (List AV)) → Option (List (List AV))
  | some rs => some (rs.take len)
  | none => none
@[go_sem] theorem takeO_s {len : Nat} {rs : List (List AV)} : takeO len (some rs) = some (rs.take len) := (rfl)
@[go_sem] theorem rows_so {l n len : Nat} : rowsOf h (.so l n len) = takeO len (curRows h l n) := by
  simp only [rowsOf]; cases curRows h l n <;> rfl
@[go_sem] theorem good_nil {sz : Nat} : goodRows h sz [] = True := by simp [goodRows]
@[go_sem] theorem good_cons {sz : Nat} {q : List AV} {r : List (List AV)} : goodRows h sz (q :: r) = ((q.length = sz ∧ q.all (AV.one h) = true) ∧ goodRows h sz r) := by
  simp [goodRows]
theorem good_map {α : Type} {sz : Nat} {f : α → List AV} {l : List α} (hf : ∀ a, (f a).length = sz ∧ (f a).all (AV.one h) = true) : goodRows h sz (l.map f) = True := by
  simp only [goodRows, eq_iff_iff, iff_true, List.mem_map]
  rintro q ⟨a, _, rfl⟩
  have := hf a
  simpa using this
@[go_sem] theorem app_nil {e sz bt : Nat} {r : List (List AV)} : appT C s e sz bt (.v (.slice none 0 0)) r (.mk K) h = (r.length * bt ≤ 140737488355328 ∧ K (.so h.n r.length r.length) (h.push (.rows e sz r))) := (rfl)
def appO (C : Cx) (s : List Nat) (e sz bt t n len : Nat) (r : List (List AV)) {K : AV → AH → Prop} (_ : Sealed K) (h : AH) : AObj → Prop
  | .rows e' sz' rs => rs.length = n ∧ len = n ∧ e' = e ∧ sz' = sz ∧ (rs.length + r.length) * bt ≤ 140737488355328 ∧ t ∉ s ∧ touch C t ∧ K (.so t (n + r.length) (n + r.length)) (h.set t (.rows e sz (rs ++ r)))
  | _ => False
@[go_sem] theorem appO_r {e sz bt l n len e' sz' : Nat} {r rs : List (List AV)} : appO C s e sz bt l n len r (.mk K) h (.rows e' sz' rs) = (rs.length = n ∧ len = n ∧ e' = e ∧ sz' = sz ∧ (rs.length + r.length) * bt ≤ 140737488355328 ∧ l ∉ s ∧ touch C l ∧ K (.so l (n + r.length) (n + r.length)) (h.set l (.rows e sz (rs ++ r)))) := (rfl)
@[go_sem] theorem app_so {e sz bt l n len : Nat} {r : List (List AV)} : appT C s e sz bt (.so l n len) r (.mk K) h = appO C s e sz bt l n len r (.mk K) h (h.o l) := by
  simp only [appT, appendTo]; cases h.o l <;> rfl
/-! rows that are built -/
def bslD (own : Bool) (len : Nat) (parts : List (Nat × AV)) {K : AV → AH → Prop} (_ : Sealed K) (h : AH) : Option (TypeId × Nat × Nat × Value) → Prop
  | some (e, sz, _, z) => len * sz ≤ 16777216 ∧ parts.all (fun p => p.2.ok h) = true ∧ OptK (rowFill sz (List.replicate len (zcells z)) parts) fun rows =>
        if len = 0 ∨ own = true then K (.so h.n len len) (h.push (.rows e sz rows)) else K (.sl rows) h
  | none => False
@[go_sem ↓] theorem r_buildSlice {n : Nat} {l : List (Nat × Operand)} : OpS C s (.mk (⟨d, .buildSlice t n l.toArray, ty, pos, af, g⟩, K)) tm h = bslD (isOwn C d) n (mapP tm l) (.mk K) h (AP C.P t) := by
  rw [mapP_eq]
  show abuildSlice C (isOwn C d) t n _ h K = _
  simp only [abuildSlice, bslD, zcells_eq]
  cases AP C.P t <;> rfl
def bslR (own : Bool) (len e sz : Nat) {K : AV → AH → Prop} (_ : Sealed K) (h : AH) (o : Option (List (List AV))) : Prop := OptK o fun rows =>
        if len = 0 ∨ own = true then K (.so h.n len len) (h.push (.rows e sz rows)) else K (.sl rows) h
@[go_sem] theorem bslD_s {own : Bool} {len e sz bt : Nat} {z : Value} {parts : List (Nat × AV)} : bslD own len parts (.mk K) h (some (e, sz, bt, z)) = (len * sz ≤ 16777216 ∧ parts.all (fun p => p.2.ok h) = true ∧ bslR own len e sz (.mk K) h (rowFill sz (List.replicate len (zcells z)) parts)) := (rfl)
@[go_sem] theorem bslR_0 {own : Bool} {e sz : Nat} {r : List (List AV)} : bslR own 0 e sz (.mk K) h (some r) = K (.so h.n 0 0) (h.push (.rows e sz r)) := by simp [bslR, OptK]
@[go_sem] theorem bslR_t {len e sz : Nat} {r : List (List AV)} : bslR true (len + 1) e sz (.mk K) h (some r) = K (.so h.n (len + 1) (len + 1)) (h.push (.rows e sz r)) := by simp [bslR, OptK]
@[go_sem] theorem bslR_f {len e sz : Nat} {r : List (List AV)} : bslR false (len + 1) e sz (.mk K) h (some r) = K (.sl r) h := by simp [bslR, OptK]
@[go_sem] theorem rowFill_n {sz : Nat} {rows : List (List AV)} : rowFill sz rows [] = some rows := (rfl)
@[go_sem] theorem rowFill_c {sz i : Nat} {rows : List (List AV)} {parts : List (Nat × AV)} : rowFill sz rows ((i, x) :: parts) = if x.cells.length = sz ∧ i < rows.length then rowFill sz (rows.set i x.cells) parts else none := (rfl)

def aggO : Option (List AV) → Option AV
  | some cs => some (.agg cs)
  | none => none
def bldD (h : AH) (parts : List (Nat × AV)) : Option (List (Nat × Nat) × Value) → Option AV
  | some (places, z) => if parts.all (fun p => p.2.ok h) then aggO (afill places (zcells z) parts) else none
  | none => none
@[go_sem] theorem aggO_s {cs : List AV} : aggO (some cs) = some (.agg cs) := (rfl)
@[go_sem ↓] theorem abuild_eq {parts : List (Nat × AV)} : abuild P t h parts = bldD h parts (SP P t) := by
  simp only [abuild, bldD, zcells_eq]
  cases SP P t with
  | none => rfl
  | some p =>
    obtain ⟨pl, z⟩ := p
    simp only
    split
    · cases afill pl (zcells z) parts <;> rfl
    · rfl
@[go_sem] theorem bldD_s {parts : List (Nat × AV)} {pl : List (Nat × Nat)} {z : Value} : bldD h parts (some (pl, z)) = if parts.all (fun p => p.2.ok h) then aggO (afill pl (zcells z) parts) else none := (rfl)
def fillAt (pl : List (Nat × Nat)) (cells : List AV) (x : AV) (rest : List (Nat × AV)) : Option (Nat × Nat) → Option (List AV)
  | some (off, s) => if x.cells.length = s ∧ off + s ≤ cells.length then afill pl (paste cells off x.cells) rest else none
  | none => none
@[go_sem] theorem fillAt_s {pl : List (Nat × Nat)} {cells : List AV} {rest : List (Nat × AV)} {off n : Nat} : fillAt pl cells x rest (some (off, n)) = if x.cells.length = n ∧ off + n ≤ cells.length then afill pl (paste cells off x.cells) rest else none := (rfl)
@[go_sem] theorem afill_n {pl : List (Nat × Nat)} {cells : List AV} : afill pl cells [] = some cells := (rfl)
@[go_sem] theorem afill_c {pl : List (Nat × Nat)} {cells : List AV} {rest : List (Nat × AV)} {i : Nat} : afill pl cells ((i, x) :: rest) = fillAt pl cells x rest pl[i]? := by
  simp only [afill]; cases pl[i]? <;> rfl
@[go_sem] theorem paste_n {cs : List AV} {off : Nat} : paste cs off [] = cs := (rfl)
@[go_sem] theorem paste_c {cs xs : List AV} {off : Nat} : paste cs off (x :: xs) = paste (cs.set off x) (off + 1) xs := (rfl)
/-! stores -/
def stObj (C : Cx) (pr : List Nat) (l off s : Nat) (x : AV) {K : AH → Prop} (_ : Sealed K) (h : AH) : AObj → Prop
  | .cells cs => x.ok h = true ∧ x.cells.length = s ∧ off + s ≤ cs.length ∧ l ∉ pr ∧ touch C l ∧ K (h.set l (.cells (paste cs off x.cells)))
  | _ => False
variable {K' : AH → Prop}
@[go_sem] theorem stObj_c {l off n : Nat} {cs : List AV} : stObj C s l off n x (.mk K') h (.cells cs) = (x.ok h = true ∧ x.cells.length = n ∧ off + n ≤ cs.length ∧ l ∉ s ∧ touch C l ∧ K' (h.set l (.cells (paste cs off x.cells)))) := (rfl)
def stRow (C : Cx) (pr : List Nat) (l n i off s : Nat) (x : AV) {K : AH → Prop} (_ : Sealed K) (h : AH) : AObj → Prop
  | .rows e sz rs => rs.length = n ∧ x.ok h = true ∧ x.cells.length = s ∧ off + s ≤ sz ∧ l ∉ pr ∧ touch C l ∧ OptK rs[i]? fun r => K (h.set l (.rows e sz (rs.set i (paste r off x.cells))))
  | _ => False
def stRo (l e sz i off : Nat) (x : AV) (rs : List (List AV)) {K : AH → Prop} (_ : Sealed K) (h : AH) (o : Option (List AV)) : Prop := OptK o fun r => K (h.set l (.rows e sz (rs.set i (paste r off x.cells))))
@[go_sem] theorem stRo_s {l e sz i off : Nat} {rs : List (List AV)} {r : List AV} : stRo l e sz i off x rs (.mk K') h (some r) = K' (h.set l (.rows e sz (rs.set i (paste r off x.cells)))) := (rfl)
@[go_sem] theorem stRow_r {l n i off m e sz : Nat} {rs : List (List AV)} : stRow C s l n i off m x (.mk K') h (.rows e sz rs) = (rs.length = n ∧ x.ok h = true ∧ x.cells.length = m ∧ off + m ≤ sz ∧ l ∉ s ∧ touch C l ∧ stRo l e sz i off x rs (.mk K') h rs[i]?) := (rfl)
def stD (C : Cx) (pr : List Nat) (a x : AV) {K : AH → Prop} (_ : Sealed K) (h : AH) : Option (Bool × Nat) → Prop
  | some (_, s) => (match a with
    | .ptr l off => stObj C pr l off s x (.mk K) h (h.o l)
    | .pel t n i off => stRow C pr t n i off s x (.mk K) h (h.o t)
    | _ => False)
  | none => False
@[go_sem ↓] theorem r_store : OpS C s (.mk (⟨d, .store t u v, ty, pos, af, g⟩, K)) tm h = stD C s (evA tm u) (evA tm v) (.mk (K (.v undef))) h (LT C.P t) := by
  show astore C s t (evA tm u) (evA tm v) h (K (.v undef)) = _
  simp only [astore, stD]
  cases LT C.P t with
  | none => rfl
  | some p =>
    obtain ⟨b, n⟩ := p
    cases evA tm u <;> rfl
@[go_sem] theorem stD_ptr {l off n : Nat} {b : Bool} : stD C s (.ptr l off) x (.mk K') h (some (b, n)) = stObj C s l off n x (.mk K') h (h.o l) := (rfl)
@[go_sem] theorem stD_pel {l m i off n : Nat} {b : Bool} : stD C s (.pel l m i off) x (.mk K') h (some (b, n)) = stRow C s l m i off n x (.mk K') h (h.o l) := (rfl)
/-! rows that are made -/
def mkD (l c : AV) {K : AV → AH → Prop} (_ : Sealed K) (h : AH) : Option (TypeId × Nat × Nat × Value) → Prop
  | some (e, sz, bt, z) => (match l, c with
    | .v (.int _ n), .v (.int _ m) => 0 ≤ n ∧ n = m ∧ n.toNat * bt ≤ 140737488355328 ∧ K (.so h.n n.toNat n.toNat) (h.push (.rows e sz (List.replicate n.toNat (zcells z))))
    | _, _ => False)
  | none => False
@[go_sem ↓] theorem r_makeSlice : OpS C s (.mk (⟨d, .makeSlice t u v, ty, pos, af, g⟩, K)) tm h = mkD (evA tm u) (evA tm v) (.mk K) h (AP C.P t) := by
  show amake C t (evA tm u) (evA tm v) h K = _
  simp only [amake, mkD, zcells_eq]
  cases AP C.P t with
  | none => rfl
  | some p =>
    obtain ⟨e, sz, bt, z⟩ := p
    simp only
    generalize evA tm u = a
    generalize evA tm v = b
    cases a <;> try rfl
    rename_i a
    cases a <;> cases b <;> try rfl
    rename_i b
    cases b <;> rfl
@[go_sem] theorem mkD_s {k k' : IntKind} {n e sz bt : Nat} {z : Value} : mkD (.v (.int k (n : Int))) (.v (.int k' (n : Int))) (.mk K) h (some (e, sz, bt, z)) = (n * bt ≤ 140737488355328 ∧ K (.so h.n n n) (h.push (.rows e sz (List.replicate n (zcells z))))) := by
  simp [mkD]
/-! calls -/
def CallS (C : Cx) (s : List Nat) (f : AV) (args : List AV) {K : AV → AH → Prop} (_ : Sealed K) (h : AH) : Prop := acall C s f args h K
def CallT (C : Cx) (s : List Nat) (k : FuncId) (args : List AV) {K : AV → AH → Prop} (_ : Sealed K) (h : AH) : Prop := ACall C s k args h K
@[go_sem ↓] theorem r_call {ts : Array TypeId} {l : List Operand} : OpS C s (.mk (⟨d, .call ⟨.value u, l.toArray, ts⟩, ty, pos, af, g⟩, K)) tm h = CallS C s (evA tm u) (mapA tm l) (.mk K) h := by rw [mapA_eq]; rfl
@[go_sem] theorem callS_f {k : FuncId} {args : List AV} : CallS C s (.fn k []) args (.mk K) h = CallT C s k args (.mk K) h := by
  simp [CallS, CallT, acall]
@[go_sem] theorem callS_c {k : FuncId} {args cap : List AV} : CallS C s (.fn k (x :: cap)) args (.mk K) h = CallT C s k (args ++ x :: cap) (.mk K) h := (rfl)
/-- a call of what turns nothing -/
theorem call_pure {k : FuncId} {args : List AV} (hg : Good C.P k args h [] r h') (hk : K r h') : CallT C s k args (.mk K) h := ⟨[], r, h', hg, (fun _ h => by cases h), (fun _ _ h => by cases h), hk⟩
theorem call_turn {k : FuncId} {args : List AV} {T' : List Nat} (hg : Good C.P k args h T' r h') (ht : ∀ t, t ∈ T' → t < h.n → touch C t) (hs : ∀ t, t ∈ s → t ∉ T') (hk : K r h') : CallT C s k args (.mk K) h := ⟨T', r, h', hg, ht, hs, hk⟩

/-! ends -/
variable {rs : List ResultVar}
@[go_sem ↓] theorem fin_n {rs : List ResultVar} {σ : St} : Fin P rs T h0 h' r .normal σ = FinO T h0 σ.h h' r (resL P σ.tm σ.h rs) := (rfl)
@[go_sem ↓] theorem fin_r {rs : List ResultVar} {σ : St} : Fin P rs T h0 h' r .ret σ = FinO T h0 σ.h h' r (resL P σ.tm σ.h rs) := (rfl)
def resC (o : Option AV) (l : Option (List AV)) : Option (List AV) := match o, l with | some x, some l => some (x :: l) | _, _ => none
@[go_sem] theorem resC_s {l : List AV} : resC (some x) (some l) = some (x :: l) := (rfl)
@[go_sem] theorem resL_n {tm : List AV} : resL P tm h [] = some [] := (rfl)
@[go_sem] theorem resL_c {tm : List AV} {n : Tmp} {rs : List ResultVar} : resL P tm h (.tmp n :: rs) = resC (some (nth tm n)) (resL P tm h rs) := (rfl)
@[go_sem] theorem resL_d {tm : List AV} {n : Tmp} {rs : List ResultVar} : resL P tm h (.cell n t :: rs) = resC (aload P t (nth tm n) h) (resL P tm h rs) := (rfl)
@[go_sem] theorem finO_s {l : List AV} : FinO T h0 h h' r (some l) = FinS T h0 h (resT l) h' r := (rfl)
@[go_sem] theorem resT_1 : resT [x] = x := (rfl)
@[go_sem] theorem resT_2 {l : List AV} : resT (x :: y :: l) = .tup (x :: y :: l) := (rfl)
@[go_sem] theorem resT_0 : resT [] = .tup [] := (rfl)


/-! loops -/
/-- of the slots those alone that are kept -/
def keepJ : List Nat → List AV → List AV
  | _, [] => []
  | 0 :: ks, x :: l => x :: keepJ ks l
  | (n + 1) :: ks, _ :: l => .junk :: keepJ (n :: ks) l
  | [], _ :: l => .junk :: keepJ [] l
def setL : List AV → List (Nat × AV) → List AV
  | l, [] => l
  | l, (i, x) :: r => setL (setn l i x) r
def atS (keep : List Nat) (base : List AV) (S : List (Nat × AV) × AH) : St := ⟨setL (keepJ keep base) S.1, S.2⟩
theorem loop_rule {α : Type} {Q : Ex → St → Prop} {c : Code} {base : List AV} (keep : List Nat) (S : α → List (Nat × AV) × AH) (μ : α → Nat) (a0 : α) (start : Weak C ⟨base, h⟩ (atS keep base (S a0)))
    (round : ∀ a, W C (.mk (c, Thn (fun τ => ∃ a', μ a' < μ a ∧ Weak C τ (atS keep base (S a'))) Q)) (atS keep base (S a))) : LoopS C (.mk (c, Q)) ⟨base, h⟩ := by
  exact ⟨α, fun a => atS keep base (S a), μ, a0, start, round⟩
attribute [go_sem] atS
@[go_sem ↓] theorem keepJ_n {ks : List Nat} : keepJ ks [] = [] := by cases ks <;> rfl
@[go_sem ↓] theorem keepJ_0 {ks : List Nat} {l : List AV} : keepJ (0 :: ks) (x :: l) = x :: keepJ ks l := (rfl)
@[go_sem ↓] theorem keepJ_s {n : Nat} {ks : List Nat} {l : List AV} : keepJ ((n + 1) :: ks) (x :: l) = .junk :: keepJ (n :: ks) l := (rfl)
@[go_sem ↓] theorem keepJ_e {l : List AV} : keepJ [] (x :: l) = .junk :: keepJ [] l := (rfl)
@[go_sem] theorem setL_n {l : List AV} : setL l [] = l := (rfl)
@[go_sem] theorem setL_c {l : List AV} {i : Nat} {r : List (Nat × AV)} : setL l ((i, x) :: r) = setL (setn l i x) r := (rfl)
/-- a round's end: K stands for the loop's own continuation -/
def RoundS (C : Cx) {α : Type} (keep : List Nat) (base : List AV) (S : α → List (Nat × AV) × AH) (μ : α → Nat) (a : α) (τ : St) : Prop := ∃ a', μ a' < μ a ∧ Weak C τ (atS keep base (S a'))
theorem loop_rule' {α : Type} {Q : Ex → St → Prop} {c : Code} {base : List AV} (keep : List Nat) (S : α → List (Nat × AV) × AH) (μ : α → Nat) (a0 : α) (start : Weak C ⟨base, h⟩ (atS keep base (S a0)))
    (round : ∀ a, W C (.mk (c, Thn (RoundS C keep base S μ a) Q)) (atS keep base (S a))) : LoopS C (.mk (c, Q)) ⟨base, h⟩ := loop_rule keep S μ a0 start round
@[go_sem ↓] theorem r_round {α : Type} {Q : Ex → St → Prop} {keep : List Nat} {base : List AV} {S : α → List (Nat × AV) × AH} {μ : α → Nat} {a : α} {σ : St} : Thn (RoundS C keep base S μ a) Q .normal σ = RoundS C keep base S μ a σ := (rfl)
theorem round_to {α : Type} {keep : List Nat} {base : List AV} {S : α → List (Nat × AV) × AH} {μ : α → Nat} {a : α} {σ : St} (a' : α) (hμ : μ a' < μ a) (hw : Weak C σ (atS keep base (S a'))) : RoundS C keep base S μ a σ := ⟨a', hμ, hw⟩
/-! what is less told -/
theorem fzL_nil : FzL h n0 [] [] := ⟨rfl, fun i x y h1 => by simp at h1⟩
theorem fzL_cons {cs cs' : List AV} (hx : Fz h n0 x y) (hc : FzL h n0 cs cs') : FzL h n0 (x :: cs) (y :: cs') := FzL.cons hx hc
@[go_sem] theorem fzL_n : FzL h n0 [] [] = True := by simp [fzL_nil]
@[go_sem] theorem fzL_c {cs cs' : List AV} : FzL h n0 (x :: cs) (y :: cs') = (Fz h n0 x y ∧ FzL h n0 cs cs') := by
  apply propext
  refine ⟨fun hh => ⟨hh.2 0 x y rfl rfl, by have := hh.1; simpa using this, fun i u v h1 h2 => hh.2 (i + 1) u v h1 h2⟩, fun hh => fzL_cons hh.1 hh.2⟩
@[go_sem] theorem fz_j : Fz h n0 x .junk = True := by simp [Fz.junk]
@[go_sem] theorem fz_v {a b : Value} : Fz h n0 (.v a) (.v b) = (a = b) := by
  apply propext
  exact ⟨fun hh => by cases hh; rfl, fun hh => by subst hh; exact .v a⟩
@[go_sem] theorem fz_str {a b : L8} : Fz h n0 (str a) (str b) = (a = b) := by
  apply propext
  unfold str
  exact ⟨fun hh => by
    have : bs a = bs b := by cases hh; rfl
    exact bs_inj this, fun hh => by subst hh; exact .v _⟩
@[go_sem] theorem fz_so {t n m : Nat} (ht : t < n0) : Fz h n0 (.so t n m) (.so t n m) = True := by simp [Fz.so ht]
@[go_sem] theorem fz_ptr {l o : Nat} (ht : l < n0) : Fz h n0 (.ptr l o) (.ptr l o) = True := by simp [Fz.ptr ht]
@[go_sem] theorem fz_mp {l : Nat} (ht : l < n0) : Fz h n0 (.mp l) (.mp l) = True := by simp [Fz.mp ht]
theorem fz_lo (hx : Lo n0 x) : Fz h n0 x x = True := by simp [Fz.of_lo hx]
@[go_sem] theorem lo_v {a : Value} : Lo n0 (.v a) = True := by simp [Lo.v]
@[go_sem] theorem lo_str {a : L8} : Lo n0 (str a) = True := by simp [str, Lo.v]
/-- rows or cells without numbers -/
def PuL (cs : List AV) : Prop := ∀ n, ∀ x ∈ cs, Lo n x
def PuR (rs : List (List AV)) : Prop := ∀ n, ∀ r ∈ rs, ∀ x ∈ r, Lo n x
theorem lo_sl {rs : List (List AV)} (hp : PuR rs) : Lo n0 (.sl rs) := .sl (hp n0)
theorem lo_ref {cs : List AV} {o : Nat} (hp : PuL cs) : Lo n0 (.ref cs o) := .ref (hp n0)
@[go_sem] theorem fz_sl {rs : List (List AV)} (hp : PuR rs) : Fz h n0 (.sl rs) (.sl rs) = True := by simp [Fz.of_lo (lo_sl hp)]
@[go_sem] theorem fz_ref {cs : List AV} {o : Nat} (hp : PuL cs) : Fz h n0 (.ref cs o) (.ref cs o) = True := by simp [Fz.of_lo (lo_ref (o := o) hp)]
@[go_sem] theorem puL_n : PuL [] = True := by simp [PuL]
@[go_sem] theorem puL_c {cs : List AV} : PuL (x :: cs) = ((∀ n, Lo n x) ∧ PuL cs) := by
  simp [PuL, forall_and]
@[go_sem] theorem puR_n : PuR [] = True := by simp [PuR]
@[go_sem] theorem puR_c {q : List AV} {rs : List (List AV)} : PuR (q :: rs) = (PuL q ∧ PuR rs) := by
  simp [PuL, PuR, forall_and]
theorem puR_map {α : Type} {f : α → List AV} {l : List α} (hf : ∀ a, PuL (f a)) : PuR (l.map f) = True := by
  simp only [PuR, eq_iff_iff, iff_true, List.mem_map]
  rintro n r ⟨a, _, rfl⟩ x hx
  exact hf a n x hx
@[go_sem] theorem lo_sl' {rs : List (List AV)} (hp : PuR rs) : Lo n0 (.sl rs) = True := by simp [lo_sl hp]
@[go_sem] theorem lo_ref' {cs : List AV} {o : Nat} (hp : PuL cs) : Lo n0 (.ref cs o) = True := by simp [lo_ref hp]
attribute [go_sem] forall_const and_self implies_true
/-- weaker, with nothing new that lives on -/
theorem weak_same {tm tm' : List AV} {n1 m : Nat} {o : Nat → AObj} (hn : n0 ≤ m) (hm : m ≤ n1) (ht : FzL ⟨n1, o⟩ m tm tm') {o' : Nat → AObj} (ho : ∀ t, t < n0 → t ∉ T → o' t = o t) (hr : ∀ t, t < m → (t ∈ T ∨ n0 ≤ t) → ObjFz ⟨n1, o⟩ m (o t) (o' t)) :
    Weak ⟨P, n0, T, own, ords⟩ ⟨tm, ⟨n1, o⟩⟩ ⟨tm', ⟨m, o'⟩⟩ := ⟨hn, hm, ht, ho, hr⟩
/-- no object of the function's own lives -/
theorem weak_none {tm tm' : List AV} (hn : h0.n ≤ h.n) (ho : ∀ t, t < h0.n → h.o t = h0.o t) (ht : FzL h h0.n tm tm') : Weak ⟨P, h0.n, [], own, ords⟩ ⟨tm, h⟩ ⟨tm', h0⟩ :=
  ⟨Nat.le_refl _, hn, ht, fun t h1 _ => (ho t h1).symm, fun t h1 h2 => by
    rcases h2 with h2 | h2
    · cases h2
    · exact absurd h1 (Nat.not_lt.2 h2)⟩
theorem weak_at {tm base : List AV} {keep : List Nat} {S : List (Nat × AV) × AH} (hs : S.2 = h0) (hn : h0.n ≤ h.n) (ho : ∀ t, t < h0.n → h.o t = h0.o t) (ht : FzL h h0.n tm (setL (keepJ keep base) S.1)) : Weak ⟨P, h0.n, [], own, ords⟩ ⟨tm, h⟩ (atS keep base S) := by
  obtain ⟨s1, s2⟩ := S
  simp only at hs
  subst hs
  exact weak_none hn ho ht
/-! the function's end -/
theorem fin_v {a b : Value} (hn : h0.n ≤ h.n) (e : a = b) : FinS [] h0 h (.v a) h0 (.v b) := .pure hn (e ▸ .v a)
theorem fin_int {a b : Int} {k : IntKind} (hn : h0.n ≤ h.n) (e : a = b) : FinS [] h0 h (.v (.int k a)) h0 (.v (.int k b)) := fin_v hn (by rw [e])
theorem fin_bool {a b : Bool} (hn : h0.n ≤ h.n) (e : a = b) : FinS [] h0 h (.v (.bool a)) h0 (.v (.bool b)) := fin_v hn (by rw [e])
theorem fin_str {a b : L8} (hn : h0.n ≤ h.n) (e : a = b) : FinS [] h0 h (str a) h0 (str b) := .pure hn (e ▸ .v _)
attribute [go_sem] UInt8.toNat_inj
theorem fin_pure (hn : h0.n ≤ h.n) (hx : Fz h h0.n x r) : FinS [] h0 h x h0 r := .pure hn hx
def pad : List AV → Nat → List AV
  | [], 0 => []
  | [], m + 1 => .v undef :: pad [] m
  | x :: l, m + 1 => x :: pad l m
  | x :: l, 0 => x :: l
@[go_sem ↓] theorem pad_0 : pad [] 0 = [] := (rfl)
@[go_sem ↓] theorem pad_n {m : Nat} : pad [] (m + 1) = .v undef :: pad [] m := (rfl)
@[go_sem ↓] theorem pad_c {l : List AV} {m : Nat} : pad (x :: l) (m + 1) = x :: pad l m := (rfl)
theorem pad_eq : ∀ (l : List AV) (m : Nat), pad l m = l ++ List.replicate (m - l.length) (.v undef)
  | [], 0 => rfl
  | [], m + 1 => by rw [pad_n, pad_eq [] m]; simp [List.replicate_succ]
  | x :: l, m + 1 => by rw [pad_c, pad_eq l m]; simp
  | x :: l, 0 => by simp [pad]
/-- **a function's contract** out of its reckoning, all of it told -/
theorem good (own : List Nat) (ords : List (Nat × OT)) {k : FuncId} {fn : Func} {c : Code} {rs : List ResultVar} {m : Nat} (hf : P.funcs[k]? = some fn) (hb : fn.body = some c) (hr : fn.results = rs.toArray) (hm : fn.ntmps = m)
    (hn : (fn.name == "runtime.NumGoroutine") = false) (hx : P.follows .mixedOrders = true) (hok : codeOk ords c = true)
    {args : List AV} (hw : W ⟨P, h.n, T, own, ords⟩ (.mk (c, Fin P rs T h h' r)) ⟨pad args m, h⟩) : Good P k args h T r h' :=
  good_of own ords hf hb hn hx hok (by rw [hr, hm, ← pad_eq]; exact hw)
end
end Go.Isea

namespace Go.Isea
open Go
section
variable {P : Program} {h h0 h' : AH} {t : TypeId} {x y r : AV} {K : AV → AH → Prop} {C : Cx} {s : List Nat} {n0 : Nat} {T own : List Nat} {ords : List (Nat × OT)}
@[go_sem] theorem objFz_c {m : Nat} {cs cs' : List AV} : ObjFz h m (.cells cs) (.cells cs') = FzL h m cs cs' := (rfl)
/-- one object has turned, all others of one's own are gone -/
theorem fin_one {l : Nat} {o' : AObj} (hn : h0.n ≤ h.n) (hx : Fz h h0.n x r) (ho : ObjFz h h0.n (h.o l) o') : FinS [l] h0 h x (h0.set l o') r where
  n0 := Nat.le_refl _
  n := hn
  fz := hx
  old t _ hT := by
    have : t ≠ l := fun e => hT (by simp [e])
    simp [AH.set, upd, this]
  turned t ht hT := by
    rcases hT with hT | hT
    · have : t = l := by simpa using hT
      subst this
      simpa [AH.set, upd] using ho
    · exact absurd ht (Nat.not_lt.2 hT)
@[go_sem] theorem un_not {op : UnOp} {b : Bool} (ho : op = .not) : aunop P op (.v (.bool b)) = some (.v (.bool (!b))) := by
  subst ho
  simp [aunop, AV.raw, Op.unary, semPure, pure, ofVo, ofV]
/-! numbers of objects -/
@[go_sem] theorem ne_lt {l m : Nat} (hl : l < m) : (l = m) = False := by simp; omega
@[go_sem] theorem ne_lt' {l m : Nat} (hl : l < m) : (m = l) = False := by simp; omega
@[go_sem] theorem ne_lta {l m i : Nat} (hl : l < m) : (l = m + i) = False := by simp; omega
@[go_sem] theorem ne_lta' {l m i : Nat} (hl : l < m) : (m + i = l) = False := by simp; omega
@[go_sem] theorem ne_ad {m i : Nat} : (m = m + i) = (i = 0) := by simp
@[go_sem] theorem ne_ad' {m i : Nat} : (m + i = m) = (i = 0) := by simp
@[go_sem] theorem ne_add {m i j : Nat} : (m + i = m + j) = (i = j) := by simp
@[go_sem] theorem ad_1_1 {m : Nat} : m + 1 + 1 = m + 2 := (rfl)
@[go_sem] theorem ad_1_2 {m : Nat} : m + 1 + 2 = m + 3 := (rfl)
@[go_sem] theorem ad_1_3 {m : Nat} : m + 1 + 3 = m + 4 := (rfl)
@[go_sem] theorem ad_1_4 {m : Nat} : m + 1 + 4 = m + 5 := (rfl)
@[go_sem] theorem ad_2_1 {m : Nat} : m + 2 + 1 = m + 3 := (rfl)
@[go_sem] theorem ad_2_2 {m : Nat} : m + 2 + 2 = m + 4 := (rfl)
@[go_sem] theorem ad_2_3 {m : Nat} : m + 2 + 3 = m + 5 := (rfl)
@[go_sem] theorem ad_2_4 {m : Nat} : m + 2 + 4 = m + 6 := (rfl)
@[go_sem] theorem ad_3_1 {m : Nat} : m + 3 + 1 = m + 4 := (rfl)
@[go_sem] theorem ad_3_2 {m : Nat} : m + 3 + 2 = m + 5 := (rfl)
@[go_sem] theorem ad_3_3 {m : Nat} : m + 3 + 3 = m + 6 := (rfl)
@[go_sem] theorem ad_3_4 {m : Nat} : m + 3 + 4 = m + 7 := (rfl)
@[go_sem] theorem ad_4_1 {m : Nat} : m + 4 + 1 = m + 5 := (rfl)
@[go_sem] theorem ad_4_2 {m : Nat} : m + 4 + 2 = m + 6 := (rfl)
@[go_sem] theorem ad_4_3 {m : Nat} : m + 4 + 3 = m + 7 := (rfl)
@[go_sem] theorem ad_4_4 {m : Nat} : m + 4 + 4 = m + 8 := (rfl)
@[go_sem] theorem ad_5_1 {m : Nat} : m + 5 + 1 = m + 6 := (rfl)
@[go_sem] theorem ad_5_2 {m : Nat} : m + 5 + 2 = m + 7 := (rfl)
@[go_sem] theorem ad_5_3 {m : Nat} : m + 5 + 3 = m + 8 := (rfl)
@[go_sem] theorem ad_5_4 {m : Nat} : m + 5 + 4 = m + 9 := (rfl)
@[go_sem] theorem ad_6_1 {m : Nat} : m + 6 + 1 = m + 7 := (rfl)
@[go_sem] theorem ad_6_2 {m : Nat} : m + 6 + 2 = m + 8 := (rfl)
@[go_sem] theorem ad_6_3 {m : Nat} : m + 6 + 3 = m + 9 := (rfl)
@[go_sem] theorem ad_6_4 {m : Nat} : m + 6 + 4 = m + 10 := (rfl)
@[go_sem] theorem ad_7_1 {m : Nat} : m + 7 + 1 = m + 8 := (rfl)
@[go_sem] theorem ad_7_2 {m : Nat} : m + 7 + 2 = m + 9 := (rfl)
@[go_sem] theorem ad_7_3 {m : Nat} : m + 7 + 3 = m + 10 := (rfl)
@[go_sem] theorem ad_7_4 {m : Nat} : m + 7 + 4 = m + 11 := (rfl)
@[go_sem] theorem lt_ad {l m i : Nat} (hl : l < m) : (l < m + i) = True := by simp; omega
@[go_sem] theorem self_lt {m i : Nat} : (m < m + i) = (0 < i) := by simp
@[go_sem] theorem add_lt {m i j : Nat} : (m + i < m + j) = (i < j) := by simp
@[go_sem] theorem mem_0 {l : Nat} : (l ∈ ([] : List Nat)) = False := by simp
@[go_sem] theorem mem_1 {l : Nat} : (l ∈ [l]) = True := by simp
@[go_sem] theorem or_t {p : Prop} : (p ∨ True) = True := by simp
@[go_sem] theorem le_ad {m i : Nat} : (m ≤ m + i) = True := by simp
@[go_sem] theorem t_or {p : Prop} : (True ∨ p) = True := by simp
@[go_sem] theorem objFz_r {m e sz : Nat} {rs : List (List AV)} (hp : PuR rs) : ObjFz h m (.rows e sz rs) (.rows e sz rs) = True := by
  simp only [ObjFz, eq_iff_iff, iff_true, true_and]
  refine ⟨fun i r r' h1 h2 => by rw [h1] at h2; cases h2; rfl, fun i j r r' x y h1 h2 h3 h4 => ?_⟩
  rw [h1] at h2; cases h2
  rw [h3] at h4; cases h4
  exact Fz.of_lo (hp m r (List.mem_of_getElem? h1) x (List.mem_of_getElem? h3))
def EachO : List Nat → (Nat → Prop) → Prop
  | [], _ => True
  | t :: L, p => p t ∧ EachO L p
theorem eachO : ∀ {L : List Nat} {p : Nat → Prop}, EachO L p → ∀ t ∈ L, p t
  | [], _, _, t, h => by cases h
  | x :: L, p, h, t, ht => by
    rcases List.mem_cons.1 ht with e | e
    · exact e ▸ h.1
    · exact eachO h.2 t e
@[go_sem ↓] theorem eachO_n {p : Nat → Prop} : EachO [] p = True := (rfl)
@[go_sem ↓] theorem eachO_c {t : Nat} {L : List Nat} {p : Nat → Prop} : EachO (t :: L) p = (p t ∧ EachO L p) := (rfl)
/-- less is told, object by object: L are all that may have turned -/
theorem weak_objs {tm tm' : List AV} {n1 m : Nat} {o o' : Nat → AObj} (L : List Nat) (hn : n0 ≤ m) (hm : m ≤ n1) (ht : FzL ⟨n1, o⟩ m tm tm') (ho : ∀ t, t < n0 → t ∉ T → o' t = o t)
    (cover : ∀ t, t < m → (t ∈ T ∨ n0 ≤ t) → t ∈ L) (each : EachO L fun t => ObjFz ⟨n1, o⟩ m (o t) (o' t)) : Weak ⟨P, n0, T, own, ords⟩ ⟨tm, ⟨n1, o⟩⟩ ⟨tm', ⟨m, o'⟩⟩ :=
  ⟨hn, hm, ht, ho, fun t h1 h2 => eachO each t (cover t h1 h2)⟩
/-- a frozen slice of rows that were one's own -/
theorem fz_soF {m l n e sz : Nat} {rs : List (List AV)} (ht : m ≤ l) (ho : h.o l = .rows e sz rs) (hn : rs.length = n) (hp : PuR rs) : Fz h m (.so l n n) (.sl rs) := Fz.so_lo ht ho hn (hp m)
/-- a call of what turns one object -/
theorem call_one {k : FuncId} {args : List AV} {l : Nat} (hg : Good C.P k args h [l] r h') (ht : touch C l) (hs : l ∉ s) (hk : K r h') : CallT C s k args (.mk K) h :=
  call_turn hg (fun t h1 _ => (List.mem_singleton.1 h1) ▸ ht) (fun t h1 h2 => hs ((List.mem_singleton.1 h2) ▸ h1)) hk
/-- a loop; what holds of memory in it is told from the memory before it -/
theorem loop_ruleH {α : Type} {Q : Ex → St → Prop} {c : Code} {base : List AV} (keep : List Nat) (S : α → AH → List (Nat × AV) × AH) (μ : α → Nat) (a0 : α) (start : Weak C ⟨base, h⟩ (atS keep base (S a0 h)))
    (round : ∀ a, W C (.mk (c, Thn (RoundS C keep base (fun a => S a h) μ a) Q)) (atS keep base (S a h))) : LoopS C (.mk (c, Q)) ⟨base, h⟩ := loop_rule' keep (fun a => S a h) μ a0 start round
@[go_sem] theorem upd_n {α : Type} {g : Nat → α} {i j : Nat} {x : α} : upd g i x j = if j = i then x else g j := (rfl)
@[go_sem] theorem fz_agg {m : Nat} {cs cs' : List AV} : Fz h m (.agg cs) (.agg cs') = FzL h m cs cs' := by
  apply propext
  exact ⟨fun hh => by cases hh with | agg hl hc => exact ⟨hl, hc⟩, fun hh => .agg hh.1 hh.2⟩
@[go_sem] theorem fz_tup {m : Nat} {cs cs' : List AV} : Fz h m (.tup cs) (.tup cs') = FzL h m cs cs' := by
  apply propext
  exact ⟨fun hh => by cases hh with | tup hl hc => exact ⟨hl, hc⟩, fun hh => .tup hh.1 hh.2⟩
def rowsAt : AObj → Option (List (List AV))
  | .rows _ _ rs => some rs
  | _ => none
@[go_sem] theorem rowsAt_r {e sz : Nat} {rs : List (List AV)} : rowsAt (.rows e sz rs) = some rs := (rfl)
theorem rowsAt_some {o : AObj} {rs : List (List AV)} (h : rowsAt o = some rs) : ∃ e sz, o = .rows e sz rs := by
  cases o <;> simp [rowsAt] at h
  subst h; exact ⟨_, _, rfl⟩
@[go_sem] theorem fz_so' {m l n : Nat} {rs : List (List AV)} (ht : m ≤ l) (ho : rowsAt (h.o l) = some rs) (hn : rs.length = n) (hp : PuR rs) : Fz h m (.so l n n) (.sl rs) = True := by
  obtain ⟨e, sz, ho⟩ := rowsAt_some ho
  simp [fz_soF ht ho hn hp]
@[go_sem] theorem fz_nil' {m : Nat} : Fz h m (.v (.slice none 0 0)) (.sl []) = True := by simp [Fz.nil]
@[go_sem] theorem cast_0 : ((0 : Nat) : Int) = 0 := (rfl)
@[go_sem] theorem cast_1 : ((1 : Nat) : Int) = 1 := (rfl)
attribute [go_sem] beq_self_eq_true
attribute [go_sem] eq_self
theorem u8_lit {c : UInt8} {n : Nat} (hn : n < 256) : (((c.toNat : Nat) : Int) = (OfNat.ofNat n : Int)) = (c = OfNat.ofNat n) := by
  apply propext
  have e : (OfNat.ofNat n : Int) = ((n : Nat) : Int) := rfl
  have e2 : (OfNat.ofNat n : UInt8).toNat = n := by
    show n % 256 = n
    omega
  rw [e, Int.ofNat_inj, ← UInt8.toNat_inj, e2]
@[go_sem] theorem u8_0 {c : UInt8} : (((c.toNat : Nat) : Int) = 0) = (c = 0) := u8_lit (by decide)
@[go_sem] theorem u8_40 {c : UInt8} : (((c.toNat : Nat) : Int) = 40) = (c = 40) := u8_lit (by decide)
@[go_sem] theorem u8_41 {c : UInt8} : (((c.toNat : Nat) : Int) = 41) = (c = 41) := u8_lit (by decide)
@[go_sem] theorem u8_44 {c : UInt8} : (((c.toNat : Nat) : Int) = 44) = (c = 44) := u8_lit (by decide)
/-- is an object not among those that were read? -/
def noObj (l : Nat) : List (Nat × Nat) → Prop
  | [] => True
  | p :: R => ¬ p.2 = l ∧ noObj l R
@[go_sem] theorem noObj_n {l : Nat} : noObj l [] = True := (rfl)
@[go_sem] theorem noObj_c {l i t : Nat} {R : List (Nat × Nat)} : noObj l ((i, t) :: R) = (¬ t = l ∧ noObj l R) := (rfl)
theorem noObj_mem {l : Nat} : ∀ {R : List (Nat × Nat)}, noObj l R → ∀ p ∈ R, ¬ p.2 = l
  | p :: R, h, q, hq => by
    rcases List.mem_cons.1 hq with e | e
    · exact e ▸ h.1
    · exact noObj_mem h.2 q e
@[go_sem] theorem mem_prS {l i : Nat} {R : List (Nat × Nat)} {all : List Oper} (hR : noObj l R) : (l ∈ PrS R (.mk (all, i))) = False := by
  simp only [eq_iff_iff, iff_false]
  intro hm
  obtain ⟨p, hp, e⟩ := List.mem_map.1 hm
  exact noObj_mem hR p (List.mem_filter.1 hp).1 e
/-- the act waits for all that was read -/
theorem out_prS {l i : Nat} {R : List (Nat × Nat)} {all : List Oper} (h : (R.map Prod.fst).all (fun r => waitsF all.toArray all.toArray.size i r) = true) : ¬ l ∈ PrS R (.mk (all, i)) := by
  rw [prS_nil h]; simp
attribute [go_sem] List.map_append
@[go_sem] theorem puR_app {a b : List (List AV)} : PuR (a ++ b) = (PuR a ∧ PuR b) := by
  apply propext
  constructor
  · intro h
    exact ⟨fun n r hr => h n r (List.mem_append.2 (.inl hr)), fun n r hr => h n r (List.mem_append.2 (.inr hr))⟩
  · rintro ⟨h1, h2⟩ n r hr
    rcases List.mem_append.1 hr with hr | hr
    · exact h1 n r hr
    · exact h2 n r hr
/-! bytes to a text -/
def convO (b : Bool) : Option (List Int) → Option AV
  | some ns => if b = true then some (str (ns.map fun n => UInt8.ofNat n.toNat)) else none
  | none => none
@[go_sem] theorem convO_s {ns : List Int} : convO true (some ns) = some (str (ns.map fun n => UInt8.ofNat n.toNat)) := (rfl)
@[go_sem] theorem aconv_sl {u t : TypeId} {rows : List (List AV)} : aconv P u t (.sl rows) = convO (isBytes P u t) (rowBytes rows) := by
  simp only [aconv, convO, str]
  cases rowBytes rows <;> cases isBytes P u t <;> rfl
@[go_sem] theorem rowBytes_n : rowBytes [] = some [] := (rfl)
def consO (n : Int) : Option (List Int) → Option (List Int)
  | some r => some (n :: r)
  | none => none
@[go_sem] theorem consO_s {n : Int} {r : List Int} : consO n (some r) = some (n :: r) := (rfl)
@[go_sem] theorem rowBytes_c {n : Int} {l : List (List AV)} : rowBytes ([.v (.int .u8 n)] :: l) = consO n (rowBytes l) := by
  simp only [rowBytes, consO]; cases rowBytes l <;> rfl
@[go_sem] theorem u8_back {c : UInt8} : UInt8.ofNat (((c.toNat : Nat) : Int).toNat) = c := by simp
end
end Go.Isea

namespace Go.Isea
open Go
section
variable {P : Program} {h : AH}
theorem aconv_int {s t : TypeId} {k k' : IntKind} {n : Int} (hs : (P.underlying s).isSome = true) (hd : P.underlying t = some (.int k')) : aconv P s t (.v (.int k n)) = some (.v (.int k' (k'.wrap n))) := by
  obtain ⟨d, hs⟩ := Option.isSome_iff_exists.1 hs
  have : semPure P (convert s t (.int k n)) = some (.int k' (k'.wrap n)) := by
    simp [convert, underlying, program, bind, Sem.bind, semPure, hs, hd, pure, Conv.intToInt]
  simp only [aconv, AV.raw, this]
  rfl
def aconvX (P : Program) (s t : TypeId) (x : AV) : Option AV := aconv P s t x
def convI (P : Program) (s t : TypeId) (k : IntKind) (n : Int) (u v : Option TypeDesc) : Option AV := match u, v with
  | some _, some (.int k') => some (.v (.int k' (k'.wrap n)))
  | _, _ => aconvX P s t (.v (.int k n))
@[go_sem] theorem aconv_i {s t : TypeId} {k : IntKind} {n : Int} : aconv P s t (.v (.int k n)) = convI P s t k n (P.underlying s) (P.underlying t) := by
  unfold convI
  split
  · rename_i d k' hs hd; exact aconv_int (by rw [hs]; rfl) hd
  · rfl
@[go_sem] theorem convI_s {s t : TypeId} {k k' : IntKind} {n : Int} {d : TypeDesc} : convI P s t k n (some d) (some (.int k')) = some (.v (.int k' (k'.wrap n))) := (rfl)
attribute [go_sem] Option.isSome_some
@[go_sem] theorem wrap_u8_i64 {c : UInt8} : IntKind.i64.wrap ((c.toNat : Nat) : Int) = ((c.toNat : Nat) : Int) := by
  have := UInt8.toNat_lt c
  rw [wrap_i64] <;> omega
@[go_sem] theorem aindex_str_0 {t : TypeId} {l : L8} {kk : IntKind} (hs : isStr P t = true) : aindex P t (str l) (.v (.int kk 0)) = byteAt l[0]? := aindex_str (k := 0) hs
@[go_sem] theorem idxA_sl_0 {rows : List (List AV)} {a : Bool} {s : Nat} : idxA h (.sl rows) 0 (some (none, a, s)) = arow rows[0]? s := idxA_sl (k := 0)
@[go_sem] theorem bound_0 {d : Nat} {kk : IntKind} : bound d (some (.v (.int kk 0))) = some 0 := bound_k (k := 0)
@[go_sem] theorem aindex_str_1 {t : TypeId} {l : L8} {kk : IntKind} (hs : isStr P t = true) : aindex P t (str l) (.v (.int kk 1)) = byteAt l[1]? := aindex_str (k := 1) hs
@[go_sem] theorem idxA_sl_1 {rows : List (List AV)} {a : Bool} {s : Nat} : idxA h (.sl rows) 1 (some (none, a, s)) = arow rows[1]? s := idxA_sl (k := 1)
@[go_sem] theorem bound_1 {d : Nat} {kk : IntKind} : bound d (some (.v (.int kk 1))) = some 1 := bound_k (k := 1)
@[go_sem] theorem aindex_str_2 {t : TypeId} {l : L8} {kk : IntKind} (hs : isStr P t = true) : aindex P t (str l) (.v (.int kk 2)) = byteAt l[2]? := aindex_str (k := 2) hs
@[go_sem] theorem idxA_sl_2 {rows : List (List AV)} {a : Bool} {s : Nat} : idxA h (.sl rows) 2 (some (none, a, s)) = arow rows[2]? s := idxA_sl (k := 2)
@[go_sem] theorem bound_2 {d : Nat} {kk : IntKind} : bound d (some (.v (.int kk 2))) = some 2 := bound_k (k := 2)
@[go_sem] theorem aindex_str_3 {t : TypeId} {l : L8} {kk : IntKind} (hs : isStr P t = true) : aindex P t (str l) (.v (.int kk 3)) = byteAt l[3]? := aindex_str (k := 3) hs
@[go_sem] theorem idxA_sl_3 {rows : List (List AV)} {a : Bool} {s : Nat} : idxA h (.sl rows) 3 (some (none, a, s)) = arow rows[3]? s := idxA_sl (k := 3)
@[go_sem] theorem bound_3 {d : Nat} {kk : IntKind} : bound d (some (.v (.int kk 3))) = some 3 := bound_k (k := 3)
@[go_sem] theorem aindex_str_4 {t : TypeId} {l : L8} {kk : IntKind} (hs : isStr P t = true) : aindex P t (str l) (.v (.int kk 4)) = byteAt l[4]? := aindex_str (k := 4) hs
@[go_sem] theorem idxA_sl_4 {rows : List (List AV)} {a : Bool} {s : Nat} : idxA h (.sl rows) 4 (some (none, a, s)) = arow rows[4]? s := idxA_sl (k := 4)
@[go_sem] theorem bound_4 {d : Nat} {kk : IntKind} : bound d (some (.v (.int kk 4))) = some 4 := bound_k (k := 4)
@[go_sem] theorem aindex_str_5 {t : TypeId} {l : L8} {kk : IntKind} (hs : isStr P t = true) : aindex P t (str l) (.v (.int kk 5)) = byteAt l[5]? := aindex_str (k := 5) hs
@[go_sem] theorem idxA_sl_5 {rows : List (List AV)} {a : Bool} {s : Nat} : idxA h (.sl rows) 5 (some (none, a, s)) = arow rows[5]? s := idxA_sl (k := 5)
@[go_sem] theorem bound_5 {d : Nat} {kk : IntKind} : bound d (some (.v (.int kk 5))) = some 5 := bound_k (k := 5)
@[go_sem] theorem aindex_str_6 {t : TypeId} {l : L8} {kk : IntKind} (hs : isStr P t = true) : aindex P t (str l) (.v (.int kk 6)) = byteAt l[6]? := aindex_str (k := 6) hs
@[go_sem] theorem idxA_sl_6 {rows : List (List AV)} {a : Bool} {s : Nat} : idxA h (.sl rows) 6 (some (none, a, s)) = arow rows[6]? s := idxA_sl (k := 6)
@[go_sem] theorem bound_6 {d : Nat} {kk : IntKind} : bound d (some (.v (.int kk 6))) = some 6 := bound_k (k := 6)
attribute [go_sem] wrap_nat
@[go_sem] theorem nat_nn {n : Nat} : ((0 : Int) ≤ (n : Nat)) = True := by simp
@[go_sem] theorem nat_nl {n : Nat} : (((n : Nat) : Int) < 0) = False := by simp
@[go_sem] theorem add_le {m i j : Nat} : (m + i ≤ m + j) = (i ≤ j) := by simp
@[go_sem] theorem wrap_l0 : IntKind.i64.wrap 0 = 0 := by decide
@[go_sem] theorem wrap_l1 : IntKind.i64.wrap 1 = 1 := by decide
@[go_sem] theorem wrap_l2 : IntKind.i64.wrap 2 = 2 := by decide
@[go_sem] theorem wrap_l3 : IntKind.i64.wrap 3 = 3 := by decide
@[go_sem] theorem wrap_l4 : IntKind.i64.wrap 4 = 4 := by decide
@[go_sem] theorem wrap_l5 : IntKind.i64.wrap 5 = 5 := by decide
@[go_sem] theorem wrap_l6 : IntKind.i64.wrap 6 = 6 := by decide
@[go_sem] theorem wrap_l7 : IntKind.i64.wrap 7 = 7 := by decide
@[go_sem] theorem wrap_l8 : IntKind.i64.wrap 8 = 8 := by decide
@[go_sem] theorem wrap_l9 : IntKind.i64.wrap 9 = 9 := by decide
@[go_sem] theorem wrap_l10 : IntKind.i64.wrap 10 = 10 := by decide
@[go_sem] theorem wrap_m1 : IntKind.i64.wrap (-1) = -1 := by decide
@[go_sem] theorem wrap_pred {k : Nat} (h : k ≤ 9223372036854775807) : IntKind.i64.wrap (((k + 1 : Nat) : Int) - 1) = (k : Int) := by rw [wrap_i64] <;> omega
end
end Go.Isea

namespace Go.Isea
open Go
variable {P : Program} {h : AH}
theorem Good.weak {k : FuncId} {args args' : List AV} {T : List Nat} {r : AV} {h' : AH} (hg : Good P k args' h T r h') (hf : FzL h h.n args args') : Good P k args h T r h' :=
  ⟨hg.1, fun K w vs hK hr => hg.2 K w vs hK ⟨hr.1.trans hf.1.symm, fun i y v hy hv => by
    have hi : i < args.length := by
      have := (Array.getElem?_eq_some_iff.1 hv).1
      rw [hr.1] at this; exact this
    exact Fz.rep hK (Nat.le_refl _) (fun t e sz rs _ ho => ⟨rs, ho, rfl⟩) (hf.2 i _ y (List.getElem?_eq_getElem hi) hy) (hr.2 i _ v (List.getElem?_eq_getElem hi) hv)⟩⟩
/-- a result without addresses -/
inductive Flat : AV → Prop
  | v (x : Value) : Flat (.v x)
  | junk : Flat .junk
  | agg {cs : List AV} (hc : ∀ x ∈ cs, Flat x) : Flat (.agg cs)
  | tup {cs : List AV} (hc : ∀ x ∈ cs, Flat x) : Flat (.tup cs)
theorem Flat.rep {K K' : KM} {h h' : AH} {w w' : World} {x : AV} (hx : Flat x) : ∀ {v : Value}, Rep K h w x v → Rep K' h' w' x v := by
  induction hx with
  | v x => intro v hr; cases hr; exact .v _
  | junk => intro v _; exact .junk v
  | agg hc ih =>
    intro v hr
    cases hr with
    | agg hl hr => exact .agg hl fun i x y h1 h2 => ih x (List.mem_of_getElem? h1) (hr i x y h1 h2)
  | tup hc ih =>
    intro v hr
    cases hr with
    | tup hl hr => exact .tup hl fun i x y h1 h2 => ih x (List.mem_of_getElem? h1) (hr i x y h1 h2)
/-- a contract in a memory without objects serves in each: what is told by number stands frozen -/
theorem Good.frozen {k : FuncId} {args args' : List AV} {r : AV} {o o' : Nat → AObj} (hg : Good P k args' ⟨0, o⟩ [] r ⟨0, o'⟩) (hr : Flat r) (hf : FzL h 0 args args') : Good P k args h [] r h := by
  refine ⟨hg.1, fun K w vs hK hv => (hg.2 K w vs ⟨fun t b ht => absurd ht (Nat.not_lt_zero _), fun s t b hs => absurd hs (Nat.not_lt_zero _), fun t ht => absurd ht (Nat.not_lt_zero _), hK.pin.sub fun t b ht _ => absurd ht (Nat.not_lt_zero _)⟩ ⟨hv.1.trans hf.1.symm, fun i y v hy hv' => ?_⟩).mono ?_⟩
  · have hi : i < args.length := by
      have := (Array.getElem?_eq_some_iff.1 hv').1
      rw [hv.1] at this; exact this
    exact Fz.rep (h' := ⟨0, o⟩) hK (Nat.zero_le _) (fun t e sz rs ht _ => absurd ht (Nat.not_lt_zero _)) (hf.2 i _ y (List.getElem?_eq_getElem hi) hy) (hv.2 i _ v (List.getElem?_eq_getElem hi) hv')
  · rintro e w' ⟨K', v, rfl, hK', hE, hrv⟩
    have hs : ∀ b, b < w.heap.size → w'.heap[b]? = w.heap[b]? := fun b hb => hE.same b hb fun t ht => by cases ht
    have hX : Ext [] K h w K h w' := ⟨hE.os, hE.tape, hE.output, hE.size, Nat.le_refl _, fun b hb _ => hs b hb, fun _ _ _ => ⟨rfl, rfl⟩, fun _ _ ht => (by cases ht), fun _ _ ht hb => .inr ⟨ht, hb⟩⟩
    exact ⟨K, v, rfl, ⟨fun t b ht hb => Nat.lt_of_lt_of_le (hK.lt t b ht hb) hE.size, hK.inj, fun t ht => (hK.obj t ht).ext hX fun b hb => hs b (hK.lt t b ht hb), hK.pin.ext hX⟩, hX, hr.rep hrv⟩
/-! slices of rows -/
def AllLen (s : Nat) (rows : List (List AV)) : Prop := ∀ r ∈ rows, r.length = s
instance {s : Nat} {rows : List (List AV)} : Decidable (AllLen s rows) := inferInstanceAs (Decidable (∀ r ∈ rows, r.length = s))
theorem allLen_map {α : Type} {f : α → List AV} {s : Nat} {l : List α} (hf : ∀ a, (f a).length = s) : AllLen s (l.map f) = True := by
  apply propext
  refine ⟨fun _ => trivial, fun _ r hr => ?_⟩
  obtain ⟨a, _, rfl⟩ := List.mem_map.1 hr
  exact hf a
def acutL (rows : List (List AV)) (i j : Nat) (e : Option (Option Nat × Bool × Nat)) : Option AV := match e with
  | some (none, _, s) => if i ≤ j ∧ j ≤ rows.length ∧ AllLen s rows then some (.sl ((rows.drop i).take (j - i))) else none
  | _ => none
@[go_sem] theorem acutS_sl' {t : TypeId} {rows : List (List AV)} {i j : Nat} : acutS P t (.sl rows) (some i) (some j) h = acutL rows i j (EO P t) := by
  cases hE : EO P t with
  | none => simp only [acutS, acutL, hE]
  | some x =>
    obtain ⟨_ | n, a, s⟩ := x
    · simp only [acutS, acutL, hE]; rfl
    · simp only [acutS, acutL, hE]
@[go_sem] theorem acutL_s {rows : List (List AV)} {i j : Nat} {a : Bool} {s : Nat} : acutL rows i j (some (none, a, s)) = if i ≤ j ∧ j ≤ rows.length ∧ AllLen s rows then some (.sl ((rows.drop i).take (j - i))) else none := (rfl)
def acutO (h : AH) (l n len i j : Nat) (e : Option (Option Nat × Bool × Nat)) : Option AV := match e with
  | some (none, _, _) => if i = 0 ∧ j ≤ len ∧ (curRows h l n).isSome then some (.so l n j) else none
  | _ => none
@[go_sem] theorem acutS_so' {t : TypeId} {l n len i j : Nat} : acutS P t (.so l n len) (some i) (some j) h = acutO h l n len i j (EO P t) := by
  cases hE : EO P t with
  | none => simp only [acutS, acutO, hE]
  | some x => obtain ⟨_ | n, a, s⟩ := x <;> simp only [acutS, acutO, hE]
@[go_sem] theorem acutO_s {l n len i j : Nat} {a : Bool} {s : Nat} : acutO h l n len i j (some (none, a, s)) = if i = 0 ∧ j ≤ len ∧ (curRows h l n).isSome then some (.so l n j) else none := (rfl)
def acutQ (h : AH) (l n len i j m : Nat) (e : Option (Option Nat × Bool × Nat)) : Option AV := match e with
  | some (none, _, _) => if i ≤ j ∧ j ≤ m ∧ m ≤ len ∧ (curRows h l n).isSome then some (if i = 0 then .so l n j else .junk) else none
  | _ => none
@[go_sem] theorem acut3_so {t : TypeId} {l n len i j m : Nat} : acut3 P t (.so l n len) (some i) (some j) (some m) h = acutQ h l n len i j m (EO P t) := by
  cases hE : EO P t with
  | none => simp only [acut3, acutQ, hE]
  | some x => obtain ⟨_ | n, a, s⟩ := x <;> simp only [acut3, acutQ, hE]
@[go_sem] theorem acutQ_s {l n len i j m : Nat} {a : Bool} {s : Nat} : acutQ h l n len i j m (some (none, a, s)) = if i ≤ j ∧ j ≤ m ∧ m ≤ len ∧ (curRows h l n).isSome then some (if i = 0 then .so l n j else .junk) else none := (rfl)
@[go_sem] theorem aslice3_s {t : TypeId} {x m hi : AV} {lo : Option AV} : aslice3 P t x lo (some hi) m h = acut3 P t x (bound 0 lo) (bound 0 (some hi)) (bound 0 (some m)) h := (rfl)
@[go_sem] theorem take_map {α : Type} {f : α → List AV} {l : List α} {k : Nat} : (l.map f).take k = (l.take k).map f := by simp
@[go_sem] theorem drop_map {α : Type} {f : α → List AV} {l : List α} {k : Nat} : (l.map f).drop k = (l.drop k).map f := by simp
@[go_sem] theorem sub_0 {n : Nat} : n - 0 = n := (rfl)
@[go_sem] theorem z_le {n : Nat} : (0 ≤ n) = True := by simp
end Go.Isea

namespace Go.Isea
open Go
variable {P : Program} {h : AH}
def isSS (P : Program) (t : TypeId) : Bool := match P.underlying t with
  | some (.struct fs) => (match fs.toList with
    | [f, g] => f.name != "_" && g.name != "_" && isStr P f.type && isStr P g.type && f.offset == 0 && g.offset == 1 && !P.stoodInHeld t && !P.eqGuardType P.depth t
    | _ => false)
  | _ => false
theorem semPure_bind {α β : Type} : ∀ (a : Sem α) (f : α → Sem β), semPure P (a.bind f) = match semPure P a with | some x => semPure P (f x) | none => none := by
  intro a f
  induction a with
  | pure a => rfl
  | program k ih => exact ih P
  | _ => rfl
theorem semPure_bind' {α β : Type} (a : Sem α) (f : α → Sem β) : semPure P (a >>= f) = match semPure P a with | some x => semPure P (f x) | none => none := semPure_bind a f
theorem semPure_pure {α : Type} (a : α) : semPure P (pure a : Sem α) = some a := rfl
theorem semPure_und {t : TypeId} {d : TypeDesc} (h : P.underlying t = some d) : semPure P (underlying t) = some d := by
  show semPure P (match P.underlying t with | some d => pure d | none => _) = _
  rw [h]; rfl
theorem semPure_program : semPure P program = some P := rfl
theorem part_str {t : TypeId} (hs : isStr P t = true) {vs : Array Value} {o : Nat} {v : Value} (hv : vs[o]? = some v) : semPure P (part t vs o) = some v := by
  have := und_str hs
  simp only [part, isAgg, semPure_bind', semPure_und this, hv]
  rfl
theorem equal_str {t : TypeId} (hs : isStr P t = true) {d : Nat} {a b : L8} : semPure P (Op.equalIn (d + 1) t (.string (bs a)) (.string (bs b))) = some (decide (a = b)) := by
  have := und_str hs
  simp only [Op.equalIn, semPure_bind', semPure_und this]
  show some (bs a == bs b) = _
  have : (bs a == bs b) = (a.toArray == b.toArray) := rfl
  rw [this]
  congr 1
  by_cases h : a = b
  · subst h; simp
  · simp [h]
theorem equal_ss {t : TypeId} (hs : isSS P t = true) {k : Nat} {a b c d : L8} : semPure P (Op.equalIn (k + 2) t (.agg #[.string (bs a), .string (bs b)]) (.agg #[.string (bs c), .string (bs d)])) = some (decide (a = c ∧ b = d)) := by
  unfold isSS at hs
  split at hs
  · rename_i fs hu
    split at hs
    · rename_i f g hfs
      simp only [Bool.and_eq_true, Bool.not_eq_true', bne_iff_ne, ne_eq, beq_iff_eq] at hs
      obtain ⟨⟨⟨⟨⟨⟨⟨n1, n2⟩, s1⟩, s2⟩, o1⟩, o2⟩, st⟩, _⟩ := hs
      have hfs' : fs = #[f, g] := by rw [← hfs]
      subst hfs'
      rw [Op.equalIn]
      have e1 : semPure P (part f.type #[Value.string (bs a), .string (bs b)] f.offset) = some (.string (bs a)) := part_str s1 (by rw [o1]; rfl)
      have e2 : semPure P (part f.type #[Value.string (bs c), .string (bs d)] f.offset) = some (.string (bs c)) := part_str s1 (by rw [o1]; rfl)
      have e3 : semPure P (part g.type #[Value.string (bs a), .string (bs b)] g.offset) = some (.string (bs b)) := part_str s2 (by rw [o2]; rfl)
      have e4 : semPure P (part g.type #[Value.string (bs c), .string (bs d)] g.offset) = some (.string (bs d)) := part_str s2 (by rw [o2]; rfl)
      simp only [semPure_bind', semPure_und hu, semPure_program, st, Bool.false_eq_true, if_false]
      rw [← Array.forIn_toList]
      simp only [List.forIn_cons, List.forIn_nil, semPure_bind', e1, e2, e3, e4, equal_str s1, equal_str s2, ne_eq, n1, n2, not_false_eq_true, if_true]
      by_cases hac : a = c
      · subst hac
        by_cases hbd : b = d
        · subst hbd; simp [semPure, pure, semPure_bind', e1, e2, e3, e4, equal_str s1, equal_str s2]
        · simp [semPure, pure, semPure_bind', hbd, e1, e2, e3, e4, equal_str s1, equal_str s2]
      · simp [semPure, pure, semPure_bind', hac, e1, e2, e3, e4, equal_str s1, equal_str s2]
    · cases hs
  · cases hs
theorem isSS_guard {t : TypeId} (hs : isSS P t = true) : P.eqGuardType P.depth t = false := by
  unfold isSS at hs
  split at hs
  · split at hs
    · simp only [Bool.and_eq_true, Bool.not_eq_true'] at hs
      exact hs.2
    · cases hs
  · cases hs
@[go_sem] theorem bin_eqlSS {t : TypeId} {p q : Operand} {a b c d : L8} (hs : isSS P t = true) : abin P .eql t p q (.agg [str a, str b]) (.agg [str c, str d]) = some (.v (.bool (decide (a = c ∧ b = d)))) := by
  have h1 : semPure P (do eqGuard .eql t p q (.agg #[.string (bs a), .string (bs b)]) (.agg #[.string (bs c), .string (bs d)]); binOp .eql t (.agg #[.string (bs a), .string (bs b)]) (.agg #[.string (bs c), .string (bs d)])) = some (.bool (decide (a = c ∧ b = d))) := by
    have h2 := equal_ss hs (k := 9998) (a := a) (b := b) (c := c) (d := d)
    simp only [semPure_bind', eqGuard, semPure_program, isSS_guard hs, Bool.not_true, Bool.false_eq_true, if_false, Bool.not_false, if_true, semPure_pure]
    show semPure P (do let r ← Op.equal t _ _; pure (Value.bool r)) = _
    rw [semPure_bind']
    have h3 : semPure P (Op.equal t (.agg #[.string (bs a), .string (bs b)]) (.agg #[.string (bs c), .string (bs d)])) = some (decide (a = c ∧ b = d)) := h2
    rw [h3]; rfl
  have r1 : ∀ a b : L8, AV.raw (.agg [str a, str b]) = some (.agg #[.string (bs a), .string (bs b)]) := fun _ _ => rfl
  simp only [abin, r1, h1]
  rfl
end Go.Isea

namespace Go.Isea
open Go
section
variable {P : Program} {C : Cx} {K : AV → AH → Prop} {N : St → Prop} {s : List Nat} {R : List (Nat × Nat)} {tm : List AV} {h : AH} {d : Option Tmp} {ty : TypeId} {pos : String} {af : Array Edge} {all rest : List Oper} {draw : Bool} {i : Nat} {x y z : Operand} {t : TypeId} {l : List Oper} {ord : OT} {g : Option (Nat × Bool)} {K' : AH → Prop} {v : AV}
@[go_sem] theorem marks_range : marks (.range t x) = false := (rfl)
@[go_sem] theorem marks_next {b : Bool} : marks (.next x b) = false := (rfl)
@[go_sem] theorem marks_makeMap {r : Option Operand} : marks (.makeMap t r) = false := (rfl)
@[go_sem] theorem marks_mapUpdate : marks (.mapUpdate t x y z) = false := (rfl)
@[go_sem] theorem r_cons0_lk {ok : Bool} : O C R (.mk (all, draw, i, ⟨d, .lookup t x y ok, ty, pos, af, none⟩ :: rest, N)) ⟨tm, h⟩ = OpS C (PrS R (.mk (all, i))) (.mk (⟨d, .lookup t x y ok, ty, pos, af, none⟩, PutK d tm (AOps C all draw (addR draw i (evA tm x) R) (i + 1) rest N))) tm h := (rfl)
@[go_sem] theorem r_consg_lk {ok : Bool} {j : Nat} {want : Bool} : O C R (.mk (all, draw, i, ⟨d, .lookup t x y ok, ty, pos, af, some (j, want)⟩ :: rest, N)) ⟨tm, h⟩ =
    WantS C (wantAt tm want (dstS (.mk all) j)) (PrS R (.mk (all, i))) (.mk (⟨d, .lookup t x y ok, ty, pos, af, none⟩, PutK d tm (AOps C all draw (addR draw i (evA tm x) R) (i + 1) rest N), AOps C all draw R (i + 1) rest N)) tm h := r_consg'
@[go_sem] theorem opAt_0_lk {ok : Bool} : OpAt C R i (.mk (⟨d, .lookup t x y ok, ty, pos, af, none⟩ :: l, all, ord, N)) 0 tm h = OpS C (PrS R (.mk (all, i))) (.mk (⟨d, .lookup t x y ok, ty, pos, af, none⟩, PutK d tm (AOpsO C all (addR true i (evA tm x) R) ord N))) tm h := (rfl)
@[go_sem] theorem opAt_g_lk {ok : Bool} {j : Nat} {want : Bool} : OpAt C R i (.mk (⟨d, .lookup t x y ok, ty, pos, af, some (j, want)⟩ :: l, all, ord, N)) 0 tm h =
    WantS C (wantAt tm want (dstS (.mk all) j)) (PrS R (.mk (all, i))) (.mk (⟨d, .lookup t x y ok, ty, pos, af, none⟩, PutK d tm (AOpsO C all (addR true i (evA tm x) R) ord N), AOpsO C all R ord N)) tm h := opAt_g'
/-! maps -/
def mapO : AObj → Option (List (AV × AV))
  | .map es => some es
  | _ => none
@[go_sem] theorem mapO_m {es : List (AV × AV)} : mapO (.map es) = some es := (rfl)
theorem mapAt_O {n : Nat} : mapAt h n = mapO (h.o n) := by
  unfold mapAt mapO; cases h.o n <;> rfl
def lkM (ok : Bool) (z : AV) (k : ByteArray) : Option (List (AV × AV)) → Option AV
  | some es => alookR ok z (mfind es k)
  | none => none
@[go_sem] theorem lkM_s {ok : Bool} {z : AV} {k : ByteArray} {es : List (AV × AV)} : lkM ok z k (some es) = alookR ok z (mfind es k) := (rfl)
def lkO (m k : AV) (ok : Bool) (h : AH) : Option AV → Option AV
  | some z => (match m, k with | .mp l, .v (.string s) => lkM ok z s (mapO (h.o l)) | _, _ => none)
  | none => none
@[go_sem] theorem lkO_s {n : Nat} {k : L8} {ok : Bool} {z : AV} : lkO (.mp n) (str k) ok h (some z) = lkM ok z (bs k) (mapO (h.o n)) := (rfl)
@[go_sem ↓] theorem r_lookup {ok : Bool} : OpS C s (.mk (⟨d, .lookup t x y ok, ty, pos, af, g⟩, K)) tm h = Lk (lkO (evA tm x) (evA tm y) ok h (MT C.P t)) (.mk K) h := by
  show Lk (alookup C.P t (evA tm x) (evA tm y) ok h) (.mk K) h = _
  congr 1
  unfold alookup lkO
  cases MT C.P t with
  | none => rfl
  | some z =>
    cases evA tm x <;> try rfl
    rename_i n
    cases evA tm y <;> try rfl
    rename_i u
    cases u <;> try rfl
@[go_sem] theorem alookR_t {z w : AV} : alookR true z (some (some w)) = some (.tup [w, .v (.bool true)]) := (rfl)
@[go_sem] theorem alookR_f {z w : AV} : alookR false z (some (some w)) = some w := (rfl)
@[go_sem] theorem alookR_nt {z : AV} : alookR true z (some none) = some (.tup [z, .v (.bool false)]) := (rfl)
@[go_sem] theorem alookR_nf {z : AV} : alookR false z (some none) = some z := (rfl)
@[go_sem ↓] theorem r_makeMap : OpS C s (.mk (⟨d, .makeMap t none, ty, pos, af, g⟩, K)) tm h = K (.mp h.n) (h.push (.map [])) := (rfl)
def upE (C : Cx) (pr : List Nat) (n : Nat) (k : ByteArray) (x : AV) {K : AH → Prop} (_ : Sealed K) (h : AH) : Option (List (AV × AV)) → Prop
  | some es => (mfind es k).isSome = true ∧ n ∉ pr ∧ touch C n ∧ K (h.set n (.map (mput es k x)))
  | none => False
@[go_sem] theorem upE_s {n : Nat} {k : ByteArray} {es : List (AV × AV)} : upE C s n k v (.mk K') h (some es) = ((mfind es k).isSome = true ∧ n ∉ s ∧ touch C n ∧ K' (h.set n (.map (mput es k v)))) := (rfl)
def upM (C : Cx) (pr : List Nat) (m k x : AV) {K : AH → Prop} (_ : Sealed K) (h : AH) : Option AV → Prop
  | some _ => (match m, k with | .mp l, .v (.string s) => upE C pr l s x (.mk K) h (mapO (h.o l)) | _, _ => False)
  | none => False
@[go_sem] theorem upM_s {n : Nat} {k : L8} {z : AV} : upM C s (.mp n) (str k) v (.mk K') h (some z) = upE C s n (bs k) v (.mk K') h (mapO (h.o n)) := (rfl)
@[go_sem ↓] theorem r_mapUpdate : OpS C s (.mk (⟨d, .mapUpdate t x y z, ty, pos, af, g⟩, K)) tm h = upM C s (evA tm x) (evA tm y) (evA tm z) (.mk (K (.v undef))) h (MT C.P t) := by
  show amapUpd C s t (evA tm x) (evA tm y) (evA tm z) h (K (.v undef)) = _
  unfold amapUpd upM
  cases MT C.P t with
  | none => rfl
  | some z' =>
    cases evA tm x <;> try rfl
    rename_i n
    cases evA tm y <;> try rfl
    rename_i u
    cases u <;> try rfl
/-! ranges over a text -/
def rgS (x : AV) {K : AV → AH → Prop} (_ : Sealed K) (h : AH) (b : Bool) : Prop := match x with
  | .v (.string s) => b = true ∧ K (.ptr h.n 0) (h.push (.iter s 0))
  | _ => False
@[go_sem] theorem rgS_s {u : L8} : rgS (str u) (.mk K) h true = K (.ptr h.n 0) (h.push (.iter (bs u) 0)) := by
  show (true = true ∧ _) = _
  simp
@[go_sem ↓] theorem r_range : OpS C s (.mk (⟨d, .range t x, ty, pos, af, g⟩, K)) tm h = rgS (evA tm x) (.mk K) h (isStr C.P t) := by
  show arange C t (evA tm x) h K = _
  unfold arange rgS
  cases evA tm x <;> try rfl
def iterO : AObj → Option (ByteArray × Nat)
  | .iter s p => some (s, p)
  | _ => none
@[go_sem] theorem iterO_i {u : ByteArray} {p : Nat} : iterO (.iter u p) = some (u, p) := (rfl)
theorem iterAt_O {n : Nat} : iterAt h n = iterO (h.o n) := by
  unfold iterAt iterO; cases h.o n <;> rfl
def nxC (C : Cx) (pr : List Nat) (n : Nat) (s : ByteArray) (p : Nat) {K : AV → AH → Prop} (_ : Sealed K) (h : AH) : Option UInt8 → Prop
  | some c => c.toNat < 128 ∧ n ∉ pr ∧ touch C n ∧ K (.tup [.v (.bool true), .v (.int .i64 (p : Nat)), .v (.int .i32 (c.toNat : Nat))]) (h.set n (.iter s (p + 1)))
  | none => K (.tup [.v (.bool false)]) h
@[go_sem] theorem nxC_s {n p : Nat} {u : ByteArray} {c : UInt8} : nxC C s n u p (.mk K) h (some c) = (c.toNat < 128 ∧ n ∉ s ∧ touch C n ∧ K (.tup [.v (.bool true), .v (.int .i64 (p : Nat)), .v (.int .i32 (c.toNat : Nat))]) (h.set n (.iter u (p + 1)))) := (rfl)
@[go_sem] theorem nxC_n {n p : Nat} {u : ByteArray} : nxC C s n u p (.mk K) h none = K (.tup [.v (.bool false)]) h := (rfl)
def nxI (C : Cx) (pr : List Nat) (n : Nat) {K : AV → AH → Prop} (_ : Sealed K) (h : AH) : Option (ByteArray × Nat) → Prop
  | some (u, p) => nxC C pr n u p (.mk K) h u[p]?
  | none => False
@[go_sem] theorem nxI_s {n p : Nat} {u : L8} : nxI C s n (.mk K) h (some (bs u, p)) = nxC C s n (bs u) p (.mk K) h u[p]? := by
  show nxC C s n (bs u) p (.mk K) h (bs u)[p]? = _
  rw [bs_get]
def nxS (C : Cx) (pr : List Nat) (it : AV) {K : AV → AH → Prop} (_ : Sealed K) (h : AH) : Prop := match it with
  | .ptr n 0 => nxI C pr n (.mk K) h (iterO (h.o n))
  | _ => False
@[go_sem] theorem nxS_p {n : Nat} : nxS C s (.ptr n 0) (.mk K) h = nxI C s n (.mk K) h (iterO (h.o n)) := (rfl)
@[go_sem ↓] theorem r_next : OpS C s (.mk (⟨d, .next x true, ty, pos, af, g⟩, K)) tm h = nxS C s (evA tm x) (.mk K) h := by
  show anext C s (evA tm x) h K = _
  unfold anext nxS
  split
  · rename_i n hn
    rw [hn]
    simp only [iterAt_O]
    unfold nxI
    cases iterO (h.o n) with
    | none => rfl
    | some q =>
      obtain ⟨u, p⟩ := q
      simp only
      unfold nextAt nxC
      cases u[p]? <;> rfl
  · rename_i hn
    split
    · rename_i n hn'; exact absurd hn' (hn n)
    · rfl
/-! a slice against nil -/
@[go_sem] theorem bin_sl_nil {p q : Operand} {r : List AV} {rows : List (List AV)} (hs : isSl P t = true) : abin P .eql t p q (.sl (r :: rows)) (.v (.slice none 0 0)) = some (.v (.bool false)) := by
  show (if isSl P t = true then _ else _) = _
  rw [if_pos hs]
@[go_sem] theorem bin_sl_niln {p q : Operand} {r : List AV} {rows : List (List AV)} (hs : isSl P t = true) : abin P .neq t p q (.sl (r :: rows)) (.v (.slice none 0 0)) = some (.v (.bool true)) := by
  show (if isSl P t = true then _ else _) = _
  rw [if_pos hs]
end
end Go.Isea

namespace Go.Isea
open Go
variable {P : Program} {h : AH}
def FzC (h : AH) (m : Nat) (cs' : List AV) : AObj → Prop
  | .cells cs => FzL h m cs cs'
  | _ => False
@[go_sem] theorem fzC_c {m : Nat} {cs cs' : List AV} : FzC h m cs' (.cells cs) = FzL h m cs cs' := (rfl)
@[go_sem] theorem fz_ptrF' {m l off : Nat} {cs' : List AV} (ht : m ≤ l) : Fz h m (.ptr l off) (.ref cs' off) = FzC h m cs' (h.o l) := by
  apply propext
  constructor
  · intro hf
    cases hf with
    | ptrF _ ho hl hc => rw [ho]; exact ⟨hl, hc⟩
  · intro hf
    cases ho : h.o l with
    | cells cs => rw [ho] at hf; exact .ptrF ht ho hf.1 hf.2
    | _ => rw [ho] at hf; exact hf.elim
theorem sem_nilptr {t el : TypeId} (hu : P.underlying t = some (.pointer el)) : semPure P (Op.equal t (.pointer none) (.pointer none)) = some true := by
  show semPure P (Op.equalIn (9999 + 1) t _ _) = _
  rw [Op.equalIn, semPure_bind', semPure_und hu]
  rfl
theorem sem_nilsl {t el : TypeId} (hu : P.underlying t = some (.slice el)) : semPure P (Op.equal t (.slice none 0 0) (.slice none 0 0)) = some true := by
  show semPure P (Op.equalIn (9999 + 1) t _ _) = _
  rw [Op.equalIn, semPure_bind', semPure_und hu]
  rfl
theorem bin_eq_sem {t : TypeId} {p q : Operand} {u v : Value} {b : Bool} (hg : semPure P (eqGuard .eql t p q u v) = some ()) (hb : binOp .eql t u v = (do let r ← Op.equal t u v; pure (Value.bool r))) (he : semPure P (Op.equal t u v) = some b) : abin P .eql t p q (.v u) (.v v) = some (.v (.bool b)) := by
  have h1 : semPure P (do eqGuard .eql t p q u v; binOp .eql t u v) = some (.bool b) := by
    rw [semPure_bind', hg]
    simp only
    rw [hb, semPure_bind', he]
    rfl
  simp only [abin, AV.raw, h1]
  rfl
theorem bin_ne_sem {t : TypeId} {p q : Operand} {u v : Value} {b : Bool} (hg : semPure P (eqGuard .neq t p q u v) = some ()) (hb : binOp .neq t u v = (do let r ← Op.equal t u v; pure (Value.bool (!r)))) (he : semPure P (Op.equal t u v) = some b) : abin P .neq t p q (.v u) (.v v) = some (.v (.bool (!b))) := by
  have h1 : semPure P (do eqGuard .neq t p q u v; binOp .neq t u v) = some (.bool (!b)) := by
    rw [semPure_bind', hg]
    simp only
    rw [hb, semPure_bind', he]
    rfl
  simp only [abin, AV.raw, h1]
  rfl
@[go_sem] theorem bin_pp {t : TypeId} {p q : Operand} (hp : isPtr P t = true) : abin P .eql t p q (.v (.pointer none)) (.v (.pointer none)) = some (.v (.bool true)) := by
  obtain ⟨el, hu⟩ := und_ptr hp
  exact bin_eq_sem rfl rfl (sem_nilptr hu)
@[go_sem] theorem bin_ppn {t : TypeId} {p q : Operand} (hp : isPtr P t = true) : abin P .neq t p q (.v (.pointer none)) (.v (.pointer none)) = some (.v (.bool false)) := by
  obtain ⟨el, hu⟩ := und_ptr hp
  exact bin_ne_sem (b := true) rfl rfl (sem_nilptr hu)
@[go_sem] theorem bin_ss {t : TypeId} {p q : Operand} (hp : isSl P t = true) : abin P .eql t p q (.v (.slice none 0 0)) (.v (.slice none 0 0)) = some (.v (.bool true)) := by
  obtain ⟨el, hu⟩ := und_sl hp
  exact bin_eq_sem rfl rfl (sem_nilsl hu)
@[go_sem] theorem bin_rp {t : TypeId} {p q : Operand} {cs : List AV} {o : Nat} (hp : isPtr P t = true) : abin P .eql t p q (.ref cs o) (.v (.pointer none)) = some (.v (.bool false)) := by
  show (if isPtr P t = true then _ else _) = _
  rw [if_pos hp]
@[go_sem] theorem bin_rpn {t : TypeId} {p q : Operand} {cs : List AV} {o : Nat} (hp : isPtr P t = true) : abin P .neq t p q (.ref cs o) (.v (.pointer none)) = some (.v (.bool true)) := by
  show (if isPtr P t = true then _ else _) = _
  rw [if_pos hp]
@[go_sem ↓] theorem ev_nilF {tm : List AV} : evA tm (.const .nilFunc) = .v .nilFunc := (rfl)
@[go_sem] theorem fz_fn' {m : Nat} {f : FuncId} {cs cs' : List AV} : Fz h m (.fn f cs) (.fn f cs') = FzL h m cs cs' := by
  apply propext
  constructor
  · intro hf; cases hf with | fn hl hc => exact ⟨hl, hc⟩
  · intro hf; exact .fn hf.1 hf.2
/-- a new object stays -/
theorem fin_push {h0 h : AH} {x r : AV} {o' : AObj} (hn : h0.n + 1 ≤ h.n) (hx : Fz h (h0.n + 1) x r) (ho : ObjFz h (h0.n + 1) (h.o h0.n) o') : FinS [] h0 h x (h0.push o') r where
  n0 := Nat.le_succ _
  n := hn
  fz := hx
  old t ht _ := by
    have : t ≠ h0.n := Nat.ne_of_lt ht
    simp [AH.push, upd, this]
  turned t ht hT := by
    rcases hT with hT | hT
    · cases hT
    · have ht' : t < h0.n + 1 := ht
      have : t = h0.n := by omega
      subst this
      simpa [AH.push, upd] using ho
end Go.Isea

namespace Go.Isea
open Go
variable {P : Program} {h : AH}
theorem enc_ascii (c : UInt8) (hc : c.toNat < 128) : Utf8.encode ((c.toNat : Nat) : Int) = bs [c] := by
  revert hc; revert c
  refine forall_u8 ?_
  decide +kernel
@[go_sem] theorem convI_str {s t : TypeId} {k : IntKind} {c : UInt8} (hc : c.toNat < 128) (hs : P.underlying s = some (.int .i32)) (ht : P.underlying t = some .string) :
    convI P s t k ((c.toNat : Nat) : Int) (some (.int .i32)) (some .string) = some (str [c]) := by
  have h1 : semPure P (convert s t (.int k ((c.toNat : Nat) : Int))) = some (.string (bs [c])) := by
    unfold convert
    rw [semPure_bind', semPure_und hs]
    simp only
    rw [semPure_bind', semPure_und ht]
    simp only [Conv.intToString, enc_ascii c hc]
    rfl
  show aconv P s t (.v (.int k _)) = _
  simp only [aconv, AV.raw, h1]
  rfl
end Go.Isea

namespace Go.Isea
/-- what letters stand for -/
abbrev Sub := UInt8 → Option Ty
def Sub.none' : Sub := fun _ => none
def Sub.set (σ : Sub) (c : UInt8) (t : Ty) : Sub := fun x => if x = c then some t else σ x
def matchT (σ : Sub) : Ty → Ty → Option Sub
  | .leaf c, b => if isV c then (match σ c with
      | none => some (σ.set c b)
      | some t => if t = b then some σ else none)
    else if b.head = c then some σ else none
  | .un c t, b => match b with
    | .un d u => if c = d then matchT σ t u else none
    | _ => none
  | .bin c t t2, b => match b with
    | .bin d u u2 => if c = d then (match matchT σ t u with
      | some τ => matchT τ t2 u2
      | none => none) else none
    | _ => none
def put (σ : Sub) : Ty → Ty
  | .leaf c => (σ c).getD (.leaf c)
  | .un c t => .un c (put σ t)
  | .bin c t u => .bin c (put σ t) (put σ u)
def bnds (σ : Sub) : List Bnd := vars6.filterMap fun c => (σ c).map fun t => ⟨[c], t.text⟩
def matchType (p t : L8) : Option (List Bnd) :=
  match typeOf p, typeOf t with
  | some a, some b => (matchT Sub.none' a b).map bnds
  | _, _ => none

/-- a substitution of variables by types that are valid -/
def Sub.Ok (σ : Sub) (n : Nat) : Prop := ∀ c t, σ c = some t → isV c = true ∧ t.wf ∧ t.text.length ≤ n
theorem Sub.none_ok (n : Nat) : Sub.none'.Ok n := fun _ _ h => by cases h
theorem Sub.Ok.set {σ : Sub} {n : Nat} (h : σ.Ok n) {c : UInt8} {t : Ty} (hc : isV c = true) (hw : t.wf) (hl : t.text.length ≤ n) : (σ.set c t).Ok n := by
  intro x u hx
  unfold Sub.set at hx
  split at hx
  · rename_i e; subst e; injection hx with hx; subst hx; exact ⟨hc, hw, hl⟩
  · exact h x u hx
theorem matchT_ok {n : Nat} : ∀ {a b : Ty} {σ τ : Sub}, matchT σ a b = some τ → σ.Ok n → b.wf → b.text.length ≤ n → τ.Ok n
  | .leaf c, b, σ, τ, h, hs, hw, hl => by
    simp only [matchT] at h
    split at h
    · rename_i hv
      split at h
      · injection h with h; subst h; exact hs.set hv hw hl
      · split at h
        · injection h with h; subst h; exact hs
        · cases h
    · split at h
      · injection h with h; subst h; exact hs
      · cases h
  | .un c t, b, σ, τ, h, hs, hw, hl => by
    simp only [matchT] at h
    split at h
    · split at h
      · exact matchT_ok h hs hw.2 (by simp [Ty.text] at hl; omega)
      · cases h
    · cases h
  | .bin c t t2, b, σ, τ, h, hs, hw, hl => by
    simp only [matchT] at h
    split at h
    · split at h
      · split at h
        · rename_i ρ hρ
          simp [Ty.text] at hl
          exact matchT_ok h (matchT_ok hρ hs hw.2.1 (by omega)) hw.2.2 (by omega)
        · cases h
      · cases h
    · cases h
theorem isV_ar {c : UInt8} (h : isV c = true) : ar c = 0 := forall_u8 (p := fun c => isV c = true → ar c = 0) (by decide +kernel) c h
theorem ar_ne0 {c : UInt8} (h : 0 ≤ ar c) : c ≠ 0 := forall_u8 (p := fun c => 0 ≤ ar c → c ≠ 0) (by decide +kernel) c h
theorem Ty.wf_head {t : Ty} (h : t.wf) : 0 ≤ ar t.head := by
  cases t with
  | leaf c => have : ar c = 0 := h; simp [Ty.head, this]
  | un c t => have := h.1; simp [Ty.head, this]
  | bin c t u => have := h.1; simp [Ty.head, this]
theorem Ty.head_ne0 {t : Ty} (h : t.wf) : (t.head.toNat : Int) ≠ 0 := fun e => ar_ne0 (Ty.wf_head h) (by apply UInt8.toNat_inj.1; simpa using e)
/-- wf types with the same head have as many parts -/
theorem Ty.same_leaf {c : UInt8} {b : Ty} (h : ar c = 0) (hb : b.wf) (e : b.head = c) : b = .leaf c := by
  cases b with
  | leaf d => simp [Ty.head] at e; rw [e]
  | un d t => simp [Ty.head] at e; subst e; have := hb.1; omega
  | bin d t u => simp [Ty.head] at e; subst e; have := hb.1; omega
theorem Ty.same_un {c : UInt8} {b : Ty} (h : ar c = 1) (hb : b.wf) (e : b.head = c) : ∃ u, b = .un c u := by
  cases b with
  | leaf d => simp [Ty.head] at e; subst e; have : ar d = 0 := hb; omega
  | un d t => simp [Ty.head] at e; rw [e]; exact ⟨_, rfl⟩
  | bin d t u => simp [Ty.head] at e; subst e; have := hb.1; omega
theorem Ty.same_bin {c : UInt8} {b : Ty} (h : ar c = 2) (hb : b.wf) (e : b.head = c) : ∃ u u2, b = .bin c u u2 := by
  cases b with
  | leaf d => simp [Ty.head] at e; subst e; have : ar d = 0 := hb; omega
  | un d t => simp [Ty.head] at e; subst e; have := hb.1; omega
  | bin d t u => simp [Ty.head] at e; rw [e]; exact ⟨_, _, rfl⟩
theorem matchT_head_un {σ : Sub} {c : UInt8} {t b : Ty} (e : b.head ≠ c) : matchT σ (.un c t) b = none := by
  simp only [matchT]
  split
  · rw [if_neg (fun h => e (by simp [Ty.head, h]))]
  · rfl
theorem matchT_head_bin {σ : Sub} {c : UInt8} {t t2 b : Ty} (e : b.head ≠ c) : matchT σ (.bin c t t2) b = none := by
  simp only [matchT]
  split
  · rw [if_neg (fun h => e (by simp [Ty.head, h]))]
  · rfl
theorem put_wf {σ : Sub} {n : Nat} (h : σ.Ok n) : ∀ {t : Ty}, t.wf → (put σ t).wf
  | .leaf c, hw => by
    unfold put
    cases hc : σ c with
    | none => exact hw
    | some t => exact (h c t hc).2.1
  | .un c t, hw => ⟨hw.1, put_wf h hw.2⟩
  | .bin c t u, hw => ⟨hw.1, put_wf h hw.2.1, put_wf h hw.2.2⟩
theorem put_len {σ : Sub} {n : Nat} (h : σ.Ok n) : ∀ {t : Ty}, (put σ t).text.length ≤ t.text.length * (n + 1)
  | .leaf c => by
    unfold put
    cases hc : σ c with
    | none => simp [Ty.text]
    | some t => have := (h c t hc).2.2; simp [Ty.text]; omega
  | .un c t => by
    have := put_len h (t := t)
    simp only [put, Ty.text, List.length_cons, List.length_append, List.length_nil]
    generalize (put σ t).text.length = a at *
    generalize t.text.length = b at *
    simp only [Nat.add_mul, Nat.one_mul]; omega
  | .bin c t u => by
    have h1 := put_len h (t := t)
    have h2 := put_len h (t := u)
    simp only [put, Ty.text, List.length_cons, List.length_append, List.length_nil]
    generalize (put σ t).text.length = a at *
    generalize t.text.length = b at *
    generalize (put σ u).text.length = a' at *
    generalize u.text.length = b' at *
    simp only [Nat.add_mul, Nat.one_mul]; omega
/-- the place of a letter among the variables and as many others -/
def vars12 : L8 := [88, 89, 90, 120, 121, 122, 49, 50, 51, 52, 53, 54]
def vix (c : UInt8) : Int := ix vars12 c
theorem vix_var {c : UInt8} (h : isV c = true) : ∃ k : Nat, k < 6 ∧ vix c = k ∧ vars12[k]? = some c := by
  have : ∀ n : _root_.Fin 256, isV (UInt8.ofNat n.val) = true → 0 ≤ vix (UInt8.ofNat n.val) ∧ (vix (UInt8.ofNat n.val)).toNat < 6 ∧ vars12[(vix (UInt8.ofNat n.val)).toNat]? = some (UInt8.ofNat n.val) := by decide +kernel
  have := this ⟨c.toNat, UInt8.toNat_lt c⟩
  simp only [UInt8.ofNat_toNat] at this
  obtain ⟨h1, h2, h3⟩ := this h
  exact ⟨_, h2, by omega, h3⟩
theorem vix_no {c : UInt8} (h : isV c = false) (ha : 0 ≤ ar c) : vix c = -1 := forall_u8 (p := fun c => isV c = false → 0 ≤ ar c → vix c = -1) (by decide +kernel) c h ha
def bndsTake (σ : Sub) (k : Nat) : List Bnd := (vars6.take k).filterMap fun c => (σ c).map fun t => ⟨[c], t.text⟩
theorem bndsTake_all (σ : Sub) {k : Nat} (h : 6 ≤ k) : bndsTake σ k = bnds σ := by
  unfold bndsTake bnds
  rw [List.take_of_length_le (by simp [vars6]; omega)]
theorem bndsTake_none (σ : Sub) {k : Nat} {c : UInt8} (hk : vars12[k]? = some c) (hc : σ c = none) : bndsTake σ (k + 1) = bndsTake σ k := by
  unfold bndsTake
  rcases Nat.lt_or_ge k 6 with h | h
  · have h6 : vars6[k]? = some c := by
      have : k = 0 ∨ k = 1 ∨ k = 2 ∨ k = 3 ∨ k = 4 ∨ k = 5 := by omega
      rcases this with rfl | rfl | rfl | rfl | rfl | rfl <;> (simp [vars12] at hk; subst hk; rfl)
    obtain ⟨hl, e⟩ := List.getElem?_eq_some_iff.1 h6
    rw [List.take_succ_eq_append_getElem hl, List.filterMap_append, e]
    simp [hc]
  · rw [List.take_of_length_le (by simp [vars6]; omega), List.take_of_length_le (by simp [vars6]; omega)]
theorem bndsTake_some (σ : Sub) {k : Nat} {c : UInt8} {t : Ty} (hk : vars12[k]? = some c) (h : k < 6) (hc : σ c = some t) : bndsTake σ (k + 1) = bndsTake σ k ++ [⟨[c], t.text⟩] := by
  unfold bndsTake
  have h6 : vars6[k]? = some c := by
    have : k = 0 ∨ k = 1 ∨ k = 2 ∨ k = 3 ∨ k = 4 ∨ k = 5 := by omega
    rcases this with rfl | rfl | rfl | rfl | rfl | rfl <;> (simp [vars12] at hk; subst hk; rfl)
  obtain ⟨hl, e⟩ := List.getElem?_eq_some_iff.1 h6
  rw [List.take_succ_eq_append_getElem hl, List.filterMap_append, e]
  simp [hc]
theorem bndsTake_len (σ : Sub) (k : Nat) : (bndsTake σ k).length ≤ 6 := by
  unfold bndsTake
  refine Nat.le_trans (List.length_filterMap_le _ _) ?_
  simp [vars6]; omega
theorem vars12_inj : ∀ {k k' : Nat} {c : UInt8}, vars12[k]? = some c → vars12[k']? = some c → k = k' := by
  intro k k' c h h'
  obtain ⟨a, e⟩ := List.getElem?_eq_some_iff.1 h
  obtain ⟨a', e'⟩ := List.getElem?_eq_some_iff.1 h'
  have hn : ∀ i j : _root_.Fin 12, vars12[i.val]'(i.isLt) = vars12[j.val]'(j.isLt) → i = j := by decide
  exact _root_.Fin.mk.inj (hn ⟨k, a⟩ ⟨k', a'⟩ (e.trans e'.symm))
theorem vars12_six {k : Nat} {c : UInt8} (hk : vars12[k]? = some c) (hv : isV c = true) : k < 6 := by
  obtain ⟨k', h1, _, h2⟩ := vix_var hv
  have := vars12_inj hk h2
  omega
theorem vars12_slice {k : Nat} {c : UInt8} (hk : vars12[k]? = some c) : (⟨#[88, 89, 90, 120, 121, 122, 49, 50, 51, 52, 53, 54]⟩ : ByteArray).extract k (k + 1) = bs [c] := by
  rw [ba_extract]
  congr 1
  obtain ⟨hl, e⟩ := List.getElem?_eq_some_iff.1 hk
  have : lb ⟨#[88, 89, 90, 120, 121, 122, 49, 50, 51, 52, 53, 54]⟩ = vars12 := rfl
  rw [this, List.take_succ_eq_append_getElem hl, List.drop_left' (by simp; omega), e]
end Go.Isea
namespace Go.Isea
def stepB (σ : Sub) (b : Bnd) : Sub :=
  match b.v, typeOf b.t with
  | [c], some t => σ.set c t
  | _, _ => σ
def subOf (l : List Bnd) : Sub := l.foldl stepB Sub.none'
theorem stepB_of (σ : Sub) {c : UInt8} {t : Ty} (h : typeOf t.text = some t) : stepB σ ⟨[c], t.text⟩ = σ.set c t := by
  simp only [stepB, h]
theorem fold_filterMap (σ : Sub) (h : σ.Ok 60) : ∀ (vs : L8) (τ : Sub), (vs.filterMap fun c => (σ c).map fun t => (⟨[c], t.text⟩ : Bnd)).foldl stepB τ = fun x => if x ∈ vs ∧ (σ x).isSome then σ x else τ x
  | [], τ => by simp
  | c :: vs, τ => by
    cases hs : σ c with
    | none =>
      rw [List.filterMap_cons_none (by simp [hs]), fold_filterMap σ h vs τ]
      funext x
      by_cases hx : x = c
      · subst hx; simp [hs]
      · simp [hx]
    | some t =>
      obtain ⟨h1, h2, h3⟩ := h c t hs
      rw [List.filterMap_cons_some (b := ⟨[c], t.text⟩) (by simp [hs]), List.foldl_cons, stepB_of τ (typeOf_text h2 h3), fold_filterMap σ h vs _]
      funext x
      by_cases hx : x = c
      · subst hx; simp [hs, Sub.set]
      · simp [hx, Sub.set]
theorem subOf_bnds {σ : Sub} (h : σ.Ok 60) : subOf (bnds σ) = σ := by
  unfold subOf bnds
  rw [fold_filterMap σ h]
  funext x
  cases hs : σ x with
  | none => simp [Sub.none']
  | some t =>
    have hv := (h x t hs).1
    have : x ∈ vars6 := forall_u8 (p := fun c => isV c = true → c ∈ vars6) (by decide +kernel) x hv
    simp [this]
theorem isV_leaf {t : Ty} (hw : t.wf) (h : isV t.head = true) : t = .leaf t.head := Ty.same_leaf (isV_ar h) hw rfl
theorem put_some {σ : Sub} {n : Nat} (hs : σ.Ok n) {t u : Ty} (hw : t.wf) (h : σ t.head = some u) : put σ t = u := by
  have := isV_leaf hw (hs _ _ h).1
  rw [this]
  simp [put, h]
end Go.Isea

namespace Go.Isea
set_option maxRecDepth 100000
def nx (t : L8) (k : Nat) : UInt8 × Nat × Bool := match t[k]? with
  | some c => (c, k + 1, false)
  | none => (0, k, true)
def mkT (c : UInt8) : List Ty → Ty
  | [] => .leaf c
  | [t] => .un c t
  | t :: u :: _ => .bin c t u
def sep (i : Nat) : UInt8 := if i = 0 then 40 else 44
def lpR (nd : Nat → Ty × Nat × Bool) (t : L8) : Nat → List Ty → Nat → Bool → List Ty × Nat × Bool
  | 0, ps, k, bad => (ps, k, bad)
  | m + 1, ps, k, bad => if bad = true then (ps, k, bad) else
      if (nx t k).2.2 = true ∨ (nx t k).1 ≠ sep ps.length then (ps, (nx t k).2.1, true) else
        lpR nd t m (ps ++ [(nd (nx t k).2.1).1]) (nd (nx t k).2.1).2.1 (nd (nx t k).2.1).2.2
def endR (t : L8) (a : Int) (y : List Ty × Nat × Bool) : Nat × Bool :=
  if 0 < a ∧ y.2.2 = false then ((nx t y.2.1).2.1, decide ((nx t y.2.1).1 ≠ 41) || (nx t y.2.1).2.2) else (y.2.1, y.2.2)
def rdN : Nat → L8 → Nat → Ty × Nat × Bool
  | 0, _, k => (.leaf 0, k, true)
  | f + 1, t, k => (mkT (nx t k).1 (lpR (rdN f t) t (ar (nx t k).1).toNat [] (nx t k).2.1 (decide (ar (nx t k).1 < 0))).1,
      endR t (ar (nx t k).1) (lpR (rdN f t) t (ar (nx t k).1).toNat [] (nx t k).2.1 (decide (ar (nx t k).1 < 0))))
theorem nx_le {t : L8} {k : Nat} (h : k ≤ t.length) : (nx t k).2.1 ≤ t.length := by
  unfold nx
  split
  · rename_i c hc
    have := (List.getElem?_eq_some_iff.1 hc).1
    show k + 1 ≤ _
    omega
  · simpa using h
theorem nx_bad {t : L8} {k : Nat} (h : (nx t k).2.2 = true) : (nx t k).1 = 0 := by
  unfold nx at h ⊢
  split at h <;> simp_all
theorem ar_le (c : UInt8) : ar c ≤ 2 := by revert c; exact forall_u8 (by decide)
theorem lpR_le {nd : Nat → Ty × Nat × Bool} {t : L8} (hn : ∀ k, k ≤ t.length → (nd k).2.1 ≤ t.length) : ∀ (m : Nat) (ps : List Ty) (k : Nat) (bad : Bool), k ≤ t.length → (lpR nd t m ps k bad).2.1 ≤ t.length
  | 0, ps, k, bad, h => h
  | m + 1, ps, k, bad, h => by
    unfold lpR
    split
    · exact h
    · split
      · exact nx_le h
      · exact lpR_le hn m _ _ _ (hn _ (nx_le h))
theorem rdN_le {t : L8} : ∀ (f : Nat) (k : Nat), k ≤ t.length → (rdN f t k).2.1 ≤ t.length
  | 0, k, h => h
  | f + 1, k, h => by
    have h1 := lpR_le (rdN_le (t := t) f) (ar (nx t k).1).toNat [] (nx t k).2.1 (decide (ar (nx t k).1 < 0)) (nx_le h)
    unfold rdN endR
    simp only
    split
    · exact nx_le h1
    · exact h1
theorem nx_ge {t : L8} {k : Nat} : k ≤ (nx t k).2.1 := by unfold nx; split <;> simp
theorem lpR_ge {nd : Nat → Ty × Nat × Bool} {t : L8} (hn : ∀ k, k ≤ (nd k).2.1) : ∀ (m : Nat) (ps : List Ty) (k : Nat) (bad : Bool), k ≤ (lpR nd t m ps k bad).2.1
  | 0, ps, k, bad => Nat.le_refl _
  | m + 1, ps, k, bad => by
    unfold lpR
    split
    · exact Nat.le_refl _
    · split
      · exact nx_ge
      · exact Nat.le_trans nx_ge (Nat.le_trans (hn _) (lpR_ge hn m _ _ _))
theorem rdN_ge {t : L8} : ∀ (f : Nat) (k : Nat), k ≤ (rdN f t k).2.1
  | 0, k => Nat.le_refl _
  | f + 1, k => by
    have h1 : k ≤ (lpR (rdN f t) t (ar (nx t k).1).toNat [] (nx t k).2.1 (decide (ar (nx t k).1 < 0))).2.1 := Nat.le_trans (nx_ge (t := t) (k := k)) (lpR_ge (rdN_ge (t := t) f) (ar (nx t k).1).toNat [] (nx t k).2.1 (decide (ar (nx t k).1 < 0)))
    unfold rdN endR
    simp only
    split
    · exact Nat.le_trans h1 nx_ge
    · exact h1
/-- the reader reads what is parsed -/
theorem drop_some {t : L8} {k : Nat} {c : UInt8} (h : t[k]? = some c) : t.drop k = c :: t.drop (k + 1) := by
  obtain ⟨hl, e⟩ := List.getElem?_eq_some_iff.1 h
  rw [List.drop_eq_getElem_cons hl, e]
theorem drop_none {t : L8} {k : Nat} (h : t[k]? = none) : t.drop k = [] := List.drop_of_length_le (List.getElem?_eq_none_iff.1 h)
def RdOk (f : Nat) (t : L8) (k : Nat) : Prop := match parse f (t.drop k) with
  | some (ty, r) => (rdN f t k).1 = ty ∧ (rdN f t k).2.2 = false ∧ t.drop (rdN f t k).2.1 = r
  | none => (rdN f t k).2.2 = true
theorem lpR_bad {nd : Nat → Ty × Nat × Bool} {t : L8} {m : Nat} {ps : List Ty} {k : Nat} : lpR nd t m ps k true = (ps, k, true) := by
  cases m <;> simp [lpR]
theorem lpR_none {nd : Nat → Ty × Nat × Bool} {t : L8} {m : Nat} {ps : List Ty} {k : Nat} (hc : t[k]? = none) : lpR nd t (m + 1) ps k false = (ps, k, true) := by
  simp [lpR, nx, hc]
theorem lpR_some {nd : Nat → Ty × Nat × Bool} {t : L8} {m : Nat} {ps : List Ty} {k : Nat} {c : UInt8} (hc : t[k]? = some c) :
    lpR nd t (m + 1) ps k false = if c = sep ps.length then lpR nd t m (ps ++ [(nd (k + 1)).1]) (nd (k + 1)).2.1 (nd (k + 1)).2.2 else (ps, k + 1, true) := by
  simp only [lpR, nx, hc]
  by_cases e : c = sep ps.length <;> simp [e]
theorem endR_bad {t : L8} {a : Int} {ps : List Ty} {k : Nat} : endR t a (ps, k, true) = (k, true) := by simp [endR]
theorem endR_none {t : L8} {a : Int} {ps : List Ty} {k : Nat} (ha : 0 < a) (hc : t[k]? = none) : (endR t a (ps, k, false)).2 = true := by simp [endR, ha, nx, hc]
theorem endR_some {t : L8} {a : Int} {ps : List Ty} {k : Nat} {c : UInt8} (ha : 0 < a) (hc : t[k]? = some c) : endR t a (ps, k, false) = (k + 1, decide (c ≠ 41)) := by simp [endR, ha, nx, hc]
theorem rdOk : ∀ (f : Nat) (t : L8) (k : Nat), RdOk f t k
  | 0, t, k => by simp [RdOk, parse, rdN]
  | f + 1, t, k => by
    unfold RdOk
    cases hc : t[k]? with
    | none =>
      rw [drop_none hc]
      have : ar 0 = -1 := by decide
      simp [parse, rdN, nx, hc, this, lpR, endR]
    | some c =>
      rw [drop_some hc]
      have hnx : nx t k = (c, k + 1, false) := by simp [nx, hc]
      have ha := ar_le c
      simp only [rdN, hnx]
      by_cases h0 : ar c = 0
      · simp [parse, h0, lpR, endR, mkT]
      · by_cases h1 : ar c = 1
        · simp only [parse, h0, h1, if_false, if_true, show ¬ ((1 : Int) < 0) by omega, decide_false, show (1 : Int).toNat = 1 from rfl, show ¬ ((1 : Int) = 0) by omega]
          cases h40 : t[k + 1]? with
          | none => rw [drop_none h40, lpR_none h40]; simp [endR_bad]
          | some d =>
            rw [drop_some h40, lpR_some h40]
            by_cases hd : d = 40
            · subst hd
              have ih := rdOk f t (k + 1 + 1)
              simp only [RdOk] at ih
              simp only [sep, List.length_nil, if_true]
              cases hp : parse f (List.drop (k + 1 + 1) t) with
              | none =>
                rw [hp] at ih
                simp only at ih
                rw [ih]
                simp [lpR, endR]
              | some x =>
                obtain ⟨ty, r⟩ := x
                rw [hp] at ih
                obtain ⟨i1, i2, i3⟩ := ih
                rw [i2, i1]
                simp only [lpR, List.nil_append, mkT]
                generalize (rdN f t (k + 1 + 1)).2.1 = k2 at i3 ⊢
                cases h41 : t[k2]? with
                | none =>
                  rw [drop_none h41] at i3; subst i3
                  simp [endR_none (show (0 : Int) < 1 by omega) h41]
                | some e =>
                  rw [drop_some h41] at i3; subst i3
                  rw [endR_some (by omega) h41]
                  by_cases he : e = 41
                  · subst he; simp
                  · split
                    · rename_i heq
                      split at heq
                      · rename_i h3; simp at h3; exact absurd h3.2.1 he
                      · cases heq
                    · simp [he]
            · have : ¬ d = sep ([] : List Ty).length := by simpa [sep] using hd
              rw [if_neg this]
              split
              · rename_i heq
                split at heq
                · rename_i h3; simp at h3; exact absurd h3.1 hd
                · cases heq
              · simp [endR_bad]
        · by_cases h2 : ar c = 2
          · simp only [parse, h0, h1, h2, if_false, if_true, show ¬ ((2 : Int) < 0) by omega, decide_false, show (2 : Int).toNat = 2 from rfl, show ¬ ((2 : Int) = 0) by omega, show ¬ ((2 : Int) = 1) by omega]
            cases h40 : t[k + 1]? with
            | none => rw [drop_none h40, lpR_none h40]; simp [endR_bad]
            | some d =>
              rw [drop_some h40, lpR_some h40]
              by_cases hd : d = 40
              · subst hd
                have ih := rdOk f t (k + 1 + 1)
                simp only [RdOk] at ih
                simp only [sep, List.length_nil, if_true]
                cases hp : parse f (List.drop (k + 1 + 1) t) with
                | none =>
                  rw [hp] at ih
                  simp only at ih
                  rw [ih]
                  simp [lpR, endR]
                | some x =>
                  obtain ⟨ty, r⟩ := x
                  rw [hp] at ih
                  obtain ⟨i1, i2, i3⟩ := ih
                  rw [i2, i1]
                  simp only [List.nil_append]
                  generalize (rdN f t (k + 1 + 1)).2.1 = k2 at i3 ⊢
                  cases h44 : t[k2]? with
                  | none =>
                    rw [drop_none h44] at i3; subst i3
                    rw [lpR_none h44]
                    simp [endR_bad]
                  | some e =>
                    rw [drop_some h44] at i3; subst i3
                    rw [lpR_some h44]
                    by_cases he : e = 44
                    · subst he
                      have ih2 := rdOk f t (k2 + 1)
                      simp only [RdOk] at ih2
                      simp only [sep, List.length_cons, List.length_nil, if_true, show ¬ (0 + 1 = 0) by omega, if_false]
                      cases hp2 : parse f (List.drop (k2 + 1) t) with
                      | none =>
                        rw [hp2] at ih2
                        simp only at ih2
                        rw [ih2]
                        simp [lpR, endR]
                      | some x2 =>
                        obtain ⟨ty2, r2⟩ := x2
                        rw [hp2] at ih2
                        obtain ⟨j1, j2, j3⟩ := ih2
                        rw [j2, j1]
                        simp only [lpR, List.cons_append, List.nil_append, mkT]
                        generalize (rdN f t (k2 + 1)).2.1 = k3 at j3 ⊢
                        cases h41 : t[k3]? with
                        | none =>
                          rw [drop_none h41] at j3; subst j3
                          simp [endR_none (show (0 : Int) < 2 by omega) h41]
                        | some e2 =>
                          rw [drop_some h41] at j3; subst j3
                          rw [endR_some (by omega) h41]
                          by_cases he2 : e2 = 41
                          · subst he2; simp
                          · split
                            · rename_i heq
                              split at heq
                              · rename_i h3; simp at h3; exact absurd h3.2.1 he2
                              · cases heq
                            · simp [he2]
                    · have : ¬ e = sep [ty].length := by simpa [sep] using he
                      rw [if_neg this]
                      split
                      · rename_i heq
                        split at heq
                        · rename_i h3; simp at h3; exact absurd h3.2.1 he
                        · cases heq
                      · simp [endR_bad]
              · have : ¬ d = sep ([] : List Ty).length := by simpa [sep] using hd
                rw [if_neg this]
                split
                · rename_i heq
                  split at heq
                  · rename_i h3; simp at h3; exact absurd h3.1 hd
                  · cases heq
                · simp [endR_bad]
          · have h3 : ar c < 0 := by omega
            simp [parse, h0, h1, h2, h3, lpR_bad, endR_bad]
/-- what is read of a whole text -/
theorem typeOf_rd (t : L8) : typeOf t = if (rdN (t.length + 1) t 0).2.2 = false ∧ (rdN (t.length + 1) t 0).2.1 = t.length ∧ t.length ≤ 60 then some (rdN (t.length + 1) t 0).1 else none := by
  have h := rdOk (t.length + 1) t 0
  have hle := rdN_le (t := t) (t.length + 1) 0 (Nat.zero_le _)
  unfold RdOk at h
  rw [List.drop_zero] at h
  unfold typeOf
  by_cases h60 : 60 < t.length
  · rw [if_pos h60, if_neg (by omega)]
  · rw [if_neg h60]
    cases hp : parse (t.length + 1) t with
    | none =>
      rw [hp] at h
      simp only at h
      rw [if_neg (by rw [h]; simp)]
    | some x =>
      obtain ⟨ty, r⟩ := x
      rw [hp] at h
      obtain ⟨h1, h2, h3⟩ := h
      cases r with
      | nil =>
        have : t.length ≤ (rdN (t.length + 1) t 0).2.1 := by
          have := congrArg List.length h3
          simp at this; omega
        rw [if_pos ⟨h2, by omega, by omega⟩, h1]
      | cons c r =>
        have : (rdN (t.length + 1) t 0).2.1 < t.length := by
          have := congrArg List.length h3
          simp at this; omega
        rw [if_neg (by omega)]
/-- a type's text, part by part -/
def preT (c : UInt8) (ps : List Ty) : Nat → L8
  | 0 => [c]
  | i + 1 => preT c ps i ++ (sep i :: ((ps[i]?).map Ty.text).getD [])
theorem text_pre (t : Ty) : t.text = preT t.head t.parts t.parts.length ++ (if t.parts.length = 0 then [] else [41]) := by
  cases t <;> simp [Ty.text, preT, Ty.head, Ty.parts, sep]
theorem preT_le (t : Ty) {i : Nat} (h : i ≤ t.parts.length) : (preT t.head t.parts i).length ≤ t.text.length := by
  have hp : t.parts.length ≤ 2 := by cases t <;> simp [Ty.parts]
  have hi : i = 0 ∨ i = 1 ∨ i = 2 := by omega
  cases t <;> rcases hi with rfl | rfl | rfl <;> simp [Ty.text, preT, Ty.head, Ty.parts, sep] at h ⊢ <;> omega
theorem part_le (t : Ty) {i : Nat} {p : Ty} (h : t.parts[i]? = some p) : p.text.length < t.text.length ∧ i < 2 := by
  have hi : i = 0 ∨ i = 1 ∨ 2 ≤ i := by omega
  cases t <;> rcases hi with rfl | rfl | hi <;> simp [Ty.parts] at h <;> try subst h
  all_goals (simp [Ty.text]; try omega)
  all_goals (match i, hi with | i + 2, _ => simp at h)
theorem put_none {σ : Sub} {t : Ty} (h : σ t.head = none) : put σ t = mkT t.head (t.parts.map (put σ)) := by
  cases t with
  | leaf c => simp only [Ty.head] at h; simp [put, h, mkT, Ty.parts, Ty.head]
  | un c t => rfl
  | bin c t u => rfl
theorem parts_le (t : Ty) : t.parts.length ≤ 2 := by cases t <;> simp [Ty.parts]
theorem part_wf {t p : Ty} {i : Nat} (hw : t.wf) (h : t.parts[i]? = some p) : p.wf := by
  have hm := List.mem_of_getElem? h
  cases t with
  | leaf c => simp [Ty.parts] at hm
  | un c t => simp [Ty.parts] at hm; subst hm; exact hw.2
  | bin c t u =>
    simp [Ty.parts] at hm
    rcases hm with rfl | rfl
    · exact hw.2.1
    · exact hw.2.2
/-- matching, with what has been bound when it fails -/
def matchR : Sub → Ty → Ty → Sub × Bool
  | σ, .leaf c, b => if isV c = true then (match σ c with
      | none => (σ.set c b, true)
      | some t => (σ, decide (t = b)))
    else (σ, decide (b.head = c))
  | σ, .un c t, b => match b with
    | .un d u => if c = d then matchR σ t u else (σ, false)
    | _ => (σ, false)
  | σ, .bin c t t2, b => match b with
    | .bin d u u2 => if c = d then (if (matchR σ t u).2 = true then matchR (matchR σ t u).1 t2 u2 else ((matchR σ t u).1, false)) else (σ, false)
    | _ => (σ, false)
theorem matchT_R : ∀ (a b : Ty) (σ : Sub), matchT σ a b = if (matchR σ a b).2 = true then some (matchR σ a b).1 else none
  | .leaf c, b, σ => by
    simp only [matchT, matchR]
    split
    · cases hs : σ c with
      | none => simp
      | some t => by_cases h : t = b <;> simp [h]
    · by_cases h : b.head = c <;> simp [h]
  | .un c t, b, σ => by
    cases b <;> simp only [matchT, matchR] <;> try simp
    rename_i d u
    by_cases h : c = d
    · simp only [h, if_true]; exact matchT_R t u σ
    · simp [h]
  | .bin c t t2, b, σ => by
    cases b <;> simp only [matchT, matchR] <;> try simp
    rename_i d u u2
    by_cases h : c = d
    · simp only [h, if_true, matchT_R t u σ]
      by_cases h2 : (matchR σ t u).2 = true
      · simp only [h2, if_true]; exact matchT_R t2 u2 _
      · simp [h2]
    · simp [h]
theorem matchR_ok {n : Nat} : ∀ (a b : Ty) (σ : Sub), σ.Ok n → b.wf → b.text.length ≤ n → (matchR σ a b).1.Ok n
  | .leaf c, b, σ, hs, hw, hl => by
    simp only [matchR]
    split
    · rename_i hv
      cases hc : σ c with
      | none => exact hs.set hv hw hl
      | some t => exact hs
    · exact hs
  | .un c t, b, σ, hs, hw, hl => by
    cases b <;> simp only [matchR] <;> try exact hs
    rename_i d u
    split
    · exact matchR_ok t u σ hs hw.2 (by simp [Ty.text] at hl; omega)
    · exact hs
  | .bin c t t2, b, σ, hs, hw, hl => by
    cases b <;> simp only [matchR] <;> try exact hs
    rename_i d u u2
    simp [Ty.text] at hl
    have h1 := matchR_ok t u σ hs hw.2.1 (by omega)
    split
    · split
      · exact matchR_ok t2 u2 _ h1 hw.2.2 (by omega)
      · exact h1
    · exact hs
end Go.Isea

namespace Go.Proofs.YtnocdggngfiebaaGreatDoor
open Go Go.Isea
@[go_sem] theorem tf_und_2 : Program.underlying Tryz.prog 2 = some (.int .i64) := by kernel_rfl
@[go_sem] theorem tf_LT_3 : LT Tryz.prog 3 = some (false, 1) := by kernel_rfl
@[go_sem] theorem tf_ZV_3 : ZV Tryz.prog 3 = some (.int .i64 (0)) := by kernel_rfl
@[go_sem] theorem tf_isPtr_3 : isPtr Tryz.prog 3 = false := by kernel_rfl
@[go_sem] theorem tf_und_3 : Program.underlying Tryz.prog 3 = some (.int .i64) := by kernel_rfl
@[go_sem] theorem tf_LT_4 : LT Tryz.prog 4 = some (false, 1) := by kernel_rfl
@[go_sem] theorem tf_isPtr_4 : isPtr Tryz.prog 4 = false := by kernel_rfl
@[go_sem] theorem tf_und_4 : Program.underlying Tryz.prog 4 = some .bool := by kernel_rfl
@[go_sem] theorem tf_LT_5 : LT Tryz.prog 5 = some (false, 1) := by kernel_rfl
@[go_sem] theorem tf_isPtr_5 : isPtr Tryz.prog 5 = false := by kernel_rfl
@[go_sem] theorem tf_und_5 : Program.underlying Tryz.prog 5 = some (.int .u8) := by kernel_rfl
@[go_sem] theorem tf_LT_9 : LT Tryz.prog 9 = some (false, 1) := by kernel_rfl
@[go_sem] theorem tf_isPtr_9 : isPtr Tryz.prog 9 = false := by kernel_rfl
@[go_sem] theorem tf_isStr_9 : isStr Tryz.prog 9 = true := by kernel_rfl
@[go_sem] theorem tf_und_9 : Program.underlying Tryz.prog 9 = some .string := by kernel_rfl
@[go_sem] theorem tf_und_21 : Program.underlying Tryz.prog 21 = some (.int .i32) := by kernel_rfl
@[go_sem] theorem tf_AP_22 : AP Tryz.prog 22 = some (5, 1, 1, .int .u8 (0)) := by kernel_rfl
@[go_sem] theorem tf_EO_22 : EO Tryz.prog 22 = some (none, false, 1) := by kernel_rfl
@[go_sem] theorem tf_LT_22 : LT Tryz.prog 22 = some (false, 1) := by kernel_rfl
@[go_sem] theorem tf_isBytes_22_9 : isBytes Tryz.prog 22 9 = true := by kernel_rfl
@[go_sem] theorem tf_isStr_22 : isStr Tryz.prog 22 = false := by kernel_rfl
@[go_sem] theorem tf_und_22 : Program.underlying Tryz.prog 22 = some (.slice 5) := by kernel_rfl
@[go_sem] theorem tf_AP_23 : AP Tryz.prog 23 = some (122, 2, 32, .agg #[.string ⟨#[]⟩, .string ⟨#[]⟩]) := by kernel_rfl
@[go_sem] theorem tf_EO_23 : EO Tryz.prog 23 = some (none, true, 2) := by kernel_rfl
@[go_sem] theorem tf_LT_23 : LT Tryz.prog 23 = some (false, 1) := by kernel_rfl
@[go_sem] theorem tf_isPtr_23 : isPtr Tryz.prog 23 = false := by kernel_rfl
@[go_sem] theorem tf_isSl_23 : isSl Tryz.prog 23 = true := by kernel_rfl
@[go_sem] theorem tf_isStr_23 : isStr Tryz.prog 23 = false := by kernel_rfl
@[go_sem] theorem tf_und_23 : Program.underlying Tryz.prog 23 = some (.slice 122) := by kernel_rfl
@[go_sem] theorem tf_AP_24 : AP Tryz.prog 24 = some (45, 3, 56, .agg #[.string ⟨#[]⟩, .string ⟨#[]⟩, .slice none 0 0]) := by kernel_rfl
@[go_sem] theorem tf_EO_24 : EO Tryz.prog 24 = some (none, true, 3) := by kernel_rfl
@[go_sem] theorem tf_LT_24 : LT Tryz.prog 24 = some (false, 1) := by kernel_rfl
@[go_sem] theorem tf_und_24 : Program.underlying Tryz.prog 24 = some (.slice 45) := by kernel_rfl
@[go_sem] theorem tf_FO_0_26 : FO Tryz.prog 26 0 = some (0, false, 1) := by kernel_rfl
@[go_sem] theorem tf_FO_1_26 : FO Tryz.prog 26 1 = some (1, false, 1) := by kernel_rfl
@[go_sem] theorem tf_LT_26 : LT Tryz.prog 26 = some (true, 2) := by kernel_rfl
@[go_sem] theorem tf_SP_26 : SP Tryz.prog 26 = some ([(0, 1), (1, 1)], .agg #[.slice none 0 0, .slice none 0 0]) := by kernel_rfl
@[go_sem] theorem tf_ZV_26 : ZV Tryz.prog 26 = some (.agg #[.slice none 0 0, .slice none 0 0]) := by kernel_rfl
@[go_sem] theorem tf_FO_0_28 : FO Tryz.prog 28 0 = some (0, false, 1) := by kernel_rfl
@[go_sem] theorem tf_FO_1_28 : FO Tryz.prog 28 1 = some (1, false, 1) := by kernel_rfl
@[go_sem] theorem tf_LT_28 : LT Tryz.prog 28 = some (true, 2) := by kernel_rfl
@[go_sem] theorem tf_SP_28 : SP Tryz.prog 28 = some ([(0, 1), (1, 1)], .agg #[.string ⟨#[]⟩, .string ⟨#[]⟩]) := by kernel_rfl
@[go_sem] theorem tf_ZV_28 : ZV Tryz.prog 28 = some (.agg #[.string ⟨#[]⟩, .string ⟨#[]⟩]) := by kernel_rfl
@[go_sem] theorem tf_isPtr_28 : isPtr Tryz.prog 28 = false := by kernel_rfl
@[go_sem] theorem tf_AP_31 : AP Tryz.prog 31 = some (28, 2, 32, .agg #[.string ⟨#[]⟩, .string ⟨#[]⟩]) := by kernel_rfl
@[go_sem] theorem tf_EO_31 : EO Tryz.prog 31 = some (none, true, 2) := by kernel_rfl
@[go_sem] theorem tf_LT_31 : LT Tryz.prog 31 = some (false, 1) := by kernel_rfl
@[go_sem] theorem tf_isPtr_31 : isPtr Tryz.prog 31 = false := by kernel_rfl
@[go_sem] theorem tf_isSl_31 : isSl Tryz.prog 31 = true := by kernel_rfl
@[go_sem] theorem tf_isStr_31 : isStr Tryz.prog 31 = false := by kernel_rfl
@[go_sem] theorem tf_und_31 : Program.underlying Tryz.prog 31 = some (.slice 28) := by kernel_rfl
@[go_sem] theorem tf_FO_0_45 : FO Tryz.prog 45 0 = some (0, true, 2) := by kernel_rfl
@[go_sem] theorem tf_FO_1_45 : FO Tryz.prog 45 1 = some (2, false, 1) := by kernel_rfl
@[go_sem] theorem tf_LT_45 : LT Tryz.prog 45 = some (true, 3) := by kernel_rfl
@[go_sem] theorem tf_SP_45 : SP Tryz.prog 45 = some ([(0, 2), (2, 1)], .agg #[.string ⟨#[]⟩, .string ⟨#[]⟩, .slice none 0 0]) := by kernel_rfl
@[go_sem] theorem tf_ZV_45 : ZV Tryz.prog 45 = some (.agg #[.string ⟨#[]⟩, .string ⟨#[]⟩, .slice none 0 0]) := by kernel_rfl
@[go_sem] theorem tf_AP_46 : AP Tryz.prog 46 = some (50, 2, 24, .agg #[.int .i64 (0), .string ⟨#[]⟩]) := by kernel_rfl
@[go_sem] theorem tf_EO_46 : EO Tryz.prog 46 = some (none, true, 2) := by kernel_rfl
@[go_sem] theorem tf_und_46 : Program.underlying Tryz.prog 46 = some (.slice 50) := by kernel_rfl
@[go_sem] theorem tf_FO_0_50 : FO Tryz.prog 50 0 = some (0, false, 1) := by kernel_rfl
@[go_sem] theorem tf_FO_1_50 : FO Tryz.prog 50 1 = some (1, false, 1) := by kernel_rfl
@[go_sem] theorem tf_LT_50 : LT Tryz.prog 50 = some (true, 2) := by kernel_rfl
@[go_sem] theorem tf_SP_50 : SP Tryz.prog 50 = some ([(0, 1), (1, 1)], .agg #[.int .i64 (0), .string ⟨#[]⟩]) := by kernel_rfl
@[go_sem] theorem tf_ZV_50 : ZV Tryz.prog 50 = some (.agg #[.int .i64 (0), .string ⟨#[]⟩]) := by kernel_rfl
@[go_sem] theorem tf_isPtr_50 : isPtr Tryz.prog 50 = false := by kernel_rfl
@[go_sem] theorem tf_AP_67 : AP Tryz.prog 67 = some (3, 1, 8, .int .i64 (0)) := by kernel_rfl
@[go_sem] theorem tf_EO_67 : EO Tryz.prog 67 = some (none, false, 1) := by kernel_rfl
@[go_sem] theorem tf_LT_67 : LT Tryz.prog 67 = some (false, 1) := by kernel_rfl
@[go_sem] theorem tf_und_67 : Program.underlying Tryz.prog 67 = some (.slice 3) := by kernel_rfl
@[go_sem] theorem tf_EO_71 : EO Tryz.prog 71 = some (none, true, 2) := by kernel_rfl
@[go_sem] theorem tf_LT_71 : LT Tryz.prog 71 = some (false, 1) := by kernel_rfl
@[go_sem] theorem tf_und_71 : Program.underlying Tryz.prog 71 = some (.slice 217) := by kernel_rfl
@[go_sem] theorem tf_EO_72 : EO Tryz.prog 72 = some (none, true, 3) := by kernel_rfl
@[go_sem] theorem tf_LT_72 : LT Tryz.prog 72 = some (false, 1) := by kernel_rfl
@[go_sem] theorem tf_und_72 : Program.underlying Tryz.prog 72 = some (.slice 222) := by kernel_rfl
@[go_sem] theorem tf_FO_0_74 : FO Tryz.prog 74 0 = some (0, false, 1) := by kernel_rfl
@[go_sem] theorem tf_FO_1_74 : FO Tryz.prog 74 1 = some (1, false, 1) := by kernel_rfl
@[go_sem] theorem tf_LT_74 : LT Tryz.prog 74 = some (true, 2) := by kernel_rfl
@[go_sem] theorem tf_AP_82 : AP Tryz.prog 82 = some (67, 1, 24, .slice none 0 0) := by kernel_rfl
@[go_sem] theorem tf_EO_82 : EO Tryz.prog 82 = some (none, false, 1) := by kernel_rfl
@[go_sem] theorem tf_und_82 : Program.underlying Tryz.prog 82 = some (.slice 67) := by kernel_rfl
@[go_sem] theorem tf_AP_91 : AP Tryz.prog 91 = some (9, 1, 16, .string ⟨#[]⟩) := by kernel_rfl
@[go_sem] theorem tf_EO_91 : EO Tryz.prog 91 = some (none, false, 1) := by kernel_rfl
@[go_sem] theorem tf_LT_91 : LT Tryz.prog 91 = some (false, 1) := by kernel_rfl
@[go_sem] theorem tf_isPtr_91 : isPtr Tryz.prog 91 = false := by kernel_rfl
@[go_sem] theorem tf_isSl_91 : isSl Tryz.prog 91 = true := by kernel_rfl
@[go_sem] theorem tf_isStr_91 : isStr Tryz.prog 91 = false := by kernel_rfl
@[go_sem] theorem tf_und_91 : Program.underlying Tryz.prog 91 = some (.slice 9) := by kernel_rfl
@[go_sem] theorem tf_LT_101 : LT Tryz.prog 101 = some (false, 1) := by kernel_rfl
@[go_sem] theorem tf_FO_0_103 : FO Tryz.prog 103 0 = some (0, true, 2) := by kernel_rfl
@[go_sem] theorem tf_FO_1_103 : FO Tryz.prog 103 1 = some (2, false, 1) := by kernel_rfl
@[go_sem] theorem tf_FO_2_103 : FO Tryz.prog 103 2 = some (3, false, 1) := by kernel_rfl
@[go_sem] theorem tf_SP_103 : SP Tryz.prog 103 = some ([(0, 2), (2, 1), (3, 1)], .agg #[.slice none 0 0, .slice none 0 0, .slice none 0 0, .int .i64 (0)]) := by kernel_rfl
@[go_sem] theorem tf_FO_0_107 : FO Tryz.prog 107 0 = some (0, true, 2) := by kernel_rfl
@[go_sem] theorem tf_FO_1_107 : FO Tryz.prog 107 1 = some (2, false, 1) := by kernel_rfl
@[go_sem] theorem tf_FO_2_107 : FO Tryz.prog 107 2 = some (3, false, 1) := by kernel_rfl
@[go_sem] theorem tf_SP_107 : SP Tryz.prog 107 = some ([(0, 2), (2, 1), (3, 1)], .agg #[.slice none 0 0, .slice none 0 0, .slice none 0 0, .int .i64 (0)]) := by kernel_rfl
@[go_sem] theorem tf_FO_0_122 : FO Tryz.prog 122 0 = some (0, false, 1) := by kernel_rfl
@[go_sem] theorem tf_FO_1_122 : FO Tryz.prog 122 1 = some (1, false, 1) := by kernel_rfl
@[go_sem] theorem tf_LT_122 : LT Tryz.prog 122 = some (true, 2) := by kernel_rfl
@[go_sem] theorem tf_SP_122 : SP Tryz.prog 122 = some ([(0, 1), (1, 1)], .agg #[.string ⟨#[]⟩, .string ⟨#[]⟩]) := by kernel_rfl
@[go_sem] theorem tf_ZV_122 : ZV Tryz.prog 122 = some (.agg #[.string ⟨#[]⟩, .string ⟨#[]⟩]) := by kernel_rfl
@[go_sem] theorem tf_FO_0_132 : FO Tryz.prog 132 0 = some (0, true, 2) := by kernel_rfl
@[go_sem] theorem tf_FO_1_132 : FO Tryz.prog 132 1 = some (2, false, 1) := by kernel_rfl
@[go_sem] theorem tf_FO_2_132 : FO Tryz.prog 132 2 = some (3, false, 1) := by kernel_rfl
@[go_sem] theorem tf_FO_3_132 : FO Tryz.prog 132 3 = some (4, false, 1) := by kernel_rfl
@[go_sem] theorem tf_SP_132 : SP Tryz.prog 132 = some ([(0, 2), (2, 1), (3, 1), (4, 1)], .agg #[.slice none 0 0, .slice none 0 0, .slice none 0 0, .int .i64 (0), .string ⟨#[]⟩]) := by kernel_rfl
@[go_sem] theorem tf_FO_0_136 : FO Tryz.prog 136 0 = some (0, true, 2) := by kernel_rfl
@[go_sem] theorem tf_FO_1_136 : FO Tryz.prog 136 1 = some (2, false, 1) := by kernel_rfl
@[go_sem] theorem tf_FO_2_136 : FO Tryz.prog 136 2 = some (3, false, 1) := by kernel_rfl
@[go_sem] theorem tf_FO_3_136 : FO Tryz.prog 136 3 = some (4, false, 1) := by kernel_rfl
@[go_sem] theorem tf_SP_136 : SP Tryz.prog 136 = some ([(0, 2), (2, 1), (3, 1), (4, 1)], .agg #[.slice none 0 0, .slice none 0 0, .slice none 0 0, .string ⟨#[]⟩, .int .i64 (0)]) := by kernel_rfl
@[go_sem] theorem tf_LT_138 : LT Tryz.prog 138 = some (false, 1) := by kernel_rfl
@[go_sem] theorem tf_FO_0_146 : FO Tryz.prog 146 0 = some (0, true, 2) := by kernel_rfl
@[go_sem] theorem tf_FO_1_146 : FO Tryz.prog 146 1 = some (2, false, 1) := by kernel_rfl
@[go_sem] theorem tf_FO_2_146 : FO Tryz.prog 146 2 = some (3, false, 1) := by kernel_rfl
@[go_sem] theorem tf_FO_3_146 : FO Tryz.prog 146 3 = some (4, false, 1) := by kernel_rfl
@[go_sem] theorem tf_FO_4_146 : FO Tryz.prog 146 4 = some (5, false, 1) := by kernel_rfl
@[go_sem] theorem tf_SP_146 : SP Tryz.prog 146 = some ([(0, 2), (2, 1), (3, 1), (4, 1), (5, 1)], .agg #[.slice none 0 0, .slice none 0 0, .bool false, .slice none 0 0, .slice none 0 0, .string ⟨#[]⟩]) := by kernel_rfl
@[go_sem] theorem tf_LT_163 : LT Tryz.prog 163 = some (false, 1) := by kernel_rfl
@[go_sem] theorem tf_isPtr_163 : isPtr Tryz.prog 163 = true := by kernel_rfl
@[go_sem] theorem tf_und_163 : Program.underlying Tryz.prog 163 = some (.pointer 244) := by kernel_rfl
@[go_sem] theorem tf_isStr_165 : isStr Tryz.prog 165 = false := by kernel_rfl
@[go_sem] theorem tf_und_165 : Program.underlying Tryz.prog 165 = some (.map 9 163) := by kernel_rfl
@[go_sem] theorem tf_LT_175 : LT Tryz.prog 175 = some (false, 1) := by kernel_rfl
@[go_sem] theorem tf_isPtr_175 : isPtr Tryz.prog 175 = true := by kernel_rfl
@[go_sem] theorem tf_und_175 : Program.underlying Tryz.prog 175 = some (.pointer 253) := by kernel_rfl
@[go_sem] theorem tf_FO_0_182 : FO Tryz.prog 182 0 = some (0, false, 1) := by kernel_rfl
@[go_sem] theorem tf_FO_1_182 : FO Tryz.prog 182 1 = some (1, false, 1) := by kernel_rfl
@[go_sem] theorem tf_SP_182 : SP Tryz.prog 182 = some ([(0, 1), (1, 1)], .agg #[.slice none 0 0, .int .i64 (0)]) := by kernel_rfl
@[go_sem] theorem tf_ZV_189 : ZV Tryz.prog 189 = some (.agg #[.pointer none, .slice none 0 0]) := by kernel_rfl
@[go_sem] theorem tf_LT_207 : LT Tryz.prog 207 = some (false, 1) := by kernel_rfl
@[go_sem] theorem tf_FO_0_209 : FO Tryz.prog 209 0 = some (0, true, 2) := by kernel_rfl
@[go_sem] theorem tf_FO_1_209 : FO Tryz.prog 209 1 = some (2, false, 1) := by kernel_rfl
@[go_sem] theorem tf_FO_2_209 : FO Tryz.prog 209 2 = some (3, false, 1) := by kernel_rfl
@[go_sem] theorem tf_FO_3_209 : FO Tryz.prog 209 3 = some (4, false, 1) := by kernel_rfl
@[go_sem] theorem tf_FO_4_209 : FO Tryz.prog 209 4 = some (5, true, 2) := by kernel_rfl
@[go_sem] theorem tf_FO_5_209 : FO Tryz.prog 209 5 = some (7, false, 1) := by kernel_rfl
@[go_sem] theorem tf_SP_209 : SP Tryz.prog 209 = some ([(0, 2), (2, 1), (3, 1), (4, 1), (5, 2), (7, 1)], .agg #[.slice none 0 0, .slice none 0 0, .bool false, .nilFunc, .slice none 0 0, .string ⟨#[]⟩, .string ⟨#[]⟩, .slice none 0 0]) := by kernel_rfl
@[go_sem] theorem tf_FO_0_217 : FO Tryz.prog 217 0 = some (0, false, 1) := by kernel_rfl
@[go_sem] theorem tf_FO_1_217 : FO Tryz.prog 217 1 = some (1, false, 1) := by kernel_rfl
@[go_sem] theorem tf_LT_217 : LT Tryz.prog 217 = some (true, 2) := by kernel_rfl
@[go_sem] theorem tf_FO_0_219 : FO Tryz.prog 219 0 = some (0, false, 1) := by kernel_rfl
@[go_sem] theorem tf_FO_1_219 : FO Tryz.prog 219 1 = some (1, false, 1) := by kernel_rfl
@[go_sem] theorem tf_LT_219 : LT Tryz.prog 219 = some (true, 2) := by kernel_rfl
@[go_sem] theorem tf_EO_220 : EO Tryz.prog 220 = some (none, true, 2) := by kernel_rfl
@[go_sem] theorem tf_LT_220 : LT Tryz.prog 220 = some (false, 1) := by kernel_rfl
@[go_sem] theorem tf_und_220 : Program.underlying Tryz.prog 220 = some (.slice 219) := by kernel_rfl
@[go_sem] theorem tf_FO_0_222 : FO Tryz.prog 222 0 = some (0, true, 2) := by kernel_rfl
@[go_sem] theorem tf_FO_1_222 : FO Tryz.prog 222 1 = some (2, false, 1) := by kernel_rfl
@[go_sem] theorem tf_LT_222 : LT Tryz.prog 222 = some (true, 3) := by kernel_rfl
@[go_sem] theorem tf_LT_233 : LT Tryz.prog 233 = some (false, 1) := by kernel_rfl
@[go_sem] theorem tf_isStr_233 : isStr Tryz.prog 233 = false := by kernel_rfl
@[go_sem] theorem tf_und_233 : Program.underlying Tryz.prog 233 = some (.map 9 91) := by kernel_rfl
@[go_sem] theorem tf_FO_0_236 : FO Tryz.prog 236 0 = some (0, true, 2) := by kernel_rfl
@[go_sem] theorem tf_FO_1_236 : FO Tryz.prog 236 1 = some (2, false, 1) := by kernel_rfl
@[go_sem] theorem tf_FO_2_236 : FO Tryz.prog 236 2 = some (3, false, 1) := by kernel_rfl
@[go_sem] theorem tf_FO_3_236 : FO Tryz.prog 236 3 = some (4, false, 1) := by kernel_rfl
@[go_sem] theorem tf_SP_236 : SP Tryz.prog 236 = some ([(0, 2), (2, 1), (3, 1), (4, 1)], .agg #[.slice none 0 0, .slice none 0 0, .map none, .map none, .bool false]) := by kernel_rfl
@[go_sem] theorem tf_AP_242 : AP Tryz.prog 242 = some (163, 1, 8, .pointer none) := by kernel_rfl
@[go_sem] theorem tf_EO_242 : EO Tryz.prog 242 = some (none, false, 1) := by kernel_rfl
@[go_sem] theorem tf_LT_242 : LT Tryz.prog 242 = some (false, 1) := by kernel_rfl
@[go_sem] theorem tf_und_242 : Program.underlying Tryz.prog 242 = some (.slice 163) := by kernel_rfl
@[go_sem] theorem tf_FO_0_244 : FO Tryz.prog 244 0 = some (0, false, 1) := by kernel_rfl
@[go_sem] theorem tf_FO_1_244 : FO Tryz.prog 244 1 = some (1, false, 1) := by kernel_rfl
@[go_sem] theorem tf_FO_2_244 : FO Tryz.prog 244 2 = some (2, false, 1) := by kernel_rfl
@[go_sem] theorem tf_SP_244 : SP Tryz.prog 244 = some ([(0, 1), (1, 1), (2, 1)], .agg #[.string ⟨#[]⟩, .slice none 0 0, .pointer none]) := by kernel_rfl
@[go_sem] theorem tf_isStr_246 : isStr Tryz.prog 246 = false := by kernel_rfl
@[go_sem] theorem tf_und_246 : Program.underlying Tryz.prog 246 = some (.map 163 4) := by kernel_rfl
@[go_sem] theorem tf_AP_251 : AP Tryz.prog 251 = some (175, 1, 8, .pointer none) := by kernel_rfl
@[go_sem] theorem tf_EO_251 : EO Tryz.prog 251 = some (none, false, 1) := by kernel_rfl
@[go_sem] theorem tf_LT_251 : LT Tryz.prog 251 = some (false, 1) := by kernel_rfl
@[go_sem] theorem tf_und_251 : Program.underlying Tryz.prog 251 = some (.slice 175) := by kernel_rfl
@[go_sem] theorem tf_FO_0_253 : FO Tryz.prog 253 0 = some (0, false, 1) := by kernel_rfl
@[go_sem] theorem tf_FO_1_253 : FO Tryz.prog 253 1 = some (1, false, 1) := by kernel_rfl
@[go_sem] theorem tf_SP_253 : SP Tryz.prog 253 = some ([(0, 1), (1, 1)], .agg #[.int .i64 (0), .slice none 0 0]) := by kernel_rfl
@[go_sem] theorem tf_AP_254 : AP Tryz.prog 254 = some (297, 2, 32, .agg #[.string ⟨#[]⟩, .string ⟨#[]⟩]) := by kernel_rfl
@[go_sem] theorem tf_EO_254 : EO Tryz.prog 254 = some (none, true, 2) := by kernel_rfl
@[go_sem] theorem tf_und_254 : Program.underlying Tryz.prog 254 = some (.slice 297) := by kernel_rfl
@[go_sem] theorem tf_AP_271 : AP Tryz.prog 271 = some (273, 2, 32, .agg #[.int .u8 (0), .slice none 0 0]) := by kernel_rfl
@[go_sem] theorem tf_EO_271 : EO Tryz.prog 271 = some (none, true, 2) := by kernel_rfl
@[go_sem] theorem tf_LT_271 : LT Tryz.prog 271 = some (false, 1) := by kernel_rfl
@[go_sem] theorem tf_und_271 : Program.underlying Tryz.prog 271 = some (.slice 273) := by kernel_rfl
@[go_sem] theorem tf_FO_0_273 : FO Tryz.prog 273 0 = some (0, false, 1) := by kernel_rfl
@[go_sem] theorem tf_FO_1_273 : FO Tryz.prog 273 1 = some (1, false, 1) := by kernel_rfl
@[go_sem] theorem tf_LT_273 : LT Tryz.prog 273 = some (true, 2) := by kernel_rfl
@[go_sem] theorem tf_SP_273 : SP Tryz.prog 273 = some ([(0, 1), (1, 1)], .agg #[.int .u8 (0), .slice none 0 0]) := by kernel_rfl
@[go_sem] theorem tf_ZV_273 : ZV Tryz.prog 273 = some (.agg #[.int .u8 (0), .slice none 0 0]) := by kernel_rfl
@[go_sem] theorem tf_EO_278 : EO Tryz.prog 278 = some (some 12, true, 2) := by kernel_rfl
@[go_sem] theorem tf_SP_278 : SP Tryz.prog 278 = some ([(0, 2), (2, 2), (4, 2), (6, 2), (8, 2), (10, 2), (12, 2), (14, 2), (16, 2), (18, 2), (20, 2), (22, 2)], .agg #[.int .u8 (0), .slice none 0 0, .int .u8 (0), .slice none 0 0, .int .u8 (0), .slice none 0 0, .int .u8 (0), .slice none 0 0, .int .u8 (0), .slice none 0 0, .int .u8 (0), .slice none 0 0, .int .u8 (0), .slice none 0 0, .int .u8 (0), .slice none 0 0, .int .u8 (0), .slice none 0 0, .int .u8 (0), .slice none 0 0, .int .u8 (0), .slice none 0 0, .int .u8 (0), .slice none 0 0]) := by kernel_rfl
@[go_sem] theorem tf_AP_289 : AP Tryz.prog 289 = some (91, 1, 24, .slice none 0 0) := by kernel_rfl
@[go_sem] theorem tf_EO_289 : EO Tryz.prog 289 = some (none, false, 1) := by kernel_rfl
@[go_sem] theorem tf_und_289 : Program.underlying Tryz.prog 289 = some (.slice 91) := by kernel_rfl
@[go_sem] theorem tf_LT_292 : LT Tryz.prog 292 = some (false, 1) := by kernel_rfl
@[go_sem] theorem tf_MT_292 : MT Tryz.prog 292 = some (str []) := by kernel_rfl
@[go_sem] theorem tf_isStr_292 : isStr Tryz.prog 292 = false := by kernel_rfl
@[go_sem] theorem tf_und_292 : Program.underlying Tryz.prog 292 = some (.map 9 9) := by kernel_rfl
@[go_sem] theorem tf_FO_0_297 : FO Tryz.prog 297 0 = some (0, false, 1) := by kernel_rfl
@[go_sem] theorem tf_FO_1_297 : FO Tryz.prog 297 1 = some (1, false, 1) := by kernel_rfl
@[go_sem] theorem tf_LT_297 : LT Tryz.prog 297 = some (true, 2) := by kernel_rfl
@[go_sem] theorem tf_SP_297 : SP Tryz.prog 297 = some ([(0, 1), (1, 1)], .agg #[.string ⟨#[]⟩, .string ⟨#[]⟩]) := by kernel_rfl
@[go_sem] theorem tf_ZV_297 : ZV Tryz.prog 297 = some (.agg #[.string ⟨#[]⟩, .string ⟨#[]⟩]) := by kernel_rfl
@[go_sem] theorem tf_und_304 : Program.underlying Tryz.prog 304 = some (.int .u64) := by kernel_rfl
@[go_sem] theorem tf_EO_307 : EO Tryz.prog 307 = some (some 24, false, 1) := by kernel_rfl
@[go_sem] theorem tf_ZV_307 : ZV Tryz.prog 307 = some (.agg #[.int .u8 (0), .int .u8 (0), .int .u8 (0), .int .u8 (0), .int .u8 (0), .int .u8 (0), .int .u8 (0), .int .u8 (0), .int .u8 (0), .int .u8 (0), .int .u8 (0), .int .u8 (0), .int .u8 (0), .int .u8 (0), .int .u8 (0), .int .u8 (0), .int .u8 (0), .int .u8 (0), .int .u8 (0), .int .u8 (0), .int .u8 (0), .int .u8 (0), .int .u8 (0), .int .u8 (0)]) := by kernel_rfl
@[go_sem] theorem tf_isStr_307 : isStr Tryz.prog 307 = false := by kernel_rfl
@[go_sem] theorem tf_LT_308 : LT Tryz.prog 308 = some (false, 1) := by kernel_rfl
@[go_sem] theorem tf_und_308 : Program.underlying Tryz.prog 308 = some (.int .u64) := by kernel_rfl
@[go_sem] theorem tf_FO_0_315 : FO Tryz.prog 315 0 = some (0, false, 1) := by kernel_rfl
@[go_sem] theorem tf_FO_1_315 : FO Tryz.prog 315 1 = some (1, false, 1) := by kernel_rfl
@[go_sem] theorem tf_FO_2_315 : FO Tryz.prog 315 2 = some (2, false, 1) := by kernel_rfl
@[go_sem] theorem tf_SP_315 : SP Tryz.prog 315 = some ([(0, 1), (1, 1), (2, 1)], .agg #[.string ⟨#[]⟩, .int .i64 (0), .bool false]) := by kernel_rfl
@[go_sem] theorem tf_und_322 : Program.underlying Tryz.prog 322 = some (.func #[108] #[] false) := by kernel_rfl
@[go_sem] theorem tf_und_324 : Program.underlying Tryz.prog 324 = some (.int .u32) := by kernel_rfl
@[go_sem] theorem tf_EO_331 : EO Tryz.prog 331 = some (some 20, false, 1) := by kernel_rfl
@[go_sem] theorem tf_EO_332 : EO Tryz.prog 332 = some (some 65, false, 1) := by kernel_rfl
@[go_sem] theorem tf_ZV_332 : ZV Tryz.prog 332 = some (.agg #[.int .u8 (0), .int .u8 (0), .int .u8 (0), .int .u8 (0), .int .u8 (0), .int .u8 (0), .int .u8 (0), .int .u8 (0), .int .u8 (0), .int .u8 (0), .int .u8 (0), .int .u8 (0), .int .u8 (0), .int .u8 (0), .int .u8 (0), .int .u8 (0), .int .u8 (0), .int .u8 (0), .int .u8 (0), .int .u8 (0), .int .u8 (0), .int .u8 (0), .int .u8 (0), .int .u8 (0), .int .u8 (0), .int .u8 (0), .int .u8 (0), .int .u8 (0), .int .u8 (0), .int .u8 (0), .int .u8 (0), .int .u8 (0), .int .u8 (0), .int .u8 (0), .int .u8 (0), .int .u8 (0), .int .u8 (0), .int .u8 (0), .int .u8 (0), .int .u8 (0), .int .u8 (0), .int .u8 (0), .int .u8 (0), .int .u8 (0), .int .u8 (0), .int .u8 (0), .int .u8 (0), .int .u8 (0), .int .u8 (0), .int .u8 (0), .int .u8 (0), .int .u8 (0), .int .u8 (0), .int .u8 (0), .int .u8 (0), .int .u8 (0), .int .u8 (0), .int .u8 (0), .int .u8 (0), .int .u8 (0), .int .u8 (0), .int .u8 (0), .int .u8 (0), .int .u8 (0), .int .u8 (0)]) := by kernel_rfl
@[go_sem] theorem tf_isStr_332 : isStr Tryz.prog 332 = false := by kernel_rfl
@[go_sem] theorem tf_isPtr_344 : isPtr Tryz.prog 344 = false := by kernel_rfl
@[go_sem] theorem tf_und_344 : Program.underlying Tryz.prog 344 = some (.int .i64) := by kernel_rfl
@[go_sem] theorem tf_LT_351 : LT Tryz.prog 351 = some (false, 1) := by kernel_rfl
@[go_sem] theorem tf_ZV_351 : ZV Tryz.prog 351 = some (.int .u64 (0)) := by kernel_rfl
@[go_sem] theorem tf_und_351 : Program.underlying Tryz.prog 351 = some (.int .u64) := by kernel_rfl
theorem mixed : Tryz.prog.follows .mixedOrders = true := by kernel_rfl
end Go.Proofs.YtnocdggngfiebaaGreatDoor
