/- Contracts of functions of this program, for all arguments that satisfy what each lemma asks for. -/
import Derived.Test.YtnocdggngfiebaaGreatDoorMi
import Derived.Test.YtnocdggngfiebaaGreatDoorMk
import Derived.Test.YtnocdggngfiebaaGreatDoorMe
set_option linter.all false
namespace Go.Isea
open Go
def onceL (l : List Need) (n : Need) : List Need := if n ∈ l then l else l ++ [n]
def onceA (l : List Need) : List Need → List Need
  | [] => l
  | n :: ns => onceA (onceL l n) ns
abbrev RdS := List Need × Nat
def redL (fd : Need → RdS → Bool × RdS) : List Need → RdS → Bool × RdS
  | [], s => (true, s)
  | m :: ms, s => if (fd m s).1 = true then redL fd ms (fd m s).2 else (false, (fd m s).2)
def redB (fd : Need → RdS → Bool × RdS) (w : Wld) (n : Need) (s : RdS) : Bool × RdS := match candIx w n with
  | [k] => if 300 ≤ s.2 then (false, s) else (match w.is[k]? with
    | some i => (match needsOf i n.t with
      | some ms => redL fd ms (s.1, s.2 + 1)
      | none => (false, (s.1, s.2 + 1)))
    | none => (false, s))
  | _ => (false, s)
def redF (w : Wld) : Nat → Need → RdS → Bool × RdS
  | 0, n, s => if isV (n.t.headD 0) = true then (true, (onceL s.1 n, s.2)) else (false, s)
  | f + 1, n, s => if isV (n.t.headD 0) = true then (true, (onceL s.1 n, s.2)) else redB (redF w f) w n s
def reduceN (w : Wld) (n : Need) : Option (List Need) := if (worldOk w && needOk w n) = true then (if (redF w 31 n ([], 0)).1 = true then some (redF w 31 n ([], 0)).2.1 else none) else none
/-- the needs for the gaps, behind those that an instance has -/
def fullL (w : Wld) (x : Inst) : L8 → List Need → Option (List Need)
  | [], l => some l
  | d :: ds, l => match reduceN w ⟨[d], x.t⟩ with
    | some r => fullL w x ds (onceA l r)
    | none => none
def fullN (w : Wld) (i : Int) : Option (List Need) := match instAt w i with
  | some x => fullL w x (gapL w x) x.ns
  | none => none
def closedB (w : Wld) : Bool := worldOk w && decide (gapsOf w = [])
def closeL' (w : Wld) : List Inst → Nat → Option (List Inst)
  | [], _ => some []
  | x :: xs, k => match fullN w (k : Nat), closeL' w xs (k + 1) with
    | some ns, some r => some (⟨x.c, x.t, ns⟩ :: r)
    | _, _ => none
def closeW (w : Wld) : Option Wld := if worldOk w = true then (match closeL' w w.is 0 with
  | some is => if closedB ⟨w.cs, is⟩ = true then some ⟨w.cs, is⟩ else none
  | none => none) else none
def leastG (w : Wld) : Nat → List Need → List Need
  | 0, l => l
  | k + 1, l => leastG w k (match l[k]? with
    | some g => if (findGiven w (l.eraseIdx k) g).2 = [] then l.eraseIdx k else l
    | none => l)
def leastGivens (w : Wld) (gs : List Need) : Option (List Need) := if givensOk w gs = true then some (leastG w gs.length gs) else none
end Go.Isea

namespace Go.Isea
open Go
/-- how much a need adds: leaves against inner ones -/
def RBd (k : Nat) (s r : RdS) : Prop := r.1.length + 2 * s.2 ≤ s.1.length + k + 2 * r.2 ∧ s.2 ≤ r.2 ∧ (s.2 ≤ 300 → r.2 ≤ 300)
end Go.Isea

namespace Go.Isea
open Go
end Go.Isea

namespace Go.Isea
open Go
/-- rows of needs, one after another, above a memory -/
def memR (e : Nat) (h : AH) (Ls : List (List Need)) : AH := ⟨h.n + Ls.length, fun t => if t < h.n then h.o t else .rows e 2 (((Ls[t - h.n]?).getD []).map Need.row)⟩
/-- rows, the row that is left, its length -/
abbrev LsT := List (List Need) × Nat × Nat
def lsVal (s : LsT) : List Need := ((s.1[s.2.1]?).getD []).take s.2.2
def lsOk (s : LsT) : Prop := s.2.1 < s.1.length ∧ s.2.2 ≤ ((s.1[s.2.1]?).getD []).length
def lsNext (w : Wld) (k : Nat) (g : Need) (s : LsT) : LsT :=
  if (findGiven w ((lsVal s).eraseIdx k) g).2 = [] then (s.1 ++ [(lsVal s).eraseIdx k ++ [⟨[], []⟩]], s.1.length, (lsVal s).length - 1) else (s.1 ++ [(lsVal s).eraseIdx k ++ [⟨[], []⟩]], s.2.1, s.2.2)
def leastM (w : Wld) : Nat → LsT → LsT
  | 0, s => s
  | k + 1, s => match (lsVal s)[k]? with
    | some g => leastM w k (lsNext w k g s)
    | none => leastM w k s
end Go.Isea

namespace Go.Isea
open Go
section
variable {P : Program} {t : TypeId} {p q : Operand} {h h' : AH}
theorem sem_slnil {el : TypeId} (hu : P.underlying t = some (.slice el)) {a : Addr} {n c : Nat} : semPure P (Op.equal t (.slice (some a) n c) (.slice none 0 0)) = some false := by
  show semPure P (Op.equalIn (9999 + 1) t _ _) = _
  rw [Op.equalIn, semPure_bind', semPure_und hu]
  rfl
@[go_sem] theorem bin_sln {a : Addr} {n c : Nat} (hp : isSl P t = true) : abin P .eql t p q (.v (.slice (some a) n c)) (.v (.slice none 0 0)) = some (.v (.bool false)) := by
  obtain ⟨el, hu⟩ := und_sl hp
  exact bin_eq_sem rfl rfl (sem_slnil hu)
/-- less told at a contract's end -/
theorem Good.fin {k : FuncId} {args : List AV} {T : List Nat} {x r : AV} {h1 : AH} (hg : Isea.Good P k args h T x h1) (hf : FinS T h h1 x h' r) : Isea.Good P k args h T r h' :=
  ⟨hg.1, fun K w vs hK hvs => (hg.2 K w vs hK hvs).mono (by
    rintro e w' ⟨K', v, rfl, hK', hE, hr⟩
    obtain ⟨a, b, c⟩ := fin_sound hK hK' hE hf hr
    exact ⟨K', v, rfl, a, b, c⟩)⟩
/-- a slice without parts, whatever its header -/
theorem Good.sl0 {k : FuncId} {T : List Nat} {r : AV} (hg : ∀ a c, Isea.Good P k [.v (.slice a 0 c)] h T r h') : Isea.Good P k [.sl []] h T r h' := by
  refine ⟨(hg none 0).1, fun K w vs hK hvs => ?_⟩
  obtain ⟨u, rfl, hu⟩ := repL_one hvs
  have : ∃ a c, u = .slice a 0 c := by
    cases hu with
    | sl0 a c => exact ⟨a, c, rfl⟩
    | sl hi hlc hsz hcell hr => exact ⟨_, _, rfl⟩
  obtain ⟨a, c, rfl⟩ := this
  refine (hg a c).2 K w _ hK ⟨rfl, fun i x y h1 h2 => ?_⟩
  rcases i with _ | i
  · simp at h1 h2; subst h1; subst h2; exact .v _
  · simp at h1
end
end Go.Isea
namespace Go.Proofs.YtnocdggngfiebaaGreatDoor
open Go Go.Isea
set_option maxRecDepth 100000
set_option maxHeartbeats 4000000
end Go.Proofs.YtnocdggngfiebaaGreatDoor

namespace Go.Isea
open Go
def cutH (k : Value) (len : Nat) : Value := match k with
  | .slice a _ c => .slice a len c
  | x => x
theorem ownsR.short {w : World} {e : TypeId} {sz n len : Nat} {k : Value} {xs : List Value} (h : ownsR w e sz k n xs) (hl : len ≤ n) : ownsR w e sz (cutH k len) len (xs.take (len * sz)) := by
  refine ⟨?_, ?_⟩
  · rw [List.length_take, h.1]
    exact Nat.min_eq_left (Nat.mul_le_mul_right _ hl)
  · rcases h.2 with ⟨rfl, rfl⟩ | ⟨g, cap, cur, rfl, h0, h1, h2, h3, h4, h5⟩
    · have : len = 0 := by omega
      subst this
      exact .inl ⟨rfl, rfl⟩
    · refine .inr ⟨g, cap, cur, rfl, h0, h1, by omega, h3, h4, ?_⟩
      rw [← h5, List.take_take, Nat.min_eq_left (Nat.mul_le_mul_right _ hl)]
section
variable {P : Program} {k : FuncId} {args : List AV} {h h1 : AH} {e sz n len t : Nat} {rs : List (List AV)} {v : Value}
end
end Go.Isea
