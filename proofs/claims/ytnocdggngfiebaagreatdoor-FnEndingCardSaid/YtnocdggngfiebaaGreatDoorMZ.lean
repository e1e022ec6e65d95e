/- Contracts of functions of this program, for all arguments that satisfy what each lemma asks for. -/
import Derived.Test.YtnocdggngfiebaaGreatDoorMb
import Derived.Test.YtnocdggngfiebaaGreatDoorMr
import Derived.Test.YtnocdggngfiebaaGreatDoorMB
set_option linter.all false
namespace Go.Isea
/-- how many letters a type has -/
def Ty.sz : Ty → Nat
  | .leaf _ => 1
  | .un _ t => 1 + t.sz
  | .bin _ t u => 1 + t.sz + u.sz
theorem Ty.sz_pos (t : Ty) : 1 ≤ t.sz := by cases t <;> simp [Ty.sz] <;> omega
end Go.Isea

namespace Go.Isea
open Go
set_option maxRecDepth 100000
theorem varC {c : UInt8} (h : isV c = true) : c ≠ 40 ∧ c ≠ 41 ∧ c ≠ 44 := forall_u8 (p := fun c => isV c = true → c ≠ 40 ∧ c ≠ 41 ∧ c ≠ 44) (by decide +kernel) c h
/-- a need of a variable, of a class that is known -/
def VarNeed (w : Wld) (V : UInt8 → Prop) (m : Need) : Prop := ∃ c, m.t = [c] ∧ isV c = true ∧ V c ∧ 0 ≤ clsIx w.cs m.c
structure RdI (w : Wld) (V : UInt8 → Prop) (l : List Need) : Prop where
  nd : l.Nodup
  vn : ∀ m ∈ l, VarNeed w V m
theorem RdI.nil {w : Wld} {V : UInt8 → Prop} : RdI w V [] := ⟨List.nodup_nil, fun _ h => by cases h⟩
/-! without givens -/
def SameF (x : L8 × Nat × L8) (y : AskR) : Prop := x.1 = y.1 ∧ x.2.2 = y.2.2 ∧ (x.2.2 = [] → x.2.1 = y.2.1.a.length)
end Go.Isea

namespace Go.Isea
open Go
end Go.Isea

namespace Go.Isea
open Go
set_option maxRecDepth 100000
def Ty.bins : Ty → Nat
  | .leaf _ => 0
  | .un _ t => t.bins
  | .bin _ t u => 1 + t.bins + u.bins
theorem sz_len : ∀ t : Ty, t.text.length + 2 + t.bins = 3 * t.sz
  | .leaf _ => by simp [Ty.text, Ty.bins, Ty.sz]
  | .un _ t => by
    have := sz_len t
    simp only [Ty.text, Ty.bins, Ty.sz, List.length_cons, List.length_append, List.length_nil]; omega
  | .bin _ t u => by
    have := sz_len t
    have := sz_len u
    simp only [Ty.text, Ty.bins, Ty.sz, List.length_cons, List.length_append, List.length_nil]; omega
theorem bins_len : ∀ t : Ty, 5 * t.bins + 1 ≤ t.text.length ∧ 5 * t.sz ≤ 2 * t.text.length + 3
  | .leaf _ => by simp [Ty.text, Ty.bins, Ty.sz]
  | .un _ t => by
    have := bins_len t
    simp only [Ty.text, Ty.bins, Ty.sz, List.length_cons, List.length_append, List.length_nil]; omega
  | .bin _ t u => by
    have := bins_len t
    have := bins_len u
    simp only [Ty.text, Ty.bins, Ty.sz, List.length_cons, List.length_append, List.length_nil]; omega
/-- the size of a type's text, -1 for no type -/
def sizeT (l : L8) : Int := match typeOf l with
  | some t => (t.sz : Nat)
  | none => -1
/-- the variables of a type, as they stand -/
def Ty.vl : Ty → L8
  | .leaf c => if isV c = true then [c] else []
  | .un _ t => t.vl
  | .bin _ t u => t.vl ++ u.vl
def sumF (f : UInt8 → Nat) : L8 → Nat
  | [] => 0
  | c :: l => f c + sumF f l
theorem sumF_app (f : UInt8 → Nat) : ∀ a b : L8, sumF f (a ++ b) = sumF f a + sumF f b
  | [], b => by simp [sumF]
  | c :: a, b => by rw [List.cons_append, sumF, sumF, sumF_app f a b]; omega
theorem sumF_le {f : UInt8 → Nat} : ∀ {a b : L8}, (∀ c, a.count c ≤ b.count c) → sumF f a ≤ sumF f b
  | [], b, _ => by simp [sumF]
  | x :: a, b, h => by
    have hx : x ∈ b := by
      have := h x
      rw [List.count_cons_self] at this
      exact List.count_pos_iff.1 (by omega)
    obtain ⟨s, t, e⟩ := List.append_of_mem hx
    subst e
    have := sumF_le (f := f) (a := a) (b := s ++ t) fun c => by
      have := h c
      rw [List.count_append, List.count_cons, List.count_cons] at this
      rw [List.count_append]
      omega
    rw [sumF_app] at this ⊢
    simp only [sumF]
    omega
theorem vl_var {c : UInt8} : ∀ {t : Ty}, c ∈ t.vl → isV c = true
  | .leaf d, h => by
    unfold Ty.vl at h
    split at h
    · rename_i hd
      have : c = d := by simpa using h
      rw [this]; exact hd
    · cases h
  | .un _ t, h => vl_var (t := t) h
  | .bin _ t u, h => by
    rcases List.mem_append.1 h with h | h
    · exact vl_var (t := t) h
    · exact vl_var (t := u) h
theorem vl_count {c : UInt8} (hc : isV c = true) : ∀ {t : Ty}, t.wf → t.vl.count c = t.text.count c
  | .leaf d, hw => by
    unfold Ty.vl
    split
    · rfl
    · rename_i hd
      have : ¬ d = c := fun e => hd (by rw [e]; exact hc)
      simp [Ty.text, List.count_cons, this]
  | .un d t, hw => by
    have h0 := isV_ar hc
    have h1 : ar d = 1 := hw.1
    obtain ⟨v1, v2, v3⟩ := varC hc
    have hd : ¬ d = c := fun e => by rw [e] at h1; omega
    have := vl_count hc hw.2
    simp [Ty.text, Ty.vl, List.count_cons, List.count_append, hd, v1.symm, v2.symm, this]
  | .bin d t u, hw => by
    have h0 := isV_ar hc
    have h1 : ar d = 2 := hw.1
    obtain ⟨v1, v2, v3⟩ := varC hc
    have hd : ¬ d = c := fun e => by rw [e] at h1; omega
    have := vl_count hc hw.2.1
    have := vl_count hc hw.2.2
    simp [Ty.text, Ty.vl, List.count_cons, List.count_append, hd, v1.symm, v2.symm, v3.symm, *]
def extS (τ : Sub) (c : UInt8) : Nat := match τ c with
  | some u => u.sz - 1
  | none => 0
def extL (τ : Sub) (c : UInt8) : Nat := match τ c with
  | some u => u.text.length - 1
  | none => 0
theorem put_sz {τ : Sub} {n : Nat} (h : τ.Ok n) : ∀ t : Ty, (put τ t).sz = t.sz + sumF (extS τ) t.vl ∧ (put τ t).text.length = t.text.length + sumF (extL τ) t.vl
  | .leaf c => by
    unfold put
    cases hc : τ c with
    | none =>
      unfold Ty.vl
      split <;> simp [sumF, extS, extL, hc]
    | some u =>
      have hv := (h c u hc).1
      have := u.sz_pos
      have := u.text_pos
      simp only [Option.getD_some, Ty.vl, hv, if_true, sumF, extS, extL, hc, Ty.sz, Ty.text, List.length_cons, List.length_nil]
      omega
  | .un c t => by
    obtain ⟨h1, h2⟩ := put_sz h t
    simp only [put, Ty.sz, Ty.text, Ty.vl, List.length_cons, List.length_append, List.length_nil]
    omega
  | .bin c t u => by
    obtain ⟨h1, h2⟩ := put_sz h t
    obtain ⟨h3, h4⟩ := put_sz h u
    simp only [put, Ty.sz, Ty.text, Ty.vl, List.length_cons, List.length_append, List.length_nil, sumF_app]
    omega
/-- what matches is the pattern with what its variables stand for -/
theorem matchT_put : ∀ {a b : Ty} {σ τ : Sub}, matchT σ a b = some τ → a.wf → b.wf → (∀ x u, σ x = some u → τ x = some u) ∧ ∀ ρ : Sub, (∀ x u, τ x = some u → ρ x = some u) → (∀ c u, ρ c = some u → isV c = true) → put ρ a = b
  | .leaf d, b, σ, τ, h, ha, hb => by
    simp only [matchT] at h
    split at h
    · split at h
      · rename_i hn
        injection h with h; subst h
        refine ⟨fun x u hx => ?_, fun ρ hρ _ => ?_⟩
        · unfold Sub.set
          split
          · rename_i e; rw [e, hn] at hx; cases hx
          · exact hx
        · have := hρ d b (by simp [Sub.set])
          simp [put, this]
      · rename_i t ht
        split at h
        · rename_i e
          injection h with h; subst h
          refine ⟨fun x u hx => hx, fun ρ hρ _ => ?_⟩
          have := hρ d t ht
          simp [put, this, e]
        · cases h
    · rename_i hv
      split at h
      · rename_i e
        injection h with h; subst h
        refine ⟨fun x u hx => hx, fun ρ hρ hV => ?_⟩
        have hd : ρ d = none := by
          cases hd : ρ d with
          | none => rfl
          | some u => exact absurd (hV d u hd) hv
        simp [put, hd]
        exact (Ty.same_leaf ha hb e).symm
      · cases h
  | .un d t, b, σ, τ, h, ha, hb => by
    simp only [matchT] at h
    split at h
    · split at h
      · rename_i e
        obtain ⟨h1, h2⟩ := matchT_put h ha.2 hb.2
        refine ⟨h1, fun ρ hρ hV => ?_⟩
        rw [put, h2 ρ hρ hV, e]
      · cases h
    · cases h
  | .bin d t t2, b, σ, τ, h, ha, hb => by
    simp only [matchT] at h
    split at h
    · split at h
      · rename_i e
        split at h
        · rename_i κ hκ
          obtain ⟨h1, h2⟩ := matchT_put hκ ha.2.1 hb.2.1
          obtain ⟨h3, h4⟩ := matchT_put h ha.2.2 hb.2.2
          refine ⟨fun x u hx => h3 x u (h1 x u hx), fun ρ hρ hV => ?_⟩
          rw [put, h2 ρ (fun x u hx => hρ x u (h3 x u hx)) hV, h4 ρ hρ hV, e]
        · cases h
      · cases h
    · cases h
theorem matchS_put {p t : L8} {σ : Sub} (h : matchS p t = some σ) : ∃ a b, typeOf p = some a ∧ typeOf t = some b ∧ put σ a = b := by
  have hok := matchS_ok h
  unfold matchS at h
  cases ha : typeOf p with
  | none => simp [ha] at h
  | some a =>
    cases hb : typeOf t with
    | none => simp [ha, hb] at h
    | some b =>
      rw [ha, hb] at h
      simp only at h
      exact ⟨a, b, rfl, rfl, (matchT_put h (typeOf_some ha).2.1 (typeOf_some hb).2.1).2 σ (fun _ _ h => h) (fun c u h => (hok c u h).1)⟩
/-- is a need's type smaller than that of its instance? -/
def smallB (i n : L8) : Bool := vars6.all (fun v => decide (countVar n [v] ≤ countVar i [v])) && decide (sizeT n < sizeT i)
def growAt (w : Wld) (k : Nat) : Bool := match w.is[k]? with
  | some x => x.ns.any fun n => !smallB x.t n.t
  | none => false
def growTake (w : Wld) (k : Nat) : List Nat := (List.range k).filter (growAt w)
def growL (w : Wld) : List Nat := growTake w w.is.length
theorem growTake_succ (w : Wld) (k : Nat) : growTake w (k + 1) = if growAt w k = true then growTake w k ++ [k] else growTake w k := by
  unfold growTake
  rw [List.range_succ, List.filter_append]
  cases h : growAt w k <;> simp [h]
theorem growTake_len (w : Wld) (k : Nat) : (growTake w k).length ≤ k := by
  unfold growTake
  refine Nat.le_trans (List.length_filter_le _ _) ?_
  simp
def growingOf (w : Wld) : List Nat := if worldOk w = true then growL w else []
def endB (w : Wld) : Bool := worldOk w && decide (growL w = [])
theorem end_small {w : Wld} (h : endB w = true) {k : Nat} {x : Inst} (hx : w.is[k]? = some x) {n : Need} (hn : n ∈ x.ns) : smallB x.t n.t = true := by
  unfold endB at h
  simp only [Bool.and_eq_true, decide_eq_true_eq] at h
  have h2 := h.2
  unfold growL growTake at h2
  rw [List.filter_eq_nil_iff] at h2
  have := h2 k (by simpa using (List.getElem?_eq_some_iff.1 hx).1)
  unfold growAt at this
  rw [hx] at this
  simp only [Bool.not_eq_true, List.any_eq_false] at this
  have := this n hn
  simpa using this
theorem tv_some {t : L8} (h : tv t = true) : ∃ a, typeOf t = some a := Option.isSome_iff_exists.1 h
/-- a smaller need stays smaller, and is not too long -/
theorem small_put {i n : L8} {a c : Ty} {τ : Sub} (hs : smallB i n = true) (ha : typeOf i = some a) (hc : typeOf n = some c) (hi : i.length ≤ 20) (hτ : τ.Ok 60) : (put τ c).sz < (put τ a).sz ∧ (put τ c).text.length ≤ (put τ a).text.length := by
  obtain ⟨ea, wa, _⟩ := typeOf_some ha
  obtain ⟨ec, wc, _⟩ := typeOf_some hc
  simp only [smallB, Bool.and_eq_true, decide_eq_true_eq, List.all_eq_true] at hs
  obtain ⟨h1, h2⟩ := hs
  unfold sizeT at h2
  rw [ha, hc] at h2
  simp only at h2
  have hcnt : ∀ v, c.vl.count v ≤ a.vl.count v := by
    intro v
    by_cases hv : isV v = true
    · rw [vl_count hv wc, vl_count hv wa, ← ea, ← ec]
      have hm : v ∈ vars6 := forall_u8 (p := fun c => isV c = true → c ∈ vars6) (by decide +kernel) v hv
      have := h1 v hm
      have t1 : tv i = true := by unfold tv; rw [ha]; rfl
      have t2 : tv n = true := by unfold tv; rw [hc]; rfl
      simp only [countVar, t1, t2, hv, Bool.and_self, if_true] at this
      omega
    · have : c.vl.count v = 0 := List.count_eq_zero.2 fun hm => hv (vl_var hm)
      omega
  obtain ⟨p1, p2⟩ := put_sz hτ c
  obtain ⟨p3, p4⟩ := put_sz hτ a
  have s1 := sumF_le (f := extS τ) hcnt
  have s2 := sumF_le (f := extL τ) hcnt
  have l1 := sz_len a
  have l2 := sz_len c
  have l3 := (bins_len a).1
  have l4 : a.text.length ≤ 20 := by rw [← ea]; exact hi
  omega
theorem needsA_all {σ : Sub} : ∀ {ns : List Need}, (∀ n ∈ ns, ∃ u, applyB σ n.t = some u) → ∃ out, needsA σ ns = some out
  | [], _ => ⟨[], rfl⟩
  | n :: l, h => by
    obtain ⟨u, hu⟩ := h n (List.mem_cons_self ..)
    obtain ⟨o, ho⟩ := needsA_all fun m hm => h m (List.mem_cons_of_mem _ hm)
    exact ⟨⟨n.c, u⟩ :: o, by simp [needsA, hu, ho]⟩
/-- in an ending world a candidate's needs are smaller -/
theorem end_needs {w : Wld} (h : endB w = true) {k : Nat} {x : Inst} (hx : w.is[k]? = some x) {t : L8} (hm : isInst x.t t = true) : ∃ ms, needsOf x t = some ms ∧ ∀ m ∈ ms, sizeT m.t < sizeT t := by
  have hok : worldOk w = true := by unfold endB at h; rw [Bool.and_eq_true] at h; exact h.1
  obtain ⟨_, _, _, h20, _, _, h7⟩ := world_inst hok hx
  rw [isInst_S] at hm
  obtain ⟨σ, hσ⟩ := Option.isSome_iff_exists.1 hm
  obtain ⟨a, b, ha, hb, hp⟩ := matchS_put hσ
  have hτ := matchS_ok hσ
  have key : ∀ n ∈ x.ns, ∃ c, typeOf n.t = some c ∧ (put σ c).sz < b.sz ∧ (put σ c).text.length ≤ 60 := by
    intro n hn
    have h8 := h7 n hn
    simp only [needIn, Bool.and_eq_true, decide_eq_true_eq] at h8
    obtain ⟨c, hc⟩ := tv_some h8.1.1.2
    obtain ⟨g1, g2⟩ := small_put (end_small h hx hn) ha hc h20 hτ
    rw [hp] at g1 g2
    obtain ⟨eb, _, lb⟩ := typeOf_some hb
    exact ⟨c, hc, g1, by rw [eb] at lb; omega⟩
  have hap : ∀ n ∈ x.ns, ∃ c, typeOf n.t = some c ∧ (put σ c).sz < b.sz ∧ applyB σ n.t = some (put σ c).text := by
    intro n hn
    obtain ⟨c, hc, g1, g2⟩ := key n hn
    refine ⟨c, hc, g1, ?_⟩
    unfold applyB
    rw [hc]
    simp only
    rw [if_pos g2]
  obtain ⟨ms, hms⟩ := needsA_all (σ := σ) (ns := x.ns) fun n hn => by
    obtain ⟨c, _, _, g⟩ := hap n hn
    exact ⟨_, g⟩
  refine ⟨ms, by unfold needsOf; rw [hσ]; exact hms, fun m hmm => ?_⟩
  obtain ⟨n, hn, _, g⟩ := needsA_mem hms m hmm
  obtain ⟨c, hc, g1, g2⟩ := hap n hn
  rw [g2] at g
  injection g with g
  have hl := (key n hn)
  obtain ⟨c', hc', _, g3⟩ := hl
  rw [hc] at hc'
  injection hc' with hc'
  subst hc'
  have ht : typeOf m.t = some (put σ c) := by rw [← g]; exact typeOf_text (put_wf hτ (typeOf_some hc).2.1) g3
  unfold sizeT
  rw [ht, hb]
  simp only
  omega
def NoBig (y : L8) : Prop := y ≠ deepL ∧ y ≠ bigL
theorem askGL_why {P : L8 → Prop} (h0 : P []) {fd : Need → SS → AskR} : ∀ (ms : List Need) (k : Nat) (out : L8) (s : SS), (∀ m ∈ ms, ∀ s, P (fd m s).2.2) → P (askGL fd ms k out s).2.2
  | [], _, _, _, _ => h0
  | m :: ms, k, out, s, h => by
    rw [askGL_cons]
    split
    · exact askGL_why h0 ms _ _ _ fun m' hm' => h m' (List.mem_cons_of_mem _ hm')
    · exact h m (List.mem_cons_self ..) s
theorem closeG_why {P : L8 → Prop} (h0 : P []) {ms : List Need} {x : AskR} (h : P x.2.2) : P (closeG ms x).2.2 := by
  unfold closeG
  split
  · exact h0
  · exact h
theorem noBig_nil : NoBig [] := ⟨by simp [deepL], by simp [bigL]⟩
theorem noBig_why (l : List Nat) : NoBig (whyG l) := by
  cases l with
  | nil => exact ⟨by show noneL ≠ deepL; decide, by show noneL ≠ bigL; decide⟩
  | cons a l => exact ⟨by show manyL ≠ deepL; decide, by show manyL ≠ bigL; decide⟩
/-- **in an ending world no search is too deep, and no type too big** -/
theorem end_ask {w : Wld} (h : endB w = true) {sp : Bool} : ∀ (f : Nat) (st : List Need) (n : Need) (s : SS), sizeT n.t ≤ (f : Nat) → 1 ≤ sizeT n.t → NoBig (askG w sp (fun _ => []) f st n s).2.2
  | 0, st, n, s, h1, h2 => by exfalso; omega
  | f + 1, st, n, s, h1, h2 => by
    have hok : worldOk w = true := by unfold endB at h; rw [Bool.and_eq_true] at h; exact h.1
    unfold askG
    rw [if_neg (by simp)]
    split
    · exact ⟨by show longL ≠ deepL; decide, by show longL ≠ bigL; decide⟩
    · unfold askGB
      split
      · exact noBig_why _
      · rename_i k hk
        obtain ⟨x, hx, hc, hi⟩ := cand_inst (pickG_mem hk)
        obtain ⟨ms, hms, hlt⟩ := end_needs h hx hi
        unfold askGI
        rw [hx]
        simp only
        rw [hms]
        simp only
        refine closeG_why noBig_nil (askGL_why noBig_nil ms _ _ _ fun m hm s' => end_ask h f _ m s' ?_ ?_)
        · have := hlt m hm; omega
        · have htv : tv m.t = true := by
            unfold needsOf at hms
            split at hms
            · rename_i σ hσ
              obtain ⟨n', hn', _, g⟩ := needsA_mem hms m hm
              exact (applyB_ok (matchS_ok hσ) g).2
            · cases hms
          obtain ⟨a, ha⟩ := tv_some htv
          unfold sizeT
          rw [ha]
          have := a.sz_pos
          simp only
          omega
theorem sizeT_pos {t : L8} (h : tv t = true) : 1 ≤ sizeT t ∧ sizeT t ≤ 24 := by
  obtain ⟨a, ha⟩ := tv_some h
  obtain ⟨e, _, hl⟩ := typeOf_some ha
  unfold sizeT
  rw [ha]
  have := a.sz_pos
  have := (bins_len a).2
  rw [e] at hl
  simp only
  omega
theorem end_find {w : Wld} (h : endB w = true) {sp : Bool} {n : Need} : NoBig (findD w sp n).2 := by
  unfold findD ask0
  split
  · rename_i hb
    rw [Bool.and_eq_true] at hb
    have hn := hb.2
    simp only [needOk, Bool.and_eq_true, decide_eq_true_eq] at hn
    obtain ⟨g1, g2⟩ := sizeT_pos hn.2
    exact end_ask h 31 [] n _ (by omega) g1
  · exact ⟨by show wrongL ≠ deepL; decide, by show wrongL ≠ bigL; decide⟩
/-- a right dictionary is less deep than its type has letters -/
theorem end_depth {w : Wld} (h : endB w = true) : ∀ (f : Nat) (D : Dct) (n : Need), sizeT n.t ≤ (f : Nat) → 1 ≤ sizeT n.t → chkD w D n = okW → ((D.depth : Nat) : Int) < sizeT n.t
  | 0, _, _, h1, h2, _ => by exfalso; omega
  | f + 1, .mk i ps, n, h1, h2, hk => by
    obtain ⟨x, ms, hx, hc, hi, hm, hl, hp⟩ := chkD_ok.1 hk
    obtain ⟨ms', hm', hlt⟩ := end_needs h hx hi
    rw [hm] at hm'
    injection hm' with hm'
    subst hm'
    rw [Dct.depth]
    cases hps : ps with
    | nil => rw [depthB]; omega
    | cons p q =>
      rw [← hps]
      obtain ⟨z, hz⟩ : ∃ z : Nat, sizeT n.t = (z : Nat) := ⟨(sizeT n.t).toNat, by omega⟩
      have hz2 : 2 ≤ z := by
        have h0 : 0 < ms.length := by rw [hl, hps]; simp
        obtain ⟨m, hm0⟩ := get_some h0
        have h3 := hlt m (List.mem_of_getElem? hm0)
        have htv : tv m.t = true := by
          unfold needsOf at hm
          split at hm
          · rename_i σ hσ
            obtain ⟨n', hn', _, g⟩ := needsA_mem hm m (List.mem_of_getElem? hm0)
            exact (applyB_ok (matchS_ok hσ) g).2
          · cases hm
        have := (sizeT_pos htv).1
        omega
      have := depthB_le (d := z - 2) (Ds := ps) fun D hD => by
        obtain ⟨j, hj⟩ := List.getElem?_of_mem hD
        have hjl := (List.getElem?_eq_some_iff.1 hj).1
        obtain ⟨m, hmj⟩ := get_some (l := ms) (k := j) (by omega)
        have h3 := hlt m (List.mem_of_getElem? hmj)
        have htv : tv m.t = true := by
          unfold needsOf at hm
          split at hm
          · rename_i σ hσ
            obtain ⟨n', hn', _, g⟩ := needsA_mem hm m (List.mem_of_getElem? hmj)
            exact (applyB_ok (matchS_ok hσ) g).2
          · cases hm
        have := end_depth h f D m (by omega) (sizeT_pos htv).1 (hp j D m hj hmj)
        omega
      omega
end Go.Isea

namespace Go.Isea
open Go
set_option maxRecDepth 100000
def givenW : L8 := [103, 105, 118, 101, 110]
def restW : L8 := [114, 101, 115, 116]
def isCap (c : UInt8) : Bool := decide (65 ≤ c.toNat) && decide (c.toNat ≤ 84)
def isAf (c : UInt8) : Bool := decide (97 ≤ c.toNat) && decide (c.toNat ≤ 102)
/-- evidence that is a given: what stands behind its letter -/
def givE (w : Wld) (n : Need) (g : Need) : L8 → L8 × L8
  | [] => ([], if g = n then okW else givenW)
  | d :: r => if isCap d = true then (if 0 ≤ ix (supersOf w g.c) d then (r, if (⟨[d], g.t⟩ : Need) = n then okW else givenW) else (d :: r, givenW)) else (d :: r, if g = n then okW else givenW)
def lpE (rd : Need → L8 → L8 × L8) : List Need → Nat → L8 → L8 × L8
  | [], _, s => (s, okW)
  | m :: ms, k, s => if pfx s (sep k) = true then (if (rd m s.tail).2 = okW then lpE rd ms (k + 1) (rd m s.tail).1 else rd m s.tail) else (s, partsW)
def endE (ms : List Need) (x : L8 × L8) : L8 × L8 := if x.2 = okW then (if ms.length = 0 then x else if pfx x.1 41 = true then (x.1.tail, okW) else (x.1, partsW)) else x
def rdE (w : Wld) (gs : List Need) : Nat → Need → L8 → L8 × L8
  | 0, _, s => (s, instanceW)
  | _ + 1, _, [] => ([], instanceW)
  | f + 1, n, c :: r =>
    if isAf c = true then (match gs[c.toNat - 97]? with
      | some g => givE w n g r
      | none => (r, givenW))
    else if isDig c = true ∧ (c.toNat - 48) ∈ candIx w n then (match w.is[c.toNat - 48]? with
      | some i => (match needsOf i n.t with
        | some ms => endE ms (lpE (rdE w gs f) ms 0 r)
        | none => (c :: r, bigL))
      | none => (c :: r, instanceW))
    else (c :: r, instanceW)
def checkGiven (w : Wld) (gs : List Need) (n : Need) (s : L8) : L8 := if (givensOk w gs && (worldOk w && needOk w n)) = true then (if (rdE w gs (s.length + 1) n s).2 = okW ∧ (rdE w gs (s.length + 1) n s).1 ≠ [] then restW else (rdE w gs (s.length + 1) n s).2) else wrongL
/-- no class stands next -/
def NoCap : L8 → Prop
  | [] => True
  | d :: _ => isCap d = false
end Go.Isea
