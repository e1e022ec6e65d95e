/- Contracts of functions of this program, for all arguments that satisfy what each lemma asks for. -/
import Derived.Test.YtnocdggngfiebaaGreatDoorMb
import Derived.Test.YtnocdggngfiebaaGreatDoorMr
import Derived.Test.YtnocdggngfiebaaGreatDoorMB
set_option linter.all false
namespace Go.Isea
/-- how many letters a type has -/
def Ty.sz : Ty → Nat
  | .leaf _ => 1
  | .un _ t => 1 + t.sz
  | .bin _ t u => 1 + t.sz + u.sz
end Go.Isea

namespace Go.Isea
open Go
set_option maxRecDepth 100000
theorem varC {c : UInt8} (h : isV c = true) : c ≠ 40 ∧ c ≠ 41 ∧ c ≠ 44 := forall_u8 (p := fun c => isV c = true → c ≠ 40 ∧ c ≠ 41 ∧ c ≠ 44) (by decide +kernel) c h
theorem mem_un {c d : UInt8} {t : Ty} (h : isV c = true) (hd : ar d = 1) : c ∈ (Ty.un d t).text ↔ c ∈ t.text := by
  have h0 := isV_ar h
  obtain ⟨h1, h2, _⟩ := varC h
  have hcd : c ≠ d := by rintro rfl; omega
  simp [Ty.text, h1, h2, hcd]
theorem mem_bin {c d : UInt8} {t u : Ty} (h : isV c = true) (hd : ar d = 2) : c ∈ (Ty.bin d t u).text ↔ c ∈ t.text ∨ c ∈ u.text := by
  have h0 := isV_ar h
  obtain ⟨h1, h2, h3⟩ := varC h
  have hcd : c ≠ d := by rintro rfl; omega
  simp [Ty.text, h1, h2, h3, hcd]
theorem matchT_in {c : UInt8} (hc : isV c = true) {B : Prop} : ∀ {a b : Ty} {σ τ : Sub}, matchT σ a b = some τ → b.wf → (∀ x u, σ x = some u → c ∈ u.text → B) → (c ∈ b.text → B) → ∀ x u, τ x = some u → c ∈ u.text → B
  | .leaf d, b, σ, τ, h, hw, hs, hb => by
    simp only [matchT] at h
    split at h
    · split at h
      · injection h with h; subst h
        intro x u hx hu
        unfold Sub.set at hx
        split at hx
        · injection hx with hx; subst hx; exact hb hu
        · exact hs x u hx hu
      · split at h
        · injection h with h; subst h; exact hs
        · cases h
    · split at h
      · injection h with h; subst h; exact hs
      · cases h
  | .un d t, b, σ, τ, h, hw, hs, hb => by
    simp only [matchT] at h
    split at h
    · split at h
      · exact matchT_in hc h hw.2 hs (fun e => hb ((mem_un hc hw.1).2 e))
      · cases h
    · cases h
  | .bin d t t2, b, σ, τ, h, hw, hs, hb => by
    simp only [matchT] at h
    split at h
    · split at h
      · split at h
        · rename_i ρ hρ
          exact matchT_in hc h hw.2.2 (matchT_in hc hρ hw.2.1 hs (fun e => hb ((mem_bin hc hw.1).2 (Or.inl e)))) (fun e => hb ((mem_bin hc hw.1).2 (Or.inr e)))
        · cases h
      · cases h
    · cases h
theorem matchT_dom : ∀ {a b : Ty} {σ τ : Sub}, matchT σ a b = some τ → a.wf → (∀ x, (σ x).isSome = true → (τ x).isSome = true) ∧ ∀ c, isV c = true → c ∈ a.text → (τ c).isSome = true
  | .leaf d, b, σ, τ, h, hw => by
    simp only [matchT] at h
    split at h
    · split at h
      · injection h with h; subst h
        refine ⟨fun x hx => ?_, fun c _ hm => ?_⟩
        · unfold Sub.set; split
          · rfl
          · exact hx
        · have : c = d := by simpa [Ty.text] using hm
          simp [Sub.set, this]
      · rename_i t ht
        split at h
        · injection h with h; subst h
          refine ⟨fun x hx => hx, fun c _ hm => ?_⟩
          have : c = d := by simpa [Ty.text] using hm
          simp [this, ht]
        · cases h
    · rename_i hv
      split at h
      · injection h with h; subst h
        refine ⟨fun x hx => hx, fun c hc hm => ?_⟩
        have : c = d := by simpa [Ty.text] using hm
        rw [this] at hc; exact absurd hc hv
      · cases h
  | .un d t, b, σ, τ, h, hw => by
    simp only [matchT] at h
    split at h
    · split at h
      · obtain ⟨h1, h2⟩ := matchT_dom h hw.2
        exact ⟨h1, fun c hc hm => h2 c hc ((mem_un hc hw.1).1 hm)⟩
      · cases h
    · cases h
  | .bin d t t2, b, σ, τ, h, hw => by
    simp only [matchT] at h
    split at h
    · split at h
      · split at h
        · rename_i ρ hρ
          obtain ⟨h1, h2⟩ := matchT_dom hρ hw.2.1
          obtain ⟨h3, h4⟩ := matchT_dom h hw.2.2
          refine ⟨fun x hx => h3 x (h1 x hx), fun c hc hm => ?_⟩
          rcases (mem_bin hc hw.1).1 hm with hm | hm
          · exact h3 c (h2 c hc hm)
          · exact h4 c hc hm
        · cases h
      · cases h
    · cases h
theorem put_in {c : UInt8} (hc : isV c = true) {τ : Sub} : ∀ {t : Ty}, t.wf → c ∈ (put τ t).text → (∃ x u, τ x = some u ∧ c ∈ u.text) ∨ (τ c = none ∧ c ∈ t.text)
  | .leaf d, hw, h => by
    unfold put at h
    cases hd : τ d with
    | none =>
      rw [hd] at h
      have : c = d := by simpa [Ty.text] using h
      subst this
      exact Or.inr ⟨hd, by simp [Ty.text]⟩
    | some u => rw [hd] at h; exact Or.inl ⟨d, u, hd, h⟩
  | .un d t, hw, h => by
    unfold put at h
    rcases put_in hc hw.2 ((mem_un hc hw.1).1 h) with h | ⟨h1, h2⟩
    · exact Or.inl h
    · exact Or.inr ⟨h1, (mem_un hc hw.1).2 h2⟩
  | .bin d t t2, hw, h => by
    unfold put at h
    rcases (mem_bin hc hw.1).1 h with h | h
    · rcases put_in hc hw.2.1 h with h | ⟨h1, h2⟩
      · exact Or.inl h
      · exact Or.inr ⟨h1, (mem_bin hc hw.1).2 (Or.inl h2)⟩
    · rcases put_in hc hw.2.2 h with h | ⟨h1, h2⟩
      · exact Or.inl h
      · exact Or.inr ⟨h1, (mem_bin hc hw.1).2 (Or.inr h2)⟩
theorem within_mem {a b : L8} (h : within (varsIn a) (varsIn b) = true) {c : UInt8} (hc : isV c = true) (ha : c ∈ a) : c ∈ b := by
  unfold within at h
  rw [List.all_eq_true] at h
  have hv : c ∈ vars6 := forall_u8 (p := fun c => isV c = true → c ∈ vars6) (by decide +kernel) c hc
  have h1 : c ∈ varsIn a := by unfold varsIn; rw [List.mem_filter]; exact ⟨hv, by simpa using ha⟩
  have h2 := h c h1
  rw [decide_eq_true_eq, ix_mem] at h2
  unfold varsIn at h2
  rw [List.mem_filter] at h2
  simpa using h2.2
/-- a need of an instance for a type has variables of that type alone -/
theorem needs_vars {w : Wld} (h : worldOk w = true) {k : Nat} {i : Inst} (hi : w.is[k]? = some i) {t : L8} {ms : List Need} (hm : needsOf i t = some ms) {m : Need} (hmm : m ∈ ms) {c : UInt8} (hc : isV c = true) (hcm : c ∈ m.t) : c ∈ t := by
  obtain ⟨_, _, _, _, _, _, h7⟩ := world_inst h hi
  unfold needsOf at hm
  split at hm
  · rename_i σ hσ
    obtain ⟨n, hn, _, ha⟩ := needsA_mem hm m hmm
    have h8 := h7 n hn
    simp only [needIn, Bool.and_eq_true, decide_eq_true_eq] at h8
    unfold matchS at hσ
    cases hp : typeOf i.t with
    | none => simp [hp] at hσ
    | some a =>
      cases hb : typeOf t with
      | none => simp [hp, hb] at hσ
      | some b =>
        rw [hp, hb] at hσ
        simp only at hσ
        obtain ⟨ea, wa, _⟩ := typeOf_some hp
        obtain ⟨eb, wb, _⟩ := typeOf_some hb
        unfold applyB at ha
        split at ha
        · rename_i u hu
          split at ha
          · injection ha with ha
            rw [← ha] at hcm
            obtain ⟨eu, wu, _⟩ := typeOf_some hu
            rcases put_in hc wu hcm with ⟨x, y, h1, h2⟩ | ⟨h1, h2⟩
            · rw [eb]
              exact matchT_in hc hσ wb (fun x u e => by cases e) id x y h1 h2
            · have := (matchT_dom hσ wa).2 c hc (by rw [← ea]; exact within_mem h8.2 hc (by rw [eu]; exact h2))
              rw [h1] at this; cases this
          · cases ha
        · cases ha
  · cases hm
theorem var_one {t : L8} (h : tv t = true) (hv : isV (t.headD 0) = true) : ∃ c, t = [c] ∧ isV c = true := by
  unfold tv at h
  obtain ⟨a, ha⟩ := Option.isSome_iff_exists.1 h
  obtain ⟨e, hw, _⟩ := typeOf_some ha
  subst e
  cases a with
  | leaf c => exact ⟨c, rfl, hv⟩
  | un c t => have h1 : isV c = true := hv; have h2 : ar c = 1 := hw.1; have := isV_ar h1; omega
  | bin c t u => have h1 : isV c = true := hv; have h2 : ar c = 2 := hw.1; have := isV_ar h1; omega
theorem tv_var {c : UInt8} (h : isV c = true) : tv [c] = true := forall_u8 (p := fun c => isV c = true → tv [c] = true) (by decide +kernel) c h
/-- a need of a variable, of a class that is known -/
def VarNeed (w : Wld) (V : UInt8 → Prop) (m : Need) : Prop := ∃ c, m.t = [c] ∧ isV c = true ∧ V c ∧ 0 ≤ clsIx w.cs m.c
structure RdI (w : Wld) (V : UInt8 → Prop) (l : List Need) : Prop where
  nd : l.Nodup
  vn : ∀ m ∈ l, VarNeed w V m
theorem RdI.nil {w : Wld} {V : UInt8 → Prop} : RdI w V [] := ⟨List.nodup_nil, fun _ h => by cases h⟩
theorem onceL_I {w : Wld} {V : UInt8 → Prop} {l : List Need} (h : RdI w V l) {n : Need} (hn : VarNeed w V n) : RdI w V (onceL l n) := by
  unfold onceL
  split
  · exact h
  · rename_i hm
    refine ⟨?_, fun m hmm => ?_⟩
    · rw [List.nodup_append]
      refine ⟨h.nd, by simp, fun a ha b hb => ?_⟩
      have : b = n := by simpa using hb
      subst this
      intro e; subst e; exact hm ha
    · rcases List.mem_append.1 hmm with h1 | h1
      · exact h.vn m h1
      · have : m = n := by simpa using h1
        rw [this]; exact hn
theorem mem_onceL {l : List Need} {n m : Need} : m ∈ onceL l n ↔ m ∈ l ∨ m = n := by
  unfold onceL
  split
  · rename_i h
    exact ⟨Or.inl, fun h' => h'.elim id (fun e => e ▸ h)⟩
  · simp
theorem redL_I {w : Wld} {V : UInt8 → Prop} {fd : Need → RdS → Bool × RdS} {P : Need → Prop} (hfd : ∀ m, P m → ∀ s, RdI w V s.1 → RdI w V (fd m s).2.1) : ∀ (ms : List Need) (s : RdS), (∀ m ∈ ms, P m) → RdI w V s.1 → RdI w V (redL fd ms s).2.1
  | [], s, _, h => h
  | m :: ms, s, hp, h => by
    unfold redL
    have h1 := hfd m (hp m (List.mem_cons_self ..)) s h
    split
    · exact redL_I hfd ms _ (fun m' hm' => hp m' (List.mem_cons_of_mem _ hm')) h1
    · exact h1
theorem redF_I {w : Wld} (hok : worldOk w = true) (hw : w.Sm) {V : UInt8 → Prop} : ∀ (f : Nat) (n : Need) (s : RdS), 0 ≤ clsIx w.cs n.c → tv n.t = true → (∀ c, isV c = true → c ∈ n.t → V c) → RdI w V s.1 → RdI w V (redF w f n s).2.1 := by
  have var : ∀ (n : Need) (s : RdS), 0 ≤ clsIx w.cs n.c → tv n.t = true → (∀ c, isV c = true → c ∈ n.t → V c) → RdI w V s.1 → isV (n.t.headD 0) = true → RdI w V (onceL s.1 n) := by
    intro n s h1 h2 h3 h4 h5
    obtain ⟨c, e, hc⟩ := var_one h2 h5
    exact onceL_I h4 ⟨c, e, hc, h3 c hc (by rw [e]; simp), h1⟩
  intro f
  induction f with
  | zero =>
    intro n s h1 h2 h3 h4
    unfold redF
    split
    · rename_i hv; exact var n s h1 h2 h3 h4 hv
    · exact h4
  | succ f ih =>
    intro n s h1 h2 h3 h4
    unfold redF
    split
    · rename_i hv; exact var n s h1 h2 h3 h4 hv
    · unfold redB
      split
      · split
        · exact h4
        · split
          · rename_i i hi
            split
            · rename_i ms hm
              refine redL_I (P := fun m => m ∈ ms) (fun m hm' s' hs' => ?_) ms _ (fun m hm' => hm') h4
              obtain ⟨g1, g2, _⟩ := (needs_ok hok hw hi hm).2 m hm'
              exact ih m s' g1.1 g2 (fun c hc hcm => h3 c hc (needs_vars hok hi hm hm' hc hcm)) hs'
            · exact h4
          · exact h4
      · exact h4
theorem redL_mono {fd : Need → RdS → Bool × RdS} (h : ∀ m s, ∀ x ∈ s.1, x ∈ (fd m s).2.1) : ∀ (ms : List Need) (s : RdS), ∀ x ∈ s.1, x ∈ (redL fd ms s).2.1
  | [], s, x, hx => hx
  | m :: ms, s, x, hx => by
    unfold redL
    split
    · exact redL_mono h ms _ x (h m s x hx)
    · exact h m s x hx
theorem redF_mono {w : Wld} : ∀ (f : Nat) (n : Need) (s : RdS), ∀ x ∈ s.1, x ∈ (redF w f n s).2.1
  | 0, n, s, x, hx => by
    unfold redF
    split
    · exact mem_onceL.2 (Or.inl hx)
    · exact hx
  | f + 1, n, s, x, hx => by
    unfold redF
    split
    · exact mem_onceL.2 (Or.inl hx)
    · unfold redB
      split
      · split
        · exact hx
        · split
          · split
            · exact redL_mono (redF_mono f) _ _ x hx
            · exact hx
          · exact hx
      · exact hx
theorem redL_cnt {fd : Need → RdS → Bool × RdS} (h : ∀ m s, s.2 ≤ (fd m s).2.2) : ∀ (ms : List Need) (s : RdS), s.2 ≤ (redL fd ms s).2.2
  | [], s => Nat.le_refl _
  | m :: ms, s => by
    unfold redL
    have := h m s
    split
    · exact Nat.le_trans this (redL_cnt h ms _)
    · exact this
theorem redF_cnt {w : Wld} : ∀ (f : Nat) (n : Need) (s : RdS), s.2 ≤ (redF w f n s).2.2
  | 0, n, s => by unfold redF; split <;> exact Nat.le_refl _
  | f + 1, n, s => by
    unfold redF
    split
    · exact Nat.le_refl _
    · unfold redB
      split
      · split
        · exact Nat.le_refl _
        · split
          · split
            · rename_i ms _
              have h1 := redL_cnt (redF_cnt (w := w) f) ms (s.1, s.2 + 1)
              simp only at h1
              omega
            · exact Nat.le_succ _
          · exact Nat.le_refl _
      · exact Nat.le_refl _
theorem letterL_ne {k : Nat} (h : k < 6) : letterL k ≠ [] := by
  have : ∀ i : _root_.Fin 6, letterL i.val ≠ [] := by decide
  exact this ⟨k, h⟩
theorem firstK_lt {p : Nat → Bool} {n k : Nat} (h : firstK p n = some k) : k < n ∧ p k = true := by
  unfold firstK at h
  have h1 := List.mem_of_find?_eq_some h
  have h2 := List.find?_some h
  exact ⟨by simpa using h1, h2⟩
theorem given_ne {w : Wld} {gs : List Need} {n : Need} (h : n ∈ gs) (hl : gs.length ≤ 6) : givenL w gs n ≠ [] := by
  unfold givenL
  obtain ⟨k, hk⟩ := List.getElem?_of_mem h
  cases hf : firstK (givenEqAt gs n) gs.length with
  | some j =>
    have hj := (firstK_lt hf).1
    exact letterL_ne (by omega)
  | none =>
    exfalso
    unfold firstK at hf
    rw [List.find?_eq_none] at hf
    have hk' := (List.getElem?_eq_some_iff.1 hk).1
    have := hf k (by simpa using hk')
    simp [givenEqAt, hk] at this
theorem findS_given {w : Wld} {gs : List Need} {f : Nat} {n : Need} {a : Nat} (h : givenL w gs n ≠ []) : findS w gs f n a = (givenL w gs n, a, []) := by
  cases f <;> simp [findS, h]
theorem redL_find {gs : List Need} {rd : Need → RdS → Bool × RdS} {fd : Need → Nat → L8 × Nat × L8} (mono : ∀ m s, ∀ x ∈ s.1, x ∈ (rd m s).2.1)
    (h : ∀ m s a, (rd m s).1 = true → (∀ x ∈ (rd m s).2.1, x ∈ gs) → a ≤ s.2 → (fd m a).2.2 = [] ∧ (fd m a).2.1 ≤ (rd m s).2.2) :
    ∀ (ms : List Need) (k : Nat) (out : L8) (a : Nat) (s : RdS), (redL rd ms s).1 = true → (∀ x ∈ (redL rd ms s).2.1, x ∈ gs) → a ≤ s.2 → (findL fd ms k out a).2.2 = [] ∧ (findL fd ms k out a).2.1 ≤ (redL rd ms s).2.2
  | [], k, out, a, s, _, _, ha => ⟨rfl, ha⟩
  | m :: ms, k, out, a, s, h1, h2, ha => by
    rw [findL_cons]
    unfold redL at h1 h2 ⊢
    split at h1
    · rename_i hr
      rw [if_pos hr] at h2 ⊢
      have hm := h m s a hr (fun x hx => h2 x (redL_mono mono ms _ x hx)) ha
      rw [if_pos hm.1]
      exact redL_find mono h ms _ _ _ _ h1 h2 hm.2
    · cases h1
theorem redF_find {w : Wld} {gs : List Need} (hg : gs.length ≤ 6) : ∀ (f : Nat) (n : Need) (s : RdS) (a : Nat), (redF w f n s).1 = true → (∀ x ∈ (redF w f n s).2.1, x ∈ gs) → a ≤ s.2 → (findS w gs f n a).2.2 = [] ∧ (findS w gs f n a).2.1 ≤ (redF w f n s).2.2 := by
  have giv : ∀ (f : Nat) (n : Need) (s : RdS) (a : Nat), a ≤ s.2 → givenL w gs n ≠ [] → (findS w gs f n a).2.2 = [] ∧ (findS w gs f n a).2.1 ≤ s.2 := by
    intro f n s a ha h
    rw [findS_given h]
    exact ⟨rfl, ha⟩
  have var : ∀ (f : Nat) (n : Need) (s : RdS) (a : Nat), (∀ x ∈ onceL s.1 n, x ∈ gs) → a ≤ s.2 → (findS w gs f n a).2.2 = [] ∧ (findS w gs f n a).2.1 ≤ s.2 := fun f n s a h ha => giv f n s a ha (given_ne (h n (mem_onceL.2 (Or.inr rfl))) hg)
  intro f
  induction f with
  | zero =>
    intro n s a h1 h2 ha
    unfold redF at h1 h2 ⊢
    split at h1
    · rename_i hv
      rw [if_pos hv] at h2 ⊢
      exact var 0 n s a h2 ha
    · cases h1
  | succ f ih =>
    intro n s a h1 h2 ha
    unfold redF at h1 h2 ⊢
    split at h1
    · rename_i hv
      rw [if_pos hv] at h2 ⊢
      exact var _ n s a h2 ha
    · rename_i hv
      rw [if_neg hv] at h2 ⊢
      unfold redB at h1 h2 ⊢
      split at h1
      · rename_i k hk
        simp only [hk] at h2 ⊢
        split at h1
        · cases h1
        · rename_i hlong
          rw [if_neg hlong] at h2 ⊢
          split at h1
          · rename_i i hi
            try simp only [hi] at h2 ⊢
            split at h1
            · rename_i ms hm
              try simp only [hm] at h2 ⊢
              have key := redL_find (gs := gs) (rd := redF w f) (fd := findS w gs f) (redF_mono f) (fun m s a => ih m s a) ms 0 (digitL k) (a + 1) (s.1, s.2 + 1) h1 h2 (by show a + 1 ≤ s.2 + 1; omega)
              by_cases hgv : givenL w gs n ≠ []
              · rw [findS_given hgv]
                refine ⟨rfl, ?_⟩
                have := redL_cnt (redF_cnt (w := w) f) ms (s.1, s.2 + 1)
                show a ≤ _
                simp only at this
                omega
              · unfold findS
                rw [if_neg hgv, if_neg (by omega)]
                unfold findB
                rw [hk]
                simp only [hi, hm]
                unfold closeL
                rw [if_pos key.1]
                exact ⟨rfl, key.2⟩
            · cases h1
          · cases h1
      · cases h1
theorem reduceN_ok {w : Wld} {n : Need} {l : List Need} (hw : w.Sm) (h : reduceN w n = some l) : (worldOk w && needOk w n) = true ∧ l.Nodup ∧ (∀ m ∈ l, VarNeed w (fun c => c ∈ n.t) m) ∧ (l.length ≤ 6 → (findGiven w l n).2 = []) := by
  unfold reduceN at h
  split at h
  · rename_i hb
    split at h
    · rename_i hr
      injection h with h
      subst h
      have hb' := hb
      rw [Bool.and_eq_true] at hb'
      have hn := hb'.2
      simp only [needOk, Bool.and_eq_true, decide_eq_true_eq] at hn
      have hI := redF_I hb'.1 hw (V := fun c => c ∈ n.t) 31 n ([], 0) hn.1 hn.2 (fun c _ hm => hm) RdI.nil
      refine ⟨hb, hI.nd, hI.vn, fun hl => ?_⟩
      have hg : givensOk w (redF w 31 n ([], 0)).2.1 = true := by
        simp only [givensOk, hb'.1, Bool.true_and, Bool.and_true, Bool.and_eq_true, decide_eq_true_eq, List.all_eq_true]
        refine ⟨fun g hg => ?_, hl⟩
        obtain ⟨c, e, hc, _, hcl⟩ := hI.vn g hg
        simp only [needOk, Bool.and_eq_true, decide_eq_true_eq]
        exact ⟨hcl, by rw [e]; exact tv_var hc⟩
      unfold findGiven
      rw [hg, hb]
      exact (redF_find hl 31 n ([], 0) 0 hr (fun x hx => hx) (Nat.le_refl _)).1
    · cases h
  · cases h
/-! without givens -/
def SameF (x : L8 × Nat × L8) (y : AskR) : Prop := x.1 = y.1 ∧ x.2.2 = y.2.2 ∧ (x.2.2 = [] → x.2.1 = y.2.1.a.length)
end Go.Isea

namespace Go.Isea
open Go
theorem onceA_app : ∀ (r l : List Need), ∃ s, onceA l r = l ++ s ∧ ∀ m ∈ s, m ∈ r
  | [], l => ⟨[], by simp [onceA], fun _ h => by cases h⟩
  | n :: r, l => by
    obtain ⟨s, e, hs⟩ := onceA_app r (onceL l n)
    unfold onceA
    rw [e]
    unfold onceL
    split
    · exact ⟨s, rfl, fun m hm => List.mem_cons_of_mem _ (hs m hm)⟩
    · refine ⟨n :: s, by simp, fun m hm => ?_⟩
      rcases List.mem_cons.1 hm with rfl | hm
      · exact List.mem_cons_self ..
      · exact List.mem_cons_of_mem _ (hs m hm)
theorem fullL_app {w : Wld} (hw : w.Sm) {x : Inst} : ∀ (ds : L8) (l r : List Need), fullL w x ds l = some r → ∃ s, r = l ++ s ∧ (∀ m ∈ s, VarNeed w (fun c => c ∈ x.t) m) ∧ (ds = [] → s = [])
  | [], l, r, h => by
    unfold fullL at h
    injection h with h
    exact ⟨[], by simp [h], (fun _ h => by cases h), fun _ => rfl⟩
  | d :: ds, l, r, h => by
    unfold fullL at h
    split at h
    · rename_i q hq
      obtain ⟨s, e, hs, _⟩ := fullL_app hw ds _ r h
      obtain ⟨s0, e0, hs0⟩ := onceA_app q l
      have hv := (reduceN_ok hw hq).2.2.1
      refine ⟨s0 ++ s, by rw [e, e0]; simp, fun m hm => ?_, fun e => by cases e⟩
      rcases List.mem_append.1 hm with hm | hm
      · exact hv m (hs0 m hm)
      · exact hs m hm
    · cases h
theorem instAt_okP {w : Wld} {i : Int} {x : Inst} (h : instAt w i = some x) : worldOk w = true ∧ 0 ≤ i ∧ w.is[i.toNat]? = some x := by
  unfold instAt at h
  split at h
  · rename_i hb
    exact ⟨hb.1, hb.2, h⟩
  · cases h
theorem fullN_ok {w : Wld} (hw : w.Sm) {i : Int} {l : List Need} (h : fullN w i = some l) : ∃ x, worldOk w = true ∧ 0 ≤ i ∧ w.is[i.toNat]? = some x ∧ ∃ s, l = x.ns ++ s ∧ (∀ m ∈ s, VarNeed w (fun c => c ∈ x.t) m) ∧ (gapL w x = [] → s = []) := by
  unfold fullN at h
  split at h
  · rename_i x hx
    obtain ⟨h1, h2, h3⟩ := instAt_okP hx
    exact ⟨x, h1, h2, h3, fullL_app hw _ _ _ h⟩
  · cases h
theorem gapsTo_mem {w : Wld} {k j : Nat} {d : UInt8} : (j, d) ∈ gapsTo w k ↔ j < k ∧ ∃ x, w.is[j]? = some x ∧ d ∈ gapL w x := by
  unfold gapsTo
  rw [List.mem_flatMap]
  constructor
  · rintro ⟨i, hi, h⟩
    have hi : i < k := by simpa using hi
    split at h
    · rename_i x hx
      obtain ⟨e, he, h⟩ := List.mem_map.1 h
      injection h with h1 h2
      subst h1; subst h2
      exact ⟨hi, x, hx, he⟩
    · cases h
  · rintro ⟨hj, x, hx, hd⟩
    refine ⟨j, by simpa using hj, ?_⟩
    rw [hx]
    exact List.mem_map.2 ⟨d, hd, rfl⟩
/-- an instance has gaps exactly if one of the world's gaps is its own -/
theorem gaps_any {w : Wld} (hok : worldOk w = true) {i : Nat} {x : Inst} (hx : w.is[i]? = some x) : ((gapsOf w).any fun g => decide (((g.1 : Nat) : Int) = (i : Nat))) = decide (gapL w x ≠ []) := by
  unfold gapsOf
  rw [if_pos hok]
  by_cases h : gapL w x = []
  · have : decide (gapL w x ≠ []) = false := by simp [h]
    rw [this, List.any_eq_false]
    rintro ⟨j, d⟩ hm e
    obtain ⟨_, y, hy, hd⟩ := gapsTo_mem.1 hm
    have e : ((j : Nat) : Int) = (i : Nat) := by simpa using e
    have e : j = i := by omega
    subst e
    rw [hx] at hy
    injection hy with hy
    subst hy
    rw [h] at hd
    cases hd
  · have : decide (gapL w x ≠ []) = true := by simp [h]
    rw [this, List.any_eq_true]
    cases hg : gapL w x with
    | nil => exact absurd hg h
    | cons d r =>
      exact ⟨(i, d), gapsTo_mem.2 ⟨(List.getElem?_eq_some_iff.1 hx).1, x, hx, by rw [hg]; simp⟩, by simp⟩
end Go.Isea

namespace Go.Isea
open Go
set_option maxRecDepth 100000
def Ty.bins : Ty → Nat
  | .leaf _ => 0
  | .un _ t => t.bins
  | .bin _ t u => 1 + t.bins + u.bins
/-- the size of a type's text, -1 for no type -/
def sizeT (l : L8) : Int := match typeOf l with
  | some t => (t.sz : Nat)
  | none => -1
/-- the variables of a type, as they stand -/
def Ty.vl : Ty → L8
  | .leaf c => if isV c = true then [c] else []
  | .un _ t => t.vl
  | .bin _ t u => t.vl ++ u.vl
def sumF (f : UInt8 → Nat) : L8 → Nat
  | [] => 0
  | c :: l => f c + sumF f l
def extS (τ : Sub) (c : UInt8) : Nat := match τ c with
  | some u => u.sz - 1
  | none => 0
def extL (τ : Sub) (c : UInt8) : Nat := match τ c with
  | some u => u.text.length - 1
  | none => 0
/-- is a need's type smaller than that of its instance? -/
def smallB (i n : L8) : Bool := vars6.all (fun v => decide (countVar n [v] ≤ countVar i [v])) && decide (sizeT n < sizeT i)
def growAt (w : Wld) (k : Nat) : Bool := match w.is[k]? with
  | some x => x.ns.any fun n => !smallB x.t n.t
  | none => false
def growTake (w : Wld) (k : Nat) : List Nat := (List.range k).filter (growAt w)
def growL (w : Wld) : List Nat := growTake w w.is.length
def growingOf (w : Wld) : List Nat := if worldOk w = true then growL w else []
def endB (w : Wld) : Bool := worldOk w && decide (growL w = [])
theorem tv_some {t : L8} (h : tv t = true) : ∃ a, typeOf t = some a := Option.isSome_iff_exists.1 h
def NoBig (y : L8) : Prop := y ≠ deepL ∧ y ≠ bigL
end Go.Isea

namespace Go.Isea
open Go
set_option maxRecDepth 100000
def givenW : L8 := [103, 105, 118, 101, 110]
def restW : L8 := [114, 101, 115, 116]
def isCap (c : UInt8) : Bool := decide (65 ≤ c.toNat) && decide (c.toNat ≤ 84)
def isAf (c : UInt8) : Bool := decide (97 ≤ c.toNat) && decide (c.toNat ≤ 102)
/-- evidence that is a given: what stands behind its letter -/
def givE (w : Wld) (n : Need) (g : Need) : L8 → L8 × L8
  | [] => ([], if g = n then okW else givenW)
  | d :: r => if isCap d = true then (if 0 ≤ ix (supersOf w g.c) d then (r, if (⟨[d], g.t⟩ : Need) = n then okW else givenW) else (d :: r, givenW)) else (d :: r, if g = n then okW else givenW)
def lpE (rd : Need → L8 → L8 × L8) : List Need → Nat → L8 → L8 × L8
  | [], _, s => (s, okW)
  | m :: ms, k, s => if pfx s (sep k) = true then (if (rd m s.tail).2 = okW then lpE rd ms (k + 1) (rd m s.tail).1 else rd m s.tail) else (s, partsW)
def endE (ms : List Need) (x : L8 × L8) : L8 × L8 := if x.2 = okW then (if ms.length = 0 then x else if pfx x.1 41 = true then (x.1.tail, okW) else (x.1, partsW)) else x
def rdE (w : Wld) (gs : List Need) : Nat → Need → L8 → L8 × L8
  | 0, _, s => (s, instanceW)
  | _ + 1, _, [] => ([], instanceW)
  | f + 1, n, c :: r =>
    if isAf c = true then (match gs[c.toNat - 97]? with
      | some g => givE w n g r
      | none => (r, givenW))
    else if isDig c = true ∧ (c.toNat - 48) ∈ candIx w n then (match w.is[c.toNat - 48]? with
      | some i => (match needsOf i n.t with
        | some ms => endE ms (lpE (rdE w gs f) ms 0 r)
        | none => (c :: r, bigL))
      | none => (c :: r, instanceW))
    else (c :: r, instanceW)
def checkGiven (w : Wld) (gs : List Need) (n : Need) (s : L8) : L8 := if (givensOk w gs && (worldOk w && needOk w n)) = true then (if (rdE w gs (s.length + 1) n s).2 = okW ∧ (rdE w gs (s.length + 1) n s).1 ≠ [] then restW else (rdE w gs (s.length + 1) n s).2) else wrongL
theorem givE_len (w : Wld) (n g : Need) (r : L8) : (givE w n g r).1.length ≤ r.length := by
  cases r with
  | nil => exact Nat.le_refl _
  | cons d r =>
    have h1 : (if isCap d = true then (if 0 ≤ ix (supersOf w g.c) d then (r, if (⟨[d], g.t⟩ : Need) = n then okW else givenW) else (d :: r, givenW)) else (d :: r, if g = n then okW else givenW) : L8 × L8).1.length ≤ (d :: r).length := by
      split
      · split
        · exact Nat.le_succ _
        · exact Nat.le_refl _
      · exact Nat.le_refl _
    exact h1
theorem lpE_len {rd : Need → L8 → L8 × L8} (h : ∀ m s, (rd m s).1.length ≤ s.length) : ∀ (ms : List Need) (k : Nat) (s : L8), (lpE rd ms k s).1.length ≤ s.length
  | [], _, _ => Nat.le_refl _
  | m :: ms, k, s => by
    unfold lpE
    have h1 := h m s.tail
    have h2 : s.tail.length ≤ s.length := by simp
    split
    · split
      · have := lpE_len h ms (k + 1) (rd m s.tail).1
        omega
      · omega
    · exact Nat.le_refl _
theorem endE_len (ms : List Need) (x : L8 × L8) : (endE ms x).1.length ≤ x.1.length := by
  unfold endE
  split
  · split
    · exact Nat.le_refl _
    · split
      · simp
      · exact Nat.le_refl _
  · exact Nat.le_refl _
theorem rdE_len {w : Wld} {gs : List Need} : ∀ (f : Nat) (n : Need) (s : L8), (rdE w gs f n s).1.length ≤ s.length
  | 0, _, _ => Nat.le_refl _
  | _ + 1, _, [] => Nat.le_refl _
  | f + 1, n, c :: r => by
    unfold rdE
    split
    · split
      · exact Nat.le_trans (givE_len ..) (Nat.le_succ _)
      · exact Nat.le_succ _
    · split
      · split
        · split
          · exact Nat.le_trans (endE_len ..) (Nat.le_trans (lpE_len (rdE_len f) ..) (Nat.le_succ _))
          · exact Nat.le_refl _
        · exact Nat.le_refl _
      · exact Nat.le_refl _
/-- no class stands next -/
def NoCap : L8 → Prop
  | [] => True
  | d :: _ => isCap d = false
theorem givE_ok {w : Wld} {n : Need} {r : L8} (h : NoCap r) : givE w n n r = (r, okW) := by
  cases r with
  | nil => simp [givE]
  | cons d r =>
    have : isCap d = false := h
    simp [givE, this]
theorem letter_af {k : Nat} (h : k < 6) : ∃ c, letterL k = [c] ∧ isAf c = true ∧ c.toNat - 97 = k := by
  have : ∀ i : _root_.Fin 6, letterL i.val = [UInt8.ofNat (97 + i.val)] ∧ isAf (UInt8.ofNat (97 + i.val)) = true ∧ (UInt8.ofNat (97 + i.val)).toNat - 97 = i.val := by decide
  exact ⟨_, this ⟨k, h⟩⟩
theorem digit_is {k : Nat} (h : k < 10) : ∃ c, digitL k = [c] ∧ isAf c = false ∧ isDig c = true ∧ c.toNat - 48 = k := by
  have : ∀ i : _root_.Fin 10, digitL i.val = [UInt8.ofNat (48 + i.val)] ∧ isAf (UInt8.ofNat (48 + i.val)) = false ∧ isDig (UInt8.ofNat (48 + i.val)) = true ∧ (UInt8.ofNat (48 + i.val)).toNat - 48 = i.val := by decide
  exact ⟨_, this ⟨k, h⟩⟩
theorem sep_noCap (k : Nat) : isCap (sep k) = false := by
  unfold sep
  split <;> decide
theorem given_rd {w : Wld} {gs : List Need} (hok : worldOk w = true) (hl : gs.length ≤ 6) {n : Need} (hn : 0 ≤ clsIx w.cs n.c) (h : givenL w gs n ≠ []) {r : L8} (hr : NoCap r) (f : Nat) : rdE w gs (f + 1) n (givenL w gs n ++ r) = (r, okW) := by
  unfold givenL at h ⊢
  cases h1 : firstK (givenEqAt gs n) gs.length with
  | some k =>
    obtain ⟨hk, hp⟩ := firstK_lt h1
    obtain ⟨c, e1, e2, e3⟩ := letter_af (k := k) (by omega)
    simp only [e1, List.cons_append, List.nil_append]
    simp only [givenEqAt, decide_eq_true_eq] at hp
    unfold rdE
    rw [if_pos e2, e3, hp]
    exact givE_ok hr
  | none =>
    rw [h1] at h
    simp only at h ⊢
    cases h2 : firstK (givenUpAt w gs n) gs.length with
    | none => rw [h2] at h; exact absurd rfl h
    | some k =>
      obtain ⟨hk, hp⟩ := firstK_lt h2
      obtain ⟨c, e1, e2, e3⟩ := letter_af (k := k) (by omega)
      obtain ⟨d, ed, h65, h84⟩ := known_letter (world_cls hok) hn
      unfold givenUpAt at hp
      split at hp
      · rename_i g hg
        simp only [Bool.and_eq_true, decide_eq_true_eq] at hp
        rw [ed] at hp
        simp only [e1, ed, List.cons_append, List.nil_append]
        unfold rdE
        rw [if_pos e2, e3, hg]
        have hcap : isCap d = true := by simp [isCap, h65, h84]
        have hd : (0 : Int) ≤ ix (supersOf w g.c) d := hp.2
        have hn' : (⟨[d], g.t⟩ : Need) = n := by rw [hp.1, ← ed]
        simp only [givE, hcap, hd, hn', if_true]
      · cases hp
theorem findL_rd {fd : Need → Nat → L8 × Nat × L8} {rd : Need → L8 → L8 × L8} {F : Nat} {P : Need → Prop} (h : ∀ m a, P m → (fd m a).2.2 = [] → (fd m a).1.length < F → ∀ r, NoCap r → rd m ((fd m a).1 ++ r) = (r, okW)) :
    ∀ (ms : List Need) (k : Nat) (out : L8) (a : Nat), (∀ m ∈ ms, P m) → (findL fd ms k out a).2.2 = [] → (findL fd ms k out a).1.length ≤ out.length + F → ∃ x, (findL fd ms k out a).1 = out ++ x ∧ ∀ r, NoCap r → NoCap (x ++ r) ∧ lpE rd ms k (x ++ r) = (r, okW)
  | [], k, out, a, _, _, _ => ⟨[], by simp [findL_nil], fun r hr => ⟨hr, rfl⟩⟩
  | m :: ms, k, out, a, hp, h1, h2 => by
    rw [findL_cons] at h1 h2 ⊢
    split at h1
    · rename_i hm
      rw [if_pos hm] at h2 ⊢
      have hlen : ∀ (ms : List Need) (k : Nat) (out : L8) (a : Nat), (findL fd ms k out a).2.2 = [] → out.length ≤ (findL fd ms k out a).1.length := by
        intro ms
        induction ms with
        | nil => intro k out a _; exact Nat.le_refl _
        | cons m' ms ih =>
          intro k out a e
          rw [findL_cons] at e ⊢
          split at e
          · rename_i hm'
            rw [if_pos hm']
            have := ih _ _ _ e
            simp only [List.length_append] at this
            omega
          · rename_i hm'; exact absurd e hm'
      have g0 := hlen _ _ _ _ h1
      simp only [List.length_append, List.length_cons, List.length_nil] at g0
      obtain ⟨x, e, hx⟩ := findL_rd h ms (k + 1) (out ++ [sep k] ++ (fd m a).1) (fd m a).2.1 (fun m' hm' => hp m' (List.mem_cons_of_mem _ hm')) h1 (by simp only [List.length_append, List.length_cons, List.length_nil]; omega)
      refine ⟨[sep k] ++ (fd m a).1 ++ x, by rw [e]; simp, fun r hr => ?_⟩
      obtain ⟨g1, g2⟩ := hx r hr
      refine ⟨sep_noCap k, ?_⟩
      have g3 := h m a (hp m (List.mem_cons_self ..)) hm (by omega) (x ++ r) g1
      have e2 : [sep k] ++ (fd m a).1 ++ x ++ r = sep k :: ((fd m a).1 ++ (x ++ r)) := by simp
      rw [e2]
      unfold lpE
      have e3 : pfx (sep k :: ((fd m a).1 ++ (x ++ r))) (sep k) = true := by simp [pfx]
      rw [if_pos e3, List.tail_cons, g3, if_pos rfl]
      exact g2
    · rename_i hm; exact absurd h1 hm
theorem findS_rd {w : Wld} {gs : List Need} (hok : worldOk w = true) (hw : w.Sm) (hl : gs.length ≤ 6) : ∀ (f : Nat) (n : Need) (a F : Nat), 0 ≤ clsIx w.cs n.c → (findS w gs f n a).2.2 = [] → (findS w gs f n a).1.length < F → ∀ r, NoCap r → rdE w gs F n ((findS w gs f n a).1 ++ r) = (r, okW)
  | f, n, a, 0, hn, h1, h2, r, hr => by omega
  | f, n, a, F + 1, hn, h1, h2, r, hr => by
    by_cases hg : givenL w gs n ≠ []
    · rw [findS_given hg]
      exact given_rd hok hl hn hg hr F
    · match f, h1, h2 with
      | 0, h1, h2 =>
        exfalso
        unfold findS at h1
        rw [if_neg hg] at h1
        split at h1
        · exact absurd h1 (by simp [longL])
        · exact absurd h1 (by simp [deepL])
      | f + 1, h1, h2 =>
        unfold findS at h1 h2 ⊢
        rw [if_neg hg] at h1 h2 ⊢
        split at h1
        · exact absurd h1 (by simp [longL])
        · rename_i hlong
          rw [if_neg hlong] at h2 ⊢
          unfold findB at h1 h2 ⊢
          split at h1
          · exact absurd h1 (by simp [noneL])
          · rename_i k hk
            try simp only [hk] at h2 ⊢
            split at h1
            · rename_i i hi
              try simp only [hi] at h2 ⊢
              split at h1
              · rename_i ms hm
                try simp only [hm] at h2 ⊢
                unfold closeL at h1 h2 ⊢
                split at h1
                · rename_i hL
                  rw [if_pos hL] at h2 ⊢
                  simp only [List.length_append] at h2
                  have hms := (needs_ok hok hw hi hm).2
                  obtain ⟨c, e1, e2, e3, e4⟩ := digit_is (k := k) (by have := (List.getElem?_eq_some_iff.1 hi).1; have := world_len hok; omega)
                  have hd1 : (digitL k).length = 1 := rfl
                  obtain ⟨x, ex, hx⟩ := findL_rd (fd := findS w gs f) (rd := rdE w gs F) (F := F) (P := fun m => 0 ≤ clsIx w.cs m.c) (fun m a' hm' g1 g2 r' hr' => findS_rd hok hw hl f m a' F hm' g1 g2 r' hr') ms 0 (digitL k) (a + 1) (fun m hm' => (hms m hm').1.1) hL (by omega)
                  have hmem : c.toNat - 48 ∈ candIx w n := by rw [e4, hk]; simp
                  have e5 : w.is[c.toNat - 48]? = some i := by rw [e4]; exact hi
                  show rdE w gs (F + 1) n ((findL (findS w gs f) ms 0 (digitL k) (a + 1)).1 ++ (if ms.length = 0 then [] else [41]) ++ r) = _
                  rw [ex, e1]
                  by_cases h0 : ms.length = 0
                  · rw [if_pos h0]
                    have e6 : [c] ++ x ++ [] ++ r = c :: (x ++ r) := by simp
                    rw [e6]
                    unfold rdE
                    rw [if_neg (by rw [e2]; simp), if_pos ⟨e3, hmem⟩, e5]
                    simp only [hm]
                    rw [(hx r hr).2]
                    unfold endE
                    rw [if_pos rfl, if_pos h0]
                  · rw [if_neg h0]
                    have e6 : [c] ++ x ++ [41] ++ r = c :: (x ++ (41 :: r)) := by simp
                    rw [e6]
                    unfold rdE
                    rw [if_neg (by rw [e2]; simp), if_pos ⟨e3, hmem⟩, e5]
                    simp only [hm]
                    have h41 : NoCap (41 :: r) := by show isCap 41 = false; decide
                    rw [(hx (41 :: r) h41).2]
                    unfold endE
                    rw [if_pos rfl, if_neg h0]
                    have e7 : pfx (41 :: r) 41 = true := by simp [pfx]
                    rw [if_pos e7]
                    rfl
                · rename_i hL; exact absurd h1 hL
              · exact absurd h1 (by simp [bigL])
            · exact absurd h1 (by simp [noneL])
          · exact absurd h1 (by simp [manyL])
/-- **evidence that is found is right** -/
theorem findGiven_ok {w : Wld} {gs : List Need} {n : Need} (hw : w.Sm) (h : (findGiven w gs n).2 = []) : checkGiven w gs n (findGiven w gs n).1 = okW := by
  unfold findGiven at h ⊢
  split at h
  · rename_i hb
    rw [if_pos hb]
    have hb' := hb
    rw [Bool.and_eq_true, Bool.and_eq_true] at hb'
    have hg := hb'.1
    simp only [givensOk, Bool.and_eq_true, decide_eq_true_eq] at hg
    have hn := hb'.2.2
    simp only [needOk, Bool.and_eq_true, decide_eq_true_eq] at hn
    have := findS_rd hb'.2.1 hw hg.2 31 n 0 ((findS w gs 31 n 0).1.length + 1) hn.1 h (Nat.lt_succ_self _) [] trivial
    rw [List.append_nil] at this
    unfold checkGiven
    rw [if_pos hb]
    simp only [this]
    rw [if_neg (fun x => x.2 rfl)]
  · exact absurd h (by simp [wrongL])
end Go.Isea
