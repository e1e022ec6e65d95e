/- Contracts of functions of this program, for all arguments that satisfy what each lemma asks for. -/
import Derived.Test.YtnocdggngfiebaaGreatDoorMZ
import Derived.Test.YtnocdggngfiebaaGreatDoorMJ
set_option linter.all false
namespace Go.Isea
open Go
/-- a checker's cells -/
def ckE (w : Wld) (gs : List Need) (s : L8) (p : Nat) : List AV := [.sl (w.cs.map Cls.row), .sl (w.is.map Inst.row), .sl (gs.map Need.row), str s, .v (.int .i64 (p : Nat))]
def nextC (s : L8) (p : Nat) : UInt8 := (s[p]?).getD 0
/-- where the checker stands behind a given -/
def gvQ (gs : List Need) (s : L8) (c : UInt8) (p : Nat) : Nat := match gs[c.toNat - 97]? with
  | none => p
  | some _ => if isCap (nextC s p) = true then p + 1 else p
def lpQ (Q : Need → Nat → Nat) (rd : Need → L8 → L8 × L8) (s : L8) : List Need → Nat → Nat → Nat
  | [], _, p => p
  | m :: ms, k, p => if pfx (s.drop p) (sep k) = true then (if (rd m (s.drop (p + 1))).2 = okW then lpQ Q rd s ms (k + 1) (Q m (p + 1)) else Q m (p + 1)) else p
def enQ (ms : List Need) (s : L8) (ok : Bool) (p : Nat) : Nat := if ok = true then (if ms.length = 0 then p else if pfx (s.drop p) 41 = true then p + 1 else p) else p
def ckQ (w : Wld) (gs : List Need) (s : L8) : Nat → Need → Nat → Nat
  | 0, _, p => p
  | F + 1, n, p => match s[p]? with
    | none => p + 1
    | some c => if isAf c = true then gvQ gs s c (p + 1)
      else if isDig c = true ∧ (c.toNat - 48) ∈ candIx w n then (match w.is[c.toNat - 48]? with
        | some i => (match needsOf i n.t with
          | some ms => enQ ms s (decide ((lpE (rdE w gs F) ms 0 (s.drop (p + 1))).2 = okW)) (lpQ (ckQ w gs s F) (rdE w gs F) s ms 0 (p + 1))
          | none => p + 1)
        | none => p + 1)
      else p + 1
theorem drop_at {s : L8} {p : Nat} {c : UInt8} (h : s[p]? = some c) : s.drop p = c :: s.drop (p + 1) := drop_get h
theorem drop_no {s : L8} {p : Nat} (h : s[p]? = none) : s.drop p = [] := List.drop_of_length_le (List.getElem?_eq_none_iff.1 h)
theorem nextC_at {s : L8} {p : Nat} {c : UInt8} (h : s[p]? = some c) : nextC s p = c := by unfold nextC; rw [h]; rfl
theorem nextC_no {s : L8} {p : Nat} (h : s[p]? = none) : nextC s p = 0 := by unfold nextC; rw [h]; rfl
theorem pfx_at {s : L8} {p : Nat} {d : UInt8} (hd : d ≠ 0) : pfx (s.drop p) d = decide (nextC s p = d) := by
  cases h : s[p]? with
  | none => rw [drop_no h, nextC_no h]; simp [pfx, hd.symm]
  | some c => rw [drop_at h, nextC_at h]; rfl
/-- what is told of the checker's place: behind what is right stands the rest -/
def QOk (s : L8) (x : L8 × L8) (q : Nat) : Prop := q ≤ s.length + 1 ∧ (x.2 = okW → q ≤ s.length ∧ s.drop q = x.1)
theorem drop_tail {s : L8} {p : Nat} : (s.drop p).tail = s.drop (p + 1) := by rw [List.tail_drop]
theorem lpQ_ok {Q : Need → Nat → Nat} {rd : Need → L8 → L8 × L8} {s : L8} {p0 : Nat} (h : ∀ m p, p0 ≤ p → p ≤ s.length → QOk s (rd m (s.drop p)) (Q m p) ∧ ((rd m (s.drop p)).2 = okW → p0 ≤ Q m p)) : ∀ (ms : List Need) (k p : Nat), p0 ≤ p → p ≤ s.length → QOk s (lpE rd ms k (s.drop p)) (lpQ Q rd s ms k p) ∧ ((lpE rd ms k (s.drop p)).2 = okW → p0 ≤ lpQ Q rd s ms k p)
  | [], k, p, h0, hp => ⟨⟨by show p ≤ _; omega, fun _ => ⟨hp, rfl⟩⟩, fun _ => h0⟩
  | m :: ms, k, p, h0, hp => by
    unfold lpE lpQ
    rw [drop_tail]
    split
    · rename_i hpf
      have hp1 : p + 1 ≤ s.length := by
        cases hs : s[p]? with
        | none => rw [drop_no hs] at hpf; cases hpf
        | some c => have := (List.getElem?_eq_some_iff.1 hs).1; omega
      obtain ⟨⟨h1, h2⟩, h3⟩ := h m (p + 1) (by omega) hp1
      split
      · rename_i hok
        obtain ⟨g1, g2⟩ := h2 hok
        have := lpQ_ok h ms (k + 1) (Q m (p + 1)) (h3 hok) g1
        rw [g2] at this
        exact this
      · exact ⟨⟨h1, h2⟩, h3⟩
    · exact ⟨⟨by omega, fun e => absurd e (by show ¬ partsW = okW; decide)⟩, fun e => absurd e (by show ¬ partsW = okW; decide)⟩
theorem isAf_ix (c : UInt8) : (isAf c = true → ix abc c = ((c.toNat - 97 : Nat) : Int) ∧ c.toNat - 97 < 6) ∧ (isAf c = false → ix abc c = -1) := forall_u8 (p := fun c => (isAf c = true → ix abc c = ((c.toNat - 97 : Nat) : Int) ∧ c.toNat - 97 < 6) ∧ (isAf c = false → ix abc c = -1)) (by decide +kernel) c
theorem isCap_in (c : UInt8) : (decide ((65 : Int) ≤ ((c.toNat : Nat) : Int)) && decide (((c.toNat : Nat) : Int) ≤ 84)) = isCap c := forall_u8 (p := fun c => (decide ((65 : Int) ≤ ((c.toNat : Nat) : Int)) && decide (((c.toNat : Nat) : Int) ≤ 84)) = isCap c) (by decide +kernel) c
theorem isDig_iff (c : UInt8) : isDig c = true ↔ 48 ≤ c.toNat ∧ c.toNat ≤ 57 := forall_u8 (p := fun c => isDig c = true ↔ 48 ≤ c.toNat ∧ c.toNat ≤ 57) (by decide +kernel) c
theorem gvQ_ok {w : Wld} {gs : List Need} {s : L8} {n : Need} {c : UInt8} {p : Nat} (hp : p ≤ s.length) : QOk s (match gs[c.toNat - 97]? with | some g => givE w n g (s.drop p) | none => (s.drop p, givenW)) (gvQ gs s c p) := by
  unfold gvQ
  cases hg : gs[c.toNat - 97]? with
  | some g =>
    simp only
    cases hs : s[p]? with
    | none =>
      rw [nextC_no hs, drop_no hs]
      have : isCap 0 = false := by decide
      rw [this, if_neg (by simp)]
      exact ⟨by omega, fun _ => ⟨hp, drop_no hs⟩⟩
    | some d =>
      have hlt := (List.getElem?_eq_some_iff.1 hs).1
      rw [nextC_at hs, drop_at hs]
      have e : givE w n g (d :: s.drop (p + 1)) = if isCap d = true then (if 0 ≤ ix (supersOf w g.c) d then (s.drop (p + 1), if (⟨[d], g.t⟩ : Need) = n then okW else givenW) else (d :: s.drop (p + 1), givenW)) else (d :: s.drop (p + 1), if g = n then okW else givenW) := rfl
      rw [e]
      by_cases hcap : isCap d = true
      · rw [if_pos hcap, if_pos hcap]
        split
        · exact ⟨by omega, fun _ => ⟨by omega, rfl⟩⟩
        · exact ⟨by omega, fun e => absurd e (by show ¬ givenW = okW; decide)⟩
      · rw [if_neg hcap, if_neg hcap]
        exact ⟨by omega, fun _ => ⟨hp, drop_at hs⟩⟩
  | none => exact ⟨by show p ≤ _; omega, fun e => absurd e (by show ¬ givenW = okW; decide)⟩
theorem ckQ_ok {w : Wld} {gs : List Need} {s : L8} : ∀ (F : Nat) (n : Need) (p : Nat), p ≤ s.length → QOk s (rdE w gs F n (s.drop p)) (ckQ w gs s F n p) ∧ ((rdE w gs F n (s.drop p)).2 = okW → p ≤ ckQ w gs s F n p)
  | 0, n, p, hp => ⟨⟨by show p ≤ _; omega, fun e => absurd e (by show ¬ instanceW = okW; decide)⟩, fun e => absurd e (by show ¬ instanceW = okW; decide)⟩
  | F + 1, n, p, hp => by
    unfold ckQ
    cases hs : s[p]? with
    | none =>
      rw [drop_no hs]
      exact ⟨⟨by show p + 1 ≤ _; omega, fun e => absurd e (by show ¬ instanceW = okW; decide)⟩, fun e => absurd e (by show ¬ instanceW = okW; decide)⟩
    | some c =>
      have hlt := (List.getElem?_eq_some_iff.1 hs).1
      rw [drop_at hs]
      unfold rdE
      simp only
      by_cases haf : isAf c = true
      · rw [if_pos haf, if_pos haf]
        have := gvQ_ok (w := w) (gs := gs) (n := n) (c := c) (p := p + 1) (s := s) (by omega)
        refine ⟨this, fun _ => ?_⟩
        unfold gvQ
        split
        · omega
        · split <;> omega
      · rw [if_neg haf, if_neg haf]
        have no : ¬ instanceW = okW := by decide
        have nb : ¬ bigL = okW := by decide
        by_cases hd : isDig c = true ∧ (c.toNat - 48) ∈ candIx w n
        · rw [if_pos hd, if_pos hd]
          cases hi : w.is[c.toNat - 48]? with
          | none => exact ⟨⟨by show p + 1 ≤ _; omega, fun e => absurd e no⟩, fun e => absurd e no⟩
          | some i =>
            simp only
            cases hm : needsOf i n.t with
            | none => exact ⟨⟨by show p + 1 ≤ _; omega, fun e => absurd e nb⟩, fun e => absurd e nb⟩
            | some ms =>
              simp only
              have key := lpQ_ok (s := s) (p0 := p + 1) (Q := ckQ w gs s F) (rd := rdE w gs F) (fun m p' h0 h' => ⟨(ckQ_ok F m p' h').1, fun e => Nat.le_trans h0 ((ckQ_ok F m p' h').2 e)⟩) ms 0 (p + 1) (Nat.le_refl _) (by omega)
              obtain ⟨⟨k1, k2⟩, k3⟩ := key
              have np : ¬ partsW = okW := by decide
              unfold enQ endE
              by_cases hok : (lpE (rdE w gs F) ms 0 (s.drop (p + 1))).2 = okW
              · obtain ⟨k4, k5⟩ := k2 hok
                have k6 := k3 hok
                rw [if_pos hok, if_pos (decide_eq_true hok), ← k5]
                by_cases h0 : ms.length = 0
                · rw [if_pos h0, if_pos h0]
                  exact ⟨⟨by omega, fun _ => ⟨k4, k5⟩⟩, fun _ => by omega⟩
                · rw [if_neg h0, if_neg h0]
                  by_cases h41 : pfx (s.drop (lpQ (ckQ w gs s F) (rdE w gs F) s ms 0 (p + 1))) 41 = true
                  · rw [if_pos h41, if_pos h41]
                    have : lpQ (ckQ w gs s F) (rdE w gs F) s ms 0 (p + 1) + 1 ≤ s.length := by
                      cases hs' : s[lpQ (ckQ w gs s F) (rdE w gs F) s ms 0 (p + 1)]? with
                      | none => rw [drop_no hs'] at h41; cases h41
                      | some c => have := (List.getElem?_eq_some_iff.1 hs').1; omega
                    exact ⟨⟨by omega, fun _ => ⟨this, drop_tail.symm⟩⟩, fun _ => by omega⟩
                  · rw [if_neg h41, if_neg h41]
                    exact ⟨⟨by omega, fun e => absurd e np⟩, fun e => absurd e np⟩
              · rw [if_neg hok, if_neg (by simpa using hok)]
                exact ⟨⟨k1, fun e => absurd e hok⟩, fun e => absurd e hok⟩
        · rw [if_neg hd, if_neg hd]
          exact ⟨⟨by omega, fun e => absurd e no⟩, fun e => absurd e no⟩
end Go.Isea
namespace Go.Proofs.YtnocdggngfiebaaGreatDoor
open Go Go.Isea
set_option maxRecDepth 100000
set_option maxHeartbeats 8000000
theorem s_cnext {w : Wld} {gs : List Need} {s : L8} {l : Nat} (p : Nat) (h : AH) (hl : l < h.n) (ho : h.o l = .cells (ckE w gs s p)) (hs : s.length ≤ 1000000) : Isea.Good Tryz.prog 203 [.ptr l 0] h [] (.v (.int .u8 ((nextC s p).toNat : Nat))) h := by
  by_cases h1 : s.length ≤ p
  · have h2 : s[p]? = none := List.getElem?_eq_none h1
    have h1' : (((s.length : Nat) : Int) ≤ ((p : Nat) : Int)) = True := eq_true (by omega)
    rw [nextC_no h2]
    refine good [] [] Tryz.func203 rfl rfl Tryz.ntmps203 (by kernel_rfl) mixed (by kernel_rfl) ?_
    simp -dsimp only [go_sem, ho, ckE, h1', hl]
    exact fin_pure (by simp -dsimp only [go_sem]) (by simp -dsimp only [go_sem]; rfl)
  · have h3 : p < s.length := by omega
    obtain ⟨b, hb⟩ := get_some h3
    have h1' : (((s.length : Nat) : Int) ≤ ((p : Nat) : Int)) = False := eq_false (by omega)
    rw [nextC_at hb]
    refine good [] [] Tryz.func203 rfl rfl Tryz.ntmps203 (by kernel_rfl) mixed (by kernel_rfl) ?_
    simp -dsimp only [go_sem, ho, ckE, h1', hl, hb, h3]
    exact fin_pure (by simp -dsimp only [go_sem]) (by simp -dsimp only [go_sem])
end Go.Proofs.YtnocdggngfiebaaGreatDoor

namespace Go.Proofs.YtnocdggngfiebaaGreatDoor
open Go Go.Isea
set_option maxRecDepth 100000
set_option maxHeartbeats 16000000
def gvR (w : Wld) (gs : List Need) (s : L8) (n : Need) (c : UInt8) (p : Nat) : L8 × L8 := match gs[c.toNat - 97]? with
  | some g => givE w n g (s.drop p)
  | none => (s.drop p, givenW)
theorem s_cgiven {w : Wld} {gs : List Need} {s : L8} {l p : Nat} {c : UInt8} (n : Need) (h : AH) (hw : w.Sm) (hl : l < h.n) (ho : h.o l = .cells (ckE w gs s p)) (hs : s.length ≤ 1000000) (hc : s[p]? = some c) (haf : isAf c = true) :
    Isea.Good Tryz.prog 204 [.ptr l 0, .agg n.row] h [l] (str (gvR w gs s n c (p + 1)).2) (h.set l (.cells (ckE w gs s (gvQ gs s c (p + 1))))) := by
  have hp := (List.getElem?_eq_some_iff.1 hc).1
  have hln : ¬ l = h.n := by omega
  have hln2 : ¬ h.n = l := by omega
  obtain ⟨hix, h6⟩ := (isAf_ix c).1 haf
  have p1 : p + 1 ≤ 9223372036854775807 := by omega
  have p2 : p + 1 + 1 ≤ 9223372036854775807 := by omega
  have hF := fun H => s_l13Find abc c H (by decide)
  rw [hix] at hF
  have hN := s_cnext (w := w) (gs := gs) (s := s) p h hl ho hs
  rw [nextC_at hc] at hN
  unfold gvR gvQ
  unfold abc at hF
  generalize hi : c.toNat - 97 = i at *
  cases hg : gs[i]? with
  | none =>
    have hge : ((gs.length : Nat) : Int) ≤ ((i : Nat) : Int) := by have := List.getElem?_eq_none_iff.1 hg; omega
    have hge := eq_true hge
    refine good [] [(9, OT.o 0 (OT.o 1 (OT.o 2 (OT.o 3 (OT.o 4 (OT.o 5 (OT.o 7 (OT.o 8 (OT.o 6 (OT.o 9 (OT.o 10 OT.e)))))))))))] Tryz.func204 rfl rfl Tryz.ntmps204 (by kernel_rfl) mixed (by kernel_rfl) ?_
    simp -dsimp only [go_sem, Need.row]
    refine call_pure hN ?_
    simp -dsimp only [go_sem]
    refine call_pure (hF _) ?_
    simp -dsimp only [go_sem, hl, ho, ckE, p1, hge, List.length_map]
    exact fin_one (by simp -dsimp only [go_sem]) (by simp -dsimp only [go_sem]; rfl) (by simp -dsimp only [go_sem, hl, hln, ckE])
  | some g =>
    have hil := (List.getElem?_eq_some_iff.1 hg).1
    have hge : (((gs.length : Nat) : Int) ≤ ((i : Nat) : Int)) = False := eq_false (by omega)
    simp only
    have hL := fun H => s_l1In ((nextC s (p + 1)).toNat : Nat) 65 84 H
    rw [isCap_in] at hL
    have hSu := fun H => s_SupersOf w g.c H hw
    have hSl : (supersOf w g.c).length ≤ 256 := by
      unfold supersOf
      split
      · rename_i hh
        simp only [hasClass, worldOk, Bool.and_eq_true, decide_eq_true_eq] at hh
        have hk0 := supersAt_known hh.1.1.2 g.c
        exact (itS_ok hh.1.1.2 hk0.1 hk0.2 _).2
      · simp
    cases hs1 : s[p + 1]? with
    | none =>
      have e1 : s.drop (p + 1) = [] := drop_no hs1
      rw [nextC_no hs1] at hL ⊢
      have hcap : isCap 0 = false := by decide
      rw [hcap] at hL ⊢
      rw [e1, if_neg (by simp)]
      by_cases hgn : g = n
      · have hgn1 : (¬(g.c = n.c ∧ g.t = n.t)) = False := eq_false fun q => q (by rw [hgn]; exact ⟨rfl, rfl⟩)
        have e2 : givE w n g [] = ([], okW) := by simp [givE, hgn]
        rw [e2]
        refine good [] [(9, OT.o 0 (OT.o 1 (OT.o 2 (OT.o 3 (OT.o 4 (OT.o 5 (OT.o 7 (OT.o 8 (OT.o 6 (OT.o 9 (OT.o 10 OT.e)))))))))))] Tryz.func204 rfl rfl Tryz.ntmps204 (by kernel_rfl) mixed (by kernel_rfl) ?_
        simp -dsimp only [go_sem, Need.row]
        refine call_pure hN ?_
        simp -dsimp only [go_sem]
        refine call_pure (hF _) ?_
        simp -dsimp only [go_sem, hl, ho, ckE, p1, hge, hil, hg, Need.row, List.length_map]
        refine call_pure (s_cnext (w := w) (gs := gs) (s := s) (p + 1) _ (by simp -dsimp only [go_sem, hl]) (by simp -dsimp only [go_sem, hln, ckE]) hs) ?_
        rw [nextC_no hs1]
        simp -dsimp only [go_sem]
        refine call_pure (hL _) ?_
        simp -dsimp only [go_sem, hgn1]
        exact fin_one (by simp -dsimp only [go_sem]) (by simp -dsimp only [go_sem]; rfl) (by simp -dsimp only [go_sem, hl, hln, ckE])
      · have hgn1 : (¬(g.c = n.c ∧ g.t = n.t)) = True := eq_true fun q => hgn (by cases g; cases n; simp at q; rw [q.1, q.2])
        have e2 : givE w n g [] = ([], givenW) := by simp [givE, hgn]
        rw [e2]
        refine good [] [(9, OT.o 0 (OT.o 1 (OT.o 2 (OT.o 3 (OT.o 4 (OT.o 5 (OT.o 7 (OT.o 8 (OT.o 6 (OT.o 9 (OT.o 10 OT.e)))))))))))] Tryz.func204 rfl rfl Tryz.ntmps204 (by kernel_rfl) mixed (by kernel_rfl) ?_
        simp -dsimp only [go_sem, Need.row]
        refine call_pure hN ?_
        simp -dsimp only [go_sem]
        refine call_pure (hF _) ?_
        simp -dsimp only [go_sem, hl, ho, ckE, p1, hge, hil, hg, Need.row, List.length_map]
        refine call_pure (s_cnext (w := w) (gs := gs) (s := s) (p + 1) _ (by simp -dsimp only [go_sem, hl]) (by simp -dsimp only [go_sem, hln, ckE]) hs) ?_
        rw [nextC_no hs1]
        simp -dsimp only [go_sem]
        refine call_pure (hL _) ?_
        simp -dsimp only [go_sem, hgn1]
        exact fin_one (by simp -dsimp only [go_sem]) (by simp -dsimp only [go_sem]; rfl) (by simp -dsimp only [go_sem, hl, hln, ckE])
    | some d =>
      have hq := (List.getElem?_eq_some_iff.1 hs1).1
      have e1 : s.drop (p + 1) = d :: s.drop (p + 1 + 1) := drop_at hs1
      rw [nextC_at hs1] at hL ⊢
      have e0 : givE w n g (d :: s.drop (p + 1 + 1)) = if isCap d = true then (if 0 ≤ ix (supersOf w g.c) d then (s.drop (p + 1 + 1), if (⟨[d], g.t⟩ : Need) = n then okW else givenW) else (d :: s.drop (p + 1 + 1), givenW)) else (d :: s.drop (p + 1 + 1), if g = n then okW else givenW) := rfl
      rw [e1, e0]
      cases hcap : isCap d with
      | false =>
        rw [hcap] at hL
        simp only [Bool.false_eq_true, if_false]
        by_cases hgn : g = n
        · have hgn1 : (¬(g.c = n.c ∧ g.t = n.t)) = False := eq_false fun q => q (by rw [hgn]; exact ⟨rfl, rfl⟩)
          rw [if_pos hgn]
          refine good [] [(9, OT.o 0 (OT.o 1 (OT.o 2 (OT.o 3 (OT.o 4 (OT.o 5 (OT.o 7 (OT.o 8 (OT.o 6 (OT.o 9 (OT.o 10 OT.e)))))))))))] Tryz.func204 rfl rfl Tryz.ntmps204 (by kernel_rfl) mixed (by kernel_rfl) ?_
          simp -dsimp only [go_sem, Need.row]
          refine call_pure hN ?_
          simp -dsimp only [go_sem]
          refine call_pure (hF _) ?_
          simp -dsimp only [go_sem, hl, ho, ckE, p1, hge, hil, hg, Need.row, List.length_map]
          refine call_pure (s_cnext (w := w) (gs := gs) (s := s) (p + 1) _ (by simp -dsimp only [go_sem, hl]) (by simp -dsimp only [go_sem, hln, ckE]) hs) ?_
          rw [nextC_at hs1]
          simp -dsimp only [go_sem]
          refine call_pure (hL _) ?_
          simp -dsimp only [go_sem, hgn1]
          exact fin_one (by simp -dsimp only [go_sem]) (by simp -dsimp only [go_sem]; rfl) (by simp -dsimp only [go_sem, hl, hln, ckE])
        · have hgn1 : (¬(g.c = n.c ∧ g.t = n.t)) = True := eq_true fun q => hgn (by cases g; cases n; simp at q; rw [q.1, q.2])
          rw [if_neg hgn]
          refine good [] [(9, OT.o 0 (OT.o 1 (OT.o 2 (OT.o 3 (OT.o 4 (OT.o 5 (OT.o 7 (OT.o 8 (OT.o 6 (OT.o 9 (OT.o 10 OT.e)))))))))))] Tryz.func204 rfl rfl Tryz.ntmps204 (by kernel_rfl) mixed (by kernel_rfl) ?_
          simp -dsimp only [go_sem, Need.row]
          refine call_pure hN ?_
          simp -dsimp only [go_sem]
          refine call_pure (hF _) ?_
          simp -dsimp only [go_sem, hl, ho, ckE, p1, hge, hil, hg, Need.row, List.length_map]
          refine call_pure (s_cnext (w := w) (gs := gs) (s := s) (p + 1) _ (by simp -dsimp only [go_sem, hl]) (by simp -dsimp only [go_sem, hln, ckE]) hs) ?_
          rw [nextC_at hs1]
          simp -dsimp only [go_sem]
          refine call_pure (hL _) ?_
          simp -dsimp only [go_sem, hgn1]
          exact fin_one (by simp -dsimp only [go_sem]) (by simp -dsimp only [go_sem]; rfl) (by simp -dsimp only [go_sem, hl, hln, ckE])
      | true =>
        rw [hcap] at hL
        simp only [if_true]
        have hF2 := fun H => s_l13Find (supersOf w g.c) d H (by omega)
        have hsl : ((s.drop (p + 1)).take 1) = [d] := by rw [e1]; rfl
        have hq2 : p + 2 ≤ s.length := by omega
        have p3 : p + 2 ≤ 9223372036854775807 := by omega
        have hsl3 : (s.drop (p + 1)).take (p + 2 - (p + 1)) = [d] := by rw [show p + 2 - (p + 1) = 1 by omega, e1]; rfl
        have hsl2 : (s.take (p + 1 + 1)).drop (p + 1) = [d] := by rw [List.drop_take, e1]; simp
        by_cases h0 : 0 ≤ ix (supersOf w g.c) d
        · have h0' : (ix (supersOf w g.c) d < 0) = False := eq_false (by omega)
          rw [if_pos h0]
          by_cases hgn : (⟨[d], g.t⟩ : Need) = n
          · have hgn1 : (¬([d] = n.c ∧ g.t = n.t)) = False := eq_false fun q => q (by rw [← hgn]; exact ⟨rfl, rfl⟩)
            rw [if_pos hgn]
            refine good [] [(9, OT.o 0 (OT.o 1 (OT.o 2 (OT.o 3 (OT.o 4 (OT.o 5 (OT.o 7 (OT.o 8 (OT.o 6 (OT.o 9 (OT.o 10 OT.e)))))))))))] Tryz.func204 rfl rfl Tryz.ntmps204 (by kernel_rfl) mixed (by kernel_rfl) ?_
            simp -dsimp only [go_sem, Need.row]
            refine call_pure hN ?_
            simp -dsimp only [go_sem]
            refine call_pure (hF _) ?_
            simp -dsimp only [go_sem, hl, ho, ckE, p1, hge, hil, hg, Need.row, List.length_map]
            refine call_pure (s_cnext (w := w) (gs := gs) (s := s) (p + 1) _ (by simp -dsimp only [go_sem, hl]) (by simp -dsimp only [go_sem, hln, ckE]) hs) ?_
            rw [nextC_at hs1]
            simp -dsimp only [go_sem]
            refine call_pure (hL _) ?_
            have hsu := hSu
            simp -dsimp only [go_sem, Wld.row] at hsu ⊢
            simp -dsimp only [go_sem, hl, hln, p1, p2, p3, hq, hq2, hsl, hsl2, hsl3, Wld.row]
            refine call_pure (hsu _) ?_
            simp -dsimp only [go_sem]
            refine call_pure (hF2 _) ?_
            simp -dsimp only [go_sem, h0', hgn1, hln, hln2]
            exact fin_one (by simp -dsimp only [go_sem]) (by simp -dsimp only [go_sem]; rfl) (by simp -dsimp only [go_sem, hl, hln, ckE])
          · have hgn1 : (¬([d] = n.c ∧ g.t = n.t)) = True := eq_true fun q => hgn (by cases n; simp at q; rw [q.1, q.2])
            rw [if_neg hgn]
            refine good [] [(9, OT.o 0 (OT.o 1 (OT.o 2 (OT.o 3 (OT.o 4 (OT.o 5 (OT.o 7 (OT.o 8 (OT.o 6 (OT.o 9 (OT.o 10 OT.e)))))))))))] Tryz.func204 rfl rfl Tryz.ntmps204 (by kernel_rfl) mixed (by kernel_rfl) ?_
            simp -dsimp only [go_sem, Need.row]
            refine call_pure hN ?_
            simp -dsimp only [go_sem]
            refine call_pure (hF _) ?_
            simp -dsimp only [go_sem, hl, ho, ckE, p1, hge, hil, hg, Need.row, List.length_map]
            refine call_pure (s_cnext (w := w) (gs := gs) (s := s) (p + 1) _ (by simp -dsimp only [go_sem, hl]) (by simp -dsimp only [go_sem, hln, ckE]) hs) ?_
            rw [nextC_at hs1]
            simp -dsimp only [go_sem]
            refine call_pure (hL _) ?_
            have hsu := hSu
            simp -dsimp only [go_sem, Wld.row] at hsu ⊢
            simp -dsimp only [go_sem, hl, hln, p1, p2, p3, hq, hq2, hsl, hsl2, hsl3, Wld.row]
            refine call_pure (hsu _) ?_
            simp -dsimp only [go_sem]
            refine call_pure (hF2 _) ?_
            simp -dsimp only [go_sem, h0', hgn1, hln, hln2]
            exact fin_one (by simp -dsimp only [go_sem]) (by simp -dsimp only [go_sem]; rfl) (by simp -dsimp only [go_sem, hl, hln, ckE])
        · have h0' : (ix (supersOf w g.c) d < 0) = True := eq_true (by omega)
          rw [if_neg h0]
          have hgn1 : True := trivial
          refine good [] [(9, OT.o 0 (OT.o 1 (OT.o 2 (OT.o 3 (OT.o 4 (OT.o 5 (OT.o 7 (OT.o 8 (OT.o 6 (OT.o 9 (OT.o 10 OT.e)))))))))))] Tryz.func204 rfl rfl Tryz.ntmps204 (by kernel_rfl) mixed (by kernel_rfl) ?_
          simp -dsimp only [go_sem, Need.row]
          refine call_pure hN ?_
          simp -dsimp only [go_sem]
          refine call_pure (hF _) ?_
          simp -dsimp only [go_sem, hl, ho, ckE, p1, hge, hil, hg, Need.row, List.length_map]
          refine call_pure (s_cnext (w := w) (gs := gs) (s := s) (p + 1) _ (by simp -dsimp only [go_sem, hl]) (by simp -dsimp only [go_sem, hln, ckE]) hs) ?_
          rw [nextC_at hs1]
          simp -dsimp only [go_sem]
          refine call_pure (hL _) ?_
          have hsu := hSu
          simp -dsimp only [go_sem, Wld.row] at hsu ⊢
          simp -dsimp only [go_sem, hl, hln, p1, p2, p3, hq, hq2, hsl, hsl2, hsl3, Wld.row]
          refine call_pure (hsu _) ?_
          simp -dsimp only [go_sem]
          refine call_pure (hF2 _) ?_
          simp -dsimp only [go_sem, h0', hgn1, hln, hln2]
          exact fin_one (by simp -dsimp only [go_sem]) (by simp -dsimp only [go_sem]; rfl) (by simp -dsimp only [go_sem, hl, hln, ckE])
end Go.Proofs.YtnocdggngfiebaaGreatDoor

namespace Go.Isea
open Go
theorem rdE_nil {w : Wld} {gs : List Need} {F : Nat} {n : Need} : rdE w gs (F + 1) n [] = ([], instanceW) := rfl
theorem rdE_cons {w : Wld} {gs : List Need} {F : Nat} {n : Need} {c : UInt8} {r : L8} : rdE w gs (F + 1) n (c :: r) =
    if isAf c = true then (match gs[c.toNat - 97]? with
      | some g => givE w n g r
      | none => (r, givenW))
    else if isDig c = true ∧ (c.toNat - 48) ∈ candIx w n then (match w.is[c.toNat - 48]? with
      | some i => (match needsOf i n.t with
        | some ms => endE ms (lpE (rdE w gs F) ms 0 r)
        | none => (c :: r, bigL))
      | none => (c :: r, instanceW))
    else (c :: r, instanceW) := rfl
theorem ckQ_s {w : Wld} {gs : List Need} {s : L8} {F : Nat} {n : Need} {p : Nat} : ckQ w gs s (F + 1) n p = match s[p]? with
    | none => p + 1
    | some c => if isAf c = true then gvQ gs s c (p + 1)
      else if isDig c = true ∧ (c.toNat - 48) ∈ candIx w n then (match w.is[c.toNat - 48]? with
        | some i => (match needsOf i n.t with
          | some ms => enQ ms s (decide ((lpE (rdE w gs F) ms 0 (s.drop (p + 1))).2 = okW)) (lpQ (ckQ w gs s F) (rdE w gs F) s ms 0 (p + 1))
          | none => p + 1)
        | none => p + 1)
      else p + 1 := rfl
theorem lpE_nil {rd : Need → L8 → L8 × L8} {k : Nat} {s : L8} : lpE rd [] k s = (s, okW) := rfl
theorem lpE_cons {rd : Need → L8 → L8 × L8} {m : Need} {ms : List Need} {k : Nat} {s : L8} : lpE rd (m :: ms) k s = if pfx s (sep k) = true then (if (rd m s.tail).2 = okW then lpE rd ms (k + 1) (rd m s.tail).1 else rd m s.tail) else (s, partsW) := rfl
theorem lpQ_nil {Q : Need → Nat → Nat} {rd : Need → L8 → L8 × L8} {s : L8} {k p : Nat} : lpQ Q rd s [] k p = p := rfl
theorem lpQ_cons {Q : Need → Nat → Nat} {rd : Need → L8 → L8 × L8} {s : L8} {m : Need} {ms : List Need} {k p : Nat} : lpQ Q rd s (m :: ms) k p = if pfx (s.drop p) (sep k) = true then (if (rd m (s.drop (p + 1))).2 = okW then lpQ Q rd s ms (k + 1) (Q m (p + 1)) else Q m (p + 1)) else p := rfl
theorem sep_ne (k : Nat) : sep k ≠ 0 := by unfold sep; split <;> decide
end Go.Isea
namespace Go.Proofs.YtnocdggngfiebaaGreatDoor
open Go Go.Isea
set_option maxRecDepth 100000
set_option maxHeartbeats 16000000
def CkOkS (w : Wld) (gs : List Need) (s : L8) (F : Nat) : Prop := ∀ (n : Need) (p l : Nat) (h : AH), NOk w n → p ≤ s.length → s.length - p < F → l < h.n → h.o l = .cells (ckE w gs s p) →
    Isea.Good Tryz.prog 118 [.ptr l 0, .agg n.row] h [l] (str (rdE w gs F n (s.drop p)).2) (h.set l (.cells (ckE w gs s (ckQ w gs s F n p))))
theorem s_ccheck_step {w : Wld} {gs : List Need} {s : L8} (hok : worldOk w = true) (hw : w.Sm) (hs : s.length ≤ 1000000) {F : Nat} (ih : ∀ G, F = G + 1 → CkOkS w gs s G) : CkOkS w gs s F := by
  intro n p l h hn hp hF0 hl ho
  obtain ⟨G, rfl⟩ : ∃ G, F = G + 1 := ⟨F - 1, by omega⟩
  have ih := ih G rfl
  have hln : ¬ l = h.n := by omega
  have hln2 : ¬ h.n = l := by omega
  have p1 : p + 1 ≤ 9223372036854775807 := by omega
  have hwl := world_len hok
  have hl1 : IntKind.i64.wrap (((w.is.length : Nat) : Int) - 1) = ((w.is.length : Nat) : Int) - 1 := by rw [wrap_i64] <;> omega
  cases hc : s[p]? with
  | none =>
    have e1 : s.drop p = [] := drop_no hc
    have hnc := nextC_no hc
    have e2 : ckQ w gs s (G + 1) n p = p + 1 := by rw [ckQ_s, hc]
    rw [e1, rdE_nil, e2]
    have hF := fun H => s_l13Find abc 0 H (by decide)
    rw [show ix abc 0 = -1 by decide] at hF
    unfold abc at hF
    have hkw : IntKind.i64.wrap ((((0 : UInt8).toNat : Nat) : Int) - 48) = -48 := by decide
    have hL := fun H => s_l1In (-48) 0 (((w.is.length : Nat) : Int) - 1) H
    rw [show (decide ((0 : Int) ≤ -48) && decide ((-48 : Int) ≤ ((w.is.length : Nat) : Int) - 1)) = false by simp] at hL
    refine good [] [(13, OT.o 0 (OT.o 2 (OT.o 3 (OT.o 1 (OT.o 4 OT.e)))))] Tryz.func118 rfl rfl Tryz.ntmps118 (by kernel_rfl) mixed (by kernel_rfl) ?_
    simp -dsimp only [go_sem, Need.row]
    refine call_pure (s_cnext (w := w) (gs := gs) (s := s) p _ (by simp -dsimp only [go_sem, hl]) (by simp -dsimp only [go_sem, ho, hln, ckE]) hs) ?_
    rw [hnc]
    simp -dsimp only [go_sem]
    refine call_pure (hF _) ?_
    simp -dsimp only [go_sem]
    refine call_pure (s_cnext (w := w) (gs := gs) (s := s) p _ (by simp -dsimp only [go_sem, hl]) (by simp -dsimp only [go_sem, ho, hln, ckE]) hs) ?_
    rw [hnc]
    simp -dsimp only [go_sem, hkw, hl, hln, ho, ckE, p1, hl1, List.length_map]
    refine call_pure (hL _) ?_
    simp -dsimp only [go_sem]
    exact fin_one (by simp -dsimp only [go_sem]) (by simp -dsimp only [go_sem]; rfl) (by simp -dsimp only [go_sem, hl, hln, ckE])
  | some c =>
    have hpl := (List.getElem?_eq_some_iff.1 hc).1
    have e1 : s.drop p = c :: s.drop (p + 1) := drop_at hc
    have hnc := nextC_at hc
    rw [e1, rdE_cons, ckQ_s, hc]
    simp only
    cases haf : isAf c with
    | true =>
      obtain ⟨hix, h6⟩ := (isAf_ix c).1 haf
      have hF := fun H => s_l13Find abc c H (by decide)
      rw [hix] at hF
      unfold abc at hF
      simp only [if_true]
      have hGv := s_cgiven (gs := gs) n h hw hl ho hs hc haf
      have hge : ((0 : Int) ≤ ((c.toNat - 97 : Nat) : Int)) = True := eq_true (by omega)
      have e3 : (match gs[c.toNat - 97]? with | some g => givE w n g (s.drop (p + 1)) | none => (s.drop (p + 1), givenW)) = gvR w gs s n c (p + 1) := rfl
      rw [e3]
      generalize gvR w gs s n c (p + 1) = R at hGv ⊢
      generalize gvQ gs s c (p + 1) = q at hGv ⊢
      generalize hi : c.toNat - 97 = i at *
      simp only [Need.row] at hGv
      refine good [] [(13, OT.o 0 (OT.o 2 (OT.o 3 (OT.o 1 (OT.o 4 OT.e)))))] Tryz.func118 rfl rfl Tryz.ntmps118 (by kernel_rfl) mixed (by kernel_rfl) ?_
      simp -dsimp only [go_sem, Need.row]
      refine call_pure (s_cnext (w := w) (gs := gs) (s := s) p _ (by simp -dsimp only [go_sem, hl]) (by simp -dsimp only [go_sem, ho, hln, ckE]) hs) ?_
      rw [hnc]
      simp -dsimp only [go_sem]
      refine call_pure (hF _) ?_
      simp -dsimp only [go_sem, hge]
      refine call_one hGv (by simp -dsimp only [go_sem]) (by simp -dsimp only [go_sem]) ?_
      simp -dsimp only [go_sem]
      exact fin_one (by simp -dsimp only [go_sem]) (by simp -dsimp only [go_sem]) (by simp -dsimp only [go_sem, hl, hln, ckE])
    | false =>
      have hix := (isAf_ix c).2 haf
      have hF := fun H => s_l13Find abc c H (by decide)
      rw [hix] at hF
      unfold abc at hF
      simp only [Bool.false_eq_true, if_false]
      have hc8 := UInt8.toNat_lt c
      have hkw : IntKind.i64.wrap (((c.toNat : Nat) : Int) - 48) = ((c.toNat : Nat) : Int) - 48 := by rw [wrap_i64] <;> omega
      have hL := fun H => s_l1In (((c.toNat : Nat) : Int) - 48) 0 (((w.is.length : Nat) : Int) - 1) H
      by_cases hr : 48 ≤ c.toNat ∧ c.toNat - 48 < w.is.length
      · obtain ⟨hr1, hr2⟩ := hr
        obtain ⟨x, hx⟩ := get_some hr2
        have hxm := List.mem_of_getElem? hx
        have hxs := hw.i x hxm
        have hdg : isDig c = true := (isDig_iff c).2 ⟨hr1, by omega⟩
        have hck : ((c.toNat : Nat) : Int) - 48 = ((c.toNat - 48 : Nat) : Int) := by omega
        have hkw := hkw.trans hck
        rw [hck] at hL
        rw [show (decide ((0 : Int) ≤ ((c.toNat - 48 : Nat) : Int)) && decide (((c.toNat - 48 : Nat) : Int) ≤ ((w.is.length : Nat) : Int) - 1)) = true by simp; omega] at hL
        generalize hk : c.toNat - 48 = k at *
        have hI := fun H => s_IsInstance x.t n.t H hxs.2.1 hn.2.2
        by_cases hcl : x.c = n.c
        · cases hin : isInst x.t n.t with
          | false =>
            have hno : ¬ (isDig c = true ∧ k ∈ candIx w n) := fun q => by
              obtain ⟨y, hy, _, hyi⟩ := cand_inst q.2
              rw [hx] at hy; injection hy with hy; subst hy
              rw [hin] at hyi; cases hyi
            rw [if_neg hno, if_neg hno]
            rw [hin] at hI
            refine good [] [(13, OT.o 0 (OT.o 2 (OT.o 3 (OT.o 1 (OT.o 4 OT.e)))))] Tryz.func118 rfl rfl Tryz.ntmps118 (by kernel_rfl) mixed (by kernel_rfl) ?_
            simp -dsimp only [go_sem, Need.row]
            refine call_pure (s_cnext (w := w) (gs := gs) (s := s) p _ (by simp -dsimp only [go_sem, hl]) (by simp -dsimp only [go_sem, ho, hln, ckE]) hs) ?_
            rw [hnc]
            simp -dsimp only [go_sem]
            refine call_pure (hF _) ?_
            simp -dsimp only [go_sem]
            refine call_pure (s_cnext (w := w) (gs := gs) (s := s) p _ (by simp -dsimp only [go_sem, hl]) (by simp -dsimp only [go_sem, ho, hln, ckE]) hs) ?_
            rw [hnc]
            simp -dsimp only [go_sem, hkw, hl, hln, ho, ckE, p1, hl1, List.length_map]
            refine call_pure (hL _) ?_
            simp -dsimp only [go_sem, hl, hln, hx, hr2, Inst.row, hcl, List.length_map]
            refine call_pure (hI _) ?_
            simp -dsimp only [go_sem]
            exact fin_one (by simp -dsimp only [go_sem]) (by simp -dsimp only [go_sem]; rfl) (by simp -dsimp only [go_sem, hl, hln, ckE])
          | true =>
            have hyes : isDig c = true ∧ k ∈ candIx w n := ⟨hdg, cand_of hx hcl hin⟩
            rw [if_pos hyes, if_pos hyes, hx]
            simp only
            rw [hin] at hI
            have hns : x.ns.length ≤ 1000 := by have := (world_inst hok hx).2.2.2.2.2.1; omega
            have hN := fun H => s_l4Needs x n.t H hxs hn.2.2 hns
            have hnk := fun ms (e : needsOf x n.t = some ms) => needs_ok hok hw hx e
            simp -dsimp only [Inst.row, hcl] at hN
            cases hm : needsOf x n.t with
            | none =>
              rw [hm] at hN
              refine good [] [(13, OT.o 0 (OT.o 2 (OT.o 3 (OT.o 1 (OT.o 4 OT.e)))))] Tryz.func118 rfl rfl Tryz.ntmps118 (by kernel_rfl) mixed (by kernel_rfl) ?_
              simp -dsimp only [go_sem, Need.row]
              refine call_pure (s_cnext (w := w) (gs := gs) (s := s) p _ (by simp -dsimp only [go_sem, hl]) (by simp -dsimp only [go_sem, ho, hln, ckE]) hs) ?_
              rw [hnc]
              simp -dsimp only [go_sem]
              refine call_pure (hF _) ?_
              simp -dsimp only [go_sem]
              refine call_pure (s_cnext (w := w) (gs := gs) (s := s) p _ (by simp -dsimp only [go_sem, hl]) (by simp -dsimp only [go_sem, ho, hln, ckE]) hs) ?_
              rw [hnc]
              simp -dsimp only [go_sem, hkw, hl, hln, ho, ckE, p1, hl1, List.length_map]
              refine call_pure (hL _) ?_
              simp -dsimp only [go_sem, hl, hln, hx, hr2, Inst.row, hcl, List.length_map]
              refine call_pure (hI _) ?_
              simp -dsimp only [go_sem, hl, hln, hx, hr2, Inst.row, hcl, List.length_map]
              refine call_pure (hN _) ?_
              simp -dsimp only [go_sem, needsV]
              exact fin_one (by simp -dsimp only [go_sem]) (by simp -dsimp only [go_sem]; rfl) (by simp -dsimp only [go_sem, hl, hln, ckE])
            | some ms =>
              obtain ⟨k1, k2⟩ := hnk ms hm
              rw [hm] at hN
              simp only
              obtain ⟨X, hX⟩ : ∃ X, lpE (rdE w gs G) ms 0 (s.drop (p + 1)) = X := ⟨_, rfl⟩
              obtain ⟨Y, hY⟩ : ∃ Y, lpQ (ckQ w gs s G) (rdE w gs G) s ms 0 (p + 1) = Y := ⟨_, rfl⟩
              rw [hX, hY]
              refine good [] [(13, OT.o 0 (OT.o 2 (OT.o 3 (OT.o 1 (OT.o 4 OT.e)))))] Tryz.func118 rfl rfl Tryz.ntmps118 (by kernel_rfl) mixed (by kernel_rfl) ?_
              simp -dsimp only [go_sem, Need.row]
              refine call_pure (s_cnext (w := w) (gs := gs) (s := s) p _ (by simp -dsimp only [go_sem, hl]) (by simp -dsimp only [go_sem, ho, hln, ckE]) hs) ?_
              rw [hnc]
              simp -dsimp only [go_sem]
              refine call_pure (hF _) ?_
              simp -dsimp only [go_sem]
              refine call_pure (s_cnext (w := w) (gs := gs) (s := s) p _ (by simp -dsimp only [go_sem, hl]) (by simp -dsimp only [go_sem, ho, hln, ckE]) hs) ?_
              rw [hnc]
              simp -dsimp only [go_sem, hkw, hl, hln, ho, ckE, p1, hl1, List.length_map]
              refine call_pure (hL _) ?_
              simp -dsimp only [go_sem, hl, hln, hx, hr2, Inst.row, hcl, List.length_map]
              refine call_pure (hI _) ?_
              simp -dsimp only [go_sem, hl, hln, hx, hr2, Inst.row, hcl, List.length_map]
              refine call_pure (hN _) ?_
              simp -dsimp only [go_sem, needsV, List.length_map]
              refine loop_ruleH [] (fun (y : {y : Nat × Nat // y.1 ≤ ms.length ∧ p + 1 ≤ y.2 ∧ y.2 ≤ s.length ∧ X = lpE (rdE w gs G) (ms.drop y.1) y.1 (s.drop y.2) ∧ Y = lpQ (ckQ w gs s G) (rdE w gs G) s (ms.drop y.1) y.1 y.2}) H =>
                  ([(0, .ptr l 0), (3, .ref [str n.c, str n.t] 0), (6, .sl (ms.map Need.row)), (86, .sl (ms.map Need.row)), (87, .v (.int .i64 (ms.length : Nat))), (88, .v (.int .i64 (y.1.1 : Nat)))], ⟨h.n, upd h.o l (.cells (ckE w gs s y.1.2))⟩))
                (fun y => ms.length - y.1.1) ⟨(0, p + 1), Nat.zero_le _, Nat.le_refl _, by show p + 1 ≤ s.length; omega, by show X = _; rw [List.drop_zero]; exact hX.symm, by show Y = _; rw [List.drop_zero]; exact hY.symm⟩ ?_ ?_
              · refine weak_objs [l] (by simp -dsimp only [go_sem]) (by simp -dsimp only [go_sem]) (by simp -dsimp only [go_sem, hl, hln, Need.row, List.length_map]) ?_ ?_ ?_
                · intro t h1 h2
                  have h2 : ¬ t = l := by simpa using h2
                  have a0 : ¬ t = h.n := by omega
                  have a1 : ¬ t = h.n + 1 := by omega
                  have a2 : ¬ t = h.n + 2 := by omega
                  simp -dsimp only [go_sem, h2, a0, a1, a2]
                · intro x h1 h2; have h1 : x < h.n := h1; simp at h2 ⊢; omega
                · simp -dsimp only [go_sem, hl, hln, ckE, ho]
              · clear hX hY
                rintro ⟨⟨j, pos⟩, hj, hp0, hpos, hX, hY⟩
                have hj : j ≤ ms.length := hj
                have hp0 : p + 1 ≤ pos := hp0
                have hpos : pos ≤ s.length := hpos
                have hX : X = lpE (rdE w gs G) (ms.drop j) j (s.drop pos) := hX
                have hY : Y = lpQ (ckQ w gs s G) (rdE w gs G) s (ms.drop j) j pos := hY
                have j1 : j + 1 ≤ 9223372036854775807 := by omega
                have q1 : pos + 1 ≤ 9223372036854775807 := by omega
                have ho := True.intro
                by_cases hjl : j < ms.length
                · obtain ⟨m, hmj⟩ := get_some hjl
                  have hjc : (((j : Nat) : Int) < ((ms.length : Nat) : Int)) = True := eq_true (by omega)
                  have hj3 : j < 3 := by omega
                  have hsep : ([40, 44, 44] : L8)[j]? = some (sep j) := by
                    have : j = 0 ∨ j = 1 ∨ j = 2 := by omega
                    rcases this with rfl | rfl | rfl <;> rfl
                  obtain ⟨hmn, _, _⟩ := k2 m (List.mem_of_getElem? hmj)
                  rw [drop_get hmj, lpE_cons, drop_tail] at hX
                  rw [drop_get hmj, lpQ_cons] at hY
                  by_cases hd : nextC s pos = sep j
                  · have hpf : pfx (s.drop pos) (sep j) = true := by rw [pfx_at (sep_ne j), decide_eq_true hd]
                    have hpos1 : pos + 1 ≤ s.length := by
                      cases hs' : s[pos]? with
                      | none => rw [drop_no hs'] at hpf; cases hpf
                      | some c => have := (List.getElem?_eq_some_iff.1 hs').1; omega
                    rw [if_pos hpf] at hX hY
                    have hdc : ((((nextC s pos).toNat : Nat) : Int) = (((sep j).toNat : Nat) : Int)) = True := eq_true (by rw [hd])
                    have hR := fun (H : AH) (hl' : l < H.n) (ho' : H.o l = .cells (ckE w gs s (pos + 1))) => ih m (pos + 1) l H hmn hpos1 (by omega) hl' ho'
                    have hQ := (ckQ_ok (w := w) (gs := gs) (s := s) G m (pos + 1) hpos1)
                    generalize rdE w gs G m (s.drop (pos + 1)) = R at *
                    generalize ckQ w gs s G m (pos + 1) = Q at *
                    simp only [Need.row] at hR
                    simp -dsimp only [go_sem, hjc, hjl, hmj, hj3, hsep, Need.row, List.length_map]
                    refine call_pure (s_cnext (w := w) (gs := gs) (s := s) pos _ (by simp -dsimp only [go_sem, hl]; try omega) (by simp -dsimp only [go_sem, hln, ckE]) hs) ?_
                    simp -dsimp only [go_sem, hj3, hsep, hdc, hl, hln, hln2, q1, ckE]
                    refine call_one (hR _ (by simp -dsimp only [go_sem]; omega) (by simp -dsimp only [go_sem, hln, ckE])) (by simp -dsimp only [go_sem]) (by simp -dsimp only [go_sem]) ?_
                    by_cases hok' : R.2 = okW
                    · rw [if_pos hok'] at hX hY
                      obtain ⟨⟨_, g2⟩, g3⟩ := hQ
                      obtain ⟨g4, g5⟩ := g2 hok'
                      have g6 := g3 hok'
                      rw [← g5] at hX
                      have hok2 : R.2 = [111, 107] := hok'
                      rw [hok2]
                      simp -dsimp only [go_sem, j1]
                      refine round_to ⟨(j + 1, Q), hjl, by show p + 1 ≤ Q; omega, g4, hX, hY⟩ (by show ms.length - (j + 1) < ms.length - j; omega) ?_
                      refine weak_objs [l] (by simp -dsimp only [go_sem]) (by simp -dsimp only [go_sem]) (by simp -dsimp only [go_sem, hl, hln, Need.row, List.length_map]) ?_ ?_ ?_
                      · intro t h1 h2
                        have h2 : ¬ t = l := by simpa using h2
                        have a0 : ¬ t = h.n := by omega
                        have a1 : ¬ t = h.n + 1 := by omega
                        have a2 : ¬ t = h.n + 2 := by omega
                        simp -dsimp only [go_sem, h2, a0, a1, a2]
                      · intro x h1 h2; have h1 : x < h.n := h1; simp at h2 ⊢; omega
                      · simp -dsimp only [go_sem, hl, hln, ckE, ho]
                    · rw [if_neg hok'] at hX hY
                      subst hX; subst hY
                      have hok2 : (X.2 = [111, 107]) = False := eq_false hok'
                      have e9 : endE ms X = X := by unfold endE; rw [if_neg hok']
                      have e8 : enQ ms s (decide (X.2 = okW)) Y = Y := by unfold enQ; rw [if_neg (by simpa using hok')]
                      rw [e9, e8]
                      generalize X.2 = R2 at hok2 ⊢
                      simp -dsimp only [go_sem, hok2]
                      exact fin_one (by simp -dsimp only [go_sem]) (by simp -dsimp only [go_sem]) (by simp -dsimp only [go_sem, hl, hln, ckE])
                  · have hpf : ¬ pfx (s.drop pos) (sep j) = true := by rw [pfx_at (sep_ne j)]; simpa using hd
                    rw [if_neg hpf] at hX hY
                    subst hX; subst hY
                    have hdc : ((((nextC s Y).toNat : Nat) : Int) = (((sep j).toNat : Nat) : Int)) = False := eq_false fun q => hd (by apply UInt8.toNat_inj.1; omega)
                    have e9 : endE ms (s.drop Y, partsW) = (s.drop Y, partsW) := by unfold endE; rw [if_neg (by show ¬ partsW = okW; decide)]
                    have e8 : enQ ms s (decide (((s.drop Y, partsW) : L8 × L8).2 = okW)) Y = Y := by unfold enQ; rw [if_neg (by rw [decide_eq_true_eq]; show ¬ partsW = okW; decide)]
                    rw [e9, e8]
                    simp -dsimp only [go_sem, hjc, hjl, hmj, hj3, hsep, Need.row, List.length_map]
                    refine call_pure (s_cnext (w := w) (gs := gs) (s := s) Y _ (by simp -dsimp only [go_sem, hl]; try omega) (by simp -dsimp only [go_sem, hln, ckE]) hs) ?_
                    simp -dsimp only [go_sem, hj3, hsep, hdc, hl, hln, hln2, q1, ckE]
                    exact fin_one (by simp -dsimp only [go_sem]) (by simp -dsimp only [go_sem]; rfl) (by simp -dsimp only [go_sem, hl, hln, ckE])
                · have hjc : (((j : Nat) : Int) < ((ms.length : Nat) : Int)) = False := eq_false (by omega)
                  rw [List.drop_of_length_le (by omega), lpE_nil] at hX
                  rw [List.drop_of_length_le (by omega), lpQ_nil] at hY
                  subst hX; subst hY
                  have e9 : endE ms (s.drop Y, okW) = if ms.length = 0 then (s.drop Y, okW) else if pfx (s.drop Y) 41 = true then ((s.drop Y).tail, okW) else (s.drop Y, partsW) := by unfold endE; rw [if_pos rfl]
                  have e8 : enQ ms s (decide (((s.drop Y, okW) : L8 × L8).2 = okW)) Y = if ms.length = 0 then Y else if pfx (s.drop Y) 41 = true then Y + 1 else Y := by unfold enQ; rw [if_pos (by rw [decide_eq_true_eq])]
                  rw [e9, e8]
                  by_cases h0 : ms.length = 0
                  · have h0' : ((0 : Int) < ((ms.length : Nat) : Int)) = False := eq_false (by omega)
                    rw [if_pos h0, if_pos h0]
                    simp -dsimp only [go_sem, hjc, h0', List.length_map]
                    exact fin_one (by simp -dsimp only [go_sem]) (by simp -dsimp only [go_sem]; rfl) (by simp -dsimp only [go_sem, hl, hln, ckE])
                  · have h0' : ((0 : Int) < ((ms.length : Nat) : Int)) = True := eq_true (by omega)
                    rw [if_neg h0, if_neg h0, pfx_at (by decide)]
                    by_cases h41 : nextC s Y = 41
                    · have h41' : (((nextC s Y).toNat : Nat) : Int) = 41 := by rw [h41]; rfl
                      have h41' := eq_true h41'
                      rw [decide_eq_true h41, if_pos rfl, if_pos rfl]
                      simp -dsimp only [go_sem, hjc, h0', List.length_map]
                      refine call_pure (s_cnext (w := w) (gs := gs) (s := s) Y _ (by simp -dsimp only [go_sem, hl]; try omega) (by simp -dsimp only [go_sem, hln, ckE]) hs) ?_
                      simp -dsimp only [go_sem, h41', hl, hln, q1, ckE]
                      exact fin_one (by simp -dsimp only [go_sem]) (by simp -dsimp only [go_sem]; rfl) (by simp -dsimp only [go_sem, hl, hln, ckE])
                    · have h41' : ((((nextC s Y).toNat : Nat) : Int) = 41) = False := eq_false fun q => h41 (by apply UInt8.toNat_inj.1; show _ = 41; omega)
                      rw [decide_eq_false h41, if_neg (by simp), if_neg (by simp)]
                      simp -dsimp only [go_sem, hjc, h0', List.length_map]
                      refine call_pure (s_cnext (w := w) (gs := gs) (s := s) Y _ (by simp -dsimp only [go_sem, hl]; try omega) (by simp -dsimp only [go_sem, hln, ckE]) hs) ?_
                      simp -dsimp only [go_sem, h41', hl, hln, q1, ckE]
                      exact fin_one (by simp -dsimp only [go_sem]) (by simp -dsimp only [go_sem]; rfl) (by simp -dsimp only [go_sem, hl, hln, ckE])
        · have hno : ¬ (isDig c = true ∧ k ∈ candIx w n) := fun q => by
            obtain ⟨y, hy, hyc, _⟩ := cand_inst q.2
            rw [hx] at hy; injection hy with hy; subst hy
            exact hcl hyc
          rw [if_neg hno, if_neg hno]
          have hcl' : (x.c = n.c) = False := eq_false hcl
          refine good [] [(13, OT.o 0 (OT.o 2 (OT.o 3 (OT.o 1 (OT.o 4 OT.e)))))] Tryz.func118 rfl rfl Tryz.ntmps118 (by kernel_rfl) mixed (by kernel_rfl) ?_
          simp -dsimp only [go_sem, Need.row]
          refine call_pure (s_cnext (w := w) (gs := gs) (s := s) p _ (by simp -dsimp only [go_sem, hl]) (by simp -dsimp only [go_sem, ho, hln, ckE]) hs) ?_
          rw [hnc]
          simp -dsimp only [go_sem]
          refine call_pure (hF _) ?_
          simp -dsimp only [go_sem]
          refine call_pure (s_cnext (w := w) (gs := gs) (s := s) p _ (by simp -dsimp only [go_sem, hl]) (by simp -dsimp only [go_sem, ho, hln, ckE]) hs) ?_
          rw [hnc]
          simp -dsimp only [go_sem, hkw, hl, hln, ho, ckE, p1, hl1, List.length_map]
          refine call_pure (hL _) ?_
          simp -dsimp only [go_sem, hl, hln, hx, hr2, Inst.row, hcl', List.length_map]
          exact fin_one (by simp -dsimp only [go_sem]) (by simp -dsimp only [go_sem]; rfl) (by simp -dsimp only [go_sem, hl, hln, ckE])
      · have hno : ¬ (isDig c = true ∧ (c.toNat - 48) ∈ candIx w n) := fun q => by
          obtain ⟨y, hy, _, _⟩ := cand_inst q.2
          exact hr ⟨((isDig_iff c).1 q.1).1, (List.getElem?_eq_some_iff.1 hy).1⟩
        rw [if_neg hno, if_neg hno]
        rw [show (decide ((0 : Int) ≤ ((c.toNat : Nat) : Int) - 48) && decide (((c.toNat : Nat) : Int) - 48 ≤ ((w.is.length : Nat) : Int) - 1)) = false by
          rw [Bool.and_eq_false_iff]
          by_cases h48 : 48 ≤ c.toNat
          · exact .inr (decide_eq_false (by omega))
          · exact .inl (decide_eq_false (by omega))] at hL
        refine good [] [(13, OT.o 0 (OT.o 2 (OT.o 3 (OT.o 1 (OT.o 4 OT.e)))))] Tryz.func118 rfl rfl Tryz.ntmps118 (by kernel_rfl) mixed (by kernel_rfl) ?_
        simp -dsimp only [go_sem, Need.row]
        refine call_pure (s_cnext (w := w) (gs := gs) (s := s) p _ (by simp -dsimp only [go_sem, hl]) (by simp -dsimp only [go_sem, ho, hln, ckE]) hs) ?_
        rw [hnc]
        simp -dsimp only [go_sem]
        refine call_pure (hF _) ?_
        simp -dsimp only [go_sem]
        refine call_pure (s_cnext (w := w) (gs := gs) (s := s) p _ (by simp -dsimp only [go_sem, hl]) (by simp -dsimp only [go_sem, ho, hln, ckE]) hs) ?_
        rw [hnc]
        simp -dsimp only [go_sem, hkw, hl, hln, ho, ckE, p1, hl1, List.length_map]
        refine call_pure (hL _) ?_
        simp -dsimp only [go_sem]
        exact fin_one (by simp -dsimp only [go_sem]) (by simp -dsimp only [go_sem]; rfl) (by simp -dsimp only [go_sem, hl, hln, ckE])
theorem s_ccheck {w : Wld} {gs : List Need} {s : L8} (hok : worldOk w = true) (hw : w.Sm) (hs : s.length ≤ 1000000) : ∀ F, CkOkS w gs s F
  | 0 => s_ccheck_step hok hw hs fun _ e => by omega
  | F + 1 => s_ccheck_step hok hw hs fun G e => by
    have : F = G := by omega
    subst this
    exact s_ccheck hok hw hs F
end Go.Proofs.YtnocdggngfiebaaGreatDoor
