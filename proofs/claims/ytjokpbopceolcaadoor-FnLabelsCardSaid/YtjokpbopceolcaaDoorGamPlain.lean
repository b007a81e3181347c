/- The plain law of gamma codes: a number's binary digits behind as many zeros less one. No program in sight. -/
import Derived.Test.YtjokpbopceolcaaDoorMem
namespace Go.Proofs.YtjokpbopceolcaaDoor
set_option linter.unusedVariables false
set_option linter.unusedSimpArgs false

/-- A number's binary digits. -/
def bnr (n : Nat) : List UInt8 := if h : n < 2 then [UInt8.ofNat (48 + n)] else bnr (n / 2) ++ [UInt8.ofNat (48 + n % 2)]
termination_by n
decreasing_by omega
theorem bnr_lo {n : Nat} (h : n < 2) : bnr n = [UInt8.ofNat (48 + n)] := by rw [bnr, dif_pos h]
theorem bnr_hi {n : Nat} (h : ¬ n < 2) : bnr n = bnr (n / 2) ++ [UInt8.ofNat (48 + n % 2)] := by rw [bnr, dif_neg h]
theorem bnr_len_pos (n : Nat) : 1 ≤ (bnr n).length := by
  by_cases h : n < 2
  · rw [bnr_lo h]; simp
  · rw [bnr_hi h]; simp
theorem bnr_lt : ∀ (k n : Nat), n < 2 ^ (k + 1) → (bnr n).length ≤ k + 1 := by
  intro k
  induction k with
  | zero => intro n h; rw [bnr_lo (by simpa using h)]; simp
  | succ k ih =>
    intro n h
    by_cases h2 : n < 2
    · rw [bnr_lo h2]; simp
    · rw [bnr_hi h2, List.length_append]
      have := ih (n / 2) (by rw [Nat.pow_succ] at h; omega)
      simp; omega
theorem bnr_len {n : Nat} (h : n ≤ 1000000) : (bnr n).length ≤ 20 := bnr_lt 19 n (by omega)
/-- The number of some binary digits, behind what was read. -/
def bv : Nat → List UInt8 → Option Nat
  | a, [] => some a
  | a, c :: l => if c = 48 then bv (2 * a) l else if c = 49 then bv (2 * a + 1) l else none
theorem bv_app (l r : List UInt8) : ∀ a, bv a (l ++ r) = (bv a l).bind fun b => bv b r := by
  induction l with
  | nil => intro a; rfl
  | cons c l ih =>
    intro a
    show (if c = 48 then bv (2 * a) (l ++ r) else if c = 49 then bv (2 * a + 1) (l ++ r) else none) = _
    by_cases h0 : c = 48
    · rw [if_pos h0, ih]; simp [bv, h0]
    · by_cases h1 : c = 49
      · rw [if_neg h0, if_pos h1, ih]; simp [bv, h1]
      · rw [if_neg h0, if_neg h1]; simp [bv, h0, h1]
theorem bv_dig {a d : Nat} (h : d < 2) : bv a [UInt8.ofNat (48 + d)] = some (2 * a + d) := by
  rcases (show d = 0 ∨ d = 1 by omega) with rfl | rfl
  · simp [bv]
  · simp [bv]
theorem bv_bnr (n : Nat) : bv 0 (bnr n) = some n := by
  induction n using Nat.strongRecOn with
  | _ n ih =>
    by_cases h : n < 2
    · rw [bnr_lo h, bv_dig h]; simp
    · rw [bnr_hi h, bv_app, ih (n / 2) (by omega)]
      show bv (n / 2) _ = _
      rw [bv_dig (by omega)]
      congr 1; omega
theorem bv_ge (l : List UInt8) : ∀ (a n : Nat), bv a l = some n → a * 2 ^ l.length ≤ n := by
  induction l with
  | nil => intro a n h; simp [bv] at h; simp; omega
  | cons c l ih =>
    intro a n h
    rw [List.length_cons, Nat.pow_succ]
    have e : a * (2 ^ l.length * 2) = 2 * a * 2 ^ l.length := by rw [Nat.mul_comm (2 ^ l.length) 2, ← Nat.mul_assoc, Nat.mul_comm a 2]
    rw [e]
    simp only [bv] at h
    by_cases h0 : c = 48
    · rw [if_pos h0] at h
      exact ih _ _ h
    · by_cases h1 : c = 49
      · rw [if_neg h0, if_pos h1] at h
        exact Nat.le_trans (Nat.mul_le_mul_right _ (by omega)) (ih _ _ h)
      · rw [if_neg h0, if_neg h1] at h; cases h
/-- What a reading with a limit of 32 bits makes of it. -/
def pu : Nat → List UInt8 → Option Nat
  | a, [] => some a
  | a, c :: l => if c = 48 then (if 2 * a ≤ 4294967295 then pu (2 * a) l else none) else if c = 49 then (if 2 * a + 1 ≤ 4294967295 then pu (2 * a + 1) l else none) else none
theorem pu_bv (l : List UInt8) : ∀ (a n : Nat), pu a l = some n → bv a l = some n := by
  induction l with
  | nil => intro a n h; exact h
  | cons c l ih =>
    intro a n h
    simp only [pu] at h
    simp only [bv]
    by_cases h0 : c = 48
    · rw [if_pos h0] at h ⊢
      split at h
      · exact ih _ _ h
      · cases h
    · by_cases h1 : c = 49
      · rw [if_neg h0, if_pos h1] at h ⊢
        split at h
        · exact ih _ _ h
        · cases h
      · rw [if_neg h0, if_neg h1] at h; cases h
theorem bv_pu (l : List UInt8) : ∀ (a n : Nat), bv a l = some n → n ≤ 4294967295 → pu a l = some n := by
  induction l with
  | nil => intro a n h _; exact h
  | cons c l ih =>
    intro a n h hn
    simp only [bv] at h
    simp only [pu]
    by_cases h0 : c = 48
    · rw [if_pos h0] at h ⊢
      have := bv_ge l _ _ h
      have h2 : 2 * a ≤ 2 * a * 2 ^ l.length := Nat.le_mul_of_pos_right _ (Nat.pow_pos (by omega))
      rw [if_pos (by omega)]
      exact ih _ _ h hn
    · by_cases h1 : c = 49
      · rw [if_neg h0, if_pos h1] at h ⊢
        have := bv_ge l _ _ h
        have h2 : 2 * a + 1 ≤ (2 * a + 1) * 2 ^ l.length := Nat.le_mul_of_pos_right _ (Nat.pow_pos (by omega))
        rw [if_pos (by omega)]
        exact ih _ _ h hn
      · rw [if_neg h0, if_neg h1] at h; cases h
theorem pu_lt (l : List UInt8) : ∀ (a n : Nat), a ≤ 4294967295 → pu a l = some n → n ≤ 4294967295 := by
  induction l with
  | nil => intro a n ha h; simp [pu] at h; omega
  | cons c l ih =>
    intro a n ha h
    simp only [pu] at h
    by_cases h0 : c = 48
    · rw [if_pos h0] at h
      split at h
      · exact ih _ _ (by assumption) h
      · cases h
    · by_cases h1 : c = 49
      · rw [if_neg h0, if_pos h1] at h
        split at h
        · exact ih _ _ (by assumption) h
        · cases h
      · rw [if_neg h0, if_neg h1] at h; cases h
/-- How many zeros a text begins with. -/
def nz : List UInt8 → Nat
  | [] => 0
  | c :: l => if c = 48 then nz l + 1 else 0
theorem nz_le (s : List UInt8) : nz s ≤ s.length := by
  induction s with
  | nil => exact Nat.le_refl _
  | cons c l ih => rw [nz, List.length_cons]; split <;> omega
theorem nz_take (s : List UInt8) : s.take (nz s) = List.replicate (nz s) 48 := by
  induction s with
  | nil => rfl
  | cons c l ih =>
    rw [nz]
    by_cases h : c = 48
    · rw [if_pos h, List.take_succ_cons, ih, List.replicate_succ, h]
    · rw [if_neg h]; rfl
theorem nz_lt (s : List UInt8) : ∀ (j : Nat) (c : UInt8), j < nz s → s[j]? = some c → c = 48 := by
  induction s with
  | nil => intro j c h e; simp at e
  | cons d l ih =>
    intro j c h e
    rw [nz] at h
    by_cases hd : d = 48
    · rw [if_pos hd] at h
      cases j with
      | zero => simp at e; rw [← e]; exact hd
      | succ j => exact ih j c (by omega) (by simpa using e)
    · rw [if_neg hd] at h; omega
theorem nz_at (s : List UInt8) : ∀ (c : UInt8), s[nz s]? = some c → c ≠ 48 := by
  induction s with
  | nil => intro c e; simp at e
  | cons d l ih =>
    intro c e
    rw [nz] at e
    by_cases hd : d = 48
    · rw [if_pos hd] at e
      exact ih c (by simpa using e)
    · rw [if_neg hd] at e
      simp at e
      rw [← e]; exact hd
theorem nz_of (s : List UInt8) : ∀ (k : Nat), (∀ j c, j < k → s[j]? = some c → c = 48) → (∀ c, s[k]? = some c → c ≠ 48) → k ≤ s.length → nz s = k := by
  intro k h1 h2 h3
  rcases Nat.lt_trichotomy (nz s) k with h | h | h
  · exact absurd (h1 (nz s) s[nz s] h (List.getElem?_eq_getElem (by omega))) (nz_at s _ (List.getElem?_eq_getElem (by omega)))
  · exact h
  · have := nz_le s
    exact absurd (nz_lt s k s[k] h (List.getElem?_eq_getElem (by omega))) (h2 _ (List.getElem?_eq_getElem (by omega)))
/-- What a text begins with: a number and how long its code is. -/
def readG (s : List UInt8) : Option (Nat × Nat) :=
  if s.length ≤ 600 ∧ nz s ≤ 19 ∧ 2 * nz s + 1 ≤ s.length then
    match bv 0 ((s.drop (nz s)).take (nz s + 1)) with
    | some n => if n ≤ 1000000 then some (n, 2 * nz s + 1) else none
    | none => none
  else none
/-- The first place of a one. -/
def one1 : List UInt8 → Option Nat
  | [] => none
  | c :: l => if c = 49 then some 0 else (one1 l).map (· + 1)
theorem one1_some (s : List UInt8) : ∀ {k : Nat}, one1 s = some k → k < s.length ∧ s[k]? = some 49 ∧ ∀ j c, j < k → s[j]? = some c → c ≠ 49 := by
  induction s with
  | nil => intro k h; cases h
  | cons c l ih =>
    intro k h
    rw [one1] at h
    by_cases hc : c = 49
    · rw [if_pos hc] at h
      injection h with h
      subst h
      exact ⟨by simp, by simp [hc], fun j c h => by omega⟩
    · rw [if_neg hc, Option.map_eq_some_iff] at h
      obtain ⟨k', h1, rfl⟩ := h
      obtain ⟨a, b, d⟩ := ih h1
      refine ⟨by simp; omega, by simpa using b, fun j c' hj e => ?_⟩
      cases j with
      | zero => simp at e; rw [← e]; exact hc
      | succ j => exact d j c' (by omega) (by simpa using e)
theorem one1_none (s : List UInt8) : one1 s = none → ∀ c ∈ s, c ≠ 49 := by
  induction s with
  | nil => intro _ c h; simp at h
  | cons c l ih =>
    intro h
    rw [one1] at h
    by_cases hc : c = 49
    · rw [if_pos hc] at h; cases h
    · rw [if_neg hc, Option.map_eq_none_iff] at h
      intro d hd
      rcases List.mem_cons.1 hd with rfl | hd
      · exact hc
      · exact ih h d hd
def implG (s : List UInt8) : Option (Nat × Nat) :=
  match one1 s with
  | none => none
  | some z => if s.length ≤ 600 ∧ (s.take z).all (· == 48) = true ∧ 2 * z + 1 ≤ s.length then
      match pu 0 ((s.drop z).take (z + 1)) with
      | some n => if n ≤ 1000000 then some (n, 2 * z + 1) else none
      | none => none
    else none
theorem bv_bad {c : UInt8} {l : List UInt8} {a : Nat} (h0 : c ≠ 48) (h1 : c ≠ 49) : bv a (c :: l) = none := by simp [bv, h0, h1]
theorem readG_no {s : List UInt8} (h : ∀ c, s[nz s]? = some c → c ≠ 49) : readG s = none := by
  unfold readG
  by_cases hc : s.length ≤ 600 ∧ nz s ≤ 19 ∧ 2 * nz s + 1 ≤ s.length
  · rw [if_pos hc]
    have hl : nz s < s.length := by omega
    have hg : s[nz s]? = some s[nz s] := List.getElem?_eq_getElem hl
    rw [List.drop_eq_getElem_cons hl, List.take_succ_cons, bv_bad (nz_at s _ hg) (h _ hg)]
  · rw [if_neg hc]
theorem implG_eq (s : List UInt8) : implG s = readG s := by
  unfold implG
  cases h1 : one1 s with
  | none =>
    symm
    exact readG_no fun c hc => one1_none s h1 c (List.mem_of_getElem? hc)
  | some z =>
    obtain ⟨hz, hs, hb⟩ := one1_some s h1
    show (if s.length ≤ 600 ∧ (s.take z).all (· == 48) = true ∧ 2 * z + 1 ≤ s.length then _ else _) = _
    by_cases ha : (s.take z).all (· == 48) = true
    · have hn : nz s = z := nz_of s z (fun j c hj e => by
        have hm : c ∈ s.take z := List.mem_of_getElem? (i := j) (by rw [List.getElem?_take, if_pos hj]; exact e)
        simpa using List.all_eq_true.1 ha c hm) (fun c hc => by rw [hs] at hc; injection hc with hc; rw [← hc]; decide) (by omega)
      unfold readG
      rw [hn]
      by_cases hc : s.length ≤ 600 ∧ 2 * z + 1 ≤ s.length
      · rw [if_pos ⟨hc.1, ha, hc.2⟩]
        have hfirst : (s.drop z).take (z + 1) = 49 :: (s.drop (z + 1)).take z := by
          rw [List.drop_eq_getElem_cons hz, List.take_succ_cons]
          congr 1
          rw [List.getElem?_eq_getElem hz] at hs
          injection hs
        have hlen : ((s.drop (z + 1)).take z).length = z := by rw [List.length_take, List.length_drop]; omega
        have hbig : ∀ n, bv 0 ((s.drop z).take (z + 1)) = some n → 2 ^ z ≤ n := fun n e => by
          rw [hfirst] at e
          have e' : bv 1 ((s.drop (z + 1)).take z) = some n := by simpa [bv] using e
          have := bv_ge _ _ _ e'
          rw [hlen] at this
          omega
        have hpu : ∀ n, n ≤ 1000000 → (pu 0 ((s.drop z).take (z + 1)) = some n ↔ bv 0 ((s.drop z).take (z + 1)) = some n) := fun n hn => ⟨pu_bv _ _ _, fun e => bv_pu _ _ _ e (by omega)⟩
        by_cases h19 : z ≤ 19
        · rw [if_pos ⟨hc.1, h19, hc.2⟩]
          cases e : pu 0 ((s.drop z).take (z + 1)) with
          | none =>
            cases e2 : bv 0 ((s.drop z).take (z + 1)) with
            | none => rfl
            | some n =>
              by_cases hn6 : n ≤ 1000000
              · rw [(hpu n hn6).2 e2] at e; cases e
              · show none = if n ≤ 1000000 then _ else _
                rw [if_neg hn6]
          | some n => rw [pu_bv _ _ _ e]
        · rw [if_neg (by omega)]
          cases e : pu 0 ((s.drop z).take (z + 1)) with
          | none => rfl
          | some n =>
            have := hbig n (pu_bv _ _ _ e)
            have h20 : 2 ^ 20 ≤ 2 ^ z := Nat.pow_le_pow_right (by omega) (by omega)
            show (if n ≤ 1000000 then _ else _) = none
            rw [if_neg (by omega)]
      · rw [if_neg (by omega), if_neg (by omega)]
    · rw [if_neg (fun h => ha h.2.1)]
      symm
      refine readG_no fun c hc e => ha ?_
      subst e
      have hle : nz s ≤ z := by
        by_cases hlt : z < nz s
        · have := nz_lt s z 49 hlt hs
          exact absurd this (by decide)
        · omega
      have hze : nz s = z := by
        by_cases hlt : nz s < z
        · exact absurd rfl (hb (nz s) 49 hlt hc)
        · omega
      rw [← hze, nz_take, List.all_eq_true]
      intro x hx
      rw [(List.mem_replicate.1 hx).2]
      rfl
/-- A number's code. -/
def gam (n : Nat) : List UInt8 := List.replicate ((bnr n).length - 1) 48 ++ bnr n
theorem gam_len (n : Nat) : (gam n).length = 2 * (bnr n).length - 1 := by unfold gam; rw [List.length_append, List.length_replicate]; have := bnr_len_pos n; omega
theorem bnr_head : ∀ (n : Nat), 1 ≤ n → ∃ l, bnr n = 49 :: l := by
  intro n
  induction n using Nat.strongRecOn with
  | _ n ih =>
    intro h
    by_cases h2 : n < 2
    · obtain rfl : n = 1 := by omega
      exact ⟨[], by rw [bnr_lo h2]; rfl⟩
    · obtain ⟨l, e⟩ := ih (n / 2) (by omega) (by omega)
      exact ⟨l ++ [UInt8.ofNat (48 + n % 2)], by rw [bnr_hi h2, e]; rfl⟩
theorem read_gam {n : Nat} (h1 : 1 ≤ n) (h2 : n ≤ 1000000) (t : List UInt8) (ht : t.length ≤ 500) : readG (gam n ++ t) = some (n, (gam n).length) := by
  obtain ⟨l, hl⟩ := bnr_head n h1
  have hp := bnr_len_pos n
  have h20 := bnr_len h2
  have hg := gam_len n
  have hnz : nz (gam n ++ t) = (bnr n).length - 1 := by
    refine nz_of _ _ (fun j c hj e => ?_) (fun c e => ?_) (by rw [List.length_append]; omega)
    · unfold gam at e
      rw [List.append_assoc, List.getElem?_append_left (by rw [List.length_replicate]; exact hj), List.getElem?_replicate, if_pos hj] at e
      injection e with e; exact e.symm
    · unfold gam at e
      rw [List.append_assoc, List.getElem?_append_right (by rw [List.length_replicate]; exact Nat.le_refl _), List.length_replicate, Nat.sub_self, hl] at e
      simp at e
      rw [← e]; decide
  unfold readG
  rw [hnz, if_pos ⟨by rw [List.length_append]; omega, by omega, by rw [List.length_append]; omega⟩]
  have e : ((gam n ++ t).drop ((bnr n).length - 1)).take ((bnr n).length - 1 + 1) = bnr n := by
    unfold gam
    rw [List.append_assoc, List.drop_append_of_le_length (by rw [List.length_replicate]; exact Nat.le_refl _), List.drop_of_length_le (by rw [List.length_replicate]; exact Nat.le_refl _), List.nil_append, Nat.sub_add_cancel hp, List.take_left]
  rw [e, bv_bnr]
  show (if n ≤ 1000000 then _ else _) = _
  rw [if_pos h2, hg]
  congr 2
  omega
theorem bnr_of (l : List UInt8) : ∀ (r : List UInt8), r.reverse = l → ∀ n, l.head? = some 49 → bv 0 l = some n → bnr n = l ∧ 1 ≤ n := by
  intro r
  induction r generalizing l with
  | nil => intro e n h; subst e; simp at h
  | cons c r ih =>
    intro e n hh hb
    rw [List.reverse_cons] at e
    subst e
    rw [bv_app] at hb
    cases e2 : bv 0 r.reverse with
    | none => rw [e2] at hb; cases hb
    | some a =>
      rw [e2] at hb
      have hb : bv a [c] = some n := hb
      cases hr : r with
      | nil =>
        subst hr
        simp at hh
        subst hh
        simp [bv] at e2
        subst e2
        simp [bv] at hb
        subst hb
        exact ⟨by rw [bnr_lo (by omega)]; rfl, by omega⟩
      | cons d r' =>
        have hne : r.reverse ≠ [] := by rw [hr]; simp
        have hh' : r.reverse.head? = some 49 := by
          cases hq : r.reverse with
          | nil => exact absurd hq hne
          | cons x xs => rw [hq] at hh; simpa using hh
        obtain ⟨q1, q2⟩ := ih r.reverse rfl a hh' e2
        rw [← hr]
        simp only [bv] at hb
        by_cases h0 : c = 48
        · rw [if_pos h0] at hb
          injection hb with hb
          subst hb
          refine ⟨?_, by omega⟩
          rw [bnr_hi (by omega), show 2 * a / 2 = a by omega, q1, show 2 * a % 2 = 0 by omega, h0]
          rfl
        · by_cases h1 : c = 49
          · rw [if_neg h0, if_pos h1] at hb
            injection hb with hb
            subst hb
            refine ⟨?_, by omega⟩
            rw [bnr_hi (by omega), show (2 * a + 1) / 2 = a by omega, q1, show (2 * a + 1) % 2 = 1 by omega, h1]
            rfl
          · rw [if_neg h0, if_neg h1] at hb; cases hb
theorem gam_read {s : List UInt8} {n k : Nat} (h : readG s = some (n, k)) : 1 ≤ n ∧ n ≤ 1000000 ∧ s.take k = gam n ∧ k ≤ s.length ∧ k ≤ 600 := by
  unfold readG at h
  by_cases hc : s.length ≤ 600 ∧ nz s ≤ 19 ∧ 2 * nz s + 1 ≤ s.length
  · rw [if_pos hc] at h
    cases e : bv 0 ((s.drop (nz s)).take (nz s + 1)) with
    | none => rw [e] at h; cases h
    | some m =>
      rw [e] at h
      have h : (if m ≤ 1000000 then some (m, 2 * nz s + 1) else none) = some (n, k) := h
      by_cases hm : m ≤ 1000000
      · rw [if_pos hm] at h
        injection h with h
        injection h with h1 h2
        subst h1
        subst h2
        have hl : nz s < s.length := by omega
        have hg : s[nz s]? = some s[nz s] := List.getElem?_eq_getElem hl
        have hne := nz_at s _ hg
        have hform : (s.drop (nz s)).take (nz s + 1) = s[nz s] :: (s.drop (nz s + 1)).take (nz s) := by rw [List.drop_eq_getElem_cons hl, List.take_succ_cons]
        have h49 : s[nz s] = 49 := by
          by_cases h : s[nz s] = 49
          · exact h
          · rw [hform, bv_bad hne h] at e; cases e
        obtain ⟨q1, q2⟩ := bnr_of _ _ (List.reverse_reverse _) m (by rw [hform, h49]; rfl) e
        refine ⟨q2, hm, ?_, by omega, by omega⟩
        have hlen : ((s.drop (nz s)).take (nz s + 1)).length = nz s + 1 := by rw [List.length_take, List.length_drop]; omega
        unfold gam
        rw [q1, hlen, Nat.add_sub_cancel, ← nz_take s]
        rw [show 2 * nz s + 1 = nz s + (nz s + 1) by omega, List.take_add]
      · rw [if_neg hm] at h; cases h
  · rw [if_neg hc] at h; cases h
end Go.Proofs.YtjokpbopceolcaaDoor
