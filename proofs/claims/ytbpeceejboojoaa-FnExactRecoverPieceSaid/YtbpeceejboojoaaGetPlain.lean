/- The plain law of reading a number in base 128: what stands at the front of some bytes. No program in sight. -/
import Derived.Test.YtbpeceejboojoaaVarPlain
import Derived.Test.YtbpeceejboojoaaNum
namespace Go.Proofs.Ytbpeceejboojoaa
set_option linter.unusedVariables false
set_option linter.unusedSimpArgs false
open Go.RowKit

/-- The value of digits in base 128, the least one first; a digit is a byte's last seven bits. -/
def val : List UInt8 → Nat
  | [] => 0
  | b :: l => b.toNat % 128 + 128 * val l
theorem val_snoc (l : List UInt8) (b : UInt8) : val (l ++ [b]) = val l + b.toNat % 128 * 128 ^ l.length := by
  induction l with
  | nil => simp [val]
  | cons c l ih =>
    rw [List.cons_append, val, val, ih, List.length_cons, Nat.pow_succ, Nat.mul_add]
    have : 128 * (b.toNat % 128 * 128 ^ l.length) = b.toNat % 128 * (128 ^ l.length * 128) := by
      rw [Nat.mul_comm 128, Nat.mul_assoc]
    omega
theorem val_lt (l : List UInt8) : val l < 128 ^ l.length := by
  induction l with
  | nil => simp [val]
  | cons b l ih => rw [val, List.length_cons, Nat.pow_succ]; omega
def big (b : UInt8) : Prop := 128 ≤ b.toNat
theorem canon (b : UInt8) (hb : b.toNat < 128) : ∀ d : List UInt8, (∀ c ∈ d, big c) → (vb (val (d ++ [b])) = d ++ [b] ↔ (d = [] ∨ b ≠ 0)) := by
  intro d
  induction d with
  | nil =>
    intro _
    have e : val ([] ++ [b]) = b.toNat := by simp [val]; omega
    rw [e, vb_small hb]
    simp
  | cons c d ih =>
    intro h
    have hc : big c := h c (List.mem_cons_self ..)
    have hc2 := c.toNat_lt
    unfold big at hc
    have ih' := ih (fun x hx => h x (List.mem_cons_of_mem _ hx))
    have e : val (c :: d ++ [b]) = c.toNat % 128 + 128 * val (d ++ [b]) := rfl
    by_cases hv : val (d ++ [b]) = 0
    · have hs : val (c :: d ++ [b]) < 128 := by rw [e, hv]; omega
      rw [vb_small hs]
      constructor
      · intro h'
        have := congrArg List.length h'
        simp at this
      · intro h'
        rcases h' with h' | h'
        · cases h'
        · exfalso
          apply h'
          have hz : val d + b.toNat % 128 * 128 ^ d.length = 0 := by rw [← val_snoc]; exact hv
          have hp : 0 < 128 ^ d.length := Nat.pow_pos (by omega)
          have h0 : b.toNat % 128 * 128 ^ d.length = 0 := by omega
          rcases Nat.mul_eq_zero.1 h0 with h1 | h1
          · have : b.toNat = 0 := by omega
            exact UInt8.toNat_inj.1 (by simpa using this)
          · omega
    · have hs : 128 ≤ val (c :: d ++ [b]) := by rw [e]; omega
      have hd : val (c :: d ++ [b]) / 128 = val (d ++ [b]) := by rw [e]; omega
      have hm : 128 + val (c :: d ++ [b]) % 128 = c.toNat := by rw [e]; omega
      rw [vb_step hs, hd, hm, List.cons_append]
      have hcc : UInt8.ofNat c.toNat = c := by simp
      rw [hcc]
      constructor
      · intro h'
        have h2 : vb (val (d ++ [b])) = d ++ [b] := by injection h'
        rcases ih'.1 h2 with h3 | h3
        · subst h3
          refine .inr fun hb0 => hv ?_
          subst hb0
          rfl
        · exact .inr h3
      · intro h'
        rcases h' with h' | h'
        · cases h'
        · rw [ih'.2 (.inr h')]

/-- The number with whose encoding some bytes begin, and the encoding's length. -/
def gv (l : List UInt8) : Option (Int × Nat) :=
  match l.findIdx? (fun b => decide (b.toNat < 128)) with
  | none => none
  | some k => if k ≤ 5 ∧ (k = 0 ∨ l.getD k 0 ≠ 0) ∧ val (l.take (k + 1)) ≤ 2000000000000 then some (zag (val (l.take (k + 1)) : Nat), k + 1) else none
theorem gv_end {l : List UInt8} (h : ∀ b ∈ l, big b) : gv l = none := by
  have : l.findIdx? (fun b => decide (b.toNat < 128)) = none := by
    rw [List.findIdx?_eq_none_iff]
    intro x hx
    have := h x hx
    unfold big at this
    simp; omega
  unfold gv
  rw [this]
theorem gv_hit {l : List UInt8} {k : Nat} {b : UInt8} (hk : l[k]? = some b) (hb : b.toNat < 128) (h : ∀ c ∈ l.take k, big c) :
    gv l = if k ≤ 5 ∧ (k = 0 ∨ b ≠ 0) ∧ val (l.take (k + 1)) ≤ 2000000000000 then some (zag (val (l.take (k + 1)) : Nat), k + 1) else none := by
  obtain ⟨hkl, hkb⟩ := List.getElem?_eq_some_iff.1 hk
  have : l.findIdx? (fun b => decide (b.toNat < 128)) = some k := by
    rw [List.findIdx?_eq_some_iff_getElem]
    refine ⟨hkl, by rw [hkb]; simpa using hb, fun j hj => ?_⟩
    have hm : l[j]'(by omega) ∈ l.take k := by
      rw [List.mem_take_iff_getElem]
      exact ⟨j, by omega, rfl⟩
    have := h _ hm
    unfold big at this
    simp; omega
  unfold gv
  rw [this]
  simp only [List.getD, hk, Option.getD_some]
theorem gv_far {l : List UInt8} (hl : 6 ≤ l.length) (h : ∀ c ∈ l.take 6, big c) : gv l = none := by
  cases e : l.findIdx? (fun b => decide (b.toNat < 128)) with
  | none => unfold gv; rw [e]
  | some k =>
    obtain ⟨hk, hb, _⟩ := List.findIdx?_eq_some_iff_getElem.1 e
    have : ¬ k ≤ 5 := by
      intro h5
      have hm : l[k]'hk ∈ l.take 6 := by
        rw [List.mem_take_iff_getElem]
        exact ⟨k, by omega, rfl⟩
      have := h _ hm
      unfold big at this
      simp at hb
      omega
    unfold gv
    rw [e]
    simp only
    rw [if_neg (fun h' => this h'.1)]
theorem gv_bd {l : List UInt8} {n : Int} {k : Nat} (h : gv l = some (n, k)) : -1000000000000 ≤ n ∧ n ≤ 1000000000000 ∧ 0 < k ∧ k ≤ l.length := by
  unfold gv at h
  split at h
  · cases h
  · rename_i j e
    obtain ⟨hk, _, _⟩ := List.findIdx?_eq_some_iff_getElem.1 e
    split at h
    · rename_i hc
      simp only [Option.some.injEq, Prod.mk.injEq] at h
      obtain ⟨rfl, rfl⟩ := h
      have := zag_bd (n := (val (l.take (j + 1)) : Nat)) (by omega) (by omega)
      exact ⟨this.1, this.2, by omega, by omega⟩
    · cases h
end Go.Proofs.Ytbpeceejboojoaa
