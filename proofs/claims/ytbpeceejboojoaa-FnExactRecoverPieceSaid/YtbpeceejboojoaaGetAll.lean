/- The contracts of the functions that read all numbers of a string (spec.l1GetAll, impl.getAll). -/
import Derived.Test.YtbpeceejboojoaaGetLaw
import Derived.Test.YtbpeceejboojoaaInts
namespace Go.Proofs.Ytbpeceejboojoaa
set_option linter.unusedVariables false
set_option linter.unusedSimpArgs false
open Go.RowKit

def rdF : Nat → List UInt8 → Option (List Int)
  | 0, _ => some []
  | f + 1, l => if l = [] then some [] else match gv l with
    | none => none
    | some (n, k) => (rdF f (l.drop k)).map (n :: ·)
/-- The numbers whose encodings some bytes are. -/
def rd (l : List UInt8) : Option (List Int) := rdF l.length l
theorem rdF_eq : ∀ (f : Nat) (l : List UInt8), l.length ≤ f → ∀ g, l.length ≤ g → rdF f l = rdF g l
  | 0, l, h, 0, h' => rfl
  | 0, l, h, g + 1, h' => by
    obtain rfl : l = [] := List.eq_nil_of_length_eq_zero (by omega)
    rfl
  | f + 1, l, h, 0, h' => by
    obtain rfl : l = [] := List.eq_nil_of_length_eq_zero (by omega)
    rfl
  | f + 1, l, h, g + 1, h' => by
    rw [rdF, rdF]
    by_cases hl : l = []
    · rw [if_pos hl, if_pos hl]
    · rw [if_neg hl, if_neg hl]
      cases e : gv l with
      | none => rfl
      | some p =>
        obtain ⟨n, k⟩ := p
        have hb := gv_bd e
        have hd : (l.drop k).length = l.length - k := List.length_drop ..
        simp only
        rw [rdF_eq f (l.drop k) (by omega) g (by omega)]
theorem rd_nil : rd [] = some [] := rfl
theorem rd_none {l : List UInt8} (hl : l ≠ []) (h : gv l = none) : rd l = none := by
  unfold rd
  cases e : l.length with
  | zero => exact absurd (List.eq_nil_of_length_eq_zero e) hl
  | succ f => rw [rdF, if_neg hl, h]
theorem rd_some {l : List UInt8} {n : Int} {k : Nat} (hl : l ≠ []) (h : gv l = some (n, k)) : rd l = (rd (l.drop k)).map (n :: ·) := by
  have hb := gv_bd h
  have hd : (l.drop k).length = l.length - k := List.length_drop ..
  unfold rd
  cases e : l.length with
  | zero => exact absurd (List.eq_nil_of_length_eq_zero e) hl
  | succ f =>
    rw [rdF, if_neg hl, h]
    simp only
    rw [rdF_eq f (l.drop k) (by omega) _ (Nat.le_refl _)]
theorem from_nil {s : ByteArray} {pos : Nat} (h : s.size ≤ pos) : from_ s pos = [] := List.eq_nil_of_length_eq_zero (by rw [from_len]; omega)
theorem from_cons {s : ByteArray} {pos : Nat} (h : pos < s.size) : from_ s pos ≠ [] := fun e => by have := congrArg List.length e; rw [from_len] at this; simp at this; omega
theorem from_drop (s : ByteArray) (pos k : Nat) : (from_ s pos).drop k = from_ s (pos + k) := by unfold from_; rw [List.drop_drop]
theorem from_zero (s : ByteArray) : from_ s 0 = s.data.toList := rfl

/-- What is left to read, behind what has been read. -/
def AllInv (s : ByteArray) (T : Option (List Int)) (pos : Nat) (acc : List Int) : Prop := T = (rd (from_ s pos)).map (acc ++ ·)
theorem AllInv.start (s : ByteArray) : AllInv s (rd s.data.toList) 0 [] := by
  unfold AllInv; rw [from_zero]; cases rd s.data.toList <;> simp
theorem AllInv.fail {s : ByteArray} {T : Option (List Int)} {pos : Nat} {acc : List Int} (h : AllInv s T pos acc) (hp : pos < s.size) (hg : gv (from_ s pos) = none) : T = none := by
  rw [h, rd_none (from_cons hp) hg]; rfl
theorem AllInv.next {s : ByteArray} {T : Option (List Int)} {pos : Nat} {acc : List Int} {n : Int} {k : Nat} (h : AllInv s T pos acc) (hp : pos < s.size) (hg : gv (from_ s pos) = some (n, k)) : AllInv s T (pos + k) (acc ++ [n]) := by
  unfold AllInv at h ⊢
  rw [h, rd_some (from_cons hp) hg, from_drop]
  cases rd (from_ s (pos + k)) <;> simp
theorem AllInv.done {s : ByteArray} {T : Option (List Int)} {pos : Nat} {acc : List Int} (h : AllInv s T pos acc) (hp : s.size ≤ pos) : T = some acc := by
  rw [h, from_nil hp, rd_nil]; simp

/-- What reading all numbers hands back: nil and false, or the numbers in new memory. -/
def Got (w : World) (T : Option (List Int)) (e : Ending) (w' : World) : Prop :=
  (T = none → e = .returned (.tuple #[.slice none 0 0, .bool false])) ∧
  (∀ l, T = some l → ∃ A c, e = .returned (.tuple #[.slice A l.length c, .bool true]) ∧ w'.ownsRow w.heap.size 3 1 (.slice A l.length c) l.length (ints l)) ∧ Below w.heap.size w w'

end Go.Proofs.Ytbpeceejboojoaa
