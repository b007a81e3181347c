/- The words of the letters a and b, and those of them that a tree matches. Rows of texts that grow by turns. No program in sight. -/
import Derived.Test.YtbpeceejboojoaaFormPlain
import Derived.Test.YtbpeceejboojoaaStrH
import Derived.Deep.AppendLies
namespace Go.Proofs.Ytbpeceejboojoaa
set_option linter.unusedVariables false
set_option linter.unusedSimpArgs false
open Go.RowKit

/-- The number j in m letters. -/
def bitsW : Nat → Nat → List UInt8
  | 0, _ => []
  | m + 1, j => bitsW m (j / 2) ++ [if j % 2 = 0 then 97 else 98]
def wrd (l : List UInt8) : ByteArray := ⟨l.toArray⟩
theorem wrd_list (l : List UInt8) : (wrd l).data.toList = l := by simp [wrd]
theorem wrd_app (l r : List UInt8) : wrd (l ++ r) = wrd l ++ wrd r := by
  unfold wrd
  apply ByteArray.ext
  rw [ByteArray.data_append]
  simp
/-- All words of k letters, in order. -/
def rowW (k : Nat) : List ByteArray := (List.range (2 ^ k)).map fun j => wrd (bitsW k j)
def sA (s : ByteArray) : ByteArray := s ++ ⟨#[97]⟩
def sB (s : ByteArray) : ByteArray := s ++ ⟨#[98]⟩
theorem range_two (m : Nat) : List.range (2 * m) = (List.range m).flatMap fun j => [2 * j, 2 * j + 1] := by
  induction m with
  | zero => rfl
  | succ m ih => rw [show 2 * (m + 1) = 2 * m + 1 + 1 from by omega, List.range_succ, List.range_succ, ih, List.range_succ, List.flatMap_append]; simp
theorem rowW_zero : rowW 0 = [⟨#[]⟩] := rfl
theorem rowW_succ (k : Nat) : rowW (k + 1) = (rowW k).flatMap fun s => [sA s, sB s] := by
  unfold rowW
  rw [show 2 ^ (k + 1) = 2 * 2 ^ k from by rw [Nat.pow_succ]; omega, range_two, List.map_flatMap, List.flatMap_map]
  congr 1
  funext j
  have h1 : (2 * j) / 2 = j := by omega
  have h2 : (2 * j + 1) / 2 = j := by omega
  have h3 : (2 * j) % 2 = 0 := by omega
  have h4 : (2 * j + 1) % 2 = 1 := by omega
  simp only [List.map_cons, List.map_nil, bitsW, h1, h2, h3, h4, if_true, if_neg (show ¬ 1 = 0 by decide), wrd_app]
  rfl
theorem rowW_len (k : Nat) : (rowW k).length = 2 ^ k := by simp [rowW]
theorem bitsW_len : ∀ m j, (bitsW m j).length = m
  | 0, _ => rfl
  | m + 1, j => by rw [bitsW, List.length_append, bitsW_len m]; rfl
theorem wrd_size (l : List UInt8) : (wrd l).size = l.length := rfl
theorem rowW_at {k j : Nat} {s : ByteArray} (h : (rowW k)[j]? = some s) : s = wrd (bitsW k j) := by
  unfold rowW at h
  rw [List.getElem?_map] at h
  cases hr : (List.range (2 ^ k))[j]? with
  | none => rw [hr] at h; cases h
  | some i =>
    rw [hr] at h
    obtain ⟨hj, hi⟩ := List.getElem?_eq_some_iff.1 hr
    simp at hi h
    rw [← h, ← hi]
theorem rowW_get {k j : Nat} (h : j < 2 ^ k) : (rowW k)[j]? = some (wrd (bitsW k j)) := by simp [rowW, h]
theorem rowW_size {k j : Nat} {s : ByteArray} (h : (rowW k)[j]? = some s) : s.size = k := by rw [rowW_at h, wrd_size, bitsW_len]
/-- The letters ahead of letter u, and one more. -/
theorem bitsW_step (m j : Nat) : wrd (bitsW (m + 1) j) = wrd (bitsW m (j / 2)) ++ (if j % 2 = 0 then ⟨#[97]⟩ else ⟨#[98]⟩) := by
  rw [bitsW, wrd_app]
  split <;> rfl
/-- What the rounds have made: the matching words of less than k letters, and of the first j of k letters. -/
def accW (t : Tr) (k j : Nat) : List ByteArray := ((List.range k).flatMap fun i => (rowW i).filter fun s => mt t s.data.toList) ++ ((rowW k).take j).filter fun s => mt t s.data.toList
theorem accW_zero (t : Tr) : accW t 0 0 = [] := by simp [accW]
theorem accW_next (t : Tr) {k j : Nat} (h : 2 ^ k ≤ j) : accW t k j = accW t (k + 1) 0 := by
  unfold accW
  rw [List.take_of_length_le (by rw [rowW_len]; exact h), List.range_succ, List.flatMap_append]
  simp
theorem accW_yes {t : Tr} {k j : Nat} {s : ByteArray} (h : (rowW k)[j]? = some s) (hm : mt t s.data.toList = true) : accW t k (j + 1) = accW t k j ++ [s] := by
  unfold accW
  rw [take_snoc' _ _ _ h, List.filter_append, List.append_assoc]
  simp [hm]
theorem accW_no {t : Tr} {k j : Nat} {s : ByteArray} (h : (rowW k)[j]? = some s) (hm : mt t s.data.toList = false) : accW t k (j + 1) = accW t k j := by
  unfold accW
  rw [take_snoc' _ _ _ h, List.filter_append]
  simp [hm]
theorem accP_len (t : Tr) (k : Nat) : ((List.range k).flatMap fun i => (rowW i).filter fun s => mt t s.data.toList).length + 1 ≤ 2 ^ k := by
  induction k with
  | zero => simp
  | succ k ih =>
    rw [List.range_succ, List.flatMap_append, List.length_append, Nat.pow_succ]
    have h1 := List.length_filter_le (fun s : ByteArray => mt t s.data.toList) (rowW k)
    rw [rowW_len] at h1
    simp only [List.flatMap_cons, List.flatMap_nil, List.append_nil]
    omega
theorem accW_len (t : Tr) (k j : Nat) : (accW t k j).length + 1 ≤ 2 ^ k + j := by
  unfold accW
  rw [List.length_append]
  have h1 := accP_len t k
  have h2 := List.length_filter_le (fun s : ByteArray => mt t s.data.toList) ((rowW k).take j)
  have h3 := List.length_take_le j (rowW k)
  omega
/-- The words of one letter more, made of the first j. -/
def nextW (k j : Nat) : List ByteArray := ((rowW k).take j).flatMap fun s => [sA s, sB s]
theorem nextW_zero (k : Nat) : nextW k 0 = [] := by simp [nextW]
theorem nextW_step {k j : Nat} {s : ByteArray} (h : (rowW k)[j]? = some s) : nextW k (j + 1) = nextW k j ++ [sA s, sB s] := by
  unfold nextW
  rw [take_snoc' _ _ _ h, List.flatMap_append]
  simp
theorem nextW_all {k j : Nat} (h : 2 ^ k ≤ j) : nextW k j = rowW (k + 1) := by
  unfold nextW
  rw [List.take_of_length_le (by rw [rowW_len]; exact h), rowW_succ]
theorem pow_le8 {k : Nat} (h : k ≤ 3) : 2 ^ k ≤ 8 := Nat.le_trans (Nat.pow_le_pow_right (by omega) h) (by decide)

/-- Two values that own different blocks. -/
def Dj (u v : Value) : Prop := ∀ g, u.ownBlock = some g → v.ownBlock ≠ some g
theorem Dj.symm {u v : Value} (h : Dj u v) : Dj v u := fun g h1 h2 => h g h2 h1
theorem Dj.nil_ (v : Value) : Dj (.slice none 0 0) v := fun g h => by simp [Value.ownBlock] at h
section
variable {w w' : World} {base base2 e s n H : Nat} {u v : Value} {xs : List Value}
theorem own_far (ho : w.ownsRow base e s v n xs) (hg : w.grownBy w' u.ownBlock) (hd : Dj u v) : w'.ownsRow base e s v n xs := by
  refine ho.kept hg ?_
  cases h : u.ownBlock with
  | none => cases h2 : v.ownBlock <;> simp
  | some k => exact .inr (hd k h)
theorem Dj.far {g m cap : Nat} (hd : Dj u v) (ho : w.ownsRow base e s v n xs) (hat : u.ownBlock = some g ∨ g = H) (hH : w.heap.size ≤ H) : Dj (.slice (some ⟨g, 0, none⟩) m cap) v := by
  intro q hq hv
  have hq' : g = q := by simpa [Value.ownBlock] using hq
  subst hq'
  rcases hat with h | h
  · exact hd g h hv
  · have := (ho.lt g hv).2; omega
end
end Go.Proofs.Ytbpeceejboojoaa
