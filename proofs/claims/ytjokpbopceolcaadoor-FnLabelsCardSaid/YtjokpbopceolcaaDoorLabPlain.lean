/- The plain law of labels: words, order of texts, valid lists, merging. No program in sight. -/
import Derived.Test.YtjokpbopceolcaaDoorNum
import Derived.Test.YtjokpbopceolcaaDoorAllAt
import Derived.Test.YtjokpbopceolcaaDoorDelPlain
import Derived.Sort.Walk0
namespace Go.Proofs.YtjokpbopceolcaaDoor
set_option linter.unusedVariables false
set_option linter.unusedSimpArgs false
open Go.RowKit

abbrev Lab := ByteArray × ByteArray
def lbls (l : List Lab) : List Value := l.flatMap fun p => [.string p.1, .string p.2]
/-- Whether a byte may stand in a word. -/
def chOk (d : Bool) (c : UInt8) : Bool := (decide (97 ≤ c.toNat) && decide (c.toNat ≤ 122)) || (d && decide (48 ≤ c.toNat) && decide (c.toNat ≤ 57))
def wordOk (d : Bool) (s : ByteArray) : Bool := s.data.toList.all (chOk d) && decide (1 ≤ s.size) && decide (s.size ≤ 8)
def labOk (x : Lab) : Bool := wordOk false x.1 && wordOk true x.2
/-- One text stands ahead of another one. -/
def lessS (a b : ByteArray) : Bool := Op.bytesLess a.toList b.toList
def labAt (l : List Lab) (k : Nat) : Bool := labOk (l.getD k (⟨#[]⟩, ⟨#[]⟩)) && (k == 0 || lessS (l.getD (k - 1) (⟨#[]⟩, ⟨#[]⟩)).1 (l.getD k (⟨#[]⟩, ⟨#[]⟩)).1)
def goodLab (l : List Lab) : Bool := allAt (labAt l) l.length && decide (l.length ≤ 6)
theorem labAt_zero {l : List Lab} {p : Lab} (h : l[0]? = some p) : labAt l 0 = labOk p := by unfold labAt; simp [List.getD, h]
theorem labAt_succ {l : List Lab} {k : Nat} {q p : Lab} (hq : l[k]? = some q) (h : l[k + 1]? = some p) : labAt l (k + 1) = (labOk p && lessS q.1 p.1) := by unfold labAt; simp [List.getD, h, hq]
theorem labAt_bad {l : List Lab} {k : Nat} {p : Lab} (h : l[k]? = some p) (hb : labOk p = false) : labAt l k = false := by
  unfold labAt; rw [show l.getD k (⟨#[]⟩, ⟨#[]⟩) = p from by simp [List.getD, h], hb]; rfl
theorem goodLab_bad {l : List Lab} {k : Nat} (hk : k < l.length) (h : labAt l k = false) : goodLab l = false := by unfold goodLab; rw [allAt_f k hk h]; rfl
theorem goodLab_all {l : List Lab} (h : ∀ k, k < l.length → labAt l k = true) : goodLab l = decide (l.length ≤ 6) := by unfold goodLab; rw [allAt_t h]; rfl
theorem labOk_t {x y : ByteArray} (h : labOk (x, y) = true) : wordOk false x = true ∧ wordOk true y = true := by unfold labOk at h; simpa using h
theorem labOk_f {x y : ByteArray} (h : labOk (x, y) = false) : wordOk false x = false ∨ (wordOk false x = true ∧ wordOk true y = false) := by
  unfold labOk at h
  cases hx : wordOk false x
  · exact .inl rfl
  · rw [hx] at h; exact .inr ⟨rfl, by simpa using h⟩
theorem goodLab_len {l : List Lab} (h : goodLab l = true) : l.length ≤ 6 := by unfold goodLab at h; simp at h; exact h.2
theorem goodLab_ok {l : List Lab} (h : goodLab l = true) {k : Nat} {p : Lab} (hp : l[k]? = some p) : labOk p = true := by
  unfold goodLab at h
  simp only [Bool.and_eq_true] at h
  have := allAt_iff.1 h.1 k (List.getElem?_eq_some_iff.1 hp).1
  cases k with
  | zero => rwa [labAt_zero hp] at this
  | succ k =>
    have hk := (List.getElem?_eq_some_iff.1 hp).1
    rw [labAt_succ (List.getElem?_eq_getElem (show k < l.length by omega)) hp, Bool.and_eq_true] at this
    exact this.1
theorem wordOk_len {d : Bool} {s : ByteArray} (h : wordOk d s = true) : 1 ≤ s.size ∧ s.size ≤ 8 := by
  unfold wordOk at h
  simp only [Bool.and_eq_true, decide_eq_true_eq] at h
  exact ⟨h.1.2, h.2⟩

/-! The order of texts. -/
theorem lessS_eq (a b : ByteArray) : lessS a b = decide (a.data.toList < b.data.toList) := by unfold lessS; rw [bytesLess_eq, ByteArray.toList_eq, ByteArray.toList_eq]
theorem lessS_irrefl (a : ByteArray) : lessS a a = false := by rw [lessS_eq]; simp [List.lt_irrefl]
theorem lessS_trans {a b c : ByteArray} (h1 : lessS a b = true) (h2 : lessS b c = true) : lessS a c = true := by
  rw [lessS_eq, decide_eq_true_eq] at *
  exact List.lt_trans h1 h2
theorem lessS_asymm {a b : ByteArray} (h : lessS a b = true) : lessS b a = false := by
  cases hb : lessS b a with
  | false => rfl
  | true => have := lessS_trans h hb; rw [lessS_irrefl] at this; cases this
theorem bytes_ext {a b : ByteArray} (h : a.data.toList = b.data.toList) : a = b := by cases a; cases b; congr; exact Array.toList_inj.1 h
theorem lessS_total {a b : ByteArray} (h1 : lessS a b = false) (h2 : lessS b a = false) : a = b := by
  rw [lessS_eq, decide_eq_false_iff_not] at *
  exact bytes_ext (List.le_antisymm (List.not_lt.1 h2) (List.not_lt.1 h1))
end Go.Proofs.YtjokpbopceolcaaDoor
