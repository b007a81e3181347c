/- Keeping what a test does not name: lists, and rows that are rewritten in place. No program in sight. -/
import Derived.Test.YtbpeceejboojoaaMem
import Derived.Laws.IdiomCopy
namespace Go.Proofs.Ytbpeceejboojoaa
set_option linter.unusedVariables false
set_option linter.unusedSimpArgs false
open Go.RowKit

/-- The first place at which p holds. -/
def fstAt {α : Type} (p : α → Bool) (l : List α) : Option Nat := l.findIdx? p
def idxZ (o : Option Nat) : Int := match o with | some k => (k : Int) | none => -1
theorem fstAt_hit {α : Type} {p : α → Bool} {l : List α} {k : Nat} {x : α} (hk : l[k]? = some x) (hx : p x = true) (h : ∀ j y, j < k → l[j]? = some y → p y = false) : fstAt p l = some k := by
  obtain ⟨hl, hv⟩ := List.getElem?_eq_some_iff.1 hk
  unfold fstAt
  rw [List.findIdx?_eq_some_iff_getElem]
  exact ⟨hl, by rw [hv]; exact hx, fun j hj => by rw [h j _ hj (List.getElem?_eq_getElem (by omega))]; simp⟩
theorem fstAt_none {α : Type} {p : α → Bool} {l : List α} (h : ∀ (j : Nat) (y : α), l[j]? = some y → p y = false) : fstAt p l = none := by
  unfold fstAt
  rw [List.findIdx?_eq_none_iff]
  intro x hx
  obtain ⟨j, hj⟩ := List.mem_iff_getElem?.1 hx
  exact h j x hj
def kept {α : Type} (p : α → Bool) (l : List α) : List α := l.filter fun x => !p x
theorem kept_all {α : Type} {p : α → Bool} {l : List α} (h : ∀ (j : Nat) (y : α), l[j]? = some y → p y = false) : kept p l = l := by
  unfold kept
  rw [List.filter_eq_self]
  intro x hx
  obtain ⟨j, hj⟩ := List.mem_iff_getElem?.1 hx
  simp [h j x hj]
theorem kept_snoc_no {α : Type} {p : α → Bool} {l : List α} {k : Nat} {x : α} (hk : l[k]? = some x) (h : p x = true) : kept p (l.take (k + 1)) = kept p (l.take k) := by
  unfold kept; rw [take_snoc' l k x hk, List.filter_append]; simp [h]
theorem kept_snoc_yes {α : Type} {p : α → Bool} {l : List α} {k : Nat} {x : α} (hk : l[k]? = some x) (h : p x = false) : kept p (l.take (k + 1)) = kept p (l.take k) ++ [x] := by
  unfold kept; rw [take_snoc' l k x hk, List.filter_append]; simp [h]
/-- Where the loop stands: the first i of the row are those kept of the first j; from j on it is as it was. -/
structure Del {α : Type} (p : α → Bool) (zs xs : List α) (i j : Nat) : Prop where
  len : xs.length = zs.length
  pre : xs.take i = kept p (zs.take j)
  post : xs.drop j = zs.drop j
  idx : i = (kept p (zs.take j)).length
  lt : i < j
theorem Del.start {α : Type} {p : α → Bool} {zs : List α} {k : Nat} {x : α} (hk : zs[k]? = some x) (hx : p x = true) (h : ∀ j y, j < k → zs[j]? = some y → p y = false) : Del p zs zs k (k + 1) := by
  have hl := (List.getElem?_eq_some_iff.1 hk).1
  have e : kept p (zs.take (k + 1)) = zs.take k := by
    rw [kept_snoc_no hk hx]
    refine kept_all fun j y hy => ?_
    rw [List.getElem?_take] at hy
    split at hy
    · exact h j y ‹_› hy
    · cases hy
  exact ⟨rfl, e.symm, rfl, by rw [e, List.length_take]; omega, by omega⟩
theorem Del.at_ {α : Type} {p : α → Bool} {zs xs : List α} {i j : Nat} (h : Del p zs xs i j) : xs[j]? = zs[j]? := by
  have := congrArg (fun l => l[0]?) h.post
  simpa using this
theorem Del.skip {α : Type} {p : α → Bool} {zs xs : List α} {i j : Nat} {x : α} (h : Del p zs xs i j) (hx : zs[j]? = some x) (hp : p x = true) : Del p zs xs i (j + 1) :=
  ⟨h.len, by rw [kept_snoc_no hx hp]; exact h.pre, by rw [← List.drop_drop, ← List.drop_drop, h.post], by rw [kept_snoc_no hx hp]; exact h.idx, by have := h.lt; omega⟩
theorem Del.keep {α : Type} {p : α → Bool} {zs xs : List α} {i j : Nat} {x : α} (h : Del p zs xs i j) (hx : zs[j]? = some x) (hp : p x = false) : Del p zs (xs.set i x) (i + 1) (j + 1) := by
  have hl := (List.getElem?_eq_some_iff.1 hx).1
  have hlen := h.len
  have hlt := h.lt
  refine ⟨by rw [List.length_set, h.len], ?_, ?_, ?_, by omega⟩
  · rw [kept_snoc_yes hx hp, ← h.pre, take_snoc' (xs.set i x) i x (by rw [List.getElem?_set]; simp; omega), List.take_set_of_le (Nat.le_refl _)]
  · rw [List.drop_set_of_lt (by omega), ← List.drop_drop, ← List.drop_drop, h.post]
  · rw [kept_snoc_yes hx hp, List.length_append, ← h.idx]; rfl
theorem Del.done {α : Type} {p : α → Bool} {zs xs : List α} {i j : Nat} (h : Del p zs xs i j) (hj : zs.length ≤ j) : xs.take i = kept p zs ∧ i = (kept p zs).length := by
  have e := h.pre
  have e2 := h.idx
  rw [List.take_of_length_le hj] at e e2
  exact ⟨e, e2⟩

section
variable {w : World} {base n cap size g : Nat} {e : TypeId} {xs : List Value}
theorem own_prefix (h : w.ownsRow base e size (.slice (some ⟨g, 0, none⟩) n cap) n xs) {m : Nat} (hm : m ≤ n) : w.ownsRow base e size (.slice (some ⟨g, 0, none⟩) m cap) m (xs.take (m * size)) := by
  refine ⟨by rw [List.length_take, h.1]; exact Nat.min_eq_left (Nat.mul_le_mul_right _ hm), ?_⟩
  rcases h.2 with ⟨hv, _⟩ | ⟨g', cap', cur, hv, hb, hg, hnc, hcm, hcs, htake⟩
  · simp at hv
  · have hv' : g = g' ∧ cap = cap' := by simpa using hv
    obtain ⟨rfl, rfl⟩ := hv'
    refine .inr ⟨g, cap, cur, rfl, hb, hg, by omega, hcm, hcs, ?_⟩
    have hle : m * size ≤ xs.length := by rw [h.1]; exact Nat.mul_le_mul_right _ hm
    have e2 := congrArg (List.take (m * size)) htake
    rw [List.take_take] at e2
    rw [← e2]
    congr 1
    first | exact (Nat.min_eq_left (Nat.mul_le_mul_right _ hm)).symm | (rw [List.length_take, Nat.min_eq_left hle])
theorem own_setCells (vs : List Value) : ∀ (w : World) (xs : List Value) (j : Nat), w.ownsRow base e size (.slice (some ⟨g, 0, none⟩) n cap) n xs →
    ∃ ys, (w.setCells g j vs).ownsRow base e size (.slice (some ⟨g, 0, none⟩) n cap) n ys ∧ ys.take j = xs.take j := by
  induction vs with
  | nil => intro w xs j h; exact ⟨xs, h, rfl⟩
  | cons v vs ih =>
    intro w xs j h
    obtain ⟨ys, h1, h2⟩ := ih (w.setCell ⟨g, j, none⟩ v) (xs.set j v) (j + 1) (h.stored j v).1
    refine ⟨ys, h1, ?_⟩
    have h3 := congrArg (List.take j) h2
    rw [List.take_take, List.take_take, Nat.min_eq_left (Nat.le_succ j)] at h3
    rw [h3, List.take_set_of_le (Nat.le_refl _)]
theorem below_setCells {B : Nat} {w0 : World} (vs : List Value) (hB : B ≤ g) : ∀ (w : World) (j : Nat), Below B w0 w → Below B w0 (w.setCells g j vs) := by
  induction vs with
  | nil => intro w j h; exact h
  | cons v vs ih => intro w j h; exact ih _ _ (h.setCell hB v)
theorem zeroCells_one {cs : Array Value} {k : Nat} (hs : 0 < cs.size) (h : cs.all (fun u => u.oneCell') = true) : ∀ v ∈ (Builtin.zeroCells cs k).toList, v.oneCell' = true := by
  intro v hv
  simp [Builtin.zeroCells] at hv
  obtain ⟨i, hi, rfl⟩ := hv
  have hm := Nat.mod_lt i hs
  rw [getElem!_pos cs _ hm]
  exact Array.all_eq_true.1 h _ hm
/-- 'clear' of the end of a row. -/
theorem run_clear_end {P : Program} {t : TypeId} {ty : TypeId} {z : Value} {m c' : Nat} (ht : P.underlying t = some (.slice e)) (hv : ∀ w, (zeroValue e).run P w = .ok z w) (hz : z.cells.size = size) (h1 : ∀ v ∈ (Builtin.zeroCells z.cells (n - m)).toList, v.oneCell' = true)
    (h : w.ownsRow base e size (.slice (some ⟨g, 0, none⟩) n cap) n xs) (hm : m < n) :
    (Builtin.clear_ #[t] ty #[.slice (some ⟨g, m * size, none⟩) (n - m) c']).run P w = .ok (.tuple #[]) (w.setCells g (m * size) (Builtin.zeroCells z.cells (n - m)).toList) := by
  have hlen : ((Builtin.zeroCells z.cells (n - m)).toList).length = (n - m) * size := by rw [Array.length_toList, size_zeroCells, hz]
  have hsum : m * size + (n - m) * size = n * size := by rw [← Nat.add_mul]; congr 1; omega
  have hst := run_storeCells_cells (P := P) g (m * size) (Builtin.zeroCells z.cells (n - m)).toList 0 w
    (by
      intro j hj
      rw [Nat.add_zero, h.cellAt (m * size + j) (by omega)]
      rw [List.getElem?_eq_getElem (by rw [h.1]; omega)]
      rfl)
    (by intro j hj; rw [Nat.add_zero]; exact h.frozenAt _) h1
  simp only [Nat.add_zero] at hst
  obtain ⟨q, hq⟩ : ∃ q, n - m = q + 1 := ⟨n - m - 1, by omega⟩
  rw [hq] at hst ⊢
  simp [Builtin.clear_, run_underlying ht, hv, hst]
end
end Go.Proofs.Ytbpeceejboojoaa
