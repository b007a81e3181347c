/- A row of elements of k cells that the call owns, through slices.SortFunc. No program in sight. -/
import Derived.Shelf.SlSortCmp.WholeK
import Derived.Test.YtjokpbopceolcaaDoorMem
namespace Go.Proofs.YtjokpbopceolcaaDoor
set_option linter.unusedVariables false
set_option linter.unusedSimpArgs false
open Go.RowKit Go.Sort Go.Lib

theorem flatMap_lenK {α : Type} {c : α → List Value} {s : Nat} (hc : ∀ x, (c x).length = s) (l : List α) : (l.flatMap c).length = l.length * s := by
  induction l with
  | nil => simp
  | cons x l ih => rw [List.flatMap_cons, List.length_append, hc, ih, List.length_cons, Nat.add_mul]; omega
theorem flatMap_getK {α : Type} {c : α → List Value} {s : Nat} (hc : ∀ x, (c x).length = s) (l : List α) : ∀ (i r : Nat) (x : α), r < s → l[i]? = some x → (l.flatMap c)[i * s + r]? = (c x)[r]? := by
  induction l with
  | nil => intro i r x _ h; simp at h
  | cons y l ih =>
    intro i r x hr h
    cases i with
    | zero =>
      simp at h
      subst h
      rw [List.flatMap_cons, Nat.zero_mul, Nat.zero_add, List.getElem?_append_left (by rw [hc]; exact hr)]
    | succ i =>
      rw [List.flatMap_cons, List.getElem?_append_right (by rw [hc, Nat.add_mul]; omega), hc, show (i + 1) * s + r - s = i * s + r from by rw [Nat.add_mul]; omega]
      exact ih i r x hr (by simpa using h)
/-- The sort's flat row is the list's cells. -/
theorem flatK_eq {α : Type} [Inhabited α] {enc : α → List Value} {k : Nat} (hk : ∀ x, (enc x).length = k) (l : List α) : flatK enc k l.toArray = (l.flatMap enc).toArray := by
  refine Array.ext (by simp [flatMap_lenK hk]) fun t h1 h2 => ?_
  have ht : t < l.length * k := by simpa using h1
  have k0 : 0 < k := by
    rcases Nat.eq_zero_or_pos k with h | h
    · subst h; simp at ht
    · exact h
  have hq : t / k < l.length := Nat.div_lt_of_lt_mul (by rw [Nat.mul_comm]; exact ht)
  have hr : t % k < k := Nat.mod_lt _ k0
  have hg := flatMap_getK hk l (t / k) (t % k) l[t / k] hr (List.getElem?_eq_getElem hq)
  rw [show t / k * k + t % k = t from by rw [Nat.mul_comm]; exact Nat.div_add_mod t k] at hg
  have e : (flatK enc k l.toArray)[t]! = (enc l.toArray[t / k]!)[t % k]! := get_flatK enc k l.toArray t (by simpa using ht)
  rw [getElem!_pos _ t h1] at e
  rw [e]
  have e2 : l.toArray[t / k]! = l[t / k] := by rw [getElem!_pos _ _ (by simpa using hq)]; simp
  rw [e2]
  have hlen : t < (l.flatMap enc).length := by rw [flatMap_lenK hk]; exact ht
  rw [List.getElem?_eq_getElem hlen, List.getElem?_eq_getElem (by rw [hk]; exact hr)] at hg
  simp only [Option.some.injEq] at hg
  rw [List.getElem_toArray, hg, getElem!_pos _ _ (by rw [hk]; exact hr)]
section
variable {α : Type} [Inhabited α] {enc : α → List Value} {k : Nat} {w : World} {base T g n cap : Nat} {l : List α}
/-- DOWN: a row that is owned holds its elements. -/
theorem holdsK_of_own (hk : ∀ x, (enc x).length = k) (h : w.ownsRow base T k (.slice (some ⟨g, 0, none⟩) n cap) n (l.flatMap enc)) : HoldsK enc k w g 0 l.toArray ∧ g < w.heap.size ∧ base ≤ g := by
  rcases h.2 with ⟨e0, _⟩ | ⟨g', cap', cur, e0, hb, hg, hn, hm, hs, ht⟩
  · cases e0
  · injection e0 with e1 _ e3
    injection e1 with e1
    injection e1 with e1
    subst e1; subst e3
    have hlt : g < w.heap.size := by
      rcases Nat.lt_or_ge g w.heap.size with h' | h'
      · exact h'
      · rw [Array.getElem?_eq_none h'] at hg; cases hg
    refine ⟨fun j hj => ⟨?_, by simp [World.frozen?, hg]⟩, hlt, hb⟩
    rw [flatK_eq hk] at hj ⊢
    have hj' : j < (l.flatMap enc).length := by simpa using hj
    have hjn : j < n * k := by rw [← h.1]; exact hj'
    have e1 : (cur.toList.take (n * k))[j]? = (l.flatMap enc)[j]? := by rw [ht]
    rw [List.getElem?_take, if_pos hjn, Array.getElem?_toList, List.getElem?_eq_getElem hj'] at e1
    simp only [World.cell?, hg, Nat.zero_add]
    simp only [Option.isSome_none, Bool.false_eq_true, if_false]
    rw [e1, getElem!_pos (l.flatMap enc).toArray j (by simpa using hj')]
    simp
/-- UP: behind the sort the same slice owns the sorted elements. -/
theorem own_sorted (hk : ∀ x, (enc x).length = k) (h : w.ownsRow base T k (.slice (some ⟨g, 0, none⟩) n cap) n (l.flatMap enc)) (q : Nat) (d : Array α) (hd : d.size = n) (os : Array Obj) :
    (sortWorldK enc k w g 0 q d os).ownsRow base T k (.slice (some ⟨g, 0, none⟩) n cap) n (d.toList.flatMap enc) := by
  rcases h.2 with ⟨e0, _⟩ | ⟨g', cap', cur, e0, hb, hg, hn, hm, hs, ht⟩
  · cases e0
  · injection e0 with e1 _ e3
    injection e1 with e1
    injection e1 with e1
    subst e1; subst e3
    have hF : flatK enc k d = (d.toList.flatMap enc).toArray := by have := flatK_eq hk d.toList; simpa using this
    have hFl : (d.toList.flatMap enc).length = n * k := by rw [flatMap_lenK hk, Array.length_toList, hd]
    refine ⟨hFl, .inr ⟨g, cap, putCells id 0 (flatK enc k d) cur, rfl, hb, ?_, hn, hm, by simpa [putCells] using hs, ?_⟩⟩
    · have hlt : g < w.heap.size := (Array.getElem?_eq_some_iff.1 hg).1
      unfold sortWorldK
      rw [heap_grow_old _ _ (by simpa [putRowK, putRow, mapBlock, Sort.ahead] using hlt)]
      simp [putRowK, putRow, mapBlock, Sort.ahead, Array.getElem?_modify, hg, onCells]
    · have hle : n * k ≤ cur.size := by rw [hs]; exact Nat.mul_le_mul_right k hn
      apply List.ext_getElem?
      intro j
      rw [List.getElem?_take, Array.getElem?_toList]
      by_cases hj : j < n * k
      · have hjc : j < cur.size := by omega
        rw [if_pos hj]
        simp only [putCells, Array.getElem?_mapIdx, Array.getElem?_eq_getElem hjc, Option.map_some]
        rw [hF, if_pos (by simp only [List.size_toArray]; omega), List.getElem?_eq_getElem (by omega), getElem!_pos (d.toList.flatMap enc).toArray (j - 0) (by simp only [List.size_toArray]; omega)]
        simp
      · rw [if_neg hj, List.getElem?_eq_none (by omega)]
/-- What lies below is untouched. -/
theorem below_sorted {B : Nat} {w0 : World} (h : Below B w0 w) (hg : B ≤ g) (hlt : g < w.heap.size) (q : Nat) (d : Array α) (os : Array Obj) : Below B w0 (sortWorldK enc k w g 0 q d os) :=
  ⟨h.os, h.tape, h.output, Nat.le_trans h.size (by simp [sortWorldK, grow, putRowK, putRow, mapBlock, Sort.ahead]), fun j hj => by
    rw [← h.block j hj]
    unfold sortWorldK
    rw [heap_grow_old _ _ (by have : j < w.heap.size := by omega
                              simpa [putRowK, putRow, mapBlock, Sort.ahead] using this)]
    simp [putRowK, putRow, mapBlock, Sort.ahead, Array.getElem?_modify, show g ≠ j by omega]⟩
end
end Go.Proofs.YtjokpbopceolcaaDoor
