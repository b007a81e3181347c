/- The library's Compact and Sort on integers, in plain words: sorted and compacted is strictly increasing. Rows of integers of the call's own through them. No program in sight. -/
import Derived.Shelf.SlicesG.CompactI
import Derived.Sort.Grow
import Derived.Test.YtpdclppieicaeaaPostPlain
import Derived.Test.YtpdclppieicaeaaMem
namespace Go.Proofs.Ytpdclppieicaeaa
set_option linter.unusedVariables false
set_option linter.unusedSimpArgs false
open Go.RowKit Go.Sort Go.Lib

theorem compact_srt (zs : List Int) (h : zs.Pairwise (· ≤ ·)) : Srt (compact zs) ∧ ∀ x, x ∈ compact zs ↔ x ∈ zs := by
  have key : ∀ m, m ≤ zs.length → Srt (compactUpTo zs.toArray m) ∧ (∀ x, x ∈ compactUpTo zs.toArray m ↔ x ∈ zs.take m) := by
    intro m
    induction m with
    | zero => intro _; simp [compactUpTo]
    | succ m ih =>
      intro hm
      obtain ⟨h1, h2⟩ := ih (by omega)
      have hg : zs[m]? = some zs[m] := List.getElem?_eq_getElem (by omega)
      have e1 : zs.toArray[m]! = zs[m] := by rw [getElem!_pos _ _ (by simp; omega)]; simp
      have ht : zs.take (m + 1) = zs.take m ++ [zs[m]] := take_snoc' _ _ _ hg
      rw [compactUpTo_succ, e1, ht]
      have hle : ∀ y ∈ zs.take m, y ≤ zs[m] := by
        intro y hy
        obtain ⟨i, hi⟩ := List.mem_iff_getElem?.1 hy
        rw [List.getElem?_take] at hi
        split at hi
        · rename_i him
          obtain ⟨h3, rfl⟩ := List.getElem?_eq_some_iff.1 hi
          exact List.pairwise_iff_getElem.1 h i m h3 (by omega) him
        · cases hi
      rcases Nat.eq_zero_or_pos m with h0 | h0
      · subst h0
        have hk : keeps zs.toArray 0 = true := keeps_lt_one _ 0 (by omega)
        rw [hk]
        simp [compactUpTo]
      · have e2 : zs.toArray[m - 1]! = zs[m - 1] := by rw [getElem!_pos _ _ (by simp; omega)]; simp
        by_cases he : zs[m] = zs[m - 1]
        · rw [keeps_neg h0 (by rw [e1, e2, he])]
          refine ⟨by simpa using h1, fun x => ?_⟩
          simp only [Bool.false_eq_true, if_false, List.append_nil, List.mem_append, List.mem_singleton]
          rw [h2]
          constructor
          · exact .inl
          · rintro (h | rfl)
            · exact h
            · rw [he]
              exact List.mem_iff_getElem?.2 ⟨m - 1, by rw [List.getElem?_take, if_pos (by omega)]; exact List.getElem?_eq_getElem (by omega)⟩
        · rw [keeps_pos (by rw [e1, e2]; exact he), if_pos rfl]
          refine ⟨?_, fun x => by rw [List.mem_append, List.mem_append, h2]⟩
          refine List.pairwise_append.2 ⟨h1, by simp, fun a ha b hb => ?_⟩
          have hb' : b = zs[m] := by simpa using hb
          subst hb'
          obtain ⟨i, hi⟩ := List.mem_iff_getElem?.1 ((h2 a).1 ha)
          rw [List.getElem?_take] at hi
          split at hi
          · rename_i him
            obtain ⟨h3, rfl⟩ := List.getElem?_eq_some_iff.1 hi
            have l1 : zs[i] ≤ zs[m - 1] := by
              rcases Nat.lt_or_ge i (m - 1) with h4 | h4
              · exact List.pairwise_iff_getElem.1 h i (m - 1) h3 (by omega) h4
              · have : i = m - 1 := by omega
                subst this; exact Int.le_refl _
            have l2 : zs[m - 1] ≤ zs[m] := List.pairwise_iff_getElem.1 h (m - 1) m (by omega) (by omega) (by omega)
            omega
          · cases hi
  have := key zs.length (Nat.le_refl _)
  rw [List.take_length] at this
  exact this
theorem sort_pw (zs : List Int) : (zs.mergeSort fun x y => decide (x ≤ y)).Pairwise (· ≤ ·) := by
  have := List.pairwise_mergeSort (le := fun x y : Int => decide (x ≤ y)) (fun a b c h1 h2 => by simp at *; omega) (fun a b => by simp; omega) zs
  exact this.imp fun h => by simpa using h
/-- Sorted and compacted: the union. -/
theorem sc_join {a b : List Int} (ha : Srt a) : compact ((a ++ b).mergeSort fun x y => decide (x ≤ y)) = joinP a b := by
  obtain ⟨h1, h2⟩ := compact_srt _ (sort_pw (a ++ b))
  exact joinP_of ha h1 fun x => by rw [h2, (List.mergeSort_perm (a ++ b) _).mem_iff, List.mem_append]
section
variable {w : World} {base T g n cap : Nat} {l : List Int}
/-- DOWN: a row of the call's own holds its elements. -/
theorem holds_of_own (h : w.ownsRow base T 1 (.slice (some ⟨g, 0, none⟩) n cap) n (ints l)) : Holds (Value.int .i64) w g 0 l.toArray ∧ g < w.heap.size ∧ base ≤ g ∧ l.length = n ∧ n ≤ cap := by
  have hl : l.length = n := by have := h.1; rw [ints_len] at this; omega
  rcases h.2 with ⟨e0, _⟩ | ⟨g', cap', cur, e0, hb, hg, hn, hm, hs, ht⟩
  · cases e0
  · injection e0 with e1 _ e3
    injection e1 with e1
    injection e1 with e1
    subst e1; subst e3
    have hlt : g < w.heap.size := (Array.getElem?_eq_some_iff.1 hg).1
    refine ⟨fun j hj => ⟨?_, by simp [World.frozen?, hg]⟩, hlt, hb, hl, hn⟩
    have hj' : j < l.length := by simpa using hj
    have e1 : (cur.toList.take (n * 1))[j]? = (ints l)[j]? := by rw [ht]
    rw [List.getElem?_take, if_pos (by omega), Array.getElem?_toList] at e1
    simp only [World.cell?, hg, Nat.zero_add, Option.isSome_none, Bool.false_eq_true, if_false]
    rw [e1, getElem!_pos l.toArray j (by simpa using hj')]
    simp [ints, List.getElem?_eq_getElem hj']
/-- UP: behind it the same array owns what was put into it, and any first part of that. -/
theorem own_put (h : w.ownsRow base T 1 (.slice (some ⟨g, 0, none⟩) n cap) n (ints l)) (q : Nat) (d : List Int) (hd : d.length = n) (k : Nat) (hk : k ≤ n) (os : Array Obj) :
    (grow (putRow (Value.int .i64) (Sort.ahead w q) g 0 d.toArray) os).ownsRow base T 1 (.slice (some ⟨g, 0, none⟩) k cap) k (ints (d.take k)) := by
  rcases h.2 with ⟨e0, _⟩ | ⟨g', cap', cur, e0, hb, hg, hn, hm, hs, ht⟩
  · cases e0
  · injection e0 with e1 _ e3
    injection e1 with e1
    injection e1 with e1
    subst e1; subst e3
    refine ⟨by rw [ints_len, List.length_take]; omega, .inr ⟨g, cap, putCells (Value.int .i64) 0 d.toArray cur, rfl, hb, ?_, by omega, hm, by simpa [putCells] using hs, ?_⟩⟩
    · have hlt : g < w.heap.size := (Array.getElem?_eq_some_iff.1 hg).1
      rw [heap_grow_old _ _ (by simpa [putRow, mapBlock, Sort.ahead] using hlt)]
      simp [putRow, mapBlock, Sort.ahead, Array.getElem?_modify, hg, onCells]
    · apply List.ext_getElem?
      intro j
      rw [List.getElem?_take, Array.getElem?_toList]
      by_cases hj : j < k
      · have hjc : j < cur.size := by omega
        rw [if_pos (by omega)]
        simp only [putCells, Array.getElem?_mapIdx, Array.getElem?_eq_getElem hjc, Option.map_some]
        rw [if_pos (by simp; omega), getElem!_pos d.toArray (j - 0) (by simp; omega)]
        simp [ints, List.getElem?_take, hj, List.getElem?_eq_getElem (show j < d.length by omega)]
      · rw [if_neg (by omega), List.getElem?_eq_none (by rw [ints_len, List.length_take]; omega)]
theorem below_put {B : Nat} {w0 : World} (h : Below B w0 w) (hg : B ≤ g) (hlt : g < w.heap.size) (q : Nat) (d : Array Int) (os : Array Obj) : Below B w0 (grow (putRow (Value.int .i64) (Sort.ahead w q) g 0 d) os) :=
  ⟨h.os, h.tape, h.output, Nat.le_trans h.size (by simp [grow, putRow, mapBlock, Sort.ahead]), fun j hj => by
    rw [← h.block j hj]
    rw [heap_grow_old _ _ (by have : j < w.heap.size := by omega
                              simpa [putRow, mapBlock, Sort.ahead] using this)]
    simp [putRow, mapBlock, Sort.ahead, Array.getElem?_modify, show g ≠ j by omega]⟩
end
end Go.Proofs.Ytpdclppieicaeaa
