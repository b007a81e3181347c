/- How arguments that are slices of slices of labels read. -/
import Derived.Test.YtpdclppieicaeaaOpen
import Derived.Test.YtpdclppieicaeaaRowSS
namespace Go.Proofs.Ytpdclppieicaeaa
set_option linter.unusedVariables false
set_option linter.unusedSimpArgs false
open Go.RowKit Go.ChangeShapes Go.WideShapes Go.Deep
section
variable {H : Type} {enc : TypeId × Value → H} {P : Program} {w : World}
/-- A slice of labels, as an element. -/
theorem elem_labels {t e ts : Nat} {f0 f1 : Field} (ht : P.underlying t = some (.slice e)) (he : P.underlying e = some (.struct #[f0, f1])) (hs : P.cellsOf e = 2) (h0 : f0.type = ts) (h1 : f1.type = ts) (o0 : f0.offset = 0) (o1 : f1.offset = 1)
    (hi : P.underlying ts = some .string) (hc : P.cellsOf ts = 1) (fuel : Nat) (cs : List Value) (y : DataW H × List MemPlace) (h : DataW.trod enc P w 0 (fun _ => true) true fuel t cs = some y) :
    ∃ x : Hd × List Lab, cs = [hdV x.1] ∧ Rd w w.heap.size 2 x.1.1 x.1.2.1 (lbls x.2) ∧ x.1.2.1 ≤ 9223372036854775807 ∧ ∀ p ∈ x.2, p.1.size ≤ 9223372036854775807 ∧ p.2.size ≤ 9223372036854775807 := by
  have hform : ∃ A n c, cs = [.slice A n c] := by
    rcases open_slice ht h with ⟨hcs, _⟩ | ⟨a, len, cap, m, k, D, Pl, hcs, _⟩
    · exact ⟨_, _, _, hcs⟩
    · exact ⟨_, _, _, hcs⟩
  obtain ⟨A, n, c, rfl⟩ := hform
  obtain ⟨l, hR, hn, hq⟩ := open_rows_q (fun x : ByteArray × ByteArray => x.1.size ≤ 9223372036854775807 ∧ x.2.size ≤ 9223372036854775807) (c := fun x : ByteArray × ByteArray => [Value.string x.1, .string x.2]) (s := 2) (A := A) (n := n) (cp := c) (d := y.1) (p := y.2) ht hs (by omega) (fun _ => rfl) (elem_label he hs h0 h1 o0 o1 hi hc) ⟨fuel, h⟩
  exact ⟨((A, n, c), l), rfl, hR, hn, hq⟩
instance : Inhabited (Hd × List Lab) := ⟨((none, 0, 0), [])⟩
theorem hds_flat (l : List (Hd × List Lab)) : (l.flatMap fun x => [hdV x.1]) = hds (l.map Prod.fst) := by induction l <;> simp_all [hds]
/-- An argument that is a slice of slices of labels. -/
theorem open_rowsSS {t t1 e ts : Nat} {f0 f1 : Field} {A : Option Addr} {n cp : Nat} {d : DataW H} {p : List MemPlace} (ht : P.underlying t = some (.slice t1)) (hs1 : P.cellsOf t1 = 1) (ht1 : P.underlying t1 = some (.slice e)) (he : P.underlying e = some (.struct #[f0, f1])) (hs : P.cellsOf e = 2) (h0 : f0.type = ts) (h1 : f1.type = ts) (o0 : f0.offset = 0) (o1 : f1.offset = 1)
    (hi : P.underlying ts = some .string) (hc : P.cellsOf ts = 1) (h : DataW.Trod enc P w 0 (fun _ => true) true t (.slice A n cp) d p) :
    ∃ ls : List (List Lab), RdSS w w.heap.size A n ls ∧ n ≤ 9223372036854775807 ∧ ∀ l ∈ ls, ∀ p ∈ l, p.1.size ≤ 9223372036854775807 ∧ p.2.size ≤ 9223372036854775807 := by
  obtain ⟨l, hR, hn, hq⟩ := open_rows_q (fun x : Hd × List Lab => Rd w w.heap.size 2 x.1.1 x.1.2.1 (lbls x.2) ∧ x.1.2.1 ≤ 9223372036854775807 ∧ ∀ p ∈ x.2, p.1.size ≤ 9223372036854775807 ∧ p.2.size ≤ 9223372036854775807)
    (c := fun x : Hd × List Lab => [hdV x.1]) (s := 1) ht hs1 (by omega) (fun _ => rfl) (elem_labels ht1 he hs h0 h1 o0 o1 hi hc) h
  rw [hds_flat] at hR
  refine ⟨l.map Prod.snd, ⟨l.map Prod.fst, hR, ?_, fun k h' l' e e' => ?_⟩, hn, fun l' hl' => ?_⟩
  · have := hR.1; rw [hds_len] at this; simp at this ⊢; omega
  · rw [List.getElem?_map, Option.map_eq_some_iff] at e e'
    obtain ⟨x, hx, rfl⟩ := e
    obtain ⟨x', hx', rfl⟩ := e'
    obtain rfl : x = x' := by rw [hx] at hx'; injection hx'
    have := hq x (List.mem_of_getElem? hx)
    exact ⟨this.1, this.2.1⟩
  · obtain ⟨x, hx, rfl⟩ := List.mem_map.1 hl'
    exact (hq x hx).2.2
end
end Go.Proofs.Ytpdclppieicaeaa
