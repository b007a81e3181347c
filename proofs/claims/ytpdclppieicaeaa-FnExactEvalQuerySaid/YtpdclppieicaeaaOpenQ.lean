/- How arguments that are slices of a query's parts read. -/
import Derived.Test.YtpdclppieicaeaaOpen
import Derived.Test.YtpdclppieicaeaaQryPlain
namespace Go.Proofs.Ytpdclppieicaeaa
set_option linter.unusedVariables false
set_option linter.unusedSimpArgs false
open Go.RowKit Go.ChangeShapes Go.WideShapes Go.Deep
section
variable {H : Type} {enc : TypeId × Value → H} {P : Program} {w : World}
/-- A query's part, cell by cell. -/
theorem elem_query {e el ti ts : Nat} {f0 f1 f2 f3 g0 g1 : Field} (he : P.underlying e = some (.struct #[f0, f1, f2, f3])) (hs : P.cellsOf e = 5) (hel : P.underlying el = some (.struct #[g0, g1])) (hsl : P.cellsOf el = 2)
    (h0 : f0.type = ti) (h1 : f1.type = el) (h2 : f2.type = ti) (h3 : f3.type = ti) (o0 : f0.offset = 0) (o1 : f1.offset = 1) (o2 : f2.offset = 3) (o3 : f3.offset = 4)
    (l0 : g0.type = ts) (l1 : g1.type = ts) (p0 : g0.offset = 0) (p1 : g1.offset = 1)
    (hi : P.underlying ti = some (.int .i64)) (hst : P.underlying ts = some .string) (hc : P.cellsOf ti = 1) (hcs : P.cellsOf ts = 1) (fuel : Nat) (cs : List Value) (y : DataW H × List MemPlace) (h : DataW.trod enc P w 0 (fun _ => true) true fuel e cs = some y) :
    ∃ x : Qry, cs = x.cells ∧ x.name.size ≤ 9223372036854775807 ∧ x.value.size ≤ 9223372036854775807 := by
  have hl := struct_len he h
  rw [hs] at hl
  obtain ⟨k0, z0, t0⟩ := field_one he h 0 f0 rfl 1 (by rw [h0, hc])
  obtain ⟨k1, z1, t1⟩ := field_one he h 1 f1 rfl 2 (by rw [h1, hsl])
  obtain ⟨k2, z2, t2⟩ := field_one he h 2 f2 rfl 1 (by rw [h2, hc])
  obtain ⟨k3, z3, t3⟩ := field_one he h 3 f3 rfl 1 (by rw [h3, hc])
  rw [h0, o0] at t0
  rw [h1, o1] at t1
  rw [h2, o2] at t2
  rw [h3, o3] at t3
  obtain ⟨a, ha, _⟩ := DataW.trod_int hi t0
  obtain ⟨x, hx, s1, s2⟩ := elem_label hel hsl l0 l1 p0 p1 hst hcs _ _ _ t1
  obtain ⟨b, hb, _⟩ := DataW.trod_int hi t2
  obtain ⟨c, hcc, _⟩ := DataW.trod_int hi t3
  match cs, hl with
  | [u0, u1, u2, u3, u4], _ =>
    simp at ha hx hb hcc
    exact ⟨⟨a, x.1, x.2, b, c⟩, by unfold Qry.cells; rw [ha, hx.1, hx.2, hb, hcc], s1, s2⟩
end
end Go.Proofs.Ytpdclppieicaeaa
