/- How arguments that are slices of a pattern's parts read. -/
import Derived.Test.YtbpeceejboojoaaOpen
import Derived.Test.YtbpeceejboojoaaPrt
namespace Go.Proofs.Ytbpeceejboojoaa
set_option linter.unusedVariables false
set_option linter.unusedSimpArgs false
open Go.RowKit Go.ChangeShapes Go.WideShapes Go.Deep
section
variable {H : Type} {enc : TypeId × Value → H} {P : Program} {w : World}
/-- A pattern's part, cell by cell. -/
theorem elem_part {e ti ts : Nat} {f0 f1 f2 f3 : Field} (he : P.underlying e = some (.struct #[f0, f1, f2, f3])) (hs : P.cellsOf e = 4)
    (h0 : f0.type = ti) (h1 : f1.type = ts) (h2 : f2.type = ti) (h3 : f3.type = ti) (o0 : f0.offset = 0) (o1 : f1.offset = 1) (o2 : f2.offset = 2) (o3 : f3.offset = 3)
    (hi : P.underlying ti = some (.int .i64)) (hst : P.underlying ts = some .string) (hc : P.cellsOf ti = 1) (hcs : P.cellsOf ts = 1) (fuel : Nat) (cs : List Value) (y : DataW H × List MemPlace) (h : DataW.trod enc P w 0 (fun _ => true) true fuel e cs = some y) :
    ∃ x : Prt, cs = x.cells ∧ x.text.size ≤ 9223372036854775807 := by
  have hl := struct_len he h
  rw [hs] at hl
  obtain ⟨k0, z0, t0⟩ := field_one he h 0 f0 rfl 1 (by rw [h0, hc])
  obtain ⟨k1, z1, t1⟩ := field_one he h 1 f1 rfl 1 (by rw [h1, hcs])
  obtain ⟨k2, z2, t2⟩ := field_one he h 2 f2 rfl 1 (by rw [h2, hc])
  obtain ⟨k3, z3, t3⟩ := field_one he h 3 f3 rfl 1 (by rw [h3, hc])
  rw [h0, o0] at t0
  rw [h1, o1] at t1
  rw [h2, o2] at t2
  rw [h3, o3] at t3
  obtain ⟨a, ha, _⟩ := DataW.trod_int hi t0
  obtain ⟨s, hsv, _, ss⟩ := DataW.trod_string hst t1
  obtain ⟨b, hb, _⟩ := DataW.trod_int hi t2
  obtain ⟨c, hcc, _⟩ := DataW.trod_int hi t3
  unfold maxLen at ss
  match cs, hl with
  | [u0, u1, u2, u3], _ =>
    simp at ha hsv hb hcc
    exact ⟨⟨a, s, b, c⟩, by unfold Prt.cells; rw [ha, hsv, hb, hcc], by simp only; omega⟩
end
end Go.Proofs.Ytbpeceejboojoaa
