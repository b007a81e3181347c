/- The contracts of the generators of numbers, of bytes of numbers, and of spoilt texts. -/
import Derived.Test.YtpdclppieicaeaaCur
import Derived.Test.YtpdclppieicaeaaVar
import Derived.Laws.Concat
import Derived.Lib.SmallJoins
import Derived.Lib.AppendStr
namespace Go.Proofs.Ytpdclppieicaeaa
set_option linter.unusedVariables false
set_option linter.unusedSimpArgs false
open Go.RowKit

theorem lit_cell {w : World} {t j : Nat} {zs : List Int} {x : Int} (h : zs[j]? = some x) : (w.alloc (.cells (ints zs).toArray t)).cell? ⟨w.heap.size, j, none⟩ = some (.int .i64 x) := by
  rw [cell_of_row _ _ _ _ _ _ (heap_alloc_new w _)]
  simp [ints, h]
/-- A number of the generators. -/
def ValV (_ : World) (v : Value) : Prop := ∃ x : Int, v = .int .i64 x ∧ -1000000000001 ≤ x ∧ x ≤ 1000000000001
/-- A step that a cursor's may be followed by: what lay below the call's own blocks is as it was. -/
theorem Ch.grow {a b : Nat} {u v w : World} (B : Nat) (h : Ch a b u v) (k : Below B v w) (hB : u.heap.size ≤ B) : Ch a b u w :=
  ⟨k.os.trans h.os, k.tape.trans h.tape, k.output.trans h.output, Nat.le_trans h.size k.size, fun i hi ho => (k.block i (by omega)).trans (h.block i hi ho)⟩
theorem own_ch {w w' : World} {base e s n a b : Nat} {v : Value} {xs : List Value} (h : w.ownsRow base e s v n xs) (hc : Ch a b w w') (hab : b ≤ base) : w'.ownsRow base e s v n xs := by
  refine ⟨h.1, ?_⟩
  rcases h.2 with h2 | ⟨g, cap, cur, hv, hl, hh, r⟩
  · exact .inl h2
  · have hlt := (h.lt g (by rw [hv]; rfl)).2
    exact .inr ⟨g, cap, cur, hv, hl, (hc.block g hlt (by omega)).trans hh, r⟩
/-- Numbers of the generators, in new memory. -/
def ValsV (base most : Nat) (w : World) (v : Value) : Prop := ∃ A c k zs, v = .slice A k c ∧ k ≤ most ∧ w.ownsRow base 3 1 (.slice A k c) k (ints zs) ∧ ∀ x ∈ zs, -1000000000001 ≤ x ∧ x ≤ 1000000000001
/-- A text of at most so many bytes. -/
def TextV (most : Nat) (_ : World) (v : Value) : Prop := ∃ S : ByteArray, v = .string S ∧ S.size ≤ most
end Go.Proofs.Ytpdclppieicaeaa
