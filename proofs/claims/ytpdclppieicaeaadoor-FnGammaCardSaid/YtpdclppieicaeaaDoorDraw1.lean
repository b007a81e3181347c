/- The contracts of the generators of the laws on numbers. -/
import Derived.Test.YtpdclppieicaeaaDoorCurVal
import Derived.Test.YtpdclppieicaeaaDoorPutV
namespace Go.Proofs.YtpdclppieicaeaaDoor
set_option linter.unusedVariables false
set_option linter.unusedSimpArgs false
open Go.RowKit

theorem cur_new {w : World} {A : Option Addr} {n c t : Nat} {l : List UInt8} (h : Rd w w.heap.size 1 A n (bys l)) (hn : n ≤ 1048576) :
    CurAt ⟨w.heap.size, w.heap.size, n, c, A, l⟩ 0 (w.alloc (.cells #[.slice A n c, .int .i64 0, .int .u64 0] t)) :=
  ⟨Nat.le_refl _, by simp, hn, h.below ((Below.refl _ _).alloc (Nat.le_refl _) _), by simp, ⟨0, Nat.le_refl _, by simp⟩, ⟨0, by simp⟩, fun j => by simp⟩
/-- What a generator hands back: a value of which P holds; what was there is as it was. -/
def Drawn (w : World) (P : World → Value → Prop) (e : Ending) (w' : World) : Prop := ∃ v, e = .returned v ∧ P w' v ∧ Below w.heap.size w w'
theorem new_below {w w' : World} {o : Obj} (h : Ch w.heap.size (w.heap.size + 1) (w.alloc o) w') : Below w.heap.size w w' :=
  ((Below.refl _ _).alloc (Nat.le_refl _) o).trans (h.below (by simp) (.inl (Nat.le_refl _)))

end Go.Proofs.YtpdclppieicaeaaDoor
