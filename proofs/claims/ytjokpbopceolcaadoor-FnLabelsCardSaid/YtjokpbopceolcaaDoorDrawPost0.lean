/- Words on generators. -/
import Derived.Test.YtjokpbopceolcaaDoorCur
import Derived.Test.YtjokpbopceolcaaDoorRowInts
namespace Go.Proofs.YtjokpbopceolcaaDoor
set_option linter.unusedVariables false
set_option linter.unusedSimpArgs false
open Go.RowKit

theorem lit_cellP {w : World} {t j : Nat} {zs : List Int} {x : Int} (h : zs[j]? = some x) : (w.alloc (.cells (ints zs).toArray t)).cell? ⟨w.heap.size, j, none⟩ = some (.int .i64 x) := by
  rw [cell_of_row _ _ _ _ _ _ (heap_alloc_new w _)]
  simp [ints, h]
theorem Ch.growP {a b : Nat} {u v w : World} (B : Nat) (h : Ch a b u v) (k : Below B v w) (hB : u.heap.size ≤ B) : Ch a b u w :=
  ⟨k.os.trans h.os, k.tape.trans h.tape, k.output.trans h.output, Nat.le_trans h.size k.size, fun i hi ho => (k.block i (by omega)).trans (h.block i hi ho)⟩
theorem own_chP {w w' : World} {base e s n a b : Nat} {v : Value} {xs : List Value} (h : w.ownsRow base e s v n xs) (hc : Ch a b w w') (hab : b ≤ base) : w'.ownsRow base e s v n xs := by
  refine ⟨h.1, ?_⟩
  rcases h.2 with h2 | ⟨g, cap, cur, hv, hl, hh, r⟩
  · exact .inl h2
  · have hlt := (h.lt g (by rw [hv]; rfl)).2
    exact .inr ⟨g, cap, cur, hv, hl, (hc.block g hlt (by omega)).trans hh, r⟩
theorem cur_newP {w : World} {A : Option Addr} {n c t : Nat} {l : List UInt8} (h : Rd w w.heap.size 1 A n (bys l)) (hn : n ≤ 1048576) :
    CurAt ⟨w.heap.size, w.heap.size, n, c, A, l⟩ 0 (w.alloc (.cells #[.slice A n c, .int .i64 0, .int .u64 0] t)) :=
  ⟨Nat.le_refl _, by simp, hn, h.below ((Below.refl _ _).alloc (Nat.le_refl _) _), by simp, ⟨0, Nat.le_refl _, by simp⟩, ⟨0, by simp⟩, fun j => by simp⟩
def DrawnP (w : World) (P : World → Value → Prop) (e : Ending) (w' : World) : Prop := ∃ v, e = .returned v ∧ P w' v ∧ Below w.heap.size w w'
theorem new_belowP {w w' : World} {o : Obj} (h : Ch w.heap.size (w.heap.size + 1) (w.alloc o) w') : Below w.heap.size w w' :=
  ((Below.refl _ _).alloc (Nat.le_refl _) o).trans (h.below (by simp) (.inl (Nat.le_refl _)))
end Go.Proofs.YtjokpbopceolcaaDoor
