/- The tree of a pattern: the program's walk. -/
import Derived.Test.YtbpeceejboojoaaTreeS
import Derived.Deep.RegionHeld3
namespace Go.Proofs.Ytbpeceejboojoaa
set_option linter.unusedVariables false
set_option linter.unusedSimpArgs false
open Go.RowKit

/-- A tree somewhere above lo. -/
def TA (w : World) (lo : Nat) (t : Tr) (b : Nat) : Prop := ∃ hi, hi ≤ w.heap.size ∧ TAt w lo hi t b
theorem TA.bel {w w' : World} {lo B : Nat} {t : Tr} {b : Nat} (h : TA w lo t b) (hb : Below B w w') (hB : w.heap.size ≤ B) : TA w' lo t b := by
  obtain ⟨hi, h1, h2⟩ := h
  exact ⟨hi, Nat.le_trans h1 hb.size, h2.bel hb (by omega)⟩
theorem TA.setC {w : World} {lo X j : Nat} {v : Value} {t : Tr} {b : Nat} (h : TA w lo t b) (hX : X < lo) : TA (w.setCell ⟨X, j, none⟩ v) lo t b := by
  obtain ⟨hi, h1, h2⟩ := h
  exact ⟨hi, by rw [World.size_setCell]; exact h1, h2.setC (.inl hX)⟩
theorem TA.fin {w : World} {lo lo' : Nat} {t : Tr} {b : Nat} (h : TA w lo t b) (hl : lo' ≤ lo) : TAt w lo' w.heap.size t b := by
  obtain ⟨hi, h1, h2⟩ := h
  exact h2.wide hl h1
def BL (w0 w : World) : Prop := Below w0.heap.size w0 w ∧ w0.heap.size + 2 ≤ w.heap.size
theorem BL.set {w0 w : World} {X j : Nat} {v : Value} (h : BL w0 w) (hX : w0.heap.size ≤ X) : BL w0 (w.setCell ⟨X, j, none⟩ v) := ⟨h.1.setCell hX _, by rw [World.size_setCell]; exact h.2⟩
theorem BL.call {w0 w w' : World} (h : BL w0 w) (hb : Below w.heap.size w w') : BL w0 w' := ⟨h.1.trans (hb.mono (by have := h.2; omega)), Nat.le_trans h.2 hb.size⟩
theorem BL.below {w0 w : World} (h : BL w0 w) : Below w0.heap.size w0 w := h.1
theorem BL.drew {w0 w : World} (h : BL w0 w) : BL w0 w.drew := ⟨h.1.drew, h.2⟩
theorem XN.drew {w : World} {X : Nat} {k : Int} {s : ByteArray} (h : XN w X k s) : XN w.drew X k s := ⟨h.lt, h.c0, h.c1, h.c2, h.c3, h.fr⟩
end Go.Proofs.Ytbpeceejboojoaa
