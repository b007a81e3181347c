/- The law GammaBits. -/
import Derived.Test.YtpdclppieicaeaaDoorRepeat
import Derived.Test.YtpdclppieicaeaaDoorRows
import Derived.Lib.LaidU8
import Derived.MakeChecks
namespace Go.Proofs.YtpdclppieicaeaaDoor
set_option linter.unusedVariables false
set_option linter.unusedSimpArgs false
open Go.RowKit

/-- What the library's table of places holds, as the listed variables tell it. -/
def TabAt (w : World) : Prop := 7 < w.heap.size ∧ w.cell? ⟨7, 1, none⟩ = some (.int .u8 1)
theorem TabAt.below {w w' : World} (h : TabAt w) (hb : Below w.heap.size w w') : TabAt w' := ⟨Nat.lt_of_lt_of_le h.1 hb.size, (bcell hb _ _ h.1).trans h.2⟩
def tab64 : List Int := [0, 1, 56, 2, 57, 49, 28, 3, 61, 58, 42, 50, 38, 29, 17, 4, 62, 47, 59, 36, 45, 43, 51, 22, 53, 39, 33, 30, 24, 18, 12, 5, 63, 55, 48, 27, 60, 41, 37, 16, 46, 35, 44, 21, 52, 32, 23, 11, 54, 26, 40, 15, 34, 20, 31, 10, 25, 14, 19, 9, 13, 8, 7, 6]
theorem tabAt_of {W : World} {l : List (String × DataW Unit)} (h : laidMet Tryd.prog l W) (hm : ("math/bits.deBruijn64tab", (Lib.tabData .u8 tab64 : DataW Unit)) ∈ l) : TabAt W := by
  obtain ⟨g, t, cs, fuel, p, hg, ht, hv, hd⟩ := Lib.laidMet.reads h hm
  have hg' : Tryd.prog.globalNamed "math/bits.deBruijn64tab" = some 7 := by kernel_rfl
  have ht' : (Tryd.prog.globals[7]?).map (·.type) = some 114 := by kernel_rfl
  obtain rfl := Option.some.inj (hg'.symm.trans hg)
  obtain rfl := Option.some.inj (ht'.symm.trans ht)
  have hcs := Lib.cells_of_tab Tryd.underlying114 Tryd.underlying5 (by kernel_rfl) (by kernel_rfl) hd
  have hc := World.var?_cell hg' hv 1
  have e1 : cs[1]? = some (.int .u8 1) := by
    have h1 : cs.toList[1]? = some (.int .u8 1) := by rw [hcs]; rfl
    simpa using h1
  rw [e1] at hc
  exact ⟨World.block_lt_of_cell? W _ hc, hc⟩
end Go.Proofs.YtpdclppieicaeaaDoor
