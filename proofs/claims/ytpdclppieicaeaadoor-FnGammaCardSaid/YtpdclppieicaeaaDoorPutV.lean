/- The contracts of PutVarint and LengthOf, and their laws. -/
import Derived.Test.YtpdclppieicaeaaDoorVar
namespace Go.Proofs.YtpdclppieicaeaaDoor
set_option linter.unusedVariables false
set_option linter.unusedSimpArgs false
open Go.RowKit

def vz (n : Int) : List UInt8 := vb (zig n).toNat
theorem vz_len {n : Int} (h : isV n = true) : 0 < (vz n).length ∧ (vz n).length ≤ 6 := by
  have := zig_bd (isV_bd h).1 (isV_bd h).2
  exact ⟨vb_pos _, vb_len6 (by omega)⟩
/-- A string of bytes, as the walk holds it. -/
def str (l : List UInt8) : ByteArray := ⟨l.toArray⟩
theorem str_size (l : List UInt8) : (str l).size = l.length := List.size_toArray ..

end Go.Proofs.YtpdclppieicaeaaDoor
