/- The contracts of the functions that write a number in base 128 (spec.l1Varint, impl.putVarint). -/
import Derived.Test.YtjokpbopceolcaaDoorNum
import Derived.Test.YtjokpbopceolcaaDoorVarPlain
namespace Go.Proofs.YtjokpbopceolcaaDoor
set_option linter.unusedVariables false
set_option linter.unusedSimpArgs false
open Go.RowKit

theorem infoByte : (Tryd.prog.info? 5).map (fun i => (i.zero, i.size, i.bytes)) = some (some (.int .u8 0), 1, 1) := by kernel_rfl

/-- What the loop holds: the digits so far, and those of what is left, are the number's. -/
def VarInv (B z0 k : Nat) (v : Value) (w : World) : Prop := ∃ pre : List UInt8, w.ownsRow B 5 1 v pre.length (bys pre) ∧ pre ++ vb k = vb z0

end Go.Proofs.YtjokpbopceolcaaDoor
