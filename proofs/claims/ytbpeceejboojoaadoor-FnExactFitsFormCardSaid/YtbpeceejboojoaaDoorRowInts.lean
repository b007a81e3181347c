/- The laws' helpers on slices of integers, said of rows. -/
import Derived.Test.YtbpeceejboojoaaDoorInts
import Derived.Test.YtbpeceejboojoaaDoorRowsW
namespace Go.Proofs.YtbpeceejboojoaaDoor
set_option linter.unusedVariables false
set_option linter.unusedSimpArgs false
open Go.RowKit

abbrev RowI (lo hi : Nat) (A : Option Addr) (n c : Nat) (zs : List Int) (w : World) : Prop := Row 3 1 lo hi A n c (ints zs) w

end Go.Proofs.YtbpeceejboojoaaDoor
