/- The contract of slices.Clone at slices of structs. -/
import Derived.Test.YtbpeceejboojoaaDoorPairs
namespace Go.Proofs.YtbpeceejboojoaaDoor
set_option linter.unusedVariables false
set_option linter.unusedSimpArgs false
open Go.RowKit

end Go.Proofs.YtbpeceejboojoaaDoor
