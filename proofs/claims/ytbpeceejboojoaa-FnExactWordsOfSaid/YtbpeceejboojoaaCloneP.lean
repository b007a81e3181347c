/- The contract of slices.Clone at slices of structs. -/
import Derived.Test.YtbpeceejboojoaaPairs
namespace Go.Proofs.Ytbpeceejboojoaa
set_option linter.unusedVariables false
set_option linter.unusedSimpArgs false
open Go.RowKit

end Go.Proofs.Ytbpeceejboojoaa
