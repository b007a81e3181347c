/- The law ReadGamma. -/
import Derived.Test.YtpdclppieicaeaaDoorGamIS
import Derived.Test.YtpdclppieicaeaaDoorRows
import Derived.Stop.LaidErr
import Derived.MakeChecks
namespace Go.Proofs.YtpdclppieicaeaaDoor
set_option linter.unusedVariables false
set_option linter.unusedSimpArgs false
open Go.RowKit

theorem starErr : "*" ++ "errors.errorString" = "*errors.errorString" := by decide
theorem rowErr (u : TypeId) (h : Tryd.prog.typeName? 3 u = some "*errors.errorString") : u = 110 :=
  typeName_ptr_named (nm := "errors.errorString") (by rw [starErr]; kernel_rfl) (by kernel_rfl) (by decide) u (by rw [starErr]; exact h)
theorem gSyn : Tryd.prog.globalNamed "strconv.ErrSyntax" = some 2 := by kernel_rfl
theorem gRan : Tryd.prog.globalNamed "strconv.ErrRange" = some 3 := by kernel_rfl
theorem sentSyn {W : World} {text : List UInt8} {r : List (String × DataW Unit)} (h : laidMet Tryd.prog (("strconv.ErrSyntax", .iface "*errors.errorString" (.ptr (.agg [.lit (.string text)]))) :: r) W) : ∃ t p, W.cell? ⟨2, 0, none⟩ = some (.iface t p) := by
  obtain ⟨a, s, hv, -, -, -⟩ := laid_sentinel (tp := 110) (te := 112) (ts := 9) (ti := 47) h gSyn (by kernel_rfl) Tryd.underlying47 rowErr Tryd.underlying110 Tryd.underlying112 rfl rfl Tryd.underlying9 (by kernel_rfl) (by kernel_rfl)
  have h0 := World.var?_cell gSyn hv 0
  exact ⟨_, _, by simpa using h0⟩
theorem sentRan {W : World} {text : List UInt8} {r : List (String × DataW Unit)} (h : laidMet Tryd.prog (("strconv.ErrRange", .iface "*errors.errorString" (.ptr (.agg [.lit (.string text)]))) :: r) W) : ∃ t p, W.cell? ⟨3, 0, none⟩ = some (.iface t p) := by
  obtain ⟨a, s, hv, -, -, -⟩ := laid_sentinel (tp := 110) (te := 112) (ts := 9) (ti := 47) h gRan (by kernel_rfl) Tryd.underlying47 rowErr Tryd.underlying110 Tryd.underlying112 rfl rfl Tryd.underlying9 (by kernel_rfl) (by kernel_rfl)
  have h0 := World.var?_cell gRan hv 0
  exact ⟨_, _, by simpa using h0⟩
end Go.Proofs.YtpdclppieicaeaaDoor
