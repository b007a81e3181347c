/- The law ReadGamma. -/
import Derived.Test.YtjokpbopceolcaaDoorGamIS
import Derived.Test.YtjokpbopceolcaaDoorRows
import Derived.Stop.LaidErr
import Derived.MakeChecks
namespace Go.Proofs.YtjokpbopceolcaaDoor
set_option linter.unusedVariables false
set_option linter.unusedSimpArgs false
open Go.RowKit

theorem starErr : "*" ++ "errors.errorString" = "*errors.errorString" := by decide
theorem rowErr (u : TypeId) (h : Tryd.prog.typeName? 3 u = some "*errors.errorString") : u = 148 :=
  typeName_ptr_named (nm := "errors.errorString") (by rw [starErr]; kernel_rfl) (by kernel_rfl) (by decide) u (by rw [starErr]; exact h)
theorem gSyn : Tryd.prog.globalNamed "strconv.ErrSyntax" = some 2 := by kernel_rfl
theorem gRan : Tryd.prog.globalNamed "strconv.ErrRange" = some 3 := by kernel_rfl
theorem sentSyn {W : World} {text : List UInt8} {r : List (String × DataW Unit)} (h : laidMet Tryd.prog (("strconv.ErrSyntax", .iface "*errors.errorString" (.ptr (.agg [.lit (.string text)]))) :: r) W) : ∃ t p, W.cell? ⟨2, 0, none⟩ = some (.iface t p) := by
  obtain ⟨a, s, hv, -, -, -⟩ := laid_sentinel (tp := 148) (te := 150) (ts := 9) (ti := 57) h gSyn (by kernel_rfl) Tryd.underlying57 rowErr Tryd.underlying148 Tryd.underlying150 rfl rfl Tryd.underlying9 (by kernel_rfl) (by kernel_rfl)
  have h0 := World.var?_cell gSyn hv 0
  exact ⟨_, _, by simpa using h0⟩
theorem sentRan {W : World} {text : List UInt8} {r : List (String × DataW Unit)} (h : laidMet Tryd.prog (("strconv.ErrRange", .iface "*errors.errorString" (.ptr (.agg [.lit (.string text)]))) :: r) W) : ∃ t p, W.cell? ⟨3, 0, none⟩ = some (.iface t p) := by
  obtain ⟨a, s, hv, -, -, -⟩ := laid_sentinel (tp := 148) (te := 150) (ts := 9) (ti := 57) h gRan (by kernel_rfl) Tryd.underlying57 rowErr Tryd.underlying148 Tryd.underlying150 rfl rfl Tryd.underlying9 (by kernel_rfl) (by kernel_rfl)
  have h0 := World.var?_cell gRan hv 0
  exact ⟨_, _, by simpa using h0⟩
theorem facts_ReadGamma {W : World} (h : laidMetH Tryd.prog Rows.fnExactReadGammaRow.laid W) (_ : W.ShapedOpen Tryd.prog) : SentAt W := by
  rw [MakeChecks.laidMetH_plain _ _ _ (by kernel_rfl)] at h
  obtain ⟨t1, p1, h1⟩ := sentRan h.tail.tail.tail.tail
  obtain ⟨t0, p0, h0⟩ := sentSyn h.tail.tail.tail.tail.tail
  exact ⟨t0, p0, t1, p1, h0, h1⟩
set_option maxRecDepth 100000 in
set_option maxHeartbeats 4000000 in
theorem law_ReadGamma (s : ByteArray) (w : World) (hS : SentAt w) : Calls Tryd.prog 5 #[.string s] w fun e w' => e = .returned (.bool true) ∧ Below w.heap.size w w' := by
  by_cases hs : s.size ≤ 1048576
  · obtain ⟨a, b, c, hv⟩ : ∃ a b c, rgT (readG s.data.toList) = .tuple #[.int .i64 a, .int .i64 b, .bool c] := by
      unfold rgT
      split
      · exact ⟨_, _, _, rfl⟩
      · exact ⟨_, _, _, rfl⟩
    have H1 := fun w => sReadGamma_any s w hs
    have H2 := fun w h => iReadGamma_any s w hs h
    unfold RG at H1 H2
    rw [hv] at H1 H2
    have HC1 := Lib.hid H1
    have HC2 := Lib.hid H2
    have HS := Lib.hid hS
    clear H1 H2 hv hS
    go_enter Tryd.func5, Tryd.ntmps5
    go_wp2_with fail
    refine (HC1.out _).mono ?_
    rintro e w1 ⟨rfl, hb⟩
    have HB := Lib.hid hb
    clear hb
    go_wp2_with fail
    refine (HC2.out _ (HS.out.below HB.out)).mono ?_
    rintro e w2 ⟨rfl, hb⟩
    have HB2 := Lib.hid (HB.out.trans (hb.mono HB.out.size))
    clear hb
    go_wp2
    go_ret
    exact ⟨rfl, HB2.out⟩
  · go_enter Tryd.func5, Tryd.ntmps5
    go_wp2
    go_ret
    exact ⟨rfl, Below.refl _ _⟩
end Go.Proofs.YtjokpbopceolcaaDoor
