/- The law ReadLabels. -/
import Derived.Test.YtjokpbopceolcaaDoorRdlI
import Derived.Test.YtjokpbopceolcaaDoorRows
namespace Go.Proofs.YtjokpbopceolcaaDoor
set_option linter.unusedVariables false
set_option linter.unusedSimpArgs false
open Go.RowKit

theorem both_ReadLabels (s : ByteArray) (hs : s.size ≤ 1048576) : ∃ (nr : Nat) (lr : List Lab) (r1 : Bool), nr ≤ 1048576 ∧
    (∀ w, Calls Tryd.prog 7 #[.string s] w (GotR 48 2 w nr (lbls lr) r1)) ∧ (∀ w, MxAt w → Calls Tryd.prog 8 #[.string s] w (GotR 48 2 w nr (lbls lr) r1)) := by
  have h1 := fun w => sReadLabels_any s w hs
  have h2 := fun w h => iReadLabels_any s w hs h
  unfold LR at h1 h2
  cases e : refL s.data.toList with
  | some l =>
    rw [e] at h1 h2
    have hg : goodLab l = true := by
      unfold refL at e
      split at e
      · split at e
        · cases e
        · split at e
          · injection e with e; subst e; assumption
          · cases e
      · cases e
    exact ⟨l.length, l, true, by have := goodLab_len hg; omega, h1, h2⟩
  | none =>
    rw [e] at h1 h2
    exact ⟨0, [], false, by omega, h1, h2⟩
theorem facts_ReadLabels {W : World} (_ : laidMetH Tryd.prog Rows.fnExactReadLabelsRow.laid W) (h : W.ShapedOpen Tryd.prog) : MxAt W := mx_of h
set_option maxRecDepth 100000 in
set_option maxHeartbeats 4000000 in
theorem law_ReadLabels (s : ByteArray) (w : World) (hm : MxAt w) :
    Calls Tryd.prog 3 #[.string s] w fun e w' => e = .returned (.bool true) ∧ Below w.heap.size w w' := by
  have HMX := Lib.hid hm
  clear hm
  by_cases hns : s.size ≤ 1048576
  · skip
    obtain ⟨nr, lr, r1, hnr, hS, hI⟩ := both_ReadLabels s hns
    have HS := Lib.hid hS
    have HI := Lib.hid hI
    clear hS hI
    obtain ⟨mr, mm, hmr0, hmr1, hMr, hHr⟩ := mh_Label nr 1 (by omega) (by omega) (by omega)
    have HMr := Lib.hid hMr
    have HHr := Lib.hid hHr
    clear hMr hHr
    go_enter Tryd.func3, Tryd.ntmps3
    go_wp2_with fail
    refine (HS.out  _ ).mono ?_
    rintro e w1 ⟨Arw, crw, rfl, hrrw, hc1⟩
    have hs1 := hc1.size
    have HC1 := Lib.hid hc1
    clear hc1
    have HRrw_1 := Lib.hid hrrw
    clear hrrw
    go_wp2_with fail
    refine (HI.out _ (HMX.out.below ((Below.refl _ _).trans (HC1.out.below (by omega) (by omega))))).mono ?_
    rintro e w2 ⟨Arg, crg, rfl, hrrg, hc2⟩
    have hs2 := hc2.size
    have HC2 := Lib.hid hc2
    clear hc2
    have HRrg_2 := Lib.hid hrrg
    clear hrrg
    go_wp2_with fail
    refine (eq_Label _ _ _ _ nr _ _ lr _ (by omega) (by omega) (HRrg_2.out).rd ((HRrw_1.out.keep HC2.out (by omega))).rd (by omega)).mono ?_
    rintro e w3 ⟨rfl, hc3⟩
    have hs3 := hc3.size
    have HC3 := Lib.hid hc3
    clear hc3
    go_wp2_with fail
    refine (HMr.out _ _ _ _ _ _ (HRrg_2.out.keep HC3.out (by omega))).mono ?_
    rintro e w4 ⟨rfl, hrrg, hc4⟩
    have hs4 := hc4.size
    have HC4 := Lib.hid hc4
    clear hc4
    have HRrg_4 := Lib.hid hrrg
    clear hrrg
    go_wp2_with fail
    refine (HHr.out _ _ _ _ (by omega) (HRrg_4.out).rd).mono ?_
    rintro e w5 ⟨rfl, hc5⟩
    have hs5 := hc5.size
    have HC5 := Lib.hid hc5
    clear hc5
    go_wp2_with fail
    refine (HI.out _ (HMX.out.below ((((((Below.refl _ _).trans (HC1.out.below (by omega) (by omega))).trans (HC2.out.below (by omega) (by omega))).trans (HC3.out.below (by omega) (by omega))).trans (HC4.out.below (by omega) (by omega))).trans (HC5.out.below (by omega) (by omega))))).mono ?_
    rintro e w6 ⟨Arh, crh, rfl, hrrh, hc6⟩
    have hs6 := hc6.size
    have HC6 := Lib.hid hc6
    clear hc6
    have HRrh_6 := Lib.hid hrrh
    clear hrrh
    go_wp2_with fail
    refine (eq_Label _ _ _ _ nr _ _ lr _ (by omega) (by omega) (HRrh_6.out).rd ((((((HRrw_1.out.keep HC2.out (by omega)).keep HC3.out (by omega)).keep HC4.out (by omega)).keep HC5.out (by omega)).keep HC6.out (by omega))).rd (by omega)).mono ?_
    rintro e w7 ⟨rfl, hc7⟩
    have hs7 := hc7.size
    have HC7 := Lib.hid hc7
    clear hc7
    go_wp2_with fail
    refine (HHr.out _ _ _ _ (by omega) ((((HRrg_4.out.keep HC5.out (by omega)).keep HC6.out (by omega)).keep HC7.out (by omega))).rd).mono ?_
    rintro e w8 ⟨rfl, hc8⟩
    have hs8 := hc8.size
    have HC8 := Lib.hid hc8
    clear hc8
    go_wp2
    go_ret
    exact ⟨rfl, (((((((((Below.refl _ _).trans (HC1.out.below (by omega) (by omega))).trans (HC2.out.below (by omega) (by omega))).trans (HC3.out.below (by omega) (by omega))).trans (HC4.out.below (by omega) (by omega))).trans (HC5.out.below (by omega) (by omega))).trans (HC6.out.below (by omega) (by omega))).trans (HC7.out.below (by omega) (by omega))).trans (HC8.out.below (by omega) (by omega)))⟩
  · go_enter Tryd.func3, Tryd.ntmps3
    go_wp2
    go_ret
    exact ⟨rfl, (Below.refl _ _)⟩
end Go.Proofs.YtjokpbopceolcaaDoor
