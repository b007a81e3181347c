/- The laws DeltasOf and SumsOf. -/
import Derived.Test.YtdmcfllmhjdleaaDeltas
namespace Go.Proofs.Ytdmcfllmhjdleaa
set_option linter.unusedVariables false
set_option linter.unusedSimpArgs false
open Go.RowKit

set_option maxRecDepth 100000 in
set_option maxHeartbeats 4000000 in
theorem law_DeltasOf (Aa : Option Addr) (na ca : Nat) (la : List Int) (w : World) (ha : Rd w w.heap.size 1 Aa na (ints la)) :
    Calls Try.prog 4 #[.slice Aa na ca] w fun e w' => e = .returned (.bool true) ∧ Below w.heap.size w w' := by
  have Ha := Lib.hid ha
  clear ha
  by_cases hna : na ≤ 1048576
  · skip
    obtain ⟨nr, lr, r1, hnr, hS, hI⟩ := both_DeltasOf na la hna
    have HS := Lib.hid hS
    have HI := Lib.hid hI
    clear hS hI
    obtain ⟨kxa, mxa, hkxa0, hkxa1, hMxa, hHxa⟩ := mh_Int na 1 hna (by omega) (by omega)
    have HMxa := Lib.hid hMxa
    clear hMxa hHxa
    obtain ⟨mr, mm, hmr0, hmr1, hMr, hHr⟩ := mh_Int nr 1 (by omega) (by omega) (by omega)
    have HMr := Lib.hid hMr
    have HHr := Lib.hid hHr
    clear hMr hHr
    go_enter Try.func4, Try.ntmps4
    go_wp2_with fail
    refine (to_Int w.heap.size Aa na ca la _ (by omega) Ha.out hna).mono ?_
    rintro e w1 ⟨Aas, cas, rfl, hras, hc1⟩
    have hs1 := hc1.size
    have HC1 := Lib.hid hc1
    clear hc1
    have HRas_1 := Lib.hid hras
    clear hras
    go_wp2_with fail
    refine (HS.out _ _ _ _ (by omega) (HRas_1.out).rd).mono ?_
    rintro e w2 ⟨Arw, crw, rfl, hrrw, hc2⟩
    have hs2 := hc2.size
    have HC2 := Lib.hid hc2
    clear hc2
    have HRrw_2 := Lib.hid hrrw
    clear hrrw
    go_wp2_with fail
    refine (to_Int w.heap.size Aa na ca la _ (by omega) ((Ha.out.keepC HC1.out (by omega) (by omega)).keepC HC2.out (by omega) (by omega)) hna).mono ?_
    rintro e w3 ⟨Aax, cax, rfl, hrax, hc3⟩
    have hs3 := hc3.size
    have HC3 := Lib.hid hc3
    clear hc3
    have HRax_3 := Lib.hid hrax
    clear hrax
    go_wp2_with fail
    refine (HI.out _ _ _ _ (by omega) (HRax_3.out).rd).mono ?_
    rintro e w4 ⟨Arg, crg, rfl, hrrg, hc4⟩
    have hs4 := hc4.size
    have HC4 := Lib.hid hc4
    clear hc4
    have HRrg_4 := Lib.hid hrrg
    clear hrrg
    go_wp2_with fail
    refine (eq_Int _ _ _ _ nr _ _ lr _ (HRrg_4.out).rd (((HRrw_2.out.keep HC3.out (by omega)).keep HC4.out (by omega))).rd (by omega)).mono ?_
    rintro e w5 ⟨rfl, hc5⟩
    have hs5 := hc5.size
    have HC5 := Lib.hid hc5
    clear hc5
    go_wp2_with fail
    refine (to_Int w.heap.size Aa na ca la _ (by omega) (((((Ha.out.keepC HC1.out (by omega) (by omega)).keepC HC2.out (by omega) (by omega)).keepC HC3.out (by omega) (by omega)).keepC HC4.out (by omega) (by omega)).keepC HC5.out (by omega) (by omega)) hna).mono ?_
    rintro e w6 ⟨Aay, cay, rfl, hray, hc6⟩
    have hs6 := hc6.size
    have HC6 := Lib.hid hc6
    clear hc6
    have HRay_6 := Lib.hid hray
    clear hray
    go_wp2_with fail
    refine (eq_Int _ _ _ _ na _ _ la _ ((((HRax_3.out.keep HC4.out (by omega)).keep HC5.out (by omega)).keep HC6.out (by omega))).rd (HRay_6.out).rd hna).mono ?_
    rintro e w7 ⟨rfl, hc7⟩
    have hs7 := hc7.size
    have HC7 := Lib.hid hc7
    clear hc7
    go_wp2_with fail
    refine (HMxa.out _ _ _ _ _ _ ((((HRax_3.out.keep HC4.out (by omega)).keep HC5.out (by omega)).keep HC6.out (by omega)).keep HC7.out (by omega))).mono ?_
    rintro e w8 ⟨rfl, hrax, hc8⟩
    have hs8 := hc8.size
    have HC8 := Lib.hid hc8
    clear hc8
    have HRax_8 := Lib.hid hrax
    clear hrax
    go_wp2_with fail
    refine (eq_Int _ _ _ _ nr _ _ lr _ (((((HRrg_4.out.keep HC5.out (by omega)).keep HC6.out (by omega)).keep HC7.out (by omega)).keep HC8.out (by omega))).rd (((((((HRrw_2.out.keep HC3.out (by omega)).keep HC4.out (by omega)).keep HC5.out (by omega)).keep HC6.out (by omega)).keep HC7.out (by omega)).keep HC8.out (by omega))).rd (by omega)).mono ?_
    rintro e w9 ⟨rfl, hc9⟩
    have hs9 := hc9.size
    have HC9 := Lib.hid hc9
    clear hc9
    go_wp2_with fail
    refine (HMr.out _ _ _ _ _ _ (((((HRrg_4.out.keep HC5.out (by omega)).keep HC6.out (by omega)).keep HC7.out (by omega)).keep HC8.out (by omega)).keep HC9.out (by omega))).mono ?_
    rintro e w10 ⟨rfl, hrrg, hc10⟩
    have hs10 := hc10.size
    have HC10 := Lib.hid hc10
    clear hc10
    have HRrg_10 := Lib.hid hrrg
    clear hrrg
    go_wp2_with fail
    refine (HHr.out _ _ _ _ (HRrg_10.out).rd).mono ?_
    rintro e w11 ⟨rfl, hc11⟩
    have hs11 := hc11.size
    have HC11 := Lib.hid hc11
    clear hc11
    go_wp2_with fail
    refine (to_Int w.heap.size Aa na ca la _ (by omega) (((((((((((Ha.out.keepC HC1.out (by omega) (by omega)).keepC HC2.out (by omega) (by omega)).keepC HC3.out (by omega) (by omega)).keepC HC4.out (by omega) (by omega)).keepC HC5.out (by omega) (by omega)).keepC HC6.out (by omega) (by omega)).keepC HC7.out (by omega) (by omega)).keepC HC8.out (by omega) (by omega)).keepC HC9.out (by omega) (by omega)).keepC HC10.out (by omega) (by omega)).keepC HC11.out (by omega) (by omega)) hna).mono ?_
    rintro e w12 ⟨Aaz, caz, rfl, hraz, hc12⟩
    have hs12 := hc12.size
    have HC12 := Lib.hid hc12
    clear hc12
    have HRaz_12 := Lib.hid hraz
    clear hraz
    go_wp2_with fail
    refine (HI.out _ _ _ _ (by omega) (HRaz_12.out).rd).mono ?_
    rintro e w13 ⟨Arh, crh, rfl, hrrh, hc13⟩
    have hs13 := hc13.size
    have HC13 := Lib.hid hc13
    clear hc13
    have HRrh_13 := Lib.hid hrrh
    clear hrrh
    go_wp2_with fail
    refine (eq_Int _ _ _ _ nr _ _ lr _ (HRrh_13.out).rd ((((((((((((HRrw_2.out.keep HC3.out (by omega)).keep HC4.out (by omega)).keep HC5.out (by omega)).keep HC6.out (by omega)).keep HC7.out (by omega)).keep HC8.out (by omega)).keep HC9.out (by omega)).keep HC10.out (by omega)).keep HC11.out (by omega)).keep HC12.out (by omega)).keep HC13.out (by omega))).rd (by omega)).mono ?_
    rintro e w14 ⟨rfl, hc14⟩
    have hs14 := hc14.size
    have HC14 := Lib.hid hc14
    clear hc14
    go_wp2_with fail
    refine (HHr.out _ _ _ _ (((((HRrg_10.out.keep HC11.out (by omega)).keep HC12.out (by omega)).keep HC13.out (by omega)).keep HC14.out (by omega))).rd).mono ?_
    rintro e w15 ⟨rfl, hc15⟩
    have hs15 := hc15.size
    have HC15 := Lib.hid hc15
    clear hc15
    go_wp2
    go_ret
    exact ⟨rfl, ((((((((((((((((Below.refl _ _).trans (HC1.out.below (by omega) (by omega))).trans (HC2.out.below (by omega) (by omega))).trans (HC3.out.below (by omega) (by omega))).trans (HC4.out.below (by omega) (by omega))).trans (HC5.out.below (by omega) (by omega))).trans (HC6.out.below (by omega) (by omega))).trans (HC7.out.below (by omega) (by omega))).trans (HC8.out.below (by omega) (by omega))).trans (HC9.out.below (by omega) (by omega))).trans (HC10.out.below (by omega) (by omega))).trans (HC11.out.below (by omega) (by omega))).trans (HC12.out.below (by omega) (by omega))).trans (HC13.out.below (by omega) (by omega))).trans (HC14.out.below (by omega) (by omega))).trans (HC15.out.below (by omega) (by omega)))⟩
  · go_enter Try.func4, Try.ntmps4
    go_wp2
    go_ret
    exact ⟨rfl, Below.refl _ _⟩
set_option maxRecDepth 100000 in
set_option maxHeartbeats 4000000 in
theorem law_SumsOf (Aa : Option Addr) (na ca : Nat) (la : List Int) (w : World) (ha : Rd w w.heap.size 1 Aa na (ints la)) :
    Calls Try.prog 5 #[.slice Aa na ca] w fun e w' => e = .returned (.bool true) ∧ Below w.heap.size w w' := by
  have Ha := Lib.hid ha
  clear ha
  by_cases hna : na ≤ 1048576
  · skip
    obtain ⟨nr, lr, r1, hnr, hS, hI⟩ := both_SumsOf na la hna
    have HS := Lib.hid hS
    have HI := Lib.hid hI
    clear hS hI
    obtain ⟨kxa, mxa, hkxa0, hkxa1, hMxa, hHxa⟩ := mh_Int na 1 hna (by omega) (by omega)
    have HMxa := Lib.hid hMxa
    clear hMxa hHxa
    obtain ⟨mr, mm, hmr0, hmr1, hMr, hHr⟩ := mh_Int nr 1 (by omega) (by omega) (by omega)
    have HMr := Lib.hid hMr
    have HHr := Lib.hid hHr
    clear hMr hHr
    go_enter Try.func5, Try.ntmps5
    go_wp2_with fail
    refine (to_Int w.heap.size Aa na ca la _ (by omega) Ha.out hna).mono ?_
    rintro e w1 ⟨Aas, cas, rfl, hras, hc1⟩
    have hs1 := hc1.size
    have HC1 := Lib.hid hc1
    clear hc1
    have HRas_1 := Lib.hid hras
    clear hras
    go_wp2_with fail
    refine (HS.out _ _ _ _ (by omega) (HRas_1.out).rd).mono ?_
    rintro e w2 ⟨Arw, crw, rfl, hrrw, hc2⟩
    have hs2 := hc2.size
    have HC2 := Lib.hid hc2
    clear hc2
    have HRrw_2 := Lib.hid hrrw
    clear hrrw
    go_wp2_with fail
    refine (to_Int w.heap.size Aa na ca la _ (by omega) ((Ha.out.keepC HC1.out (by omega) (by omega)).keepC HC2.out (by omega) (by omega)) hna).mono ?_
    rintro e w3 ⟨Aax, cax, rfl, hrax, hc3⟩
    have hs3 := hc3.size
    have HC3 := Lib.hid hc3
    clear hc3
    have HRax_3 := Lib.hid hrax
    clear hrax
    go_wp2_with fail
    refine (HI.out _ _ _ _ (by omega) (HRax_3.out).rd).mono ?_
    rintro e w4 ⟨Arg, crg, rfl, hrrg, hc4⟩
    have hs4 := hc4.size
    have HC4 := Lib.hid hc4
    clear hc4
    have HRrg_4 := Lib.hid hrrg
    clear hrrg
    go_wp2_with fail
    refine (eq_Int _ _ _ _ nr _ _ lr _ (HRrg_4.out).rd (((HRrw_2.out.keep HC3.out (by omega)).keep HC4.out (by omega))).rd (by omega)).mono ?_
    rintro e w5 ⟨rfl, hc5⟩
    have hs5 := hc5.size
    have HC5 := Lib.hid hc5
    clear hc5
    go_wp2_with fail
    refine (to_Int w.heap.size Aa na ca la _ (by omega) (((((Ha.out.keepC HC1.out (by omega) (by omega)).keepC HC2.out (by omega) (by omega)).keepC HC3.out (by omega) (by omega)).keepC HC4.out (by omega) (by omega)).keepC HC5.out (by omega) (by omega)) hna).mono ?_
    rintro e w6 ⟨Aay, cay, rfl, hray, hc6⟩
    have hs6 := hc6.size
    have HC6 := Lib.hid hc6
    clear hc6
    have HRay_6 := Lib.hid hray
    clear hray
    go_wp2_with fail
    refine (eq_Int _ _ _ _ na _ _ la _ ((((HRax_3.out.keep HC4.out (by omega)).keep HC5.out (by omega)).keep HC6.out (by omega))).rd (HRay_6.out).rd hna).mono ?_
    rintro e w7 ⟨rfl, hc7⟩
    have hs7 := hc7.size
    have HC7 := Lib.hid hc7
    clear hc7
    go_wp2_with fail
    refine (HMxa.out _ _ _ _ _ _ ((((HRax_3.out.keep HC4.out (by omega)).keep HC5.out (by omega)).keep HC6.out (by omega)).keep HC7.out (by omega))).mono ?_
    rintro e w8 ⟨rfl, hrax, hc8⟩
    have hs8 := hc8.size
    have HC8 := Lib.hid hc8
    clear hc8
    have HRax_8 := Lib.hid hrax
    clear hrax
    go_wp2_with fail
    refine (eq_Int _ _ _ _ nr _ _ lr _ (((((HRrg_4.out.keep HC5.out (by omega)).keep HC6.out (by omega)).keep HC7.out (by omega)).keep HC8.out (by omega))).rd (((((((HRrw_2.out.keep HC3.out (by omega)).keep HC4.out (by omega)).keep HC5.out (by omega)).keep HC6.out (by omega)).keep HC7.out (by omega)).keep HC8.out (by omega))).rd (by omega)).mono ?_
    rintro e w9 ⟨rfl, hc9⟩
    have hs9 := hc9.size
    have HC9 := Lib.hid hc9
    clear hc9
    go_wp2_with fail
    refine (HMr.out _ _ _ _ _ _ (((((HRrg_4.out.keep HC5.out (by omega)).keep HC6.out (by omega)).keep HC7.out (by omega)).keep HC8.out (by omega)).keep HC9.out (by omega))).mono ?_
    rintro e w10 ⟨rfl, hrrg, hc10⟩
    have hs10 := hc10.size
    have HC10 := Lib.hid hc10
    clear hc10
    have HRrg_10 := Lib.hid hrrg
    clear hrrg
    go_wp2_with fail
    refine (HHr.out _ _ _ _ (HRrg_10.out).rd).mono ?_
    rintro e w11 ⟨rfl, hc11⟩
    have hs11 := hc11.size
    have HC11 := Lib.hid hc11
    clear hc11
    go_wp2_with fail
    refine (to_Int w.heap.size Aa na ca la _ (by omega) (((((((((((Ha.out.keepC HC1.out (by omega) (by omega)).keepC HC2.out (by omega) (by omega)).keepC HC3.out (by omega) (by omega)).keepC HC4.out (by omega) (by omega)).keepC HC5.out (by omega) (by omega)).keepC HC6.out (by omega) (by omega)).keepC HC7.out (by omega) (by omega)).keepC HC8.out (by omega) (by omega)).keepC HC9.out (by omega) (by omega)).keepC HC10.out (by omega) (by omega)).keepC HC11.out (by omega) (by omega)) hna).mono ?_
    rintro e w12 ⟨Aaz, caz, rfl, hraz, hc12⟩
    have hs12 := hc12.size
    have HC12 := Lib.hid hc12
    clear hc12
    have HRaz_12 := Lib.hid hraz
    clear hraz
    go_wp2_with fail
    refine (HI.out _ _ _ _ (by omega) (HRaz_12.out).rd).mono ?_
    rintro e w13 ⟨Arh, crh, rfl, hrrh, hc13⟩
    have hs13 := hc13.size
    have HC13 := Lib.hid hc13
    clear hc13
    have HRrh_13 := Lib.hid hrrh
    clear hrrh
    go_wp2_with fail
    refine (eq_Int _ _ _ _ nr _ _ lr _ (HRrh_13.out).rd ((((((((((((HRrw_2.out.keep HC3.out (by omega)).keep HC4.out (by omega)).keep HC5.out (by omega)).keep HC6.out (by omega)).keep HC7.out (by omega)).keep HC8.out (by omega)).keep HC9.out (by omega)).keep HC10.out (by omega)).keep HC11.out (by omega)).keep HC12.out (by omega)).keep HC13.out (by omega))).rd (by omega)).mono ?_
    rintro e w14 ⟨rfl, hc14⟩
    have hs14 := hc14.size
    have HC14 := Lib.hid hc14
    clear hc14
    go_wp2_with fail
    refine (HHr.out _ _ _ _ (((((HRrg_10.out.keep HC11.out (by omega)).keep HC12.out (by omega)).keep HC13.out (by omega)).keep HC14.out (by omega))).rd).mono ?_
    rintro e w15 ⟨rfl, hc15⟩
    have hs15 := hc15.size
    have HC15 := Lib.hid hc15
    clear hc15
    go_wp2
    go_ret
    exact ⟨rfl, ((((((((((((((((Below.refl _ _).trans (HC1.out.below (by omega) (by omega))).trans (HC2.out.below (by omega) (by omega))).trans (HC3.out.below (by omega) (by omega))).trans (HC4.out.below (by omega) (by omega))).trans (HC5.out.below (by omega) (by omega))).trans (HC6.out.below (by omega) (by omega))).trans (HC7.out.below (by omega) (by omega))).trans (HC8.out.below (by omega) (by omega))).trans (HC9.out.below (by omega) (by omega))).trans (HC10.out.below (by omega) (by omega))).trans (HC11.out.below (by omega) (by omega))).trans (HC12.out.below (by omega) (by omega))).trans (HC13.out.below (by omega) (by omega))).trans (HC14.out.below (by omega) (by omega))).trans (HC15.out.below (by omega) (by omega)))⟩
  · go_enter Try.func5, Try.ntmps5
    go_wp2
    go_ret
    exact ⟨rfl, Below.refl _ _⟩
end Go.Proofs.Ytdmcfllmhjdleaa
