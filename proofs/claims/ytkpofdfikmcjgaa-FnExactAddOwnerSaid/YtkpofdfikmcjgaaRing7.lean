/- The law AddOwner. -/
import Derived.Test.YtkpofdfikmcjgaaRing6
namespace Go.Proofs.Ytkpofdfikmcjgaa
set_option linter.unusedVariables false
set_option linter.unusedSimpArgs false
open Go.RowKit

set_option maxRecDepth 100000 in
set_option maxHeartbeats 4000000 in
theorem law_AddOwner (Aa : Option Addr) (na ca : Nat) (la : List (Int × Int)) (o : Int) (Ab : Option Addr) (nb cb : Nat) (lb : List Int) (w : World) (ha : Rd w w.heap.size 2 Aa na (smps la)) (hcapa : na ≤ 9223372036854775807) (hb : Rd w w.heap.size 1 Ab nb (ints lb)) (hcapb : nb ≤ 9223372036854775807) :
    Calls Try.prog 8 #[.slice Aa na ca, .int .i64 o, .slice Ab nb cb] w fun e w' => e = .returned (.bool true) ∧ Below w.heap.size w w' := by
  have Ha := Lib.hid ha
  clear ha
  have Hb := Lib.hid hb
  clear hb
  by_cases hnb : nb ≤ 1048576
  · skip
    by_cases hqa : na ≤ 1048576
    · skip
      have hna : na ≤ 1048576 := by omega
      obtain ⟨nr, lr, r1, hnr, hS, hI⟩ := both_AddOwner na la o nb lb hna hnb
      have HS := Lib.hid hS
      have HI := Lib.hid hI
      clear hS hI
      obtain ⟨kxa, mxa, hkxa0, hkxa1, hMxa, hHxa⟩ := mh_Token na 1 hna (by omega) (by omega)
      have HMxa := Lib.hid hMxa
      clear hMxa hHxa
      obtain ⟨kxb, mxb, hkxb0, hkxb1, hMxb, hHxb⟩ := mh_Int nb kxa hnb (by omega) (by omega)
      have HMxb := Lib.hid hMxb
      clear hMxb hHxb
      obtain ⟨mr, mm, hmr0, hmr1, hMr, hHr⟩ := mh_Token nr 1 (by omega) (by omega) (by omega)
      have HMr := Lib.hid hMr
      have HHr := Lib.hid hHr
      clear hMr hHr
      go_enter Try.func8, Try.ntmps8
      go_wp2_with fail
      refine (sz_Token_ok Aa na ca _ _ (by omega) (by omega)).mono ?_
      rintro e w1 ⟨rfl, hc1⟩
      have hs1 := hc1.size
      have HC1 := Lib.hid hc1
      clear hc1
      go_wp2_with fail
      refine (to_Token w.heap.size Aa na ca la _ (by omega) (Ha.out.keepC HC1.out (by omega) (by omega)) hna).mono ?_
      rintro e w2 ⟨Aas, cas, rfl, hras, hc2⟩
      have hs2 := hc2.size
      have HC2 := Lib.hid hc2
      clear hc2
      have HRas_2 := Lib.hid hras
      clear hras
      go_wp2_with fail
      refine (to_Int w.heap.size Ab nb cb lb _ (by omega) ((Hb.out.keepC HC1.out (by omega) (by omega)).keepC HC2.out (by omega) (by omega)) hnb).mono ?_
      rintro e w3 ⟨Abs, cbs, rfl, hrbs, hc3⟩
      have hs3 := hc3.size
      have HC3 := Lib.hid hc3
      clear hc3
      have HRbs_3 := Lib.hid hrbs
      clear hrbs
      go_wp2_with fail
      refine (HS.out _ _ _ _ _ _ _ (by omega) ((HRas_2.out.keep HC3.out (by omega))).rd (by omega) (HRbs_3.out).rd).mono ?_
      rintro e w4 ⟨Arw, crw, rfl, hrrw, hc4⟩
      have hs4 := hc4.size
      have HC4 := Lib.hid hc4
      clear hc4
      have HRrw_4 := Lib.hid hrrw
      clear hrrw
      go_wp2_with fail
      refine (to_Token w.heap.size Aa na ca la _ (by omega) ((((Ha.out.keepC HC1.out (by omega) (by omega)).keepC HC2.out (by omega) (by omega)).keepC HC3.out (by omega) (by omega)).keepC HC4.out (by omega) (by omega)) hna).mono ?_
      rintro e w5 ⟨Aax, cax, rfl, hrax, hc5⟩
      have hs5 := hc5.size
      have HC5 := Lib.hid hc5
      clear hc5
      have HRax_5 := Lib.hid hrax
      clear hrax
      go_wp2_with fail
      refine (to_Int w.heap.size Ab nb cb lb _ (by omega) (((((Hb.out.keepC HC1.out (by omega) (by omega)).keepC HC2.out (by omega) (by omega)).keepC HC3.out (by omega) (by omega)).keepC HC4.out (by omega) (by omega)).keepC HC5.out (by omega) (by omega)) hnb).mono ?_
      rintro e w6 ⟨Abx, cbx, rfl, hrbx, hc6⟩
      have hs6 := hc6.size
      have HC6 := Lib.hid hc6
      clear hc6
      have HRbx_6 := Lib.hid hrbx
      clear hrbx
      go_wp2_with fail
      refine (HI.out _ _ _ _ _ _ _ (by omega) ((HRax_5.out.keep HC6.out (by omega))).rd (by omega) (HRbx_6.out).rd).mono ?_
      rintro e w7 ⟨Arg, crg, rfl, hrrg, hc7⟩
      have hs7 := hc7.size
      have HC7 := Lib.hid hc7
      clear hc7
      have HRrg_7 := Lib.hid hrrg
      clear hrrg
      go_wp2_with fail
      refine (eq_Token _ _ _ _ nr _ _ lr _ (by omega) (by omega) (HRrg_7.out).rd ((((HRrw_4.out.keep HC5.out (by omega)).keep HC6.out (by omega)).keep HC7.out (by omega))).rd (by omega)).mono ?_
      rintro e w8 ⟨rfl, hc8⟩
      have hs8 := hc8.size
      have HC8 := Lib.hid hc8
      clear hc8
      go_wp2_with fail
      refine (to_Token w.heap.size Aa na ca la _ (by omega) ((((((((Ha.out.keepC HC1.out (by omega) (by omega)).keepC HC2.out (by omega) (by omega)).keepC HC3.out (by omega) (by omega)).keepC HC4.out (by omega) (by omega)).keepC HC5.out (by omega) (by omega)).keepC HC6.out (by omega) (by omega)).keepC HC7.out (by omega) (by omega)).keepC HC8.out (by omega) (by omega)) hna).mono ?_
      rintro e w9 ⟨Aay, cay, rfl, hray, hc9⟩
      have hs9 := hc9.size
      have HC9 := Lib.hid hc9
      clear hc9
      have HRay_9 := Lib.hid hray
      clear hray
      go_wp2_with fail
      refine (eq_Token _ _ _ _ na _ _ la _ (by omega) (by omega) (((((HRax_5.out.keep HC6.out (by omega)).keep HC7.out (by omega)).keep HC8.out (by omega)).keep HC9.out (by omega))).rd (HRay_9.out).rd hna).mono ?_
      rintro e w10 ⟨rfl, hc10⟩
      have hs10 := hc10.size
      have HC10 := Lib.hid hc10
      clear hc10
      go_wp2_with fail
      refine (to_Int w.heap.size Ab nb cb lb _ (by omega) ((((((((((Hb.out.keepC HC1.out (by omega) (by omega)).keepC HC2.out (by omega) (by omega)).keepC HC3.out (by omega) (by omega)).keepC HC4.out (by omega) (by omega)).keepC HC5.out (by omega) (by omega)).keepC HC6.out (by omega) (by omega)).keepC HC7.out (by omega) (by omega)).keepC HC8.out (by omega) (by omega)).keepC HC9.out (by omega) (by omega)).keepC HC10.out (by omega) (by omega)) hnb).mono ?_
      rintro e w11 ⟨Aby, cby, rfl, hrby, hc11⟩
      have hs11 := hc11.size
      have HC11 := Lib.hid hc11
      clear hc11
      have HRby_11 := Lib.hid hrby
      clear hrby
      go_wp2_with fail
      refine (eq_Int _ _ _ _ nb _ _ lb _ ((((((HRbx_6.out.keep HC7.out (by omega)).keep HC8.out (by omega)).keep HC9.out (by omega)).keep HC10.out (by omega)).keep HC11.out (by omega))).rd (HRby_11.out).rd hnb).mono ?_
      rintro e w12 ⟨rfl, hc12⟩
      have hs12 := hc12.size
      have HC12 := Lib.hid hc12
      clear hc12
      go_wp2_with fail
      refine (HMxa.out _ _ _ _ _ _ (((((((HRax_5.out.keep HC6.out (by omega)).keep HC7.out (by omega)).keep HC8.out (by omega)).keep HC9.out (by omega)).keep HC10.out (by omega)).keep HC11.out (by omega)).keep HC12.out (by omega))).mono ?_
      rintro e w13 ⟨rfl, hrax, hc13⟩
      have hs13 := hc13.size
      have HC13 := Lib.hid hc13
      clear hc13
      have HRax_13 := Lib.hid hrax
      clear hrax
      go_wp2_with fail
      refine (HMxb.out _ _ _ _ _ _ (((((((HRbx_6.out.keep HC7.out (by omega)).keep HC8.out (by omega)).keep HC9.out (by omega)).keep HC10.out (by omega)).keep HC11.out (by omega)).keep HC12.out (by omega)).keep HC13.out (by omega))).mono ?_
      rintro e w14 ⟨rfl, hrbx, hc14⟩
      have hs14 := hc14.size
      have HC14 := Lib.hid hc14
      clear hc14
      have HRbx_14 := Lib.hid hrbx
      clear hrbx
      go_wp2_with fail
      refine (eq_Token _ _ _ _ nr _ _ lr _ (by omega) (by omega) ((((((((HRrg_7.out.keep HC8.out (by omega)).keep HC9.out (by omega)).keep HC10.out (by omega)).keep HC11.out (by omega)).keep HC12.out (by omega)).keep HC13.out (by omega)).keep HC14.out (by omega))).rd (((((((((((HRrw_4.out.keep HC5.out (by omega)).keep HC6.out (by omega)).keep HC7.out (by omega)).keep HC8.out (by omega)).keep HC9.out (by omega)).keep HC10.out (by omega)).keep HC11.out (by omega)).keep HC12.out (by omega)).keep HC13.out (by omega)).keep HC14.out (by omega))).rd (by omega)).mono ?_
      rintro e w15 ⟨rfl, hc15⟩
      have hs15 := hc15.size
      have HC15 := Lib.hid hc15
      clear hc15
      go_wp2_with fail
      refine (HMr.out _ _ _ _ _ _ ((((((((HRrg_7.out.keep HC8.out (by omega)).keep HC9.out (by omega)).keep HC10.out (by omega)).keep HC11.out (by omega)).keep HC12.out (by omega)).keep HC13.out (by omega)).keep HC14.out (by omega)).keep HC15.out (by omega))).mono ?_
      rintro e w16 ⟨rfl, hrrg, hc16⟩
      have hs16 := hc16.size
      have HC16 := Lib.hid hc16
      clear hc16
      have HRrg_16 := Lib.hid hrrg
      clear hrrg
      go_wp2_with fail
      refine (HHr.out _ _ _ _ (HRrg_16.out).rd).mono ?_
      rintro e w17 ⟨rfl, hc17⟩
      have hs17 := hc17.size
      have HC17 := Lib.hid hc17
      clear hc17
      go_wp2_with fail
      refine (to_Token w.heap.size Aa na ca la _ (by omega) (((((((((((((((((Ha.out.keepC HC1.out (by omega) (by omega)).keepC HC2.out (by omega) (by omega)).keepC HC3.out (by omega) (by omega)).keepC HC4.out (by omega) (by omega)).keepC HC5.out (by omega) (by omega)).keepC HC6.out (by omega) (by omega)).keepC HC7.out (by omega) (by omega)).keepC HC8.out (by omega) (by omega)).keepC HC9.out (by omega) (by omega)).keepC HC10.out (by omega) (by omega)).keepC HC11.out (by omega) (by omega)).keepC HC12.out (by omega) (by omega)).keepC HC13.out (by omega) (by omega)).keepC HC14.out (by omega) (by omega)).keepC HC15.out (by omega) (by omega)).keepC HC16.out (by omega) (by omega)).keepC HC17.out (by omega) (by omega)) hna).mono ?_
      rintro e w18 ⟨Aaz, caz, rfl, hraz, hc18⟩
      have hs18 := hc18.size
      have HC18 := Lib.hid hc18
      clear hc18
      have HRaz_18 := Lib.hid hraz
      clear hraz
      go_wp2_with fail
      refine (to_Int w.heap.size Ab nb cb lb _ (by omega) ((((((((((((((((((Hb.out.keepC HC1.out (by omega) (by omega)).keepC HC2.out (by omega) (by omega)).keepC HC3.out (by omega) (by omega)).keepC HC4.out (by omega) (by omega)).keepC HC5.out (by omega) (by omega)).keepC HC6.out (by omega) (by omega)).keepC HC7.out (by omega) (by omega)).keepC HC8.out (by omega) (by omega)).keepC HC9.out (by omega) (by omega)).keepC HC10.out (by omega) (by omega)).keepC HC11.out (by omega) (by omega)).keepC HC12.out (by omega) (by omega)).keepC HC13.out (by omega) (by omega)).keepC HC14.out (by omega) (by omega)).keepC HC15.out (by omega) (by omega)).keepC HC16.out (by omega) (by omega)).keepC HC17.out (by omega) (by omega)).keepC HC18.out (by omega) (by omega)) hnb).mono ?_
      rintro e w19 ⟨Abz, cbz, rfl, hrbz, hc19⟩
      have hs19 := hc19.size
      have HC19 := Lib.hid hc19
      clear hc19
      have HRbz_19 := Lib.hid hrbz
      clear hrbz
      go_wp2_with fail
      refine (HI.out _ _ _ _ _ _ _ (by omega) ((HRaz_18.out.keep HC19.out (by omega))).rd (by omega) (HRbz_19.out).rd).mono ?_
      rintro e w20 ⟨Arh, crh, rfl, hrrh, hc20⟩
      have hs20 := hc20.size
      have HC20 := Lib.hid hc20
      clear hc20
      have HRrh_20 := Lib.hid hrrh
      clear hrrh
      go_wp2_with fail
      refine (eq_Token _ _ _ _ nr _ _ lr _ (by omega) (by omega) (HRrh_20.out).rd (((((((((((((((((HRrw_4.out.keep HC5.out (by omega)).keep HC6.out (by omega)).keep HC7.out (by omega)).keep HC8.out (by omega)).keep HC9.out (by omega)).keep HC10.out (by omega)).keep HC11.out (by omega)).keep HC12.out (by omega)).keep HC13.out (by omega)).keep HC14.out (by omega)).keep HC15.out (by omega)).keep HC16.out (by omega)).keep HC17.out (by omega)).keep HC18.out (by omega)).keep HC19.out (by omega)).keep HC20.out (by omega))).rd (by omega)).mono ?_
      rintro e w21 ⟨rfl, hc21⟩
      have hs21 := hc21.size
      have HC21 := Lib.hid hc21
      clear hc21
      go_wp2_with fail
      refine (HHr.out _ _ _ _ ((((((HRrg_16.out.keep HC17.out (by omega)).keep HC18.out (by omega)).keep HC19.out (by omega)).keep HC20.out (by omega)).keep HC21.out (by omega))).rd).mono ?_
      rintro e w22 ⟨rfl, hc22⟩
      have hs22 := hc22.size
      have HC22 := Lib.hid hc22
      clear hc22
      go_wp2
      go_ret
      exact ⟨rfl, (((((((((((((((((((((((Below.refl _ _).trans (HC1.out.below (by omega) (by omega))).trans (HC2.out.below (by omega) (by omega))).trans (HC3.out.below (by omega) (by omega))).trans (HC4.out.below (by omega) (by omega))).trans (HC5.out.below (by omega) (by omega))).trans (HC6.out.below (by omega) (by omega))).trans (HC7.out.below (by omega) (by omega))).trans (HC8.out.below (by omega) (by omega))).trans (HC9.out.below (by omega) (by omega))).trans (HC10.out.below (by omega) (by omega))).trans (HC11.out.below (by omega) (by omega))).trans (HC12.out.below (by omega) (by omega))).trans (HC13.out.below (by omega) (by omega))).trans (HC14.out.below (by omega) (by omega))).trans (HC15.out.below (by omega) (by omega))).trans (HC16.out.below (by omega) (by omega))).trans (HC17.out.below (by omega) (by omega))).trans (HC18.out.below (by omega) (by omega))).trans (HC19.out.below (by omega) (by omega))).trans (HC20.out.below (by omega) (by omega))).trans (HC21.out.below (by omega) (by omega))).trans (HC22.out.below (by omega) (by omega)))⟩
    · go_enter Try.func8, Try.ntmps8
      go_wp2_with fail
      refine (sz_Token_no Aa na ca _ _ (by omega) (by omega) (by omega)).mono ?_
      rintro e w1 ⟨rfl, hc1⟩
      have hs1 := hc1.size
      have HC1 := Lib.hid hc1
      clear hc1
      go_wp2
      go_ret
      exact ⟨rfl, ((Below.refl _ _).trans (HC1.out.below (by omega) (by omega)))⟩
  · go_enter Try.func8, Try.ntmps8
    go_wp2
    go_ret
    exact ⟨rfl, (Below.refl _ _)⟩
end Go.Proofs.Ytkpofdfikmcjgaa
