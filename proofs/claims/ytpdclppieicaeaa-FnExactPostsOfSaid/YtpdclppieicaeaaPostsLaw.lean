/- The law PostsOf. -/
import Derived.Test.YtpdclppieicaeaaPostsOf
import Derived.Test.YtpdclppieicaeaaRowInts
import Derived.Test.YtpdclppieicaeaaMark
import Derived.Deep.RegionHeld3
namespace Go.Proofs.Ytpdclppieicaeaa
set_option linter.unusedVariables false
set_option linter.unusedSimpArgs false
open Go.RowKit
set_option maxRecDepth 100000 in
set_option maxHeartbeats 4000000 in
theorem law_PostsOf (Aa : Option Addr) (na ca : Nat) (la : List (List Lab)) (x0 : ByteArray) (x1 : ByteArray) (w : World) (ha : RdSS w w.heap.size Aa na la) (hcapa : na ≤ 9223372036854775807) (hoka : lblSSOk la) (hokx0 : x0.size ≤ 9223372036854775807) (hokx1 : x1.size ≤ 9223372036854775807) :
    Calls Try.prog 3 #[.slice Aa na ca, .agg #[.string x0, .string x1]] w fun e w' => e = .returned (.bool true) ∧ Below w.heap.size w w' := by
  have Ha := Lib.hid ha
  clear ha
  have HOKa := Lib.hid hoka
  clear hoka
  obtain ⟨za, hza⟩ : ∃ z, z = (lblSzSS la) := ⟨_, rfl⟩
  have hzna : na ≤ za := by rw [hza]; exact sz_LabelSS_ge Ha.out
  have HZa := Lib.hid hza
  clear hza
  obtain ⟨zx, hzx⟩ : ∃ z, z = (x0.size + x1.size) := ⟨_, rfl⟩
  have HZx := Lib.hid hzx
  clear hzx
  by_cases hqa : za ≤ 1048576
  · skip
    by_cases hqx : za + zx ≤ 1048576
    · skip
      have hna : na ≤ 1048576 := by omega
      have HSMa := Lib.hid (smallSS_of HZa.out (by omega))
      have HSUa := Lib.hid (sumSS_of HZa.out (by omega))
      obtain ⟨nr, lr, r1, hnr, hS, hI⟩ := both_PostsOf na la x0 x1 hna (by have := HZa.out; omega) (by have := HZx.out; omega)
      have HS := Lib.hid hS
      have HI := Lib.hid hI
      clear hS hI
      obtain ⟨kxa, hkxa0, hkxa1, hMxa⟩ := mk_LabelSS la na 1 hna HSUa.out (by omega) (by omega)
      have HMxa := Lib.hid hMxa
      clear hMxa
      obtain ⟨mr, mm, hmr0, hmr1, hMr, hHr⟩ := mh_Int nr 1 (by omega) (by omega) (by omega)
      have HMr := Lib.hid hMr
      have HHr := Lib.hid hHr
      clear hMr hHr
      go_enter Try.func3, Try.ntmps3
      go_wp2_with fail
      refine (sz_LabelSS_ok w.heap.size Aa na ca la za HZa.out _ _ (by first | omega | simp) (Ha.out.keepC ((Ch.alloc _ _).trans (Ch.refl _ _ _)) (by omega) (by omega)) (by omega) (by omega)).mono ?_
      rintro e w1 ⟨rfl, hc1⟩
      have hs1 : w.heap.size + 1 ≤ w1.heap.size := by have := hc1.size; simpa using this
      have hcb1 := hc1
      replace hc1 : Ch 0 0 w w1 := (Ch.alloc _ _).trans hc1
      have HC1 := Lib.hid hc1
      clear hc1
      have hxx0_1 : w1.cell? ⟨w.heap.size, 0, none⟩ = some (.string x0) := (bcell hcb1.below0 _ _ (by simp)).trans (by simp [World.cell?_alloc_lt])
      have hxx1_1 : w1.cell? ⟨w.heap.size, 1, none⟩ = some (.string x1) := (bcell hcb1.below0 _ _ (by simp)).trans (by simp [World.cell?_alloc_lt])
      clear hcb1
      go_wp2_with fail
      refine (sz_Lab1_ok x0 x1 zx HZx.out _ _ (by omega) (by omega)).mono ?_
      rintro e w2 ⟨rfl, hc2⟩
      have hs2 := hc2.size
      have HC2 := Lib.hid hc2
      clear hc2
      have hxx0_2 : w2.cell? ⟨w.heap.size, 0, none⟩ = some (.string x0) := (bcell (HC2.out.below (B := w.heap.size + 1) (by omega) (by omega)) _ _ (by omega)).trans hxx0_1
      clear hxx0_1
      have hxx1_2 : w2.cell? ⟨w.heap.size, 1, none⟩ = some (.string x1) := (bcell (HC2.out.below (B := w.heap.size + 1) (by omega) (by omega)) _ _ (by omega)).trans hxx1_1
      clear hxx1_1
      go_wp2_with fail
      have HD2 := Lib.hid (show Ch 0 0 w2 w2.drew from Ch.of_drewN ⟨1, rfl⟩)
      have hsd2 : w2.heap.size ≤ w2.drew.heap.size := Nat.le_refl _
      have hxx0d_2 : w2.drew.cell? ⟨w.heap.size, 0, none⟩ = some (.string x0) := hxx0_2
      have hxx1d_2 : w2.drew.cell? ⟨w.heap.size, 1, none⟩ = some (.string x1) := hxx1_2
      go_region_held3 (fun w' => w'.cell? ⟨w.heap.size, 0, none⟩ = some (.string x0) ∧ w'.cell? ⟨w.heap.size, 1, none⟩ = some (.string x1))
        (first | go_keep | (go_split_ands; exact ⟨by assumption, by assumption⟩))
        ((first | (go_at_call 9; refine (to_LabelSS w.heap.size Aa na ca la _ (by omega) (((Ha.out.keepC HC1.out (by omega) (by omega)).keepC HC2.out (by omega) (by omega)).keepC HD2.out (by omega) (by omega)) hna HSMa.out).mono ?_; rintro e w3 ⟨Aas, cas, rfl, hras, hc3⟩; have hs3 := hc3.size; have HC3 := Lib.hid hc3; clear hc3; have hxx0_3 : w3.cell? ⟨w.heap.size, 0, none⟩ = some (.string x0) := (bcell (HC3.out.below (B := w.heap.size + 1) (by omega) (by omega)) _ _ (by omega)).trans hxx0_2; have hxx1_3 : w3.cell? ⟨w.heap.size, 1, none⟩ = some (.string x1) := (bcell (HC3.out.below (B := w.heap.size + 1) (by omega) (by omega)) _ _ (by omega)).trans hxx1_2; have HRas_3 := Lib.hid hras; clear hras) | (go_at_call 10; refine (to_Label1 x0 x1 _).mono ?_; rintro e w4 ⟨rfl, hc4⟩; have hs4 := hc4.size; have HC4 := Lib.hid hc4; clear hc4; have hxx0_4 : w4.cell? ⟨w.heap.size, 0, none⟩ = some (.string x0) := (bcell (HC4.out.below (B := w.heap.size + 1) (by omega) (by omega)) _ _ (by omega)).trans hxx0_3; have hxx1_4 : w4.cell? ⟨w.heap.size, 1, none⟩ = some (.string x1) := (bcell (HC4.out.below (B := w.heap.size + 1) (by omega) (by omega)) _ _ (by omega)).trans hxx1_3) | (go_at_call 8; refine (HS.out _ _ _ _ (by omega) (RowLL.rd_ (HRas_3.out.keep HC4.out (by omega)) HSMa.out)).mono ?_; rintro e w5 ⟨Arw, crw, rfl, hrrw, hc5⟩; have hs5 := hc5.size; have HC5 := Lib.hid hc5; clear hc5; have hxx0_5 : w5.cell? ⟨w.heap.size, 0, none⟩ = some (.string x0) := (bcell (HC5.out.below (B := w.heap.size + 1) (by omega) (by omega)) _ _ (by omega)).trans hxx0_4; have hxx1_5 : w5.cell? ⟨w.heap.size, 1, none⟩ = some (.string x1) := (bcell (HC5.out.below (B := w.heap.size + 1) (by omega) (by omega)) _ _ (by omega)).trans hxx1_4; have HRrw_5 := Lib.hid hrrw; clear hrrw)))
      go_wp2_with fail
      refine (to_LabelSS w.heap.size Aa na ca la _ (by omega) ((((((Ha.out.keepC HC1.out (by omega) (by omega)).keepC HC2.out (by omega) (by omega)).keepC HD2.out (by omega) (by omega)).keepC HC3.out (by omega) (by omega)).keepC HC4.out (by omega) (by omega)).keepC HC5.out (by omega) (by omega)) hna HSMa.out).mono ?_
      rintro e w6 ⟨Aax, cax, rfl, hrax, hc6⟩
      have hs6 := hc6.size
      have HC6 := Lib.hid hc6
      clear hc6
      have hxx0_6 : w6.cell? ⟨w.heap.size, 0, none⟩ = some (.string x0) := (bcell (HC6.out.below (B := w.heap.size + 1) (by omega) (by omega)) _ _ (by omega)).trans hxx0_5
      clear hxx0_5
      have hxx1_6 : w6.cell? ⟨w.heap.size, 1, none⟩ = some (.string x1) := (bcell (HC6.out.below (B := w.heap.size + 1) (by omega) (by omega)) _ _ (by omega)).trans hxx1_5
      clear hxx1_5
      have HRax_6 := Lib.hid hrax
      clear hrax
      go_wp2_with fail
      refine (to_Label1 x0 x1 _).mono ?_
      rintro e w7 ⟨rfl, hc7⟩
      have hs7 := hc7.size
      have HC7 := Lib.hid hc7
      clear hc7
      have hxx0_7 : w7.cell? ⟨w.heap.size, 0, none⟩ = some (.string x0) := (bcell (HC7.out.below (B := w.heap.size + 1) (by omega) (by omega)) _ _ (by omega)).trans hxx0_6
      clear hxx0_6
      have hxx1_7 : w7.cell? ⟨w.heap.size, 1, none⟩ = some (.string x1) := (bcell (HC7.out.below (B := w.heap.size + 1) (by omega) (by omega)) _ _ (by omega)).trans hxx1_6
      clear hxx1_6
      go_wp2_with fail
      refine (HI.out _ _ _ _ (by omega) (RowLL.rd_ (HRax_6.out.keep HC7.out (by omega)) HSMa.out)).mono ?_
      rintro e w8 ⟨Arg, crg, rfl, hrrg, hc8⟩
      have hs8 := hc8.size
      have HC8 := Lib.hid hc8
      clear hc8
      have hxx0_8 : w8.cell? ⟨w.heap.size, 0, none⟩ = some (.string x0) := (bcell (HC8.out.below (B := w.heap.size + 1) (by omega) (by omega)) _ _ (by omega)).trans hxx0_7
      clear hxx0_7
      have hxx1_8 : w8.cell? ⟨w.heap.size, 1, none⟩ = some (.string x1) := (bcell (HC8.out.below (B := w.heap.size + 1) (by omega) (by omega)) _ _ (by omega)).trans hxx1_7
      clear hxx1_7
      have HRrg_8 := Lib.hid hrrg
      clear hrrg
      go_wp2_with fail
      refine (eq_Int _ _ _ _ nr _ _ lr _ (HRrg_8.out).rd ((((HRrw_5.out.keep HC6.out (by omega)).keep HC7.out (by omega)).keep HC8.out (by omega))).rd (by omega)).mono ?_
      rintro e w9 ⟨rfl, hc9⟩
      have hs9 := hc9.size
      have HC9 := Lib.hid hc9
      clear hc9
      have hxx0_9 : w9.cell? ⟨w.heap.size, 0, none⟩ = some (.string x0) := (bcell (HC9.out.below (B := w.heap.size + 1) (by omega) (by omega)) _ _ (by omega)).trans hxx0_8
      clear hxx0_8
      have hxx1_9 : w9.cell? ⟨w.heap.size, 1, none⟩ = some (.string x1) := (bcell (HC9.out.below (B := w.heap.size + 1) (by omega) (by omega)) _ _ (by omega)).trans hxx1_8
      clear hxx1_8
      go_wp2_with fail
      refine (to_LabelSS w.heap.size Aa na ca la _ (by omega) ((((((((((Ha.out.keepC HC1.out (by omega) (by omega)).keepC HC2.out (by omega) (by omega)).keepC HD2.out (by omega) (by omega)).keepC HC3.out (by omega) (by omega)).keepC HC4.out (by omega) (by omega)).keepC HC5.out (by omega) (by omega)).keepC HC6.out (by omega) (by omega)).keepC HC7.out (by omega) (by omega)).keepC HC8.out (by omega) (by omega)).keepC HC9.out (by omega) (by omega)) hna HSMa.out).mono ?_
      rintro e w10 ⟨Aay, cay, rfl, hray, hc10⟩
      have hs10 := hc10.size
      have HC10 := Lib.hid hc10
      clear hc10
      have hxx0_10 : w10.cell? ⟨w.heap.size, 0, none⟩ = some (.string x0) := (bcell (HC10.out.below (B := w.heap.size + 1) (by omega) (by omega)) _ _ (by omega)).trans hxx0_9
      clear hxx0_9
      have hxx1_10 : w10.cell? ⟨w.heap.size, 1, none⟩ = some (.string x1) := (bcell (HC10.out.below (B := w.heap.size + 1) (by omega) (by omega)) _ _ (by omega)).trans hxx1_9
      clear hxx1_9
      have HRay_10 := Lib.hid hray
      clear hray
      go_wp2_with fail
      refine (eq_LabelSS _ _ _ _ na _ _ la _ (by omega) (by omega) (RowLL.rd_ ((((HRax_6.out.keep HC7.out (by omega)).keep HC8.out (by omega)).keep HC9.out (by omega)).keep HC10.out (by omega)) HSMa.out) (RowLL.rd_ HRay_10.out HSMa.out) hna HSMa.out).mono ?_
      rintro e w11 ⟨rfl, hc11⟩
      have hs11 := hc11.size
      have HC11 := Lib.hid hc11
      clear hc11
      have hxx0_11 : w11.cell? ⟨w.heap.size, 0, none⟩ = some (.string x0) := (bcell (HC11.out.below (B := w.heap.size + 1) (by omega) (by omega)) _ _ (by omega)).trans hxx0_10
      clear hxx0_10
      have hxx1_11 : w11.cell? ⟨w.heap.size, 1, none⟩ = some (.string x1) := (bcell (HC11.out.below (B := w.heap.size + 1) (by omega) (by omega)) _ _ (by omega)).trans hxx1_10
      clear hxx1_10
      go_wp2_with fail
      refine (HMxa.out _ _ _ _ _ (((((HRax_6.out.keep HC7.out (by omega)).keep HC8.out (by omega)).keep HC9.out (by omega)).keep HC10.out (by omega)).keep HC11.out (by omega))).mono ?_
      rintro e w12 ⟨rfl, hrax, hc12⟩
      have hs12 := hc12.size
      have HC12 := Lib.hid hc12
      clear hc12
      have hxx0_12 : w12.cell? ⟨w.heap.size, 0, none⟩ = some (.string x0) := (bcell (HC12.out.below (B := w.heap.size + 1) (by omega) (by omega)) _ _ (by omega)).trans hxx0_11
      clear hxx0_11
      have hxx1_12 : w12.cell? ⟨w.heap.size, 1, none⟩ = some (.string x1) := (bcell (HC12.out.below (B := w.heap.size + 1) (by omega) (by omega)) _ _ (by omega)).trans hxx1_11
      clear hxx1_11
      have HRax_12 := Lib.hid hrax
      clear hrax
      go_wp2_with fail
      refine (eq_Int _ _ _ _ nr _ _ lr _ (((((HRrg_8.out.keep HC9.out (by omega)).keep HC10.out (by omega)).keep HC11.out (by omega)).keep HC12.out (by omega))).rd ((((((((HRrw_5.out.keep HC6.out (by omega)).keep HC7.out (by omega)).keep HC8.out (by omega)).keep HC9.out (by omega)).keep HC10.out (by omega)).keep HC11.out (by omega)).keep HC12.out (by omega))).rd (by omega)).mono ?_
      rintro e w13 ⟨rfl, hc13⟩
      have hs13 := hc13.size
      have HC13 := Lib.hid hc13
      clear hc13
      have hxx0_13 : w13.cell? ⟨w.heap.size, 0, none⟩ = some (.string x0) := (bcell (HC13.out.below (B := w.heap.size + 1) (by omega) (by omega)) _ _ (by omega)).trans hxx0_12
      clear hxx0_12
      have hxx1_13 : w13.cell? ⟨w.heap.size, 1, none⟩ = some (.string x1) := (bcell (HC13.out.below (B := w.heap.size + 1) (by omega) (by omega)) _ _ (by omega)).trans hxx1_12
      clear hxx1_12
      go_wp2_with fail
      refine (HMr.out _ _ _ _ _ _ (((((HRrg_8.out.keep HC9.out (by omega)).keep HC10.out (by omega)).keep HC11.out (by omega)).keep HC12.out (by omega)).keep HC13.out (by omega))).mono ?_
      rintro e w14 ⟨rfl, hrrg, hc14⟩
      have hs14 := hc14.size
      have HC14 := Lib.hid hc14
      clear hc14
      have hxx0_14 : w14.cell? ⟨w.heap.size, 0, none⟩ = some (.string x0) := (bcell (HC14.out.below (B := w.heap.size + 1) (by omega) (by omega)) _ _ (by omega)).trans hxx0_13
      clear hxx0_13
      have hxx1_14 : w14.cell? ⟨w.heap.size, 1, none⟩ = some (.string x1) := (bcell (HC14.out.below (B := w.heap.size + 1) (by omega) (by omega)) _ _ (by omega)).trans hxx1_13
      clear hxx1_13
      have HRrg_14 := Lib.hid hrrg
      clear hrrg
      go_wp2_with fail
      refine (HHr.out _ _ _ _ (HRrg_14.out).rd).mono ?_
      rintro e w15 ⟨rfl, hc15⟩
      have hs15 := hc15.size
      have HC15 := Lib.hid hc15
      clear hc15
      have hxx0_15 : w15.cell? ⟨w.heap.size, 0, none⟩ = some (.string x0) := (bcell (HC15.out.below (B := w.heap.size + 1) (by omega) (by omega)) _ _ (by omega)).trans hxx0_14
      clear hxx0_14
      have hxx1_15 : w15.cell? ⟨w.heap.size, 1, none⟩ = some (.string x1) := (bcell (HC15.out.below (B := w.heap.size + 1) (by omega) (by omega)) _ _ (by omega)).trans hxx1_14
      clear hxx1_14
      go_wp2_with fail
      have HD15 := Lib.hid (show Ch 0 0 w15 w15.drew from Ch.of_drewN ⟨1, rfl⟩)
      have hsd15 : w15.heap.size ≤ w15.drew.heap.size := Nat.le_refl _
      have hxx0d_15 : w15.drew.cell? ⟨w.heap.size, 0, none⟩ = some (.string x0) := hxx0_15
      have hxx1d_15 : w15.drew.cell? ⟨w.heap.size, 1, none⟩ = some (.string x1) := hxx1_15
      go_region_held3 (fun w' => w'.cell? ⟨w.heap.size, 0, none⟩ = some (.string x0) ∧ w'.cell? ⟨w.heap.size, 1, none⟩ = some (.string x1))
        (first | go_keep | (go_split_ands; exact ⟨by assumption, by assumption⟩))
        ((first | (go_at_call 9; refine (to_LabelSS w.heap.size Aa na ca la _ (by omega) (((((((((((((((((Ha.out.keepC HC1.out (by omega) (by omega)).keepC HC2.out (by omega) (by omega)).keepC HD2.out (by omega) (by omega)).keepC HC3.out (by omega) (by omega)).keepC HC4.out (by omega) (by omega)).keepC HC5.out (by omega) (by omega)).keepC HC6.out (by omega) (by omega)).keepC HC7.out (by omega) (by omega)).keepC HC8.out (by omega) (by omega)).keepC HC9.out (by omega) (by omega)).keepC HC10.out (by omega) (by omega)).keepC HC11.out (by omega) (by omega)).keepC HC12.out (by omega) (by omega)).keepC HC13.out (by omega) (by omega)).keepC HC14.out (by omega) (by omega)).keepC HC15.out (by omega) (by omega)).keepC HD15.out (by omega) (by omega)) hna HSMa.out).mono ?_; rintro e w16 ⟨Aaz, caz, rfl, hraz, hc16⟩; have hs16 := hc16.size; have HC16 := Lib.hid hc16; clear hc16; have hxx0_16 : w16.cell? ⟨w.heap.size, 0, none⟩ = some (.string x0) := (bcell (HC16.out.below (B := w.heap.size + 1) (by omega) (by omega)) _ _ (by omega)).trans hxx0_15; have hxx1_16 : w16.cell? ⟨w.heap.size, 1, none⟩ = some (.string x1) := (bcell (HC16.out.below (B := w.heap.size + 1) (by omega) (by omega)) _ _ (by omega)).trans hxx1_15; have HRaz_16 := Lib.hid hraz; clear hraz) | (go_at_call 10; refine (to_Label1 x0 x1 _).mono ?_; rintro e w17 ⟨rfl, hc17⟩; have hs17 := hc17.size; have HC17 := Lib.hid hc17; clear hc17; have hxx0_17 : w17.cell? ⟨w.heap.size, 0, none⟩ = some (.string x0) := (bcell (HC17.out.below (B := w.heap.size + 1) (by omega) (by omega)) _ _ (by omega)).trans hxx0_16; have hxx1_17 : w17.cell? ⟨w.heap.size, 1, none⟩ = some (.string x1) := (bcell (HC17.out.below (B := w.heap.size + 1) (by omega) (by omega)) _ _ (by omega)).trans hxx1_16) | (go_at_call 11; refine (HI.out _ _ _ _ (by omega) (RowLL.rd_ (HRaz_16.out.keep HC17.out (by omega)) HSMa.out)).mono ?_; rintro e w18 ⟨Arh, crh, rfl, hrrh, hc18⟩; have hs18 := hc18.size; have HC18 := Lib.hid hc18; clear hc18; have hxx0_18 : w18.cell? ⟨w.heap.size, 0, none⟩ = some (.string x0) := (bcell (HC18.out.below (B := w.heap.size + 1) (by omega) (by omega)) _ _ (by omega)).trans hxx0_17; have hxx1_18 : w18.cell? ⟨w.heap.size, 1, none⟩ = some (.string x1) := (bcell (HC18.out.below (B := w.heap.size + 1) (by omega) (by omega)) _ _ (by omega)).trans hxx1_17; have HRrh_18 := Lib.hid hrrh; clear hrrh)))
      go_wp2_with fail
      refine (eq_Int _ _ _ _ nr _ _ lr _ (HRrh_18.out).rd (((((((((((((((HRrw_5.out.keep HC6.out (by omega)).keep HC7.out (by omega)).keep HC8.out (by omega)).keep HC9.out (by omega)).keep HC10.out (by omega)).keep HC11.out (by omega)).keep HC12.out (by omega)).keep HC13.out (by omega)).keep HC14.out (by omega)).keep HC15.out (by omega)).keep HD15.out (by omega)).keep HC16.out (by omega)).keep HC17.out (by omega)).keep HC18.out (by omega))).rd (by omega)).mono ?_
      rintro e w19 ⟨rfl, hc19⟩
      have hs19 := hc19.size
      have HC19 := Lib.hid hc19
      clear hc19
      have hxx0_19 : w19.cell? ⟨w.heap.size, 0, none⟩ = some (.string x0) := (bcell (HC19.out.below (B := w.heap.size + 1) (by omega) (by omega)) _ _ (by omega)).trans hxx0_18
      clear hxx0_18
      have hxx1_19 : w19.cell? ⟨w.heap.size, 1, none⟩ = some (.string x1) := (bcell (HC19.out.below (B := w.heap.size + 1) (by omega) (by omega)) _ _ (by omega)).trans hxx1_18
      clear hxx1_18
      go_wp2_with fail
      refine (HHr.out _ _ _ _ (((((((HRrg_14.out.keep HC15.out (by omega)).keep HD15.out (by omega)).keep HC16.out (by omega)).keep HC17.out (by omega)).keep HC18.out (by omega)).keep HC19.out (by omega))).rd).mono ?_
      rintro e w20 ⟨rfl, hc20⟩
      have hs20 := hc20.size
      have HC20 := Lib.hid hc20
      clear hc20
      have hxx0_20 : w20.cell? ⟨w.heap.size, 0, none⟩ = some (.string x0) := (bcell (HC20.out.below (B := w.heap.size + 1) (by omega) (by omega)) _ _ (by omega)).trans hxx0_19
      clear hxx0_19
      have hxx1_20 : w20.cell? ⟨w.heap.size, 1, none⟩ = some (.string x1) := (bcell (HC20.out.below (B := w.heap.size + 1) (by omega) (by omega)) _ _ (by omega)).trans hxx1_19
      clear hxx1_19
      go_wp2
      go_ret
      exact ⟨rfl, (((((((((((((((((((((((Below.refl _ _).trans (HC1.out.below (by omega) (by omega))).trans (HC2.out.below (by omega) (by omega))).trans (HD2.out.below (by omega) (by omega))).trans (HC3.out.below (by omega) (by omega))).trans (HC4.out.below (by omega) (by omega))).trans (HC5.out.below (by omega) (by omega))).trans (HC6.out.below (by omega) (by omega))).trans (HC7.out.below (by omega) (by omega))).trans (HC8.out.below (by omega) (by omega))).trans (HC9.out.below (by omega) (by omega))).trans (HC10.out.below (by omega) (by omega))).trans (HC11.out.below (by omega) (by omega))).trans (HC12.out.below (by omega) (by omega))).trans (HC13.out.below (by omega) (by omega))).trans (HC14.out.below (by omega) (by omega))).trans (HC15.out.below (by omega) (by omega))).trans (HD15.out.below (by omega) (by omega))).trans (HC16.out.below (by omega) (by omega))).trans (HC17.out.below (by omega) (by omega))).trans (HC18.out.below (by omega) (by omega))).trans (HC19.out.below (by omega) (by omega))).trans (HC20.out.below (by omega) (by omega)))⟩
    · go_enter Try.func3, Try.ntmps3
      go_wp2_with fail
      refine (sz_LabelSS_ok w.heap.size Aa na ca la za HZa.out _ _ (by first | omega | simp) (Ha.out.keepC ((Ch.alloc _ _).trans (Ch.refl _ _ _)) (by omega) (by omega)) (by omega) (by omega)).mono ?_
      rintro e w1 ⟨rfl, hc1⟩
      have hs1 : w.heap.size + 1 ≤ w1.heap.size := by have := hc1.size; simpa using this
      have hcb1 := hc1
      replace hc1 : Ch 0 0 w w1 := (Ch.alloc _ _).trans hc1
      have HC1 := Lib.hid hc1
      clear hc1
      have hxx0_1 : w1.cell? ⟨w.heap.size, 0, none⟩ = some (.string x0) := (bcell hcb1.below0 _ _ (by simp)).trans (by simp [World.cell?_alloc_lt])
      have hxx1_1 : w1.cell? ⟨w.heap.size, 1, none⟩ = some (.string x1) := (bcell hcb1.below0 _ _ (by simp)).trans (by simp [World.cell?_alloc_lt])
      clear hcb1
      go_wp2_with fail
      refine (sz_Lab1_no x0 x1 zx HZx.out _ _ (by omega) (by omega) (by omega) hokx0 hokx1).mono ?_
      rintro e w2 ⟨rfl, hc2⟩
      have hs2 := hc2.size
      have HC2 := Lib.hid hc2
      clear hc2
      have hxx0_2 : w2.cell? ⟨w.heap.size, 0, none⟩ = some (.string x0) := (bcell (HC2.out.below (B := w.heap.size + 1) (by omega) (by omega)) _ _ (by omega)).trans hxx0_1
      clear hxx0_1
      have hxx1_2 : w2.cell? ⟨w.heap.size, 1, none⟩ = some (.string x1) := (bcell (HC2.out.below (B := w.heap.size + 1) (by omega) (by omega)) _ _ (by omega)).trans hxx1_1
      clear hxx1_1
      go_wp2
      go_ret
      exact ⟨rfl, (((Below.refl _ _).trans (HC1.out.below (by omega) (by omega))).trans (HC2.out.below (by omega) (by omega)))⟩
  · go_enter Try.func3, Try.ntmps3
    go_wp2_with fail
    refine (sz_LabelSS_no w.heap.size Aa na ca la za HZa.out _ _ (by first | omega | simp) (Ha.out.keepC ((Ch.alloc _ _).trans (Ch.refl _ _ _)) (by omega) (by omega)) (by omega) (by omega) (by omega) (by omega) HOKa.out).mono ?_
    rintro e w1 ⟨rfl, hc1⟩
    have hs1 : w.heap.size + 1 ≤ w1.heap.size := by have := hc1.size; simpa using this
    have hcb1 := hc1
    replace hc1 : Ch 0 0 w w1 := (Ch.alloc _ _).trans hc1
    have HC1 := Lib.hid hc1
    clear hc1
    have hxx0_1 : w1.cell? ⟨w.heap.size, 0, none⟩ = some (.string x0) := (bcell hcb1.below0 _ _ (by simp)).trans (by simp [World.cell?_alloc_lt])
    have hxx1_1 : w1.cell? ⟨w.heap.size, 1, none⟩ = some (.string x1) := (bcell hcb1.below0 _ _ (by simp)).trans (by simp [World.cell?_alloc_lt])
    clear hcb1
    go_wp2
    go_ret
    exact ⟨rfl, ((Below.refl _ _).trans (HC1.out.below (by omega) (by omega)))⟩
end Go.Proofs.Ytpdclppieicaeaa
