/- The law MergeLabels. -/
import Derived.Test.YtkpofdfikmcjgaaMergeS
namespace Go.Proofs.Ytkpofdfikmcjgaa
set_option linter.unusedVariables false
set_option linter.unusedSimpArgs false
open Go.RowKit

set_option maxRecDepth 100000 in
set_option maxHeartbeats 4000000 in
theorem iMergeLabels_any (B : Nat) (A A' : Option Addr) (n c n' c' : Nat) (a b : List Lab) (w : World) (hBw : B ≤ w.heap.size) (h : Rd w B 2 A n (lbls a)) (hn : n ≤ 1048576) (h' : Rd w B 2 A' n' (lbls b)) (hn' : n' ≤ 1048576) (hfa : lblFit a) (hfb : lblFit b) :
    Calls Try.prog 36 #[.slice A n c, .slice A' n' c'] w (GotR 69 2 w (mergeL a b).length (lbls (mergeL a b)) (okMerge a b)) := by
  have C1 := Lib.hid (areLabels_any B A n c a w hBw h hn hfa)
  have C2 := Lib.hid (fun w1 (hb : Below w.heap.size w w1) => areLabels_any B A' n' c' b w1 (Nat.le_trans hBw hb.size) (h'.below (hb.mono hBw)) hn' hfb)
  clear hfa hfb
  cases hg1 : goodLab a with
  | false =>
    have hk : okMerge a b = false := by unfold okMerge; rw [hg1]; rfl
    have HK := Lib.hid hk
    rw [hg1] at C1
    clear hg1 h h' hk C2
    go_enter Try.func36, Try.ntmps36
    go_wp2_with fail
    refine C1.out.mono ?_
    rintro e w1 ⟨rfl, hb1⟩
    have HB := Lib.hid hb1
    clear hb1
    go_wp2
    go_ret2
    rw [merge_no HK.out, HK.out]
    exact GotR.no_ HB.out
  | true =>
    rw [hg1] at C1
    cases hg2 : goodLab b with
    | false =>
      have hk : okMerge a b = false := by unfold okMerge; rw [hg1, hg2]; rfl
      have HK := Lib.hid hk
      rw [hg2] at C2
      clear hg1 hg2 h h' hk
      go_enter Try.func36, Try.ntmps36
      go_wp2_with fail
      refine C1.out.mono ?_
      rintro e w1 ⟨rfl, hb1⟩
      have HB := Lib.hid hb1
      clear hb1
      go_wp2_with fail
      refine (C2.out _ HB.out).mono ?_
      rintro e w2 ⟨rfl, hb2⟩
      have HB2 := Lib.hid (HB.out.trans (hb2.mono HB.out.size))
      clear hb2
      go_wp2
      go_ret2
      rw [merge_no HK.out, HK.out]
      exact GotR.no_ HB2.out
    | true =>
      rw [hg2] at C2
      have hla := goodLab_len hg1
      have hlb := goodLab_len hg2
      have hna := h.lab_len
      have hnb := h'.lab_len
      have C3 := Lib.hid (fun w1 (hb : Below w.heap.size w w1) => mergeLabels_any B A A' n c n' c' a b w1 (Nat.le_trans hBw hb.size) (h.below (hb.mono hBw)) (by omega) (h'.below (hb.mono hBw)) (by omega) hg1 hg2)
      clear h h' hg1 hg2 hla hlb hna hnb
      go_enter Try.func36, Try.ntmps36
      go_wp2_with fail
      refine C1.out.mono ?_
      rintro e w1 ⟨rfl, hb1⟩
      have HB1 := Lib.hid hb1
      clear hb1
      go_wp2_with fail
      refine (C2.out _ HB1.out).mono ?_
      rintro e w2 ⟨rfl, hb2⟩
      have HB2 := Lib.hid (HB1.out.trans (hb2.mono HB1.out.size))
      clear hb2 C1 C2
      go_wp2_with fail
      refine (C3.out _ HB2.out).mono ?_
      rintro e w3 ⟨A3, c3, rfl, hr, hc⟩
      have HR := Lib.hid (hr.low HB2.out.size)
      have HC := Lib.hid ((Ch.of_below HB2.out).trans hc)
      clear hr hc
      go_wp2
      go_ret2
      exact ⟨A3, c3, rfl, HR.out, HC.out⟩
theorem both_MergeLabels (n : Nat) (l : List Lab) (n' : Nat) (l' : List Lab) (hn : n ≤ 1048576) (hn' : n' ≤ 1048576) (hz : lblSz l ≤ 1048576) (hz' : lblSz l' ≤ 1048576) : ∃ (nr : Nat) (lr : List Lab) (r1 : Bool), nr ≤ 1048576 ∧
    (∀ B A c B' A' c' w, B ≤ w.heap.size → Rd w B 2 A n (lbls l) → n ≤ c → B' ≤ w.heap.size → Rd w B' 2 A' n' (lbls l') → Calls Try.prog 35 #[.slice A n c, .slice A' n' c'] w (GotR 69 2 w nr (lbls lr) r1)) ∧
    (∀ B A c B' A' c' w, B ≤ w.heap.size → Rd w B 2 A n (lbls l) → n ≤ c → B' ≤ w.heap.size → Rd w B' 2 A' n' (lbls l') → Calls Try.prog 36 #[.slice A n c, .slice A' n' c'] w (GotR 69 2 w nr (lbls lr) r1)) :=
  ⟨(mergeL l l').length, mergeL l l', _, mergeL_len l l',
    fun B A c B' A' c' w hB h hc hB' h' => sMergeLabels_any (max B B') A A' n c n' c' l l' w (Nat.max_le.2 ⟨hB, hB'⟩) (h.more (Nat.le_max_left ..)) hn hc (h'.more (Nat.le_max_right ..)) hn' (lblFit_of hz) (lblFit_of hz'),
    fun B A c B' A' c' w hB h hc hB' h' => iMergeLabels_any (max B B') A A' n c n' c' l l' w (Nat.max_le.2 ⟨hB, hB'⟩) (h.more (Nat.le_max_left ..)) hn (h'.more (Nat.le_max_right ..)) hn' (lblFit_of hz) (lblFit_of hz')⟩
set_option maxRecDepth 100000 in
set_option maxHeartbeats 4000000 in
theorem law_MergeLabels (Aa : Option Addr) (na ca : Nat) (la : List (ByteArray × ByteArray)) (Ab : Option Addr) (nb cb : Nat) (lb : List (ByteArray × ByteArray)) (w : World) (ha : Rd w w.heap.size 2 Aa na (lbls la)) (hcapa : na ≤ 9223372036854775807) (hoka : lblSzOk la) (hb : Rd w w.heap.size 2 Ab nb (lbls lb)) (hcapb : nb ≤ 9223372036854775807) (hokb : lblSzOk lb) :
    Calls Try.prog 9 #[.slice Aa na ca, .slice Ab nb cb] w fun e w' => e = .returned (.bool true) ∧ Below w.heap.size w w' := by
  have Ha := Lib.hid ha
  clear ha
  have HOKa := Lib.hid hoka
  clear hoka
  have Hb := Lib.hid hb
  clear hb
  have HOKb := Lib.hid hokb
  clear hokb
  obtain ⟨za, hza⟩ : ∃ z, z = (lblSz la) := ⟨_, rfl⟩
  have hzna : na ≤ za := by rw [hza]; exact sz_Label_ge Ha.out
  have HZa := Lib.hid hza
  clear hza
  obtain ⟨zb, hzb⟩ : ∃ z, z = (lblSz lb) := ⟨_, rfl⟩
  have hznb : nb ≤ zb := by rw [hzb]; exact sz_Label_ge Hb.out
  have HZb := Lib.hid hzb
  clear hzb
  by_cases hqa : za ≤ 1048576
  · skip
    by_cases hqb : za + zb ≤ 1048576
    · skip
      have hna : na ≤ 1048576 := by omega
      have hnb : nb ≤ 1048576 := by omega
      obtain ⟨nr, lr, r1, hnr, hS, hI⟩ := both_MergeLabels na la nb lb hna hnb (by have := HZa.out; omega) (by have := HZb.out; omega)
      have HS := Lib.hid hS
      have HI := Lib.hid hI
      clear hS hI
      obtain ⟨kxa, mxa, hkxa0, hkxa1, hMxa, hHxa⟩ := mh_Label na 1 hna (by omega) (by omega)
      have HMxa := Lib.hid hMxa
      clear hMxa hHxa
      obtain ⟨kxb, mxb, hkxb0, hkxb1, hMxb, hHxb⟩ := mh_Label nb kxa hnb (by omega) (by omega)
      have HMxb := Lib.hid hMxb
      clear hMxb hHxb
      obtain ⟨mr, mm, hmr0, hmr1, hMr, hHr⟩ := mh_Label nr 1 (by omega) (by omega) (by omega)
      have HMr := Lib.hid hMr
      have HHr := Lib.hid hHr
      clear hMr hHr
      go_enter Try.func9, Try.ntmps9
      go_wp2_with fail
      refine (sz_Label_ok w.heap.size Aa na ca la za HZa.out _ _ (by omega) Ha.out (by omega) (by omega)).mono ?_
      rintro e w1 ⟨rfl, hc1⟩
      have hs1 := hc1.size
      have HC1 := Lib.hid hc1
      clear hc1
      go_wp2_with fail
      refine (sz_Label_ok w.heap.size Ab nb cb lb zb HZb.out _ _ (by omega) (Hb.out.keepC HC1.out (by omega) (by omega)) (by omega) (by omega)).mono ?_
      rintro e w2 ⟨rfl, hc2⟩
      have hs2 := hc2.size
      have HC2 := Lib.hid hc2
      clear hc2
      go_wp2_with fail
      refine (to_Label w.heap.size Aa na ca la _ (by omega) ((Ha.out.keepC HC1.out (by omega) (by omega)).keepC HC2.out (by omega) (by omega)) hna).mono ?_
      rintro e w3 ⟨Aas, cas, rfl, hras, hc3⟩
      have hs3 := hc3.size
      have HC3 := Lib.hid hc3
      clear hc3
      have HRas_3 := Lib.hid hras
      clear hras
      go_wp2_with fail
      refine (to_Label w.heap.size Ab nb cb lb _ (by omega) (((Hb.out.keepC HC1.out (by omega) (by omega)).keepC HC2.out (by omega) (by omega)).keepC HC3.out (by omega) (by omega)) hnb).mono ?_
      rintro e w4 ⟨Abs, cbs, rfl, hrbs, hc4⟩
      have hs4 := hc4.size
      have HC4 := Lib.hid hc4
      clear hc4
      have HRbs_4 := Lib.hid hrbs
      clear hrbs
      go_wp2_with fail
      refine (HS.out _ _ _ _ _ _ _ (by omega) ((HRas_3.out.keep HC4.out (by omega))).rd ((HRas_3.out.keep HC4.out (by omega))).cap_ (by omega) (HRbs_4.out).rd).mono ?_
      rintro e w5 ⟨Arw, crw, rfl, hrrw, hc5⟩
      have hs5 := hc5.size
      have HC5 := Lib.hid hc5
      clear hc5
      have HRrw_5 := Lib.hid hrrw
      clear hrrw
      go_wp2_with fail
      refine (to_Label w.heap.size Aa na ca la _ (by omega) (((((Ha.out.keepC HC1.out (by omega) (by omega)).keepC HC2.out (by omega) (by omega)).keepC HC3.out (by omega) (by omega)).keepC HC4.out (by omega) (by omega)).keepC HC5.out (by omega) (by omega)) hna).mono ?_
      rintro e w6 ⟨Aax, cax, rfl, hrax, hc6⟩
      have hs6 := hc6.size
      have HC6 := Lib.hid hc6
      clear hc6
      have HRax_6 := Lib.hid hrax
      clear hrax
      go_wp2_with fail
      refine (to_Label w.heap.size Ab nb cb lb _ (by omega) ((((((Hb.out.keepC HC1.out (by omega) (by omega)).keepC HC2.out (by omega) (by omega)).keepC HC3.out (by omega) (by omega)).keepC HC4.out (by omega) (by omega)).keepC HC5.out (by omega) (by omega)).keepC HC6.out (by omega) (by omega)) hnb).mono ?_
      rintro e w7 ⟨Abx, cbx, rfl, hrbx, hc7⟩
      have hs7 := hc7.size
      have HC7 := Lib.hid hc7
      clear hc7
      have HRbx_7 := Lib.hid hrbx
      clear hrbx
      go_wp2_with fail
      refine (HI.out _ _ _ _ _ _ _ (by omega) ((HRax_6.out.keep HC7.out (by omega))).rd ((HRax_6.out.keep HC7.out (by omega))).cap_ (by omega) (HRbx_7.out).rd).mono ?_
      rintro e w8 ⟨Arg, crg, rfl, hrrg, hc8⟩
      have hs8 := hc8.size
      have HC8 := Lib.hid hc8
      clear hc8
      have HRrg_8 := Lib.hid hrrg
      clear hrrg
      go_wp2_with fail
      refine (eq_Label _ _ _ _ nr _ _ lr _ (by omega) (by omega) (HRrg_8.out).rd ((((HRrw_5.out.keep HC6.out (by omega)).keep HC7.out (by omega)).keep HC8.out (by omega))).rd (by omega)).mono ?_
      rintro e w9 ⟨rfl, hc9⟩
      have hs9 := hc9.size
      have HC9 := Lib.hid hc9
      clear hc9
      go_wp2_with fail
      refine (to_Label w.heap.size Aa na ca la _ (by omega) (((((((((Ha.out.keepC HC1.out (by omega) (by omega)).keepC HC2.out (by omega) (by omega)).keepC HC3.out (by omega) (by omega)).keepC HC4.out (by omega) (by omega)).keepC HC5.out (by omega) (by omega)).keepC HC6.out (by omega) (by omega)).keepC HC7.out (by omega) (by omega)).keepC HC8.out (by omega) (by omega)).keepC HC9.out (by omega) (by omega)) hna).mono ?_
      rintro e w10 ⟨Aay, cay, rfl, hray, hc10⟩
      have hs10 := hc10.size
      have HC10 := Lib.hid hc10
      clear hc10
      have HRay_10 := Lib.hid hray
      clear hray
      go_wp2_with fail
      refine (eq_Label _ _ _ _ na _ _ la _ (by omega) (by omega) (((((HRax_6.out.keep HC7.out (by omega)).keep HC8.out (by omega)).keep HC9.out (by omega)).keep HC10.out (by omega))).rd (HRay_10.out).rd hna).mono ?_
      rintro e w11 ⟨rfl, hc11⟩
      have hs11 := hc11.size
      have HC11 := Lib.hid hc11
      clear hc11
      go_wp2_with fail
      refine (to_Label w.heap.size Ab nb cb lb _ (by omega) (((((((((((Hb.out.keepC HC1.out (by omega) (by omega)).keepC HC2.out (by omega) (by omega)).keepC HC3.out (by omega) (by omega)).keepC HC4.out (by omega) (by omega)).keepC HC5.out (by omega) (by omega)).keepC HC6.out (by omega) (by omega)).keepC HC7.out (by omega) (by omega)).keepC HC8.out (by omega) (by omega)).keepC HC9.out (by omega) (by omega)).keepC HC10.out (by omega) (by omega)).keepC HC11.out (by omega) (by omega)) hnb).mono ?_
      rintro e w12 ⟨Aby, cby, rfl, hrby, hc12⟩
      have hs12 := hc12.size
      have HC12 := Lib.hid hc12
      clear hc12
      have HRby_12 := Lib.hid hrby
      clear hrby
      go_wp2_with fail
      refine (eq_Label _ _ _ _ nb _ _ lb _ (by omega) (by omega) ((((((HRbx_7.out.keep HC8.out (by omega)).keep HC9.out (by omega)).keep HC10.out (by omega)).keep HC11.out (by omega)).keep HC12.out (by omega))).rd (HRby_12.out).rd hnb).mono ?_
      rintro e w13 ⟨rfl, hc13⟩
      have hs13 := hc13.size
      have HC13 := Lib.hid hc13
      clear hc13
      go_wp2_with fail
      refine (HMxa.out _ _ _ _ _ _ (((((((HRax_6.out.keep HC7.out (by omega)).keep HC8.out (by omega)).keep HC9.out (by omega)).keep HC10.out (by omega)).keep HC11.out (by omega)).keep HC12.out (by omega)).keep HC13.out (by omega))).mono ?_
      rintro e w14 ⟨rfl, hrax, hc14⟩
      have hs14 := hc14.size
      have HC14 := Lib.hid hc14
      clear hc14
      have HRax_14 := Lib.hid hrax
      clear hrax
      go_wp2_with fail
      refine (HMxb.out _ _ _ _ _ _ (((((((HRbx_7.out.keep HC8.out (by omega)).keep HC9.out (by omega)).keep HC10.out (by omega)).keep HC11.out (by omega)).keep HC12.out (by omega)).keep HC13.out (by omega)).keep HC14.out (by omega))).mono ?_
      rintro e w15 ⟨rfl, hrbx, hc15⟩
      have hs15 := hc15.size
      have HC15 := Lib.hid hc15
      clear hc15
      have HRbx_15 := Lib.hid hrbx
      clear hrbx
      go_wp2_with fail
      refine (eq_Label _ _ _ _ nr _ _ lr _ (by omega) (by omega) ((((((((HRrg_8.out.keep HC9.out (by omega)).keep HC10.out (by omega)).keep HC11.out (by omega)).keep HC12.out (by omega)).keep HC13.out (by omega)).keep HC14.out (by omega)).keep HC15.out (by omega))).rd (((((((((((HRrw_5.out.keep HC6.out (by omega)).keep HC7.out (by omega)).keep HC8.out (by omega)).keep HC9.out (by omega)).keep HC10.out (by omega)).keep HC11.out (by omega)).keep HC12.out (by omega)).keep HC13.out (by omega)).keep HC14.out (by omega)).keep HC15.out (by omega))).rd (by omega)).mono ?_
      rintro e w16 ⟨rfl, hc16⟩
      have hs16 := hc16.size
      have HC16 := Lib.hid hc16
      clear hc16
      go_wp2_with fail
      refine (HMr.out _ _ _ _ _ _ ((((((((HRrg_8.out.keep HC9.out (by omega)).keep HC10.out (by omega)).keep HC11.out (by omega)).keep HC12.out (by omega)).keep HC13.out (by omega)).keep HC14.out (by omega)).keep HC15.out (by omega)).keep HC16.out (by omega))).mono ?_
      rintro e w17 ⟨rfl, hrrg, hc17⟩
      have hs17 := hc17.size
      have HC17 := Lib.hid hc17
      clear hc17
      have HRrg_17 := Lib.hid hrrg
      clear hrrg
      go_wp2_with fail
      refine (HHr.out _ _ _ _ (by omega) (HRrg_17.out).rd).mono ?_
      rintro e w18 ⟨rfl, hc18⟩
      have hs18 := hc18.size
      have HC18 := Lib.hid hc18
      clear hc18
      go_wp2_with fail
      refine (to_Label w.heap.size Aa na ca la _ (by omega) ((((((((((((((((((Ha.out.keepC HC1.out (by omega) (by omega)).keepC HC2.out (by omega) (by omega)).keepC HC3.out (by omega) (by omega)).keepC HC4.out (by omega) (by omega)).keepC HC5.out (by omega) (by omega)).keepC HC6.out (by omega) (by omega)).keepC HC7.out (by omega) (by omega)).keepC HC8.out (by omega) (by omega)).keepC HC9.out (by omega) (by omega)).keepC HC10.out (by omega) (by omega)).keepC HC11.out (by omega) (by omega)).keepC HC12.out (by omega) (by omega)).keepC HC13.out (by omega) (by omega)).keepC HC14.out (by omega) (by omega)).keepC HC15.out (by omega) (by omega)).keepC HC16.out (by omega) (by omega)).keepC HC17.out (by omega) (by omega)).keepC HC18.out (by omega) (by omega)) hna).mono ?_
      rintro e w19 ⟨Aaz, caz, rfl, hraz, hc19⟩
      have hs19 := hc19.size
      have HC19 := Lib.hid hc19
      clear hc19
      have HRaz_19 := Lib.hid hraz
      clear hraz
      go_wp2_with fail
      refine (to_Label w.heap.size Ab nb cb lb _ (by omega) (((((((((((((((((((Hb.out.keepC HC1.out (by omega) (by omega)).keepC HC2.out (by omega) (by omega)).keepC HC3.out (by omega) (by omega)).keepC HC4.out (by omega) (by omega)).keepC HC5.out (by omega) (by omega)).keepC HC6.out (by omega) (by omega)).keepC HC7.out (by omega) (by omega)).keepC HC8.out (by omega) (by omega)).keepC HC9.out (by omega) (by omega)).keepC HC10.out (by omega) (by omega)).keepC HC11.out (by omega) (by omega)).keepC HC12.out (by omega) (by omega)).keepC HC13.out (by omega) (by omega)).keepC HC14.out (by omega) (by omega)).keepC HC15.out (by omega) (by omega)).keepC HC16.out (by omega) (by omega)).keepC HC17.out (by omega) (by omega)).keepC HC18.out (by omega) (by omega)).keepC HC19.out (by omega) (by omega)) hnb).mono ?_
      rintro e w20 ⟨Abz, cbz, rfl, hrbz, hc20⟩
      have hs20 := hc20.size
      have HC20 := Lib.hid hc20
      clear hc20
      have HRbz_20 := Lib.hid hrbz
      clear hrbz
      go_wp2_with fail
      refine (HI.out _ _ _ _ _ _ _ (by omega) ((HRaz_19.out.keep HC20.out (by omega))).rd ((HRaz_19.out.keep HC20.out (by omega))).cap_ (by omega) (HRbz_20.out).rd).mono ?_
      rintro e w21 ⟨Arh, crh, rfl, hrrh, hc21⟩
      have hs21 := hc21.size
      have HC21 := Lib.hid hc21
      clear hc21
      have HRrh_21 := Lib.hid hrrh
      clear hrrh
      go_wp2_with fail
      refine (eq_Label _ _ _ _ nr _ _ lr _ (by omega) (by omega) (HRrh_21.out).rd (((((((((((((((((HRrw_5.out.keep HC6.out (by omega)).keep HC7.out (by omega)).keep HC8.out (by omega)).keep HC9.out (by omega)).keep HC10.out (by omega)).keep HC11.out (by omega)).keep HC12.out (by omega)).keep HC13.out (by omega)).keep HC14.out (by omega)).keep HC15.out (by omega)).keep HC16.out (by omega)).keep HC17.out (by omega)).keep HC18.out (by omega)).keep HC19.out (by omega)).keep HC20.out (by omega)).keep HC21.out (by omega))).rd (by omega)).mono ?_
      rintro e w22 ⟨rfl, hc22⟩
      have hs22 := hc22.size
      have HC22 := Lib.hid hc22
      clear hc22
      go_wp2_with fail
      refine (HHr.out _ _ _ _ (by omega) ((((((HRrg_17.out.keep HC18.out (by omega)).keep HC19.out (by omega)).keep HC20.out (by omega)).keep HC21.out (by omega)).keep HC22.out (by omega))).rd).mono ?_
      rintro e w23 ⟨rfl, hc23⟩
      have hs23 := hc23.size
      have HC23 := Lib.hid hc23
      clear hc23
      go_wp2
      go_ret
      exact ⟨rfl, ((((((((((((((((((((((((Below.refl _ _).trans (HC1.out.below (by omega) (by omega))).trans (HC2.out.below (by omega) (by omega))).trans (HC3.out.below (by omega) (by omega))).trans (HC4.out.below (by omega) (by omega))).trans (HC5.out.below (by omega) (by omega))).trans (HC6.out.below (by omega) (by omega))).trans (HC7.out.below (by omega) (by omega))).trans (HC8.out.below (by omega) (by omega))).trans (HC9.out.below (by omega) (by omega))).trans (HC10.out.below (by omega) (by omega))).trans (HC11.out.below (by omega) (by omega))).trans (HC12.out.below (by omega) (by omega))).trans (HC13.out.below (by omega) (by omega))).trans (HC14.out.below (by omega) (by omega))).trans (HC15.out.below (by omega) (by omega))).trans (HC16.out.below (by omega) (by omega))).trans (HC17.out.below (by omega) (by omega))).trans (HC18.out.below (by omega) (by omega))).trans (HC19.out.below (by omega) (by omega))).trans (HC20.out.below (by omega) (by omega))).trans (HC21.out.below (by omega) (by omega))).trans (HC22.out.below (by omega) (by omega))).trans (HC23.out.below (by omega) (by omega)))⟩
    · go_enter Try.func9, Try.ntmps9
      go_wp2_with fail
      refine (sz_Label_ok w.heap.size Aa na ca la za HZa.out _ _ (by omega) Ha.out (by omega) (by omega)).mono ?_
      rintro e w1 ⟨rfl, hc1⟩
      have hs1 := hc1.size
      have HC1 := Lib.hid hc1
      clear hc1
      go_wp2_with fail
      refine (sz_Label_no w.heap.size Ab nb cb lb zb HZb.out _ _ (by omega) (Hb.out.keepC HC1.out (by omega) (by omega)) (by omega) (by omega) (by omega) (by omega) HOKb.out).mono ?_
      rintro e w2 ⟨rfl, hc2⟩
      have hs2 := hc2.size
      have HC2 := Lib.hid hc2
      clear hc2
      go_wp2
      go_ret
      exact ⟨rfl, (((Below.refl _ _).trans (HC1.out.below (by omega) (by omega))).trans (HC2.out.below (by omega) (by omega)))⟩
  · go_enter Try.func9, Try.ntmps9
    go_wp2_with fail
    refine (sz_Label_no w.heap.size Aa na ca la za HZa.out _ _ (by omega) Ha.out (by omega) (by omega) (by omega) (by omega) HOKa.out).mono ?_
    rintro e w1 ⟨rfl, hc1⟩
    have hs1 := hc1.size
    have HC1 := Lib.hid hc1
    clear hc1
    go_wp2
    go_ret
    exact ⟨rfl, ((Below.refl _ _).trans (HC1.out.below (by omega) (by omega)))⟩
end Go.Proofs.Ytkpofdfikmcjgaa
