/- The laws LessPosts, MeetPosts. -/
import Derived.Test.YtjadjkdihjddoaaSets
import Derived.Test.YtjadjkdihjddoaaGotR
namespace Go.Proofs.Ytjadjkdihjddoaa
set_option linter.unusedVariables false
set_option linter.unusedSimpArgs false
open Go.RowKit

set_option maxHeartbeats 1000000 in
theorem l4Both_any (B : Nat) (A A' : Option Addr) (n c n' c' : Nat) (za zb : List Int) (w : World) (h : Rd w B 1 A n (ints za)) (hn : n ≤ 1048576) (h' : Rd w B 1 A' n' (ints zb)) (hn' : n' ≤ 1048576) :
    Calls Try.prog 52 #[.slice A n c, .slice A' n' c'] w fun e w' => e = .returned (.bool (goodPosts za && goodPosts zb)) ∧ w = w' := by
  have C1 := Lib.hid (sGoodPosts_any B A n c za w h hn)
  have C2 := Lib.hid (sGoodPosts_any B A' n' c' zb w h' hn')
  generalize goodPosts za = p at C1 ⊢
  generalize goodPosts zb = q at C2 ⊢
  clear h h'
  cases p with
  | true =>
    go_enter Try.func52, Try.ntmps52
    go_wp2_with fail
    refine C1.out.mono ?_
    rintro e w' ⟨rfl, rfl⟩
    go_wp2_with fail
    refine C2.out.mono ?_
    rintro e w' ⟨rfl, rfl⟩
    go_wp2
    go_ret
    exact ⟨rfl, rfl⟩
  | false =>
    go_enter Try.func52, Try.ntmps52
    go_wp2_with fail
    refine C1.out.mono ?_
    rintro e w' ⟨rfl, rfl⟩
    go_wp2
    go_ret
    exact ⟨rfl, rfl⟩
theorem GotR.no {T s : Nat} {w w' : World} (h : w = w') : GotR T s w 0 [] false (.returned (.tuple #[.slice none 0 0, .bool false])) w' := by
  subst h
  exact GotR.nil_ (Ch.refl _ _ _)
theorem GotR.of_own {T s : Nat} {w w' : World} {A : Option Addr} {n c : Nat} {xs : List Value} (ho : w'.ownsRow w.heap.size T s (.slice A n c) n xs) (hb : Below w.heap.size w w') : GotR T s w n xs true (.returned (.tuple #[.slice A n c, .bool true])) w' :=
  ⟨A, c, rfl, Row.of_own ho, Ch.of_below hb⟩
set_option maxHeartbeats 1000000 in
theorem sLessPosts_any (B : Nat) (A A' : Option Addr) (n c n' c' : Nat) (za zb : List Int) (w : World) (hBw : B ≤ w.heap.size) (h : Rd w B 1 A n (ints za)) (hn : n ≤ 1048576) (h' : Rd w B 1 A' n' (ints zb)) (hn' : n' ≤ 1048576) :
    Calls Try.prog 12 #[.slice A n c, .slice A' n' c'] w (GotR 3 1 w (setR lessP za zb).length (ints (setR lessP za zb)) (goodPosts za && goodPosts zb)) := by
  have C1 := Lib.hid (l4Both_any B A A' n c n' c' za zb w h hn h' hn')
  cases hg : (goodPosts za && goodPosts zb) with
  | false =>
    have HL := Lib.hid (show setR lessP za zb = [] by unfold setR; rw [hg]; rfl)
    rw [hg] at C1
    clear hg h h'
    go_enter Try.func12, Try.ntmps12
    go_wp2_with fail
    refine C1.out.mono ?_
    rintro e w' ⟨rfl, rfl⟩
    go_wp2
    go_ret2
    rw [HL.out]
    exact GotR.no rfl
  | true =>
    have HL := Lib.hid (show setR lessP za zb = lessP za zb by unfold setR; rw [hg]; rfl)
    rw [hg] at C1
    obtain ⟨L, hL⟩ : ∃ L, L = lessP za zb := ⟨_, rfl⟩
    have C2 := Lib.hid (l4Those_any B A A' n c n' c' za zb false w hBw h hn h' hn' L (hL.trans (less_those za zb)))
    have HE := Lib.hid hL
    clear hg h h' hL
    go_enter Try.func12, Try.ntmps12
    go_wp2_with fail
    refine C1.out.mono ?_
    rintro e w' ⟨rfl, rfl⟩
    go_wp2_with fail
    refine C2.out.mono ?_
    rintro e w1 ⟨A2, c2, rfl, ho, hb⟩
    have HO := Lib.hid ho
    have HB := Lib.hid hb
    clear ho hb
    go_wp2
    go_ret2
    rw [HL.out, ← HE.out]
    exact GotR.of_own HO.out HB.out
set_option maxHeartbeats 1000000 in
theorem iLessPosts_any (B : Nat) (A A' : Option Addr) (n c n' c' : Nat) (za zb : List Int) (w : World) (hBw : B ≤ w.heap.size) (h : Rd w B 1 A n (ints za)) (hn : n ≤ 1048576) (h' : Rd w B 1 A' n' (ints zb)) (hn' : n' ≤ 1048576) :
    Calls Try.prog 14 #[.slice A n c, .slice A' n' c'] w (GotR 3 1 w (setR lessP za zb).length (ints (setR lessP za zb)) (goodPosts za && goodPosts zb)) := by
  have C1 := Lib.hid (arePosts_any B A n c za w h hn)
  have C2 := Lib.hid (arePosts_any B A' n' c' zb w h' hn')
  cases hg1 : goodPosts za with
  | false =>
    have HL := Lib.hid (show setR lessP za zb = [] by unfold setR; rw [hg1]; rfl)
    rw [hg1] at C1
    clear hg1 h h'
    go_enter Try.func14, Try.ntmps14
    go_wp2_with fail
    refine C1.out.mono ?_
    rintro e w' ⟨rfl, rfl⟩
    go_wp2
    go_ret2
    rw [HL.out]
    exact GotR.no rfl
  | true =>
    rw [hg1] at C1
    cases hg2 : goodPosts zb with
    | false =>
      have HL := Lib.hid (show setR lessP za zb = [] by unfold setR; rw [hg1, hg2]; rfl)
      rw [hg2] at C2
      clear hg1 hg2 h h'
      go_enter Try.func14, Try.ntmps14
      go_wp2_with fail
      refine C1.out.mono ?_
      rintro e w' ⟨rfl, rfl⟩
      go_wp2_with fail
      refine C2.out.mono ?_
      rintro e w' ⟨rfl, rfl⟩
      go_wp2
      go_ret2
      rw [HL.out]
      exact GotR.no rfl
    | true =>
      have HL := Lib.hid (show setR lessP za zb = lessP za zb by unfold setR; rw [hg1, hg2]; rfl)
      rw [hg2] at C2
      have C3 := Lib.hid (less_any B A A' n c n' c' za zb w hBw h hn h' hn')
      generalize lessP za zb = L at C3 HL
      clear hg1 hg2 h h'
      go_enter Try.func14, Try.ntmps14
      go_wp2_with fail
      refine C1.out.mono ?_
      rintro e w' ⟨rfl, rfl⟩
      go_wp2_with fail
      refine C2.out.mono ?_
      rintro e w' ⟨rfl, rfl⟩
      go_wp2_with fail
      refine C3.out.mono ?_
      rintro e w1 ⟨A2, c2, rfl, ho, hb⟩
      have HO := Lib.hid ho
      have HB := Lib.hid hb
      clear ho hb
      go_wp2
      go_ret2
      rw [HL.out]
      exact GotR.of_own HO.out HB.out
theorem both_LessPosts (n : Nat) (za : List Int) (n' : Nat) (zb : List Int) (hn : n ≤ 1048576) (hn' : n' ≤ 1048576) : ∃ (nr : Nat) (lr : List Int) (r1 : Bool), nr ≤ 1048576 ∧
    (∀ B A c B' A' c' w, B ≤ w.heap.size → Rd w B 1 A n (ints za) → B' ≤ w.heap.size → Rd w B' 1 A' n' (ints zb) → Calls Try.prog 12 #[.slice A n c, .slice A' n' c'] w (GotR 3 1 w nr (ints lr) r1)) ∧
    (∀ B A c B' A' c' w, B ≤ w.heap.size → Rd w B 1 A n (ints za) → B' ≤ w.heap.size → Rd w B' 1 A' n' (ints zb) → Calls Try.prog 14 #[.slice A n c, .slice A' n' c'] w (GotR 3 1 w nr (ints lr) r1)) := by
  refine ⟨(setR lessP za zb).length, setR lessP za zb, _, ?_, fun B A c B' A' c' w hB h hB' h' => sLessPosts_any w.heap.size A A' n c n' c' za zb w (Nat.le_refl _) (h.more hB) hn (h'.more hB') hn',
    fun B A c B' A' c' w hB h hB' h' => iLessPosts_any w.heap.size A A' n c n' c' za zb w (Nat.le_refl _) (h.more hB) hn (h'.more hB') hn'⟩
  unfold setR
  split
  · rename_i hg
    simp only [Bool.and_eq_true] at hg
    have := (goodPosts_iff.1 hg.1).2.2
    exact Nat.le_trans (List.length_filter_le ..) (by omega)
  · simp
set_option maxRecDepth 100000 in
set_option maxHeartbeats 4000000 in
theorem law_LessPosts (Aa : Option Addr) (na ca : Nat) (la : List Int) (Ab : Option Addr) (nb cb : Nat) (lb : List Int) (w : World) (ha : Rd w w.heap.size 1 Aa na (ints la)) (hcapa : na ≤ 9223372036854775807) (hb : Rd w w.heap.size 1 Ab nb (ints lb)) (hcapb : nb ≤ 9223372036854775807) :
    Calls Try.prog 3 #[.slice Aa na ca, .slice Ab nb cb] w fun e w' => e = .returned (.bool true) ∧ Below w.heap.size w w' := by
  have Ha := Lib.hid ha
  clear ha
  have Hb := Lib.hid hb
  clear hb
  by_cases hna : na ≤ 1048576
  · skip
    by_cases hnb : nb ≤ 1048576
    · skip
      obtain ⟨nr, lr, r1, hnr, hS, hI⟩ := both_LessPosts na la nb lb hna hnb
      have HS := Lib.hid hS
      have HI := Lib.hid hI
      clear hS hI
      obtain ⟨kxa, mxa, hkxa0, hkxa1, hMxa, hHxa⟩ := mh_Int na 1 hna (by omega) (by omega)
      have HMxa := Lib.hid hMxa
      clear hMxa hHxa
      obtain ⟨kxb, mxb, hkxb0, hkxb1, hMxb, hHxb⟩ := mh_Int nb kxa hnb (by omega) (by omega)
      have HMxb := Lib.hid hMxb
      clear hMxb hHxb
      obtain ⟨mr, mm, hmr0, hmr1, hMr, hHr⟩ := mh_Int nr 1 (by omega) (by omega) (by omega)
      have HMr := Lib.hid hMr
      have HHr := Lib.hid hHr
      clear hMr hHr
      go_enter Try.func3, Try.ntmps3
      go_wp2_with fail
      refine (to_Int w.heap.size Aa na ca la _ (by omega) Ha.out hna).mono ?_
      rintro e w1 ⟨Aas, cas, rfl, hras, hc1⟩
      have hs1 := hc1.size
      have HC1 := Lib.hid hc1
      clear hc1
      have HRas_1 := Lib.hid hras
      clear hras
      go_wp2_with fail
      refine (to_Int w.heap.size Ab nb cb lb _ (by omega) (Hb.out.keepC HC1.out (by omega) (by omega)) hnb).mono ?_
      rintro e w2 ⟨Abs, cbs, rfl, hrbs, hc2⟩
      have hs2 := hc2.size
      have HC2 := Lib.hid hc2
      clear hc2
      have HRbs_2 := Lib.hid hrbs
      clear hrbs
      go_wp2_with fail
      refine (HS.out _ _ _ _ _ _ _ (by omega) ((HRas_1.out.keep HC2.out (by omega))).rd (by omega) (HRbs_2.out).rd).mono ?_
      rintro e w3 ⟨Arw, crw, rfl, hrrw, hc3⟩
      have hs3 := hc3.size
      have HC3 := Lib.hid hc3
      clear hc3
      have HRrw_3 := Lib.hid hrrw
      clear hrrw
      go_wp2_with fail
      refine (to_Int w.heap.size Aa na ca la _ (by omega) (((Ha.out.keepC HC1.out (by omega) (by omega)).keepC HC2.out (by omega) (by omega)).keepC HC3.out (by omega) (by omega)) hna).mono ?_
      rintro e w4 ⟨Aax, cax, rfl, hrax, hc4⟩
      have hs4 := hc4.size
      have HC4 := Lib.hid hc4
      clear hc4
      have HRax_4 := Lib.hid hrax
      clear hrax
      go_wp2_with fail
      refine (to_Int w.heap.size Ab nb cb lb _ (by omega) ((((Hb.out.keepC HC1.out (by omega) (by omega)).keepC HC2.out (by omega) (by omega)).keepC HC3.out (by omega) (by omega)).keepC HC4.out (by omega) (by omega)) hnb).mono ?_
      rintro e w5 ⟨Abx, cbx, rfl, hrbx, hc5⟩
      have hs5 := hc5.size
      have HC5 := Lib.hid hc5
      clear hc5
      have HRbx_5 := Lib.hid hrbx
      clear hrbx
      go_wp2_with fail
      refine (HI.out _ _ _ _ _ _ _ (by omega) ((HRax_4.out.keep HC5.out (by omega))).rd (by omega) (HRbx_5.out).rd).mono ?_
      rintro e w6 ⟨Arg, crg, rfl, hrrg, hc6⟩
      have hs6 := hc6.size
      have HC6 := Lib.hid hc6
      clear hc6
      have HRrg_6 := Lib.hid hrrg
      clear hrrg
      go_wp2_with fail
      refine (eq_Int _ _ _ _ nr _ _ lr _ (HRrg_6.out).rd ((((HRrw_3.out.keep HC4.out (by omega)).keep HC5.out (by omega)).keep HC6.out (by omega))).rd (by omega)).mono ?_
      rintro e w7 ⟨rfl, hc7⟩
      have hs7 := hc7.size
      have HC7 := Lib.hid hc7
      clear hc7
      go_wp2_with fail
      refine (to_Int w.heap.size Aa na ca la _ (by omega) (((((((Ha.out.keepC HC1.out (by omega) (by omega)).keepC HC2.out (by omega) (by omega)).keepC HC3.out (by omega) (by omega)).keepC HC4.out (by omega) (by omega)).keepC HC5.out (by omega) (by omega)).keepC HC6.out (by omega) (by omega)).keepC HC7.out (by omega) (by omega)) hna).mono ?_
      rintro e w8 ⟨Aay, cay, rfl, hray, hc8⟩
      have hs8 := hc8.size
      have HC8 := Lib.hid hc8
      clear hc8
      have HRay_8 := Lib.hid hray
      clear hray
      go_wp2_with fail
      refine (eq_Int _ _ _ _ na _ _ la _ (((((HRax_4.out.keep HC5.out (by omega)).keep HC6.out (by omega)).keep HC7.out (by omega)).keep HC8.out (by omega))).rd (HRay_8.out).rd hna).mono ?_
      rintro e w9 ⟨rfl, hc9⟩
      have hs9 := hc9.size
      have HC9 := Lib.hid hc9
      clear hc9
      go_wp2_with fail
      refine (to_Int w.heap.size Ab nb cb lb _ (by omega) (((((((((Hb.out.keepC HC1.out (by omega) (by omega)).keepC HC2.out (by omega) (by omega)).keepC HC3.out (by omega) (by omega)).keepC HC4.out (by omega) (by omega)).keepC HC5.out (by omega) (by omega)).keepC HC6.out (by omega) (by omega)).keepC HC7.out (by omega) (by omega)).keepC HC8.out (by omega) (by omega)).keepC HC9.out (by omega) (by omega)) hnb).mono ?_
      rintro e w10 ⟨Aby, cby, rfl, hrby, hc10⟩
      have hs10 := hc10.size
      have HC10 := Lib.hid hc10
      clear hc10
      have HRby_10 := Lib.hid hrby
      clear hrby
      go_wp2_with fail
      refine (eq_Int _ _ _ _ nb _ _ lb _ ((((((HRbx_5.out.keep HC6.out (by omega)).keep HC7.out (by omega)).keep HC8.out (by omega)).keep HC9.out (by omega)).keep HC10.out (by omega))).rd (HRby_10.out).rd hnb).mono ?_
      rintro e w11 ⟨rfl, hc11⟩
      have hs11 := hc11.size
      have HC11 := Lib.hid hc11
      clear hc11
      go_wp2_with fail
      refine (HMxa.out _ _ _ _ _ _ (((((((HRax_4.out.keep HC5.out (by omega)).keep HC6.out (by omega)).keep HC7.out (by omega)).keep HC8.out (by omega)).keep HC9.out (by omega)).keep HC10.out (by omega)).keep HC11.out (by omega))).mono ?_
      rintro e w12 ⟨rfl, hrax, hc12⟩
      have hs12 := hc12.size
      have HC12 := Lib.hid hc12
      clear hc12
      have HRax_12 := Lib.hid hrax
      clear hrax
      go_wp2_with fail
      refine (HMxb.out _ _ _ _ _ _ (((((((HRbx_5.out.keep HC6.out (by omega)).keep HC7.out (by omega)).keep HC8.out (by omega)).keep HC9.out (by omega)).keep HC10.out (by omega)).keep HC11.out (by omega)).keep HC12.out (by omega))).mono ?_
      rintro e w13 ⟨rfl, hrbx, hc13⟩
      have hs13 := hc13.size
      have HC13 := Lib.hid hc13
      clear hc13
      have HRbx_13 := Lib.hid hrbx
      clear hrbx
      go_wp2_with fail
      refine (eq_Int _ _ _ _ nr _ _ lr _ ((((((((HRrg_6.out.keep HC7.out (by omega)).keep HC8.out (by omega)).keep HC9.out (by omega)).keep HC10.out (by omega)).keep HC11.out (by omega)).keep HC12.out (by omega)).keep HC13.out (by omega))).rd (((((((((((HRrw_3.out.keep HC4.out (by omega)).keep HC5.out (by omega)).keep HC6.out (by omega)).keep HC7.out (by omega)).keep HC8.out (by omega)).keep HC9.out (by omega)).keep HC10.out (by omega)).keep HC11.out (by omega)).keep HC12.out (by omega)).keep HC13.out (by omega))).rd (by omega)).mono ?_
      rintro e w14 ⟨rfl, hc14⟩
      have hs14 := hc14.size
      have HC14 := Lib.hid hc14
      clear hc14
      go_wp2_with fail
      refine (HMr.out _ _ _ _ _ _ ((((((((HRrg_6.out.keep HC7.out (by omega)).keep HC8.out (by omega)).keep HC9.out (by omega)).keep HC10.out (by omega)).keep HC11.out (by omega)).keep HC12.out (by omega)).keep HC13.out (by omega)).keep HC14.out (by omega))).mono ?_
      rintro e w15 ⟨rfl, hrrg, hc15⟩
      have hs15 := hc15.size
      have HC15 := Lib.hid hc15
      clear hc15
      have HRrg_15 := Lib.hid hrrg
      clear hrrg
      go_wp2_with fail
      refine (HHr.out _ _ _ _ (HRrg_15.out).rd).mono ?_
      rintro e w16 ⟨rfl, hc16⟩
      have hs16 := hc16.size
      have HC16 := Lib.hid hc16
      clear hc16
      go_wp2_with fail
      refine (to_Int w.heap.size Aa na ca la _ (by omega) ((((((((((((((((Ha.out.keepC HC1.out (by omega) (by omega)).keepC HC2.out (by omega) (by omega)).keepC HC3.out (by omega) (by omega)).keepC HC4.out (by omega) (by omega)).keepC HC5.out (by omega) (by omega)).keepC HC6.out (by omega) (by omega)).keepC HC7.out (by omega) (by omega)).keepC HC8.out (by omega) (by omega)).keepC HC9.out (by omega) (by omega)).keepC HC10.out (by omega) (by omega)).keepC HC11.out (by omega) (by omega)).keepC HC12.out (by omega) (by omega)).keepC HC13.out (by omega) (by omega)).keepC HC14.out (by omega) (by omega)).keepC HC15.out (by omega) (by omega)).keepC HC16.out (by omega) (by omega)) hna).mono ?_
      rintro e w17 ⟨Aaz, caz, rfl, hraz, hc17⟩
      have hs17 := hc17.size
      have HC17 := Lib.hid hc17
      clear hc17
      have HRaz_17 := Lib.hid hraz
      clear hraz
      go_wp2_with fail
      refine (to_Int w.heap.size Ab nb cb lb _ (by omega) (((((((((((((((((Hb.out.keepC HC1.out (by omega) (by omega)).keepC HC2.out (by omega) (by omega)).keepC HC3.out (by omega) (by omega)).keepC HC4.out (by omega) (by omega)).keepC HC5.out (by omega) (by omega)).keepC HC6.out (by omega) (by omega)).keepC HC7.out (by omega) (by omega)).keepC HC8.out (by omega) (by omega)).keepC HC9.out (by omega) (by omega)).keepC HC10.out (by omega) (by omega)).keepC HC11.out (by omega) (by omega)).keepC HC12.out (by omega) (by omega)).keepC HC13.out (by omega) (by omega)).keepC HC14.out (by omega) (by omega)).keepC HC15.out (by omega) (by omega)).keepC HC16.out (by omega) (by omega)).keepC HC17.out (by omega) (by omega)) hnb).mono ?_
      rintro e w18 ⟨Abz, cbz, rfl, hrbz, hc18⟩
      have hs18 := hc18.size
      have HC18 := Lib.hid hc18
      clear hc18
      have HRbz_18 := Lib.hid hrbz
      clear hrbz
      go_wp2_with fail
      refine (HI.out _ _ _ _ _ _ _ (by omega) ((HRaz_17.out.keep HC18.out (by omega))).rd (by omega) (HRbz_18.out).rd).mono ?_
      rintro e w19 ⟨Arh, crh, rfl, hrrh, hc19⟩
      have hs19 := hc19.size
      have HC19 := Lib.hid hc19
      clear hc19
      have HRrh_19 := Lib.hid hrrh
      clear hrrh
      go_wp2_with fail
      refine (eq_Int _ _ _ _ nr _ _ lr _ (HRrh_19.out).rd (((((((((((((((((HRrw_3.out.keep HC4.out (by omega)).keep HC5.out (by omega)).keep HC6.out (by omega)).keep HC7.out (by omega)).keep HC8.out (by omega)).keep HC9.out (by omega)).keep HC10.out (by omega)).keep HC11.out (by omega)).keep HC12.out (by omega)).keep HC13.out (by omega)).keep HC14.out (by omega)).keep HC15.out (by omega)).keep HC16.out (by omega)).keep HC17.out (by omega)).keep HC18.out (by omega)).keep HC19.out (by omega))).rd (by omega)).mono ?_
      rintro e w20 ⟨rfl, hc20⟩
      have hs20 := hc20.size
      have HC20 := Lib.hid hc20
      clear hc20
      go_wp2_with fail
      refine (HHr.out _ _ _ _ ((((((HRrg_15.out.keep HC16.out (by omega)).keep HC17.out (by omega)).keep HC18.out (by omega)).keep HC19.out (by omega)).keep HC20.out (by omega))).rd).mono ?_
      rintro e w21 ⟨rfl, hc21⟩
      have hs21 := hc21.size
      have HC21 := Lib.hid hc21
      clear hc21
      go_wp2
      go_ret
      exact ⟨rfl, ((((((((((((((((((((((Below.refl _ _).trans (HC1.out.below (by omega) (by omega))).trans (HC2.out.below (by omega) (by omega))).trans (HC3.out.below (by omega) (by omega))).trans (HC4.out.below (by omega) (by omega))).trans (HC5.out.below (by omega) (by omega))).trans (HC6.out.below (by omega) (by omega))).trans (HC7.out.below (by omega) (by omega))).trans (HC8.out.below (by omega) (by omega))).trans (HC9.out.below (by omega) (by omega))).trans (HC10.out.below (by omega) (by omega))).trans (HC11.out.below (by omega) (by omega))).trans (HC12.out.below (by omega) (by omega))).trans (HC13.out.below (by omega) (by omega))).trans (HC14.out.below (by omega) (by omega))).trans (HC15.out.below (by omega) (by omega))).trans (HC16.out.below (by omega) (by omega))).trans (HC17.out.below (by omega) (by omega))).trans (HC18.out.below (by omega) (by omega))).trans (HC19.out.below (by omega) (by omega))).trans (HC20.out.below (by omega) (by omega))).trans (HC21.out.below (by omega) (by omega)))⟩
    · go_enter Try.func3, Try.ntmps3
      go_wp2
      go_ret
      exact ⟨rfl, (Below.refl _ _)⟩
  · go_enter Try.func3, Try.ntmps3
    go_wp2
    go_ret
    exact ⟨rfl, (Below.refl _ _)⟩
set_option maxHeartbeats 1000000 in
theorem sMeetPosts_any (B : Nat) (A A' : Option Addr) (n c n' c' : Nat) (za zb : List Int) (w : World) (hBw : B ≤ w.heap.size) (h : Rd w B 1 A n (ints za)) (hn : n ≤ 1048576) (h' : Rd w B 1 A' n' (ints zb)) (hn' : n' ≤ 1048576) :
    Calls Try.prog 18 #[.slice A n c, .slice A' n' c'] w (GotR 3 1 w (setR meetP za zb).length (ints (setR meetP za zb)) (goodPosts za && goodPosts zb)) := by
  have C1 := Lib.hid (l4Both_any B A A' n c n' c' za zb w h hn h' hn')
  cases hg : (goodPosts za && goodPosts zb) with
  | false =>
    have HL := Lib.hid (show setR meetP za zb = [] by unfold setR; rw [hg]; rfl)
    rw [hg] at C1
    clear hg h h'
    go_enter Try.func18, Try.ntmps18
    go_wp2_with fail
    refine C1.out.mono ?_
    rintro e w' ⟨rfl, rfl⟩
    go_wp2
    go_ret2
    rw [HL.out]
    exact GotR.no rfl
  | true =>
    have HL := Lib.hid (show setR meetP za zb = meetP za zb by unfold setR; rw [hg]; rfl)
    rw [hg] at C1
    obtain ⟨L, hL⟩ : ∃ L, L = meetP za zb := ⟨_, rfl⟩
    have C2 := Lib.hid (l4Those_any B A A' n c n' c' za zb true w hBw h hn h' hn' L (hL.trans (meet_those za zb)))
    have HE := Lib.hid hL
    clear hg h h' hL
    go_enter Try.func18, Try.ntmps18
    go_wp2_with fail
    refine C1.out.mono ?_
    rintro e w' ⟨rfl, rfl⟩
    go_wp2_with fail
    refine C2.out.mono ?_
    rintro e w1 ⟨A2, c2, rfl, ho, hb⟩
    have HO := Lib.hid ho
    have HB := Lib.hid hb
    clear ho hb
    go_wp2
    go_ret2
    rw [HL.out, ← HE.out]
    exact GotR.of_own HO.out HB.out
set_option maxHeartbeats 1000000 in
theorem iMeetPosts_any (B : Nat) (A A' : Option Addr) (n c n' c' : Nat) (za zb : List Int) (w : World) (hBw : B ≤ w.heap.size) (h : Rd w B 1 A n (ints za)) (hn : n ≤ 1048576) (h' : Rd w B 1 A' n' (ints zb)) (hn' : n' ≤ 1048576) :
    Calls Try.prog 19 #[.slice A n c, .slice A' n' c'] w (GotR 3 1 w (setR meetP za zb).length (ints (setR meetP za zb)) (goodPosts za && goodPosts zb)) := by
  have C1 := Lib.hid (arePosts_any B A n c za w h hn)
  have C2 := Lib.hid (arePosts_any B A' n' c' zb w h' hn')
  cases hg1 : goodPosts za with
  | false =>
    have HL := Lib.hid (show setR meetP za zb = [] by unfold setR; rw [hg1]; rfl)
    rw [hg1] at C1
    clear hg1 h h'
    go_enter Try.func19, Try.ntmps19
    go_wp2_with fail
    refine C1.out.mono ?_
    rintro e w' ⟨rfl, rfl⟩
    go_wp2
    go_ret2
    rw [HL.out]
    exact GotR.no rfl
  | true =>
    rw [hg1] at C1
    cases hg2 : goodPosts zb with
    | false =>
      have HL := Lib.hid (show setR meetP za zb = [] by unfold setR; rw [hg1, hg2]; rfl)
      rw [hg2] at C2
      clear hg1 hg2 h h'
      go_enter Try.func19, Try.ntmps19
      go_wp2_with fail
      refine C1.out.mono ?_
      rintro e w' ⟨rfl, rfl⟩
      go_wp2_with fail
      refine C2.out.mono ?_
      rintro e w' ⟨rfl, rfl⟩
      go_wp2
      go_ret2
      rw [HL.out]
      exact GotR.no rfl
    | true =>
      have HL := Lib.hid (show setR meetP za zb = meetP za zb by unfold setR; rw [hg1, hg2]; rfl)
      rw [hg2] at C2
      have C3 := Lib.hid (meet_any B A A' n c n' c' za zb w hBw h hn h' hn')
      generalize meetP za zb = L at C3 HL
      clear hg1 hg2 h h'
      go_enter Try.func19, Try.ntmps19
      go_wp2_with fail
      refine C1.out.mono ?_
      rintro e w' ⟨rfl, rfl⟩
      go_wp2_with fail
      refine C2.out.mono ?_
      rintro e w' ⟨rfl, rfl⟩
      go_wp2_with fail
      refine C3.out.mono ?_
      rintro e w1 ⟨A2, c2, rfl, ho, hb⟩
      have HO := Lib.hid ho
      have HB := Lib.hid hb
      clear ho hb
      go_wp2
      go_ret2
      rw [HL.out]
      exact GotR.of_own HO.out HB.out
theorem both_MeetPosts (n : Nat) (za : List Int) (n' : Nat) (zb : List Int) (hn : n ≤ 1048576) (hn' : n' ≤ 1048576) : ∃ (nr : Nat) (lr : List Int) (r1 : Bool), nr ≤ 1048576 ∧
    (∀ B A c B' A' c' w, B ≤ w.heap.size → Rd w B 1 A n (ints za) → B' ≤ w.heap.size → Rd w B' 1 A' n' (ints zb) → Calls Try.prog 18 #[.slice A n c, .slice A' n' c'] w (GotR 3 1 w nr (ints lr) r1)) ∧
    (∀ B A c B' A' c' w, B ≤ w.heap.size → Rd w B 1 A n (ints za) → B' ≤ w.heap.size → Rd w B' 1 A' n' (ints zb) → Calls Try.prog 19 #[.slice A n c, .slice A' n' c'] w (GotR 3 1 w nr (ints lr) r1)) := by
  refine ⟨(setR meetP za zb).length, setR meetP za zb, _, ?_, fun B A c B' A' c' w hB h hB' h' => sMeetPosts_any w.heap.size A A' n c n' c' za zb w (Nat.le_refl _) (h.more hB) hn (h'.more hB') hn',
    fun B A c B' A' c' w hB h hB' h' => iMeetPosts_any w.heap.size A A' n c n' c' za zb w (Nat.le_refl _) (h.more hB) hn (h'.more hB') hn'⟩
  unfold setR
  split
  · rename_i hg
    simp only [Bool.and_eq_true] at hg
    have := (goodPosts_iff.1 hg.1).2.2
    exact Nat.le_trans (List.length_filter_le ..) (by omega)
  · simp
set_option maxRecDepth 100000 in
set_option maxHeartbeats 4000000 in
theorem law_MeetPosts (Aa : Option Addr) (na ca : Nat) (la : List Int) (Ab : Option Addr) (nb cb : Nat) (lb : List Int) (w : World) (ha : Rd w w.heap.size 1 Aa na (ints la)) (hcapa : na ≤ 9223372036854775807) (hb : Rd w w.heap.size 1 Ab nb (ints lb)) (hcapb : nb ≤ 9223372036854775807) :
    Calls Try.prog 4 #[.slice Aa na ca, .slice Ab nb cb] w fun e w' => e = .returned (.bool true) ∧ Below w.heap.size w w' := by
  have Ha := Lib.hid ha
  clear ha
  have Hb := Lib.hid hb
  clear hb
  by_cases hna : na ≤ 1048576
  · skip
    by_cases hnb : nb ≤ 1048576
    · skip
      obtain ⟨nr, lr, r1, hnr, hS, hI⟩ := both_MeetPosts na la nb lb hna hnb
      have HS := Lib.hid hS
      have HI := Lib.hid hI
      clear hS hI
      obtain ⟨kxa, mxa, hkxa0, hkxa1, hMxa, hHxa⟩ := mh_Int na 1 hna (by omega) (by omega)
      have HMxa := Lib.hid hMxa
      clear hMxa hHxa
      obtain ⟨kxb, mxb, hkxb0, hkxb1, hMxb, hHxb⟩ := mh_Int nb kxa hnb (by omega) (by omega)
      have HMxb := Lib.hid hMxb
      clear hMxb hHxb
      obtain ⟨mr, mm, hmr0, hmr1, hMr, hHr⟩ := mh_Int nr 1 (by omega) (by omega) (by omega)
      have HMr := Lib.hid hMr
      have HHr := Lib.hid hHr
      clear hMr hHr
      go_enter Try.func4, Try.ntmps4
      go_wp2_with fail
      refine (to_Int w.heap.size Aa na ca la _ (by omega) Ha.out hna).mono ?_
      rintro e w1 ⟨Aas, cas, rfl, hras, hc1⟩
      have hs1 := hc1.size
      have HC1 := Lib.hid hc1
      clear hc1
      have HRas_1 := Lib.hid hras
      clear hras
      go_wp2_with fail
      refine (to_Int w.heap.size Ab nb cb lb _ (by omega) (Hb.out.keepC HC1.out (by omega) (by omega)) hnb).mono ?_
      rintro e w2 ⟨Abs, cbs, rfl, hrbs, hc2⟩
      have hs2 := hc2.size
      have HC2 := Lib.hid hc2
      clear hc2
      have HRbs_2 := Lib.hid hrbs
      clear hrbs
      go_wp2_with fail
      refine (HS.out _ _ _ _ _ _ _ (by omega) ((HRas_1.out.keep HC2.out (by omega))).rd (by omega) (HRbs_2.out).rd).mono ?_
      rintro e w3 ⟨Arw, crw, rfl, hrrw, hc3⟩
      have hs3 := hc3.size
      have HC3 := Lib.hid hc3
      clear hc3
      have HRrw_3 := Lib.hid hrrw
      clear hrrw
      go_wp2_with fail
      refine (to_Int w.heap.size Aa na ca la _ (by omega) (((Ha.out.keepC HC1.out (by omega) (by omega)).keepC HC2.out (by omega) (by omega)).keepC HC3.out (by omega) (by omega)) hna).mono ?_
      rintro e w4 ⟨Aax, cax, rfl, hrax, hc4⟩
      have hs4 := hc4.size
      have HC4 := Lib.hid hc4
      clear hc4
      have HRax_4 := Lib.hid hrax
      clear hrax
      go_wp2_with fail
      refine (to_Int w.heap.size Ab nb cb lb _ (by omega) ((((Hb.out.keepC HC1.out (by omega) (by omega)).keepC HC2.out (by omega) (by omega)).keepC HC3.out (by omega) (by omega)).keepC HC4.out (by omega) (by omega)) hnb).mono ?_
      rintro e w5 ⟨Abx, cbx, rfl, hrbx, hc5⟩
      have hs5 := hc5.size
      have HC5 := Lib.hid hc5
      clear hc5
      have HRbx_5 := Lib.hid hrbx
      clear hrbx
      go_wp2_with fail
      refine (HI.out _ _ _ _ _ _ _ (by omega) ((HRax_4.out.keep HC5.out (by omega))).rd (by omega) (HRbx_5.out).rd).mono ?_
      rintro e w6 ⟨Arg, crg, rfl, hrrg, hc6⟩
      have hs6 := hc6.size
      have HC6 := Lib.hid hc6
      clear hc6
      have HRrg_6 := Lib.hid hrrg
      clear hrrg
      go_wp2_with fail
      refine (eq_Int _ _ _ _ nr _ _ lr _ (HRrg_6.out).rd ((((HRrw_3.out.keep HC4.out (by omega)).keep HC5.out (by omega)).keep HC6.out (by omega))).rd (by omega)).mono ?_
      rintro e w7 ⟨rfl, hc7⟩
      have hs7 := hc7.size
      have HC7 := Lib.hid hc7
      clear hc7
      go_wp2_with fail
      refine (to_Int w.heap.size Aa na ca la _ (by omega) (((((((Ha.out.keepC HC1.out (by omega) (by omega)).keepC HC2.out (by omega) (by omega)).keepC HC3.out (by omega) (by omega)).keepC HC4.out (by omega) (by omega)).keepC HC5.out (by omega) (by omega)).keepC HC6.out (by omega) (by omega)).keepC HC7.out (by omega) (by omega)) hna).mono ?_
      rintro e w8 ⟨Aay, cay, rfl, hray, hc8⟩
      have hs8 := hc8.size
      have HC8 := Lib.hid hc8
      clear hc8
      have HRay_8 := Lib.hid hray
      clear hray
      go_wp2_with fail
      refine (eq_Int _ _ _ _ na _ _ la _ (((((HRax_4.out.keep HC5.out (by omega)).keep HC6.out (by omega)).keep HC7.out (by omega)).keep HC8.out (by omega))).rd (HRay_8.out).rd hna).mono ?_
      rintro e w9 ⟨rfl, hc9⟩
      have hs9 := hc9.size
      have HC9 := Lib.hid hc9
      clear hc9
      go_wp2_with fail
      refine (to_Int w.heap.size Ab nb cb lb _ (by omega) (((((((((Hb.out.keepC HC1.out (by omega) (by omega)).keepC HC2.out (by omega) (by omega)).keepC HC3.out (by omega) (by omega)).keepC HC4.out (by omega) (by omega)).keepC HC5.out (by omega) (by omega)).keepC HC6.out (by omega) (by omega)).keepC HC7.out (by omega) (by omega)).keepC HC8.out (by omega) (by omega)).keepC HC9.out (by omega) (by omega)) hnb).mono ?_
      rintro e w10 ⟨Aby, cby, rfl, hrby, hc10⟩
      have hs10 := hc10.size
      have HC10 := Lib.hid hc10
      clear hc10
      have HRby_10 := Lib.hid hrby
      clear hrby
      go_wp2_with fail
      refine (eq_Int _ _ _ _ nb _ _ lb _ ((((((HRbx_5.out.keep HC6.out (by omega)).keep HC7.out (by omega)).keep HC8.out (by omega)).keep HC9.out (by omega)).keep HC10.out (by omega))).rd (HRby_10.out).rd hnb).mono ?_
      rintro e w11 ⟨rfl, hc11⟩
      have hs11 := hc11.size
      have HC11 := Lib.hid hc11
      clear hc11
      go_wp2_with fail
      refine (HMxa.out _ _ _ _ _ _ (((((((HRax_4.out.keep HC5.out (by omega)).keep HC6.out (by omega)).keep HC7.out (by omega)).keep HC8.out (by omega)).keep HC9.out (by omega)).keep HC10.out (by omega)).keep HC11.out (by omega))).mono ?_
      rintro e w12 ⟨rfl, hrax, hc12⟩
      have hs12 := hc12.size
      have HC12 := Lib.hid hc12
      clear hc12
      have HRax_12 := Lib.hid hrax
      clear hrax
      go_wp2_with fail
      refine (HMxb.out _ _ _ _ _ _ (((((((HRbx_5.out.keep HC6.out (by omega)).keep HC7.out (by omega)).keep HC8.out (by omega)).keep HC9.out (by omega)).keep HC10.out (by omega)).keep HC11.out (by omega)).keep HC12.out (by omega))).mono ?_
      rintro e w13 ⟨rfl, hrbx, hc13⟩
      have hs13 := hc13.size
      have HC13 := Lib.hid hc13
      clear hc13
      have HRbx_13 := Lib.hid hrbx
      clear hrbx
      go_wp2_with fail
      refine (eq_Int _ _ _ _ nr _ _ lr _ ((((((((HRrg_6.out.keep HC7.out (by omega)).keep HC8.out (by omega)).keep HC9.out (by omega)).keep HC10.out (by omega)).keep HC11.out (by omega)).keep HC12.out (by omega)).keep HC13.out (by omega))).rd (((((((((((HRrw_3.out.keep HC4.out (by omega)).keep HC5.out (by omega)).keep HC6.out (by omega)).keep HC7.out (by omega)).keep HC8.out (by omega)).keep HC9.out (by omega)).keep HC10.out (by omega)).keep HC11.out (by omega)).keep HC12.out (by omega)).keep HC13.out (by omega))).rd (by omega)).mono ?_
      rintro e w14 ⟨rfl, hc14⟩
      have hs14 := hc14.size
      have HC14 := Lib.hid hc14
      clear hc14
      go_wp2_with fail
      refine (HMr.out _ _ _ _ _ _ ((((((((HRrg_6.out.keep HC7.out (by omega)).keep HC8.out (by omega)).keep HC9.out (by omega)).keep HC10.out (by omega)).keep HC11.out (by omega)).keep HC12.out (by omega)).keep HC13.out (by omega)).keep HC14.out (by omega))).mono ?_
      rintro e w15 ⟨rfl, hrrg, hc15⟩
      have hs15 := hc15.size
      have HC15 := Lib.hid hc15
      clear hc15
      have HRrg_15 := Lib.hid hrrg
      clear hrrg
      go_wp2_with fail
      refine (HHr.out _ _ _ _ (HRrg_15.out).rd).mono ?_
      rintro e w16 ⟨rfl, hc16⟩
      have hs16 := hc16.size
      have HC16 := Lib.hid hc16
      clear hc16
      go_wp2_with fail
      refine (to_Int w.heap.size Aa na ca la _ (by omega) ((((((((((((((((Ha.out.keepC HC1.out (by omega) (by omega)).keepC HC2.out (by omega) (by omega)).keepC HC3.out (by omega) (by omega)).keepC HC4.out (by omega) (by omega)).keepC HC5.out (by omega) (by omega)).keepC HC6.out (by omega) (by omega)).keepC HC7.out (by omega) (by omega)).keepC HC8.out (by omega) (by omega)).keepC HC9.out (by omega) (by omega)).keepC HC10.out (by omega) (by omega)).keepC HC11.out (by omega) (by omega)).keepC HC12.out (by omega) (by omega)).keepC HC13.out (by omega) (by omega)).keepC HC14.out (by omega) (by omega)).keepC HC15.out (by omega) (by omega)).keepC HC16.out (by omega) (by omega)) hna).mono ?_
      rintro e w17 ⟨Aaz, caz, rfl, hraz, hc17⟩
      have hs17 := hc17.size
      have HC17 := Lib.hid hc17
      clear hc17
      have HRaz_17 := Lib.hid hraz
      clear hraz
      go_wp2_with fail
      refine (to_Int w.heap.size Ab nb cb lb _ (by omega) (((((((((((((((((Hb.out.keepC HC1.out (by omega) (by omega)).keepC HC2.out (by omega) (by omega)).keepC HC3.out (by omega) (by omega)).keepC HC4.out (by omega) (by omega)).keepC HC5.out (by omega) (by omega)).keepC HC6.out (by omega) (by omega)).keepC HC7.out (by omega) (by omega)).keepC HC8.out (by omega) (by omega)).keepC HC9.out (by omega) (by omega)).keepC HC10.out (by omega) (by omega)).keepC HC11.out (by omega) (by omega)).keepC HC12.out (by omega) (by omega)).keepC HC13.out (by omega) (by omega)).keepC HC14.out (by omega) (by omega)).keepC HC15.out (by omega) (by omega)).keepC HC16.out (by omega) (by omega)).keepC HC17.out (by omega) (by omega)) hnb).mono ?_
      rintro e w18 ⟨Abz, cbz, rfl, hrbz, hc18⟩
      have hs18 := hc18.size
      have HC18 := Lib.hid hc18
      clear hc18
      have HRbz_18 := Lib.hid hrbz
      clear hrbz
      go_wp2_with fail
      refine (HI.out _ _ _ _ _ _ _ (by omega) ((HRaz_17.out.keep HC18.out (by omega))).rd (by omega) (HRbz_18.out).rd).mono ?_
      rintro e w19 ⟨Arh, crh, rfl, hrrh, hc19⟩
      have hs19 := hc19.size
      have HC19 := Lib.hid hc19
      clear hc19
      have HRrh_19 := Lib.hid hrrh
      clear hrrh
      go_wp2_with fail
      refine (eq_Int _ _ _ _ nr _ _ lr _ (HRrh_19.out).rd (((((((((((((((((HRrw_3.out.keep HC4.out (by omega)).keep HC5.out (by omega)).keep HC6.out (by omega)).keep HC7.out (by omega)).keep HC8.out (by omega)).keep HC9.out (by omega)).keep HC10.out (by omega)).keep HC11.out (by omega)).keep HC12.out (by omega)).keep HC13.out (by omega)).keep HC14.out (by omega)).keep HC15.out (by omega)).keep HC16.out (by omega)).keep HC17.out (by omega)).keep HC18.out (by omega)).keep HC19.out (by omega))).rd (by omega)).mono ?_
      rintro e w20 ⟨rfl, hc20⟩
      have hs20 := hc20.size
      have HC20 := Lib.hid hc20
      clear hc20
      go_wp2_with fail
      refine (HHr.out _ _ _ _ ((((((HRrg_15.out.keep HC16.out (by omega)).keep HC17.out (by omega)).keep HC18.out (by omega)).keep HC19.out (by omega)).keep HC20.out (by omega))).rd).mono ?_
      rintro e w21 ⟨rfl, hc21⟩
      have hs21 := hc21.size
      have HC21 := Lib.hid hc21
      clear hc21
      go_wp2
      go_ret
      exact ⟨rfl, ((((((((((((((((((((((Below.refl _ _).trans (HC1.out.below (by omega) (by omega))).trans (HC2.out.below (by omega) (by omega))).trans (HC3.out.below (by omega) (by omega))).trans (HC4.out.below (by omega) (by omega))).trans (HC5.out.below (by omega) (by omega))).trans (HC6.out.below (by omega) (by omega))).trans (HC7.out.below (by omega) (by omega))).trans (HC8.out.below (by omega) (by omega))).trans (HC9.out.below (by omega) (by omega))).trans (HC10.out.below (by omega) (by omega))).trans (HC11.out.below (by omega) (by omega))).trans (HC12.out.below (by omega) (by omega))).trans (HC13.out.below (by omega) (by omega))).trans (HC14.out.below (by omega) (by omega))).trans (HC15.out.below (by omega) (by omega))).trans (HC16.out.below (by omega) (by omega))).trans (HC17.out.below (by omega) (by omega))).trans (HC18.out.below (by omega) (by omega))).trans (HC19.out.below (by omega) (by omega))).trans (HC20.out.below (by omega) (by omega))).trans (HC21.out.below (by omega) (by omega)))⟩
    · go_enter Try.func4, Try.ntmps4
      go_wp2
      go_ret
      exact ⟨rfl, (Below.refl _ _)⟩
  · go_enter Try.func4, Try.ntmps4
    go_wp2
    go_ret
    exact ⟨rfl, (Below.refl _ _)⟩
end Go.Proofs.Ytjadjkdihjddoaa
