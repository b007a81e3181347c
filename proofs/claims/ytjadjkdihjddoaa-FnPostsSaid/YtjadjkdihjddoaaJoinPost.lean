/- The law JoinPosts. -/
import Derived.Test.YtjadjkdihjddoaaJoinI
import Derived.Test.YtjadjkdihjddoaaSetLaw
namespace Go.Proofs.Ytjadjkdihjddoaa
set_option linter.unusedVariables false
set_option linter.unusedSimpArgs false
open Go.RowKit

def okJoin (a b : List Int) : Bool := goodPosts a && goodPosts b && decide ((joinP a b).length ≤ 60)
def joinR (a b : List Int) : List Int := if okJoin a b then joinP a b else []
theorem joinR_no {a b : List Int} (h : okJoin a b = false) : joinR a b = [] := by unfold joinR; rw [h]; rfl
theorem joinR_yes {a b : List Int} (h : okJoin a b = true) : joinR a b = joinP a b := by unfold joinR; rw [h]; rfl
theorem joinR_len (a b : List Int) : (joinR a b).length ≤ 1048576 := by
  cases h : okJoin a b
  · rw [joinR_no h]; exact Nat.zero_le _
  · rw [joinR_yes h]
    unfold okJoin at h
    simp only [Bool.and_eq_true, decide_eq_true_eq] at h
    omega
theorem good_join {a b : List Int} (ha : goodPosts a = true) (hb : goodPosts b = true) : goodPosts (joinP a b) = decide ((joinP a b).length ≤ 60) := by
  obtain ⟨a1, a2, a3⟩ := goodPosts_iff.1 ha
  obtain ⟨b1, b2, b3⟩ := goodPosts_iff.1 hb
  rw [Bool.eq_iff_iff, goodPosts_iff, decide_eq_true_eq]
  refine ⟨fun h => h.2.2, fun h => ⟨srt_joinP a1, fun x hx => ?_, h⟩⟩
  rcases mem_joinP.1 hx with h | h
  · exact a2 x h
  · exact b2 x h
set_option maxRecDepth 100000 in
set_option maxHeartbeats 2000000 in
theorem sJoinPosts_any (B : Nat) (A A' : Option Addr) (n c n' c' : Nat) (za zb : List Int) (w : World) (hBw : B ≤ w.heap.size) (h : Rd w B 1 A n (ints za)) (hn : n ≤ 1048576) (h' : Rd w B 1 A' n' (ints zb)) (hn' : n' ≤ 1048576) :
    Calls Try.prog 37 #[.slice A n c, .slice A' n' c'] w (GotR 3 1 w (joinR za zb).length (ints (joinR za zb)) (okJoin za zb)) := by
  have C1 := Lib.hid (l4Both_any B A A' n c n' c' za zb w h hn h' hn')
  cases hg : (goodPosts za && goodPosts zb) with
  | false =>
    have hk : okJoin za zb = false := by unfold okJoin; rw [hg]; rfl
    rw [joinR_no hk, hk]
    rw [hg] at C1
    clear hg h h' hk
    go_enter Try.func37, Try.ntmps37
    go_wp2_with fail
    refine C1.out.mono ?_
    rintro e w' ⟨rfl, rfl⟩
    go_wp2
    go_ret2
    exact GotR.no rfl
  | true =>
    rw [hg] at C1
    simp only [Bool.and_eq_true] at hg
    have hla := (goodPosts_iff.1 hg.1).2.2
    have hlb := (goodPosts_iff.1 hg.2).2.2
    have ha := h.int_len
    have hb := h'.int_len
    have C2 := Lib.hid (l4Join_any B A A' n c n' c' za zb w hBw h (by omega) h' (by omega))
    have HK := Lib.hid (show okJoin za zb = decide ((joinP za zb).length ≤ 60) by unfold okJoin; rw [hg.1, hg.2]; rfl)
    clear hg h h' hla hlb ha hb
    go_enter Try.func37, Try.ntmps37
    go_wp2_with fail
    refine C1.out.mono ?_
    rintro e w' ⟨rfl, rfl⟩
    go_wp2_with fail
    refine C2.out.mono ?_
    rintro e w1 ⟨A2, c2, rfl, ho, hb⟩
    have HO := Lib.hid ho
    have HB := Lib.hid hb
    clear ho hb
    by_cases hl : (joinP za zb).length ≤ 60
    · have HK2 := Lib.hid (HK.out.trans (decide_eq_true hl))
      go_wp2
      go_ret2
      rw [joinR_yes HK2.out, HK2.out]
      exact GotR.of_own HO.out HB.out
    · have HK2 := Lib.hid (HK.out.trans (decide_eq_false hl))
      go_wp2
      go_ret2
      rw [joinR_no HK2.out, HK2.out]
      exact GotR.no_ HB.out
set_option maxRecDepth 100000 in
set_option maxHeartbeats 2000000 in
theorem iJoinPosts_any (B : Nat) (A A' : Option Addr) (n c n' c' : Nat) (za zb : List Int) (w : World) (hBw : B ≤ w.heap.size) (h : Rd w B 1 A n (ints za)) (hn : n ≤ 1048576) (h' : Rd w B 1 A' n' (ints zb)) (hn' : n' ≤ 1048576) :
    Calls Try.prog 38 #[.slice A n c, .slice A' n' c'] w (GotR 3 1 w (joinR za zb).length (ints (joinR za zb)) (okJoin za zb)) := by
  have C1 := Lib.hid (arePosts_any B A n c za w h hn)
  have C2 := Lib.hid (arePosts_any B A' n' c' zb w h' hn')
  cases hg1 : goodPosts za with
  | false =>
    have hk : okJoin za zb = false := by unfold okJoin; rw [hg1]; rfl
    rw [joinR_no hk, hk]
    rw [hg1] at C1
    clear hg1 h h' hk
    go_enter Try.func38, Try.ntmps38
    go_wp2_with fail
    refine C1.out.mono ?_
    rintro e w' ⟨rfl, rfl⟩
    go_wp2
    go_ret2
    exact GotR.no rfl
  | true =>
    rw [hg1] at C1
    cases hg2 : goodPosts zb with
    | false =>
      have hk : okJoin za zb = false := by unfold okJoin; rw [hg1, hg2]; rfl
      rw [joinR_no hk, hk]
      rw [hg2] at C2
      clear hg1 hg2 h h' hk
      go_enter Try.func38, Try.ntmps38
      go_wp2_with fail
      refine C1.out.mono ?_
      rintro e w' ⟨rfl, rfl⟩
      go_wp2_with fail
      refine C2.out.mono ?_
      rintro e w' ⟨rfl, rfl⟩
      go_wp2
      go_ret2
      exact GotR.no rfl
    | true =>
      rw [hg2] at C2
      have hla := goodPosts_iff.1 hg1
      have hlb := (goodPosts_iff.1 hg2).2.2
      have hla2 := hla.2.2
      have ha := h.int_len
      have hb := h'.int_len
      have C3 := Lib.hid (join_any B A A' n c n' c' za zb w hBw h (by omega) h' (by omega) hla.1)
      have HK := Lib.hid (show okJoin za zb = decide ((joinP za zb).length ≤ 60) by unfold okJoin; rw [hg1, hg2]; rfl)
      have HG := Lib.hid (good_join hg1 hg2)
      have hjl : (joinP za zb).length ≤ 1000 := by have := joinP_len zb za; omega
      have HJL := Lib.hid hjl
      clear hg1 hg2 h h' hla hlb hla2 ha hb hjl
      go_enter Try.func38, Try.ntmps38
      go_wp2_with fail
      refine C1.out.mono ?_
      rintro e w' ⟨rfl, rfl⟩
      go_wp2_with fail
      refine C2.out.mono ?_
      rintro e w' ⟨rfl, rfl⟩
      go_wp2_with fail
      refine C3.out.mono ?_
      rintro e w1 ⟨A2, c2, rfl, ho, hb⟩
      have HO := Lib.hid ho
      have HB := Lib.hid hb
      have C4 := Lib.hid (arePosts_any w1.heap.size A2 _ c2 (joinP za zb) w1 (Rd.of_own ho) (by have := HJL.out; omega))
      rw [HG.out] at C4
      clear ho hb
      by_cases hl : (joinP za zb).length ≤ 60
      · have HK2 := Lib.hid (HK.out.trans (decide_eq_true hl))
        rw [decide_eq_true hl] at C4
        go_wp2_with fail
        refine C4.out.mono ?_
        rintro e w' ⟨rfl, rfl⟩
        go_wp2
        go_ret2
        rw [joinR_yes HK2.out, HK2.out]
        exact GotR.of_own HO.out HB.out
      · have HK2 := Lib.hid (HK.out.trans (decide_eq_false hl))
        rw [decide_eq_false hl] at C4
        go_wp2_with fail
        refine C4.out.mono ?_
        rintro e w' ⟨rfl, rfl⟩
        go_wp2
        go_ret2
        rw [joinR_no HK2.out, HK2.out]
        exact GotR.no_ HB.out
theorem both_JoinPosts (n : Nat) (za : List Int) (n' : Nat) (zb : List Int) (hn : n ≤ 1048576) (hn' : n' ≤ 1048576) : ∃ (nr : Nat) (lr : List Int) (r1 : Bool), nr ≤ 1048576 ∧
    (∀ B A c B' A' c' w, B ≤ w.heap.size → Rd w B 1 A n (ints za) → B' ≤ w.heap.size → Rd w B' 1 A' n' (ints zb) → Calls Try.prog 37 #[.slice A n c, .slice A' n' c'] w (GotR 3 1 w nr (ints lr) r1)) ∧
    (∀ B A c B' A' c' w, B ≤ w.heap.size → Rd w B 1 A n (ints za) → B' ≤ w.heap.size → Rd w B' 1 A' n' (ints zb) → Calls Try.prog 38 #[.slice A n c, .slice A' n' c'] w (GotR 3 1 w nr (ints lr) r1)) :=
  ⟨(joinR za zb).length, joinR za zb, _, joinR_len za zb, fun B A c B' A' c' w hB h hB' h' => sJoinPosts_any w.heap.size A A' n c n' c' za zb w (Nat.le_refl _) (h.more hB) hn (h'.more hB') hn',
    fun B A c B' A' c' w hB h hB' h' => iJoinPosts_any w.heap.size A A' n c n' c' za zb w (Nat.le_refl _) (h.more hB) hn (h'.more hB') hn'⟩
set_option maxRecDepth 100000 in
set_option maxHeartbeats 4000000 in
theorem law_JoinPosts (Aa : Option Addr) (na ca : Nat) (la : List Int) (Ab : Option Addr) (nb cb : Nat) (lb : List Int) (w : World) (ha : Rd w w.heap.size 1 Aa na (ints la)) (hcapa : na ≤ 9223372036854775807) (hb : Rd w w.heap.size 1 Ab nb (ints lb)) (hcapb : nb ≤ 9223372036854775807) :
    Calls Try.prog 8 #[.slice Aa na ca, .slice Ab nb cb] w fun e w' => e = .returned (.bool true) ∧ Below w.heap.size w w' := by
  have Ha := Lib.hid ha
  clear ha
  have Hb := Lib.hid hb
  clear hb
  by_cases hna : na ≤ 1048576
  · skip
    by_cases hnb : nb ≤ 1048576
    · skip
      obtain ⟨nr, lr, r1, hnr, hS, hI⟩ := both_JoinPosts na la nb lb hna hnb
      have HS := Lib.hid hS
      have HI := Lib.hid hI
      clear hS hI
      obtain ⟨kxa, mxa, hkxa0, hkxa1, hMxa, hHxa⟩ := mh_Int na 1 hna (by omega) (by omega)
      have HMxa := Lib.hid hMxa
      clear hMxa hHxa
      obtain ⟨kxb, mxb, hkxb0, hkxb1, hMxb, hHxb⟩ := mh_Int nb kxa hnb (by omega) (by omega)
      have HMxb := Lib.hid hMxb
      clear hMxb hHxb
      obtain ⟨mr, mm, hmr0, hmr1, hMr, hHr⟩ := mh_Int nr 1 (by omega) (by omega) (by omega)
      have HMr := Lib.hid hMr
      have HHr := Lib.hid hHr
      clear hMr hHr
      go_enter Try.func8, Try.ntmps8
      go_wp2_with fail
      refine (to_Int w.heap.size Aa na ca la _ (by omega) Ha.out hna).mono ?_
      rintro e w1 ⟨Aas, cas, rfl, hras, hc1⟩
      have hs1 := hc1.size
      have HC1 := Lib.hid hc1
      clear hc1
      have HRas_1 := Lib.hid hras
      clear hras
      go_wp2_with fail
      refine (to_Int w.heap.size Ab nb cb lb _ (by omega) (Hb.out.keepC HC1.out (by omega) (by omega)) hnb).mono ?_
      rintro e w2 ⟨Abs, cbs, rfl, hrbs, hc2⟩
      have hs2 := hc2.size
      have HC2 := Lib.hid hc2
      clear hc2
      have HRbs_2 := Lib.hid hrbs
      clear hrbs
      go_wp2_with fail
      refine (HS.out _ _ _ _ _ _ _ (by omega) ((HRas_1.out.keep HC2.out (by omega))).rd (by omega) (HRbs_2.out).rd).mono ?_
      rintro e w3 ⟨Arw, crw, rfl, hrrw, hc3⟩
      have hs3 := hc3.size
      have HC3 := Lib.hid hc3
      clear hc3
      have HRrw_3 := Lib.hid hrrw
      clear hrrw
      go_wp2_with fail
      refine (to_Int w.heap.size Aa na ca la _ (by omega) (((Ha.out.keepC HC1.out (by omega) (by omega)).keepC HC2.out (by omega) (by omega)).keepC HC3.out (by omega) (by omega)) hna).mono ?_
      rintro e w4 ⟨Aax, cax, rfl, hrax, hc4⟩
      have hs4 := hc4.size
      have HC4 := Lib.hid hc4
      clear hc4
      have HRax_4 := Lib.hid hrax
      clear hrax
      go_wp2_with fail
      refine (to_Int w.heap.size Ab nb cb lb _ (by omega) ((((Hb.out.keepC HC1.out (by omega) (by omega)).keepC HC2.out (by omega) (by omega)).keepC HC3.out (by omega) (by omega)).keepC HC4.out (by omega) (by omega)) hnb).mono ?_
      rintro e w5 ⟨Abx, cbx, rfl, hrbx, hc5⟩
      have hs5 := hc5.size
      have HC5 := Lib.hid hc5
      clear hc5
      have HRbx_5 := Lib.hid hrbx
      clear hrbx
      go_wp2_with fail
      refine (HI.out _ _ _ _ _ _ _ (by omega) ((HRax_4.out.keep HC5.out (by omega))).rd (by omega) (HRbx_5.out).rd).mono ?_
      rintro e w6 ⟨Arg, crg, rfl, hrrg, hc6⟩
      have hs6 := hc6.size
      have HC6 := Lib.hid hc6
      clear hc6
      have HRrg_6 := Lib.hid hrrg
      clear hrrg
      go_wp2_with fail
      refine (eq_Int _ _ _ _ nr _ _ lr _ (HRrg_6.out).rd ((((HRrw_3.out.keep HC4.out (by omega)).keep HC5.out (by omega)).keep HC6.out (by omega))).rd (by omega)).mono ?_
      rintro e w7 ⟨rfl, hc7⟩
      have hs7 := hc7.size
      have HC7 := Lib.hid hc7
      clear hc7
      go_wp2_with fail
      refine (to_Int w.heap.size Aa na ca la _ (by omega) (((((((Ha.out.keepC HC1.out (by omega) (by omega)).keepC HC2.out (by omega) (by omega)).keepC HC3.out (by omega) (by omega)).keepC HC4.out (by omega) (by omega)).keepC HC5.out (by omega) (by omega)).keepC HC6.out (by omega) (by omega)).keepC HC7.out (by omega) (by omega)) hna).mono ?_
      rintro e w8 ⟨Aay, cay, rfl, hray, hc8⟩
      have hs8 := hc8.size
      have HC8 := Lib.hid hc8
      clear hc8
      have HRay_8 := Lib.hid hray
      clear hray
      go_wp2_with fail
      refine (eq_Int _ _ _ _ na _ _ la _ (((((HRax_4.out.keep HC5.out (by omega)).keep HC6.out (by omega)).keep HC7.out (by omega)).keep HC8.out (by omega))).rd (HRay_8.out).rd hna).mono ?_
      rintro e w9 ⟨rfl, hc9⟩
      have hs9 := hc9.size
      have HC9 := Lib.hid hc9
      clear hc9
      go_wp2_with fail
      refine (to_Int w.heap.size Ab nb cb lb _ (by omega) (((((((((Hb.out.keepC HC1.out (by omega) (by omega)).keepC HC2.out (by omega) (by omega)).keepC HC3.out (by omega) (by omega)).keepC HC4.out (by omega) (by omega)).keepC HC5.out (by omega) (by omega)).keepC HC6.out (by omega) (by omega)).keepC HC7.out (by omega) (by omega)).keepC HC8.out (by omega) (by omega)).keepC HC9.out (by omega) (by omega)) hnb).mono ?_
      rintro e w10 ⟨Aby, cby, rfl, hrby, hc10⟩
      have hs10 := hc10.size
      have HC10 := Lib.hid hc10
      clear hc10
      have HRby_10 := Lib.hid hrby
      clear hrby
      go_wp2_with fail
      refine (eq_Int _ _ _ _ nb _ _ lb _ ((((((HRbx_5.out.keep HC6.out (by omega)).keep HC7.out (by omega)).keep HC8.out (by omega)).keep HC9.out (by omega)).keep HC10.out (by omega))).rd (HRby_10.out).rd hnb).mono ?_
      rintro e w11 ⟨rfl, hc11⟩
      have hs11 := hc11.size
      have HC11 := Lib.hid hc11
      clear hc11
      go_wp2_with fail
      refine (HMxa.out _ _ _ _ _ _ (((((((HRax_4.out.keep HC5.out (by omega)).keep HC6.out (by omega)).keep HC7.out (by omega)).keep HC8.out (by omega)).keep HC9.out (by omega)).keep HC10.out (by omega)).keep HC11.out (by omega))).mono ?_
      rintro e w12 ⟨rfl, hrax, hc12⟩
      have hs12 := hc12.size
      have HC12 := Lib.hid hc12
      clear hc12
      have HRax_12 := Lib.hid hrax
      clear hrax
      go_wp2_with fail
      refine (HMxb.out _ _ _ _ _ _ (((((((HRbx_5.out.keep HC6.out (by omega)).keep HC7.out (by omega)).keep HC8.out (by omega)).keep HC9.out (by omega)).keep HC10.out (by omega)).keep HC11.out (by omega)).keep HC12.out (by omega))).mono ?_
      rintro e w13 ⟨rfl, hrbx, hc13⟩
      have hs13 := hc13.size
      have HC13 := Lib.hid hc13
      clear hc13
      have HRbx_13 := Lib.hid hrbx
      clear hrbx
      go_wp2_with fail
      refine (eq_Int _ _ _ _ nr _ _ lr _ ((((((((HRrg_6.out.keep HC7.out (by omega)).keep HC8.out (by omega)).keep HC9.out (by omega)).keep HC10.out (by omega)).keep HC11.out (by omega)).keep HC12.out (by omega)).keep HC13.out (by omega))).rd (((((((((((HRrw_3.out.keep HC4.out (by omega)).keep HC5.out (by omega)).keep HC6.out (by omega)).keep HC7.out (by omega)).keep HC8.out (by omega)).keep HC9.out (by omega)).keep HC10.out (by omega)).keep HC11.out (by omega)).keep HC12.out (by omega)).keep HC13.out (by omega))).rd (by omega)).mono ?_
      rintro e w14 ⟨rfl, hc14⟩
      have hs14 := hc14.size
      have HC14 := Lib.hid hc14
      clear hc14
      go_wp2_with fail
      refine (HMr.out _ _ _ _ _ _ ((((((((HRrg_6.out.keep HC7.out (by omega)).keep HC8.out (by omega)).keep HC9.out (by omega)).keep HC10.out (by omega)).keep HC11.out (by omega)).keep HC12.out (by omega)).keep HC13.out (by omega)).keep HC14.out (by omega))).mono ?_
      rintro e w15 ⟨rfl, hrrg, hc15⟩
      have hs15 := hc15.size
      have HC15 := Lib.hid hc15
      clear hc15
      have HRrg_15 := Lib.hid hrrg
      clear hrrg
      go_wp2_with fail
      refine (HHr.out _ _ _ _ (HRrg_15.out).rd).mono ?_
      rintro e w16 ⟨rfl, hc16⟩
      have hs16 := hc16.size
      have HC16 := Lib.hid hc16
      clear hc16
      go_wp2_with fail
      refine (to_Int w.heap.size Aa na ca la _ (by omega) ((((((((((((((((Ha.out.keepC HC1.out (by omega) (by omega)).keepC HC2.out (by omega) (by omega)).keepC HC3.out (by omega) (by omega)).keepC HC4.out (by omega) (by omega)).keepC HC5.out (by omega) (by omega)).keepC HC6.out (by omega) (by omega)).keepC HC7.out (by omega) (by omega)).keepC HC8.out (by omega) (by omega)).keepC HC9.out (by omega) (by omega)).keepC HC10.out (by omega) (by omega)).keepC HC11.out (by omega) (by omega)).keepC HC12.out (by omega) (by omega)).keepC HC13.out (by omega) (by omega)).keepC HC14.out (by omega) (by omega)).keepC HC15.out (by omega) (by omega)).keepC HC16.out (by omega) (by omega)) hna).mono ?_
      rintro e w17 ⟨Aaz, caz, rfl, hraz, hc17⟩
      have hs17 := hc17.size
      have HC17 := Lib.hid hc17
      clear hc17
      have HRaz_17 := Lib.hid hraz
      clear hraz
      go_wp2_with fail
      refine (to_Int w.heap.size Ab nb cb lb _ (by omega) (((((((((((((((((Hb.out.keepC HC1.out (by omega) (by omega)).keepC HC2.out (by omega) (by omega)).keepC HC3.out (by omega) (by omega)).keepC HC4.out (by omega) (by omega)).keepC HC5.out (by omega) (by omega)).keepC HC6.out (by omega) (by omega)).keepC HC7.out (by omega) (by omega)).keepC HC8.out (by omega) (by omega)).keepC HC9.out (by omega) (by omega)).keepC HC10.out (by omega) (by omega)).keepC HC11.out (by omega) (by omega)).keepC HC12.out (by omega) (by omega)).keepC HC13.out (by omega) (by omega)).keepC HC14.out (by omega) (by omega)).keepC HC15.out (by omega) (by omega)).keepC HC16.out (by omega) (by omega)).keepC HC17.out (by omega) (by omega)) hnb).mono ?_
      rintro e w18 ⟨Abz, cbz, rfl, hrbz, hc18⟩
      have hs18 := hc18.size
      have HC18 := Lib.hid hc18
      clear hc18
      have HRbz_18 := Lib.hid hrbz
      clear hrbz
      go_wp2_with fail
      refine (HI.out _ _ _ _ _ _ _ (by omega) ((HRaz_17.out.keep HC18.out (by omega))).rd (by omega) (HRbz_18.out).rd).mono ?_
      rintro e w19 ⟨Arh, crh, rfl, hrrh, hc19⟩
      have hs19 := hc19.size
      have HC19 := Lib.hid hc19
      clear hc19
      have HRrh_19 := Lib.hid hrrh
      clear hrrh
      go_wp2_with fail
      refine (eq_Int _ _ _ _ nr _ _ lr _ (HRrh_19.out).rd (((((((((((((((((HRrw_3.out.keep HC4.out (by omega)).keep HC5.out (by omega)).keep HC6.out (by omega)).keep HC7.out (by omega)).keep HC8.out (by omega)).keep HC9.out (by omega)).keep HC10.out (by omega)).keep HC11.out (by omega)).keep HC12.out (by omega)).keep HC13.out (by omega)).keep HC14.out (by omega)).keep HC15.out (by omega)).keep HC16.out (by omega)).keep HC17.out (by omega)).keep HC18.out (by omega)).keep HC19.out (by omega))).rd (by omega)).mono ?_
      rintro e w20 ⟨rfl, hc20⟩
      have hs20 := hc20.size
      have HC20 := Lib.hid hc20
      clear hc20
      go_wp2_with fail
      refine (HHr.out _ _ _ _ ((((((HRrg_15.out.keep HC16.out (by omega)).keep HC17.out (by omega)).keep HC18.out (by omega)).keep HC19.out (by omega)).keep HC20.out (by omega))).rd).mono ?_
      rintro e w21 ⟨rfl, hc21⟩
      have hs21 := hc21.size
      have HC21 := Lib.hid hc21
      clear hc21
      go_wp2
      go_ret
      exact ⟨rfl, ((((((((((((((((((((((Below.refl _ _).trans (HC1.out.below (by omega) (by omega))).trans (HC2.out.below (by omega) (by omega))).trans (HC3.out.below (by omega) (by omega))).trans (HC4.out.below (by omega) (by omega))).trans (HC5.out.below (by omega) (by omega))).trans (HC6.out.below (by omega) (by omega))).trans (HC7.out.below (by omega) (by omega))).trans (HC8.out.below (by omega) (by omega))).trans (HC9.out.below (by omega) (by omega))).trans (HC10.out.below (by omega) (by omega))).trans (HC11.out.below (by omega) (by omega))).trans (HC12.out.below (by omega) (by omega))).trans (HC13.out.below (by omega) (by omega))).trans (HC14.out.below (by omega) (by omega))).trans (HC15.out.below (by omega) (by omega))).trans (HC16.out.below (by omega) (by omega))).trans (HC17.out.below (by omega) (by omega))).trans (HC18.out.below (by omega) (by omega))).trans (HC19.out.below (by omega) (by omega))).trans (HC20.out.below (by omega) (by omega))).trans (HC21.out.below (by omega) (by omega)))⟩
    · go_enter Try.func8, Try.ntmps8
      go_wp2
      go_ret
      exact ⟨rfl, (Below.refl _ _)⟩
  · go_enter Try.func8, Try.ntmps8
    go_wp2
    go_ret
    exact ⟨rfl, (Below.refl _ _)⟩
end Go.Proofs.Ytjadjkdihjddoaa
