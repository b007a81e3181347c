/- The law WordsOf. -/
import Derived.Test.YtbpeceejboojoaaWordS
import Derived.Test.YtbpeceejboojoaaWordI
namespace Go.Proofs.Ytbpeceejboojoaa
set_option linter.unusedVariables false
set_option linter.unusedSimpArgs false
open Go.RowKit

theorem both_WordsOf (n : Nat) (l : List Prt) (z : Int) (hn : n ≤ 1048576) (hz : prtSz l ≤ 1048576) : ∃ (nr : Nat) (lr : List ByteArray) (r1 : Bool), nr ≤ 1048576 ∧
    (∀ B A c w, B ≤ w.heap.size → Rd w B 4 A n (prts l) → Calls Try.prog 6 #[.slice A n c, .int .i64 z] w (GotR 9 1 w nr (strs lr) r1)) ∧
    (∀ B A c w, B ≤ w.heap.size → Rd w B 4 A n (prts l) → Calls Try.prog 8 #[.slice A n c, .int .i64 z] w (GotR 9 1 w nr (strs lr) r1)) :=
  ⟨(woR l z).length, woR l z, _, woR_len l z, fun B A c w hB h => sWordsOf_any B A n c l z w hB h hn (prtFit_of hz), fun B A c w hB h => iWordsOf_any B A n c l z w hB h hn (prtFit_of hz)⟩
theorem mk_Part (n : Nat) (k : Int) (hn : n ≤ 1048576) (hk0 : 0 ≤ k) (hk1 : k ≤ 1099511627776) : ∃ (m : Int) (ms : List Value), k ≤ m ∧ m ≤ k + 8388608 ∧
    (∀ lo hi A c l w, Row 50 4 lo hi A n c (prts l) w → Calls Try.prog 11 #[.slice A n c, .int .i64 k] w fun e w' => e = .returned (.int .i64 m) ∧ Row 50 4 lo hi A n c ms w' ∧ Ch lo hi w w') := by
  refine ⟨k + 4 * n, prts (marksPart k n), by omega, by omega, fun lo hi A c l w h => ?_⟩
  exact (markPartS_any lo A n c l k w h.1 hn hk0 hk1).mono fun e w' ⟨he, ho, hg⟩ => ⟨he, ⟨ho, Nat.le_trans h.2.1 hg.size, h.2.2⟩, Ch.of_grown hg fun g hg' => ⟨(h.1.lt g hg').1, h.2.2 g hg'⟩⟩
set_option maxRecDepth 100000 in
set_option maxHeartbeats 4000000 in
theorem law_WordsOf (Aa : Option Addr) (na ca : Nat) (la : List Prt) (z : Int) (w : World) (ha : Rd w w.heap.size 4 Aa na (prts la)) (hcapa : na ≤ 9223372036854775807) (hoka : prtSzOk la) :
    Calls Try.prog 3 #[.slice Aa na ca, .int .i64 z] w fun e w' => e = .returned (.bool true) ∧ Below w.heap.size w w' := by
  have Ha := Lib.hid ha
  clear ha
  have HOKa := Lib.hid hoka
  clear hoka
  obtain ⟨za, hza⟩ : ∃ z, z = (prtSz la) := ⟨_, rfl⟩
  have hzna : na ≤ za := by rw [hza]; exact sz_Part_ge Ha.out
  have HZa := Lib.hid hza
  clear hza
  by_cases hqa : za ≤ 1048576
  · skip
    have hna : na ≤ 1048576 := by omega
    obtain ⟨nr, lr, r1, hnr, hS, hI⟩ := both_WordsOf na la z hna (by have := HZa.out; omega)
    have HS := Lib.hid hS
    have HI := Lib.hid hI
    clear hS hI
    obtain ⟨kxa, mxa, hkxa0, hkxa1, hMxa⟩ := mk_Part na 1 hna (by omega) (by omega)
    have HMxa := Lib.hid hMxa
    clear hMxa
    obtain ⟨mr, mm, hmr0, hmr1, hMr, hHr⟩ := mh_String nr 1 (by omega) (by omega) (by omega)
    have HMr := Lib.hid hMr
    have HHr := Lib.hid hHr
    clear hMr hHr
    go_enter Try.func3, Try.ntmps3
    go_wp2_with fail
    refine (sz_Part_ok w.heap.size Aa na ca la za HZa.out _ _ (by first | omega | simp) Ha.out (by omega) (by omega)).mono ?_
    rintro e w1 ⟨rfl, hc1⟩
    have hs1 := hc1.size
    have HC1 := Lib.hid hc1
    clear hc1
    go_wp2_with fail
    refine (to_Part w.heap.size Aa na ca la _ (by omega) (Ha.out.keepC HC1.out (by omega) (by omega)) hna).mono ?_
    rintro e w2 ⟨Aas, cas, rfl, hras, hc2⟩
    have hs2 := hc2.size
    have HC2 := Lib.hid hc2
    clear hc2
    have HRas_2 := Lib.hid hras
    clear hras
    go_wp2_with fail
    refine (HS.out _ _ _ _ (by omega) (HRas_2.out).rd).mono ?_
    rintro e w3 ⟨Arw, crw, rfl, hrrw, hc3⟩
    have hs3 := hc3.size
    have HC3 := Lib.hid hc3
    clear hc3
    have HRrw_3 := Lib.hid hrrw
    clear hrrw
    go_wp2_with fail
    refine (to_Part w.heap.size Aa na ca la _ (by omega) (((Ha.out.keepC HC1.out (by omega) (by omega)).keepC HC2.out (by omega) (by omega)).keepC HC3.out (by omega) (by omega)) hna).mono ?_
    rintro e w4 ⟨Aax, cax, rfl, hrax, hc4⟩
    have hs4 := hc4.size
    have HC4 := Lib.hid hc4
    clear hc4
    have HRax_4 := Lib.hid hrax
    clear hrax
    go_wp2_with fail
    refine (HI.out _ _ _ _ (by omega) (HRax_4.out).rd).mono ?_
    rintro e w5 ⟨Arg, crg, rfl, hrrg, hc5⟩
    have hs5 := hc5.size
    have HC5 := Lib.hid hc5
    clear hc5
    have HRrg_5 := Lib.hid hrrg
    clear hrrg
    go_wp2_with fail
    refine (eq_String _ _ _ _ nr _ _ lr _ (by omega) (by omega) (HRrg_5.out).rd (((HRrw_3.out.keep HC4.out (by omega)).keep HC5.out (by omega))).rd (by omega)).mono ?_
    rintro e w6 ⟨rfl, hc6⟩
    have hs6 := hc6.size
    have HC6 := Lib.hid hc6
    clear hc6
    go_wp2_with fail
    refine (to_Part w.heap.size Aa na ca la _ (by omega) ((((((Ha.out.keepC HC1.out (by omega) (by omega)).keepC HC2.out (by omega) (by omega)).keepC HC3.out (by omega) (by omega)).keepC HC4.out (by omega) (by omega)).keepC HC5.out (by omega) (by omega)).keepC HC6.out (by omega) (by omega)) hna).mono ?_
    rintro e w7 ⟨Aay, cay, rfl, hray, hc7⟩
    have hs7 := hc7.size
    have HC7 := Lib.hid hc7
    clear hc7
    have HRay_7 := Lib.hid hray
    clear hray
    go_wp2_with fail
    refine (eq_Part _ _ _ _ na _ _ la _ (by omega) (by omega) ((((HRax_4.out.keep HC5.out (by omega)).keep HC6.out (by omega)).keep HC7.out (by omega))).rd (HRay_7.out).rd hna).mono ?_
    rintro e w8 ⟨rfl, hc8⟩
    have hs8 := hc8.size
    have HC8 := Lib.hid hc8
    clear hc8
    go_wp2_with fail
    refine (HMxa.out _ _ _ _ _ _ ((((HRax_4.out.keep HC5.out (by omega)).keep HC6.out (by omega)).keep HC7.out (by omega)).keep HC8.out (by omega))).mono ?_
    rintro e w9 ⟨rfl, hrax, hc9⟩
    have hs9 := hc9.size
    have HC9 := Lib.hid hc9
    clear hc9
    have HRax_9 := Lib.hid hrax
    clear hrax
    go_wp2_with fail
    refine (eq_String _ _ _ _ nr _ _ lr _ (by omega) (by omega) (((((HRrg_5.out.keep HC6.out (by omega)).keep HC7.out (by omega)).keep HC8.out (by omega)).keep HC9.out (by omega))).rd (((((((HRrw_3.out.keep HC4.out (by omega)).keep HC5.out (by omega)).keep HC6.out (by omega)).keep HC7.out (by omega)).keep HC8.out (by omega)).keep HC9.out (by omega))).rd (by omega)).mono ?_
    rintro e w10 ⟨rfl, hc10⟩
    have hs10 := hc10.size
    have HC10 := Lib.hid hc10
    clear hc10
    go_wp2_with fail
    refine (HMr.out _ _ _ _ _ _ (((((HRrg_5.out.keep HC6.out (by omega)).keep HC7.out (by omega)).keep HC8.out (by omega)).keep HC9.out (by omega)).keep HC10.out (by omega))).mono ?_
    rintro e w11 ⟨rfl, hrrg, hc11⟩
    have hs11 := hc11.size
    have HC11 := Lib.hid hc11
    clear hc11
    have HRrg_11 := Lib.hid hrrg
    clear hrrg
    go_wp2_with fail
    refine (HHr.out _ _ _ _ (by omega) (HRrg_11.out).rd).mono ?_
    rintro e w12 ⟨rfl, hc12⟩
    have hs12 := hc12.size
    have HC12 := Lib.hid hc12
    clear hc12
    go_wp2_with fail
    refine (to_Part w.heap.size Aa na ca la _ (by omega) ((((((((((((Ha.out.keepC HC1.out (by omega) (by omega)).keepC HC2.out (by omega) (by omega)).keepC HC3.out (by omega) (by omega)).keepC HC4.out (by omega) (by omega)).keepC HC5.out (by omega) (by omega)).keepC HC6.out (by omega) (by omega)).keepC HC7.out (by omega) (by omega)).keepC HC8.out (by omega) (by omega)).keepC HC9.out (by omega) (by omega)).keepC HC10.out (by omega) (by omega)).keepC HC11.out (by omega) (by omega)).keepC HC12.out (by omega) (by omega)) hna).mono ?_
    rintro e w13 ⟨Aaz, caz, rfl, hraz, hc13⟩
    have hs13 := hc13.size
    have HC13 := Lib.hid hc13
    clear hc13
    have HRaz_13 := Lib.hid hraz
    clear hraz
    go_wp2_with fail
    refine (HI.out _ _ _ _ (by omega) (HRaz_13.out).rd).mono ?_
    rintro e w14 ⟨Arh, crh, rfl, hrrh, hc14⟩
    have hs14 := hc14.size
    have HC14 := Lib.hid hc14
    clear hc14
    have HRrh_14 := Lib.hid hrrh
    clear hrrh
    go_wp2_with fail
    refine (eq_String _ _ _ _ nr _ _ lr _ (by omega) (by omega) (HRrh_14.out).rd ((((((((((((HRrw_3.out.keep HC4.out (by omega)).keep HC5.out (by omega)).keep HC6.out (by omega)).keep HC7.out (by omega)).keep HC8.out (by omega)).keep HC9.out (by omega)).keep HC10.out (by omega)).keep HC11.out (by omega)).keep HC12.out (by omega)).keep HC13.out (by omega)).keep HC14.out (by omega))).rd (by omega)).mono ?_
    rintro e w15 ⟨rfl, hc15⟩
    have hs15 := hc15.size
    have HC15 := Lib.hid hc15
    clear hc15
    go_wp2_with fail
    refine (HHr.out _ _ _ _ (by omega) (((((HRrg_11.out.keep HC12.out (by omega)).keep HC13.out (by omega)).keep HC14.out (by omega)).keep HC15.out (by omega))).rd).mono ?_
    rintro e w16 ⟨rfl, hc16⟩
    have hs16 := hc16.size
    have HC16 := Lib.hid hc16
    clear hc16
    go_wp2
    go_ret
    exact ⟨rfl, (((((((((((((((((Below.refl _ _).trans (HC1.out.below (by omega) (by omega))).trans (HC2.out.below (by omega) (by omega))).trans (HC3.out.below (by omega) (by omega))).trans (HC4.out.below (by omega) (by omega))).trans (HC5.out.below (by omega) (by omega))).trans (HC6.out.below (by omega) (by omega))).trans (HC7.out.below (by omega) (by omega))).trans (HC8.out.below (by omega) (by omega))).trans (HC9.out.below (by omega) (by omega))).trans (HC10.out.below (by omega) (by omega))).trans (HC11.out.below (by omega) (by omega))).trans (HC12.out.below (by omega) (by omega))).trans (HC13.out.below (by omega) (by omega))).trans (HC14.out.below (by omega) (by omega))).trans (HC15.out.below (by omega) (by omega))).trans (HC16.out.below (by omega) (by omega)))⟩
  · go_enter Try.func3, Try.ntmps3
    go_wp2_with fail
    refine (sz_Part_no w.heap.size Aa na ca la za HZa.out _ _ (by first | omega | simp) Ha.out (by omega) (by omega) (by omega) (by omega) HOKa.out).mono ?_
    rintro e w1 ⟨rfl, hc1⟩
    have hs1 := hc1.size
    have HC1 := Lib.hid hc1
    clear hc1
    go_wp2
    go_ret
    exact ⟨rfl, ((Below.refl _ _).trans (HC1.out.below (by omega) (by omega)))⟩
end Go.Proofs.Ytbpeceejboojoaa
