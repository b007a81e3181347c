/- The law EvalQuery. -/
import Derived.Test.YtpdclppieicaeaaEvalI
import Derived.Test.YtpdclppieicaeaaIsQry
import Derived.Test.YtpdclppieicaeaaRowInts
import Derived.Test.YtpdclppieicaeaaMark
import Derived.Deep.RegionHeld3
namespace Go.Proofs.Ytpdclppieicaeaa
set_option linter.unusedVariables false
set_option linter.unusedSimpArgs false
open Go.RowKit
def qryFitE (l : List Qry) : Prop := ∀ p ∈ l, p.name.size ≤ 1048576 ∧ p.value.size ≤ 1048576
theorem qryFitE_of {l : List Qry} (h : qrySz l ≤ 1048576) : ∀ p ∈ l, p.name.size ≤ 1048576 ∧ p.value.size ≤ 1048576 := fun p hp => by
  have h1 := sum_mem_le (l.map qrySz1) (qrySz1 p) (List.mem_map_of_mem hp)
  unfold qrySz at h
  have h2 : qrySz1 p = p.name.size + p.value.size := rfl
  omega
def evalR (ls : List (List Lab)) (q : List Qry) : List Int := if goodSer ls && goodQry q then evalL ls q else []
theorem evalR_len (ls : List (List Lab)) (q : List Qry) : (evalR ls q).length ≤ 1048576 := by
  unfold evalR
  split
  · rename_i h
    rw [Bool.and_eq_true] at h
    have := goodSer_len h.1
    have := (sel_eval ls q).len
    omega
  · simp
set_option maxRecDepth 100000 in
set_option maxHeartbeats 4000000 in
theorem sEvalQuery_any (B : Nat) (A : Option Addr) (n c : Nat) (ls : List (List Lab)) (B' : Nat) (A' : Option Addr) (n' c' : Nat) (q : List Qry) (w : World) (hBw : B ≤ w.heap.size) (h : RdSS w B A n ls) (hBw' : B' ≤ w.heap.size) (h' : Rd w B' 5 A' n' (qrys q)) (hn : n ≤ 1048576) (hf : serFit ls) (hn' : n' ≤ 1048576) (hf' : qryFitE q) :
    Calls Try.prog 18 #[.slice A n c, .slice A' n' c'] w (GotR 3 1 w (evalR ls q).length (ints (evalR ls q)) (goodSer ls && goodQry q)) := by
  have HC := l4Series_any B A n c ls w hBw h hn hf
  obtain ⟨k, hk⟩ : ∃ k, goodSer ls = k := ⟨_, rfl⟩
  rw [hk] at HC
  have HC1 := Lib.hid HC
  have HK := Lib.hid hk
  obtain ⟨r, hr⟩ : ∃ r, goodQry q = r := ⟨_, rfl⟩
  have HR := Lib.hid hr
  have H := Lib.hid (h.more hBw)
  have H' := Lib.hid (h'.more hBw')
  have HF := Lib.hid hf'
  have HNO := Lib.hid (show ¬ (k = true ∧ r = true) → evalR ls q = [] ∧ (goodSer ls && goodQry q) = false from fun hh => by
    have e : (goodSer ls && goodQry q) = false := by rw [hk, hr]; cases k <;> cases r <;> simp_all
    exact ⟨by unfold evalR; rw [e]; rfl, e⟩)
  clear h h' HC hk hr hf hf'
  cases k with
  | false =>
    go_enter Try.func18, Try.ntmps18
    go_wp2_with fail
    refine HC1.out.mono ?_
    rintro e w1 ⟨rfl, hb1⟩
    have HB1 := Lib.hid hb1
    clear hb1
    go_wp2
    go_ret2
    obtain ⟨e1, e2⟩ := HNO.out (by simp)
    rw [e1, e2]
    exact GotR.no_ HB1.out
  | true =>
    cases r with
    | false =>
      go_enter Try.func18, Try.ntmps18
      go_wp2_with fail
      refine HC1.out.mono ?_
      rintro e w1 ⟨rfl, hb1⟩
      have HB1 := Lib.hid hb1
      have hs1 := hb1.size
      have CQ := sGoodQuery_any w.heap.size A' n' c' q w1 hs1 (H'.out.below hb1) hn' HF.out
      rw [HR.out] at CQ
      have HCQ := Lib.hid CQ
      clear hb1 CQ
      go_wp2_with (go_at_call 26; refine HCQ.out.mono ?_; rintro e w2 ⟨rfl, hb2⟩; have HB2 := Lib.hid (HB1.out.trans (hb2.mono hs1)); clear hb2)
      go_ret2
      obtain ⟨e1, e2⟩ := HNO.out (by simp)
      rw [e1, e2]
      exact GotR.no_ HB2.out
    | true =>
      have HOK := Lib.hid (show evalR ls q = evalL ls q ∧ (goodSer ls && goodQry q) = true from by
        have e : (goodSer ls && goodQry q) = true := by rw [HK.out, HR.out]; rfl
        exact ⟨by unfold evalR; rw [e]; rfl, e⟩)
      go_enter Try.func18, Try.ntmps18
      go_wp2_with fail
      refine HC1.out.mono ?_
      rintro e w1 ⟨rfl, hb1⟩
      have HB1 := Lib.hid hb1
      have hs1 := hb1.size
      have CQ := sGoodQuery_any w.heap.size A' n' c' q w1 hs1 (H'.out.below hb1) hn' HF.out
      rw [HR.out] at CQ
      have HCQ := Lib.hid CQ
      clear hb1 CQ
      go_wp2_with (go_at_call 26; refine HCQ.out.mono ?_; rintro e w2 ⟨rfl, hb2⟩; have HB2 := Lib.hid (HB1.out.trans (hb2.mono hs1)); clear hb2)
      refine (l4Eval_any w.heap.size A n c ls A' n' c' q w2 HB2.out.size (H.out.below HB2.out) HK.out (H'.out.below HB2.out) HR.out).mono ?_
      rintro e w3 ⟨A3, c3, rfl, ho, hb⟩
      have HO := Lib.hid (own_mono ho HB2.out.size)
      have HB3 := Lib.hid (HB2.out.trans (hb.mono HB2.out.size))
      clear ho hb
      go_wp2
      go_ret2
      rw [HOK.out.1, HOK.out.2]
      exact GotR.own_ HO.out HB3.out
set_option maxRecDepth 100000 in
set_option maxHeartbeats 4000000 in
theorem iEvalQuery_any (B : Nat) (A : Option Addr) (n c : Nat) (ls : List (List Lab)) (B' : Nat) (A' : Option Addr) (n' c' : Nat) (q : List Qry) (w : World) (hBw : B ≤ w.heap.size) (h : RdSS w B A n ls) (hBw' : B' ≤ w.heap.size) (h' : Rd w B' 5 A' n' (qrys q)) (hn : n ≤ 1048576) (hf : serFit ls) (hn' : n' ≤ 1048576) (hf' : qryFitE q) :
    Calls Try.prog 20 #[.slice A n c, .slice A' n' c'] w (GotR 3 1 w (evalR ls q).length (ints (evalR ls q)) (goodSer ls && goodQry q)) := by
  have HC := areSeries_any B A n c ls w hBw h hn hf
  obtain ⟨k, hk⟩ : ∃ k, goodSer ls = k := ⟨_, rfl⟩
  rw [hk] at HC
  have HC1 := Lib.hid HC
  have HK := Lib.hid hk
  obtain ⟨r, hr⟩ : ∃ r, goodQry q = r := ⟨_, rfl⟩
  have HR := Lib.hid hr
  have H := Lib.hid (h.more hBw)
  have H' := Lib.hid (h'.more hBw')
  have HF := Lib.hid hf'
  have HNO := Lib.hid (show ¬ (k = true ∧ r = true) → evalR ls q = [] ∧ (goodSer ls && goodQry q) = false from fun hh => by
    have e : (goodSer ls && goodQry q) = false := by rw [hk, hr]; cases k <;> cases r <;> simp_all
    exact ⟨by unfold evalR; rw [e]; rfl, e⟩)
  clear h h' HC hk hr hf hf'
  cases k with
  | false =>
    go_enter Try.func20, Try.ntmps20
    go_wp2_with fail
    refine HC1.out.mono ?_
    rintro e w1 ⟨rfl, hb1⟩
    have HB1 := Lib.hid hb1
    clear hb1
    go_wp2
    go_ret2
    obtain ⟨e1, e2⟩ := HNO.out (by simp)
    rw [e1, e2]
    exact GotR.no_ HB1.out
  | true =>
    cases r with
    | false =>
      go_enter Try.func20, Try.ntmps20
      go_wp2_with fail
      refine HC1.out.mono ?_
      rintro e w1 ⟨rfl, hb1⟩
      have HB1 := Lib.hid hb1
      have hs1 := hb1.size
      have CQ := isQuery_any w.heap.size A' n' c' q w1 hs1 (H'.out.below hb1) hn' HF.out
      rw [HR.out] at CQ
      have HCQ := Lib.hid CQ
      clear hb1 CQ
      go_wp2_with (go_at_call 47; refine HCQ.out.mono ?_; rintro e w2 ⟨rfl, hb2⟩; have HB2 := Lib.hid (HB1.out.trans (hb2.mono hs1)); clear hb2)
      go_ret2
      obtain ⟨e1, e2⟩ := HNO.out (by simp)
      rw [e1, e2]
      exact GotR.no_ HB2.out
    | true =>
      have HOK := Lib.hid (show evalR ls q = evalL ls q ∧ (goodSer ls && goodQry q) = true from by
        have e : (goodSer ls && goodQry q) = true := by rw [HK.out, HR.out]; rfl
        exact ⟨by unfold evalR; rw [e]; rfl, e⟩)
      go_enter Try.func20, Try.ntmps20
      go_wp2_with fail
      refine HC1.out.mono ?_
      rintro e w1 ⟨rfl, hb1⟩
      have HB1 := Lib.hid hb1
      have hs1 := hb1.size
      have CQ := isQuery_any w.heap.size A' n' c' q w1 hs1 (H'.out.below hb1) hn' HF.out
      rw [HR.out] at CQ
      have HCQ := Lib.hid CQ
      clear hb1 CQ
      go_wp2_with (go_at_call 47; refine HCQ.out.mono ?_; rintro e w2 ⟨rfl, hb2⟩; have HB2 := Lib.hid (HB1.out.trans (hb2.mono hs1)); clear hb2)
      refine (evalQuery_any w.heap.size A n c ls A' n' c' q w2 HB2.out.size (H.out.below HB2.out) HK.out (H'.out.below HB2.out) HR.out).mono ?_
      rintro e w3 ⟨A3, c3, rfl, ho, hb⟩
      have HO := Lib.hid (own_mono ho HB2.out.size)
      have HB3 := Lib.hid (HB2.out.trans (hb.mono HB2.out.size))
      clear ho hb
      go_wp2
      go_ret2
      rw [HOK.out.1, HOK.out.2]
      exact GotR.own_ HO.out HB3.out
theorem both_EvalQuery (n : Nat) (ls : List (List Lab)) (n' : Nat) (q : List Qry) (hn : n ≤ 1048576) (hn' : n' ≤ 1048576) (hz : lblSzSS ls ≤ 1048576) (hq : qrySz q ≤ 1048576) : ∃ (nr : Nat) (lr : List Int) (r1 : Bool), nr ≤ 1048576 ∧
    (∀ B A c B' A' c' w, B ≤ w.heap.size → RdSS w B A n ls → B' ≤ w.heap.size → Rd w B' 5 A' n' (qrys q) → Calls Try.prog 18 #[.slice A n c, .slice A' n' c'] w (GotR 3 1 w nr (ints lr) r1)) ∧
    (∀ B A c B' A' c' w, B ≤ w.heap.size → RdSS w B A n ls → B' ≤ w.heap.size → Rd w B' 5 A' n' (qrys q) → Calls Try.prog 20 #[.slice A n c, .slice A' n' c'] w (GotR 3 1 w nr (ints lr) r1)) :=
  ⟨(evalR ls q).length, evalR ls q, _, evalR_len ls q, fun B A c B' A' c' w hB h hB' h' => sEvalQuery_any B A n c ls B' A' n' c' q w hB h hB' h' hn (serFit_of hz) hn' (qryFitE_of hq), fun B A c B' A' c' w hB h hB' h' => iEvalQuery_any B A n c ls B' A' n' c' q w hB h hB' h' hn (serFit_of hz) hn' (qryFitE_of hq)⟩
theorem mk_Query (n : Nat) (k : Int) (hn : n ≤ 1048576) (hk0 : 0 ≤ k) (hk1 : k ≤ 1099511627776) : ∃ (m : Int) (ms : List Value), k ≤ m ∧ m ≤ k + 8388608 ∧
    (∀ lo hi A c l w, Row 59 5 lo hi A n c (qrys l) w → Calls Try.prog 22 #[.slice A n c, .int .i64 k] w fun e w' => e = .returned (.int .i64 m) ∧ Row 59 5 lo hi A n c ms w' ∧ Ch lo hi w w') := by
  refine ⟨k + 5 * n, qrys (marksQuery k n), by omega, by omega, fun lo hi A c l w h => ?_⟩
  exact (markQueryS_any lo A n c l k w h.1 hn hk0 hk1).mono fun e w' ⟨he, ho, hg⟩ => ⟨he, ⟨ho, Nat.le_trans h.2.1 hg.size, h.2.2⟩, Ch.of_grown hg fun g hg' => ⟨(h.1.lt g hg').1, h.2.2 g hg'⟩⟩
set_option maxRecDepth 100000 in
set_option maxHeartbeats 4000000 in
theorem law_EvalQuery (Aa : Option Addr) (na ca : Nat) (la : List (List Lab)) (Ab : Option Addr) (nb cb : Nat) (lb : List Qry) (w : World) (ha : RdSS w w.heap.size Aa na la) (hcapa : na ≤ 9223372036854775807) (hoka : lblSSOk la) (hb : Rd w w.heap.size 5 Ab nb (qrys lb)) (hcapb : nb ≤ 9223372036854775807) (hokb : qrySzOk lb) :
    Calls Try.prog 4 #[.slice Aa na ca, .slice Ab nb cb] w fun e w' => e = .returned (.bool true) ∧ Below w.heap.size w w' := by
  have Ha := Lib.hid ha
  clear ha
  have HOKa := Lib.hid hoka
  clear hoka
  have Hb := Lib.hid hb
  clear hb
  have HOKb := Lib.hid hokb
  clear hokb
  obtain ⟨za, hza⟩ : ∃ z, z = (lblSzSS la) := ⟨_, rfl⟩
  have hzna : na ≤ za := by rw [hza]; exact sz_LabelSS_ge Ha.out
  have HZa := Lib.hid hza
  clear hza
  obtain ⟨zb, hzb⟩ : ∃ z, z = (qrySz lb) := ⟨_, rfl⟩
  have hznb : nb ≤ zb := by rw [hzb]; exact sz_Query_ge Hb.out
  have HZb := Lib.hid hzb
  clear hzb
  by_cases hqa : za ≤ 1048576
  · skip
    by_cases hqb : za + zb ≤ 1048576
    · skip
      have hna : na ≤ 1048576 := by omega
      have hnb : nb ≤ 1048576 := by omega
      have HSMa := Lib.hid (smallSS_of HZa.out (by omega))
      have HSUa := Lib.hid (sumSS_of HZa.out (by omega))
      obtain ⟨nr, lr, r1, hnr, hS, hI⟩ := both_EvalQuery na la nb lb hna hnb (by have := HZa.out; omega) (by have := HZb.out; omega)
      have HS := Lib.hid hS
      have HI := Lib.hid hI
      clear hS hI
      obtain ⟨kxa, hkxa0, hkxa1, hMxa⟩ := mk_LabelSS la na 1 hna HSUa.out (by omega) (by omega)
      have HMxa := Lib.hid hMxa
      clear hMxa
      obtain ⟨kxb, mxb, hkxb0, hkxb1, hMxb⟩ := mk_Query nb kxa hnb (by omega) (by omega)
      have HMxb := Lib.hid hMxb
      clear hMxb
      obtain ⟨mr, mm, hmr0, hmr1, hMr, hHr⟩ := mh_Int nr 1 (by omega) (by omega) (by omega)
      have HMr := Lib.hid hMr
      have HHr := Lib.hid hHr
      clear hMr hHr
      go_enter Try.func4, Try.ntmps4
      go_wp2_with fail
      refine (sz_LabelSS_ok w.heap.size Aa na ca la za HZa.out _ _ (by first | omega | simp) Ha.out (by omega) (by omega)).mono ?_
      rintro e w1 ⟨rfl, hc1⟩
      have hs1 := hc1.size
      have HC1 := Lib.hid hc1
      clear hc1
      go_wp2_with fail
      refine (sz_Query_ok w.heap.size Ab nb cb lb zb HZb.out _ _ (by first | omega | simp) (Hb.out.keepC HC1.out (by omega) (by omega)) (by omega) (by omega)).mono ?_
      rintro e w2 ⟨rfl, hc2⟩
      have hs2 := hc2.size
      have HC2 := Lib.hid hc2
      clear hc2
      go_wp2_with fail
      refine (to_LabelSS w.heap.size Aa na ca la _ (by omega) ((Ha.out.keepC HC1.out (by omega) (by omega)).keepC HC2.out (by omega) (by omega)) hna HSMa.out).mono ?_
      rintro e w3 ⟨Aas, cas, rfl, hras, hc3⟩
      have hs3 := hc3.size
      have HC3 := Lib.hid hc3
      clear hc3
      have HRas_3 := Lib.hid hras
      clear hras
      go_wp2_with fail
      refine (to_Query w.heap.size Ab nb cb lb _ (by omega) (((Hb.out.keepC HC1.out (by omega) (by omega)).keepC HC2.out (by omega) (by omega)).keepC HC3.out (by omega) (by omega)) hnb).mono ?_
      rintro e w4 ⟨Abs, cbs, rfl, hrbs, hc4⟩
      have hs4 := hc4.size
      have HC4 := Lib.hid hc4
      clear hc4
      have HRbs_4 := Lib.hid hrbs
      clear hrbs
      go_wp2_with fail
      refine (HS.out _ _ _ _ _ _ _ (by omega) (RowLL.rd_ (HRas_3.out.keep HC4.out (by omega)) HSMa.out) (by omega) (HRbs_4.out).rd).mono ?_
      rintro e w5 ⟨Arw, crw, rfl, hrrw, hc5⟩
      have hs5 := hc5.size
      have HC5 := Lib.hid hc5
      clear hc5
      have HRrw_5 := Lib.hid hrrw
      clear hrrw
      go_wp2_with fail
      refine (to_LabelSS w.heap.size Aa na ca la _ (by omega) (((((Ha.out.keepC HC1.out (by omega) (by omega)).keepC HC2.out (by omega) (by omega)).keepC HC3.out (by omega) (by omega)).keepC HC4.out (by omega) (by omega)).keepC HC5.out (by omega) (by omega)) hna HSMa.out).mono ?_
      rintro e w6 ⟨Aax, cax, rfl, hrax, hc6⟩
      have hs6 := hc6.size
      have HC6 := Lib.hid hc6
      clear hc6
      have HRax_6 := Lib.hid hrax
      clear hrax
      go_wp2_with fail
      refine (to_Query w.heap.size Ab nb cb lb _ (by omega) ((((((Hb.out.keepC HC1.out (by omega) (by omega)).keepC HC2.out (by omega) (by omega)).keepC HC3.out (by omega) (by omega)).keepC HC4.out (by omega) (by omega)).keepC HC5.out (by omega) (by omega)).keepC HC6.out (by omega) (by omega)) hnb).mono ?_
      rintro e w7 ⟨Abx, cbx, rfl, hrbx, hc7⟩
      have hs7 := hc7.size
      have HC7 := Lib.hid hc7
      clear hc7
      have HRbx_7 := Lib.hid hrbx
      clear hrbx
      go_wp2_with fail
      refine (HI.out _ _ _ _ _ _ _ (by omega) (RowLL.rd_ (HRax_6.out.keep HC7.out (by omega)) HSMa.out) (by omega) (HRbx_7.out).rd).mono ?_
      rintro e w8 ⟨Arg, crg, rfl, hrrg, hc8⟩
      have hs8 := hc8.size
      have HC8 := Lib.hid hc8
      clear hc8
      have HRrg_8 := Lib.hid hrrg
      clear hrrg
      go_wp2_with fail
      refine (eq_Int _ _ _ _ nr _ _ lr _ (HRrg_8.out).rd ((((HRrw_5.out.keep HC6.out (by omega)).keep HC7.out (by omega)).keep HC8.out (by omega))).rd (by omega)).mono ?_
      rintro e w9 ⟨rfl, hc9⟩
      have hs9 := hc9.size
      have HC9 := Lib.hid hc9
      clear hc9
      go_wp2_with fail
      refine (to_LabelSS w.heap.size Aa na ca la _ (by omega) (((((((((Ha.out.keepC HC1.out (by omega) (by omega)).keepC HC2.out (by omega) (by omega)).keepC HC3.out (by omega) (by omega)).keepC HC4.out (by omega) (by omega)).keepC HC5.out (by omega) (by omega)).keepC HC6.out (by omega) (by omega)).keepC HC7.out (by omega) (by omega)).keepC HC8.out (by omega) (by omega)).keepC HC9.out (by omega) (by omega)) hna HSMa.out).mono ?_
      rintro e w10 ⟨Aay, cay, rfl, hray, hc10⟩
      have hs10 := hc10.size
      have HC10 := Lib.hid hc10
      clear hc10
      have HRay_10 := Lib.hid hray
      clear hray
      go_wp2_with fail
      refine (eq_LabelSS _ _ _ _ na _ _ la _ (by omega) (by omega) (RowLL.rd_ ((((HRax_6.out.keep HC7.out (by omega)).keep HC8.out (by omega)).keep HC9.out (by omega)).keep HC10.out (by omega)) HSMa.out) (RowLL.rd_ HRay_10.out HSMa.out) hna HSMa.out).mono ?_
      rintro e w11 ⟨rfl, hc11⟩
      have hs11 := hc11.size
      have HC11 := Lib.hid hc11
      clear hc11
      go_wp2_with fail
      refine (to_Query w.heap.size Ab nb cb lb _ (by omega) (((((((((((Hb.out.keepC HC1.out (by omega) (by omega)).keepC HC2.out (by omega) (by omega)).keepC HC3.out (by omega) (by omega)).keepC HC4.out (by omega) (by omega)).keepC HC5.out (by omega) (by omega)).keepC HC6.out (by omega) (by omega)).keepC HC7.out (by omega) (by omega)).keepC HC8.out (by omega) (by omega)).keepC HC9.out (by omega) (by omega)).keepC HC10.out (by omega) (by omega)).keepC HC11.out (by omega) (by omega)) hnb).mono ?_
      rintro e w12 ⟨Aby, cby, rfl, hrby, hc12⟩
      have hs12 := hc12.size
      have HC12 := Lib.hid hc12
      clear hc12
      have HRby_12 := Lib.hid hrby
      clear hrby
      go_wp2_with fail
      refine (eq_Query _ _ _ _ nb _ _ lb _ (by omega) (by omega) ((((((HRbx_7.out.keep HC8.out (by omega)).keep HC9.out (by omega)).keep HC10.out (by omega)).keep HC11.out (by omega)).keep HC12.out (by omega))).rd (HRby_12.out).rd hnb).mono ?_
      rintro e w13 ⟨rfl, hc13⟩
      have hs13 := hc13.size
      have HC13 := Lib.hid hc13
      clear hc13
      go_wp2_with fail
      refine (HMxa.out _ _ _ _ _ (((((((HRax_6.out.keep HC7.out (by omega)).keep HC8.out (by omega)).keep HC9.out (by omega)).keep HC10.out (by omega)).keep HC11.out (by omega)).keep HC12.out (by omega)).keep HC13.out (by omega))).mono ?_
      rintro e w14 ⟨rfl, hrax, hc14⟩
      have hs14 := hc14.size
      have HC14 := Lib.hid hc14
      clear hc14
      have HRax_14 := Lib.hid hrax
      clear hrax
      go_wp2_with fail
      refine (HMxb.out _ _ _ _ _ _ (((((((HRbx_7.out.keep HC8.out (by omega)).keep HC9.out (by omega)).keep HC10.out (by omega)).keep HC11.out (by omega)).keep HC12.out (by omega)).keep HC13.out (by omega)).keep HC14.out (by omega))).mono ?_
      rintro e w15 ⟨rfl, hrbx, hc15⟩
      have hs15 := hc15.size
      have HC15 := Lib.hid hc15
      clear hc15
      have HRbx_15 := Lib.hid hrbx
      clear hrbx
      go_wp2_with fail
      refine (eq_Int _ _ _ _ nr _ _ lr _ ((((((((HRrg_8.out.keep HC9.out (by omega)).keep HC10.out (by omega)).keep HC11.out (by omega)).keep HC12.out (by omega)).keep HC13.out (by omega)).keep HC14.out (by omega)).keep HC15.out (by omega))).rd (((((((((((HRrw_5.out.keep HC6.out (by omega)).keep HC7.out (by omega)).keep HC8.out (by omega)).keep HC9.out (by omega)).keep HC10.out (by omega)).keep HC11.out (by omega)).keep HC12.out (by omega)).keep HC13.out (by omega)).keep HC14.out (by omega)).keep HC15.out (by omega))).rd (by omega)).mono ?_
      rintro e w16 ⟨rfl, hc16⟩
      have hs16 := hc16.size
      have HC16 := Lib.hid hc16
      clear hc16
      go_wp2_with fail
      refine (HMr.out _ _ _ _ _ _ ((((((((HRrg_8.out.keep HC9.out (by omega)).keep HC10.out (by omega)).keep HC11.out (by omega)).keep HC12.out (by omega)).keep HC13.out (by omega)).keep HC14.out (by omega)).keep HC15.out (by omega)).keep HC16.out (by omega))).mono ?_
      rintro e w17 ⟨rfl, hrrg, hc17⟩
      have hs17 := hc17.size
      have HC17 := Lib.hid hc17
      clear hc17
      have HRrg_17 := Lib.hid hrrg
      clear hrrg
      go_wp2_with fail
      refine (HHr.out _ _ _ _ (HRrg_17.out).rd).mono ?_
      rintro e w18 ⟨rfl, hc18⟩
      have hs18 := hc18.size
      have HC18 := Lib.hid hc18
      clear hc18
      go_wp2_with fail
      refine (to_LabelSS w.heap.size Aa na ca la _ (by omega) ((((((((((((((((((Ha.out.keepC HC1.out (by omega) (by omega)).keepC HC2.out (by omega) (by omega)).keepC HC3.out (by omega) (by omega)).keepC HC4.out (by omega) (by omega)).keepC HC5.out (by omega) (by omega)).keepC HC6.out (by omega) (by omega)).keepC HC7.out (by omega) (by omega)).keepC HC8.out (by omega) (by omega)).keepC HC9.out (by omega) (by omega)).keepC HC10.out (by omega) (by omega)).keepC HC11.out (by omega) (by omega)).keepC HC12.out (by omega) (by omega)).keepC HC13.out (by omega) (by omega)).keepC HC14.out (by omega) (by omega)).keepC HC15.out (by omega) (by omega)).keepC HC16.out (by omega) (by omega)).keepC HC17.out (by omega) (by omega)).keepC HC18.out (by omega) (by omega)) hna HSMa.out).mono ?_
      rintro e w19 ⟨Aaz, caz, rfl, hraz, hc19⟩
      have hs19 := hc19.size
      have HC19 := Lib.hid hc19
      clear hc19
      have HRaz_19 := Lib.hid hraz
      clear hraz
      go_wp2_with fail
      refine (to_Query w.heap.size Ab nb cb lb _ (by omega) (((((((((((((((((((Hb.out.keepC HC1.out (by omega) (by omega)).keepC HC2.out (by omega) (by omega)).keepC HC3.out (by omega) (by omega)).keepC HC4.out (by omega) (by omega)).keepC HC5.out (by omega) (by omega)).keepC HC6.out (by omega) (by omega)).keepC HC7.out (by omega) (by omega)).keepC HC8.out (by omega) (by omega)).keepC HC9.out (by omega) (by omega)).keepC HC10.out (by omega) (by omega)).keepC HC11.out (by omega) (by omega)).keepC HC12.out (by omega) (by omega)).keepC HC13.out (by omega) (by omega)).keepC HC14.out (by omega) (by omega)).keepC HC15.out (by omega) (by omega)).keepC HC16.out (by omega) (by omega)).keepC HC17.out (by omega) (by omega)).keepC HC18.out (by omega) (by omega)).keepC HC19.out (by omega) (by omega)) hnb).mono ?_
      rintro e w20 ⟨Abz, cbz, rfl, hrbz, hc20⟩
      have hs20 := hc20.size
      have HC20 := Lib.hid hc20
      clear hc20
      have HRbz_20 := Lib.hid hrbz
      clear hrbz
      go_wp2_with fail
      refine (HI.out _ _ _ _ _ _ _ (by omega) (RowLL.rd_ (HRaz_19.out.keep HC20.out (by omega)) HSMa.out) (by omega) (HRbz_20.out).rd).mono ?_
      rintro e w21 ⟨Arh, crh, rfl, hrrh, hc21⟩
      have hs21 := hc21.size
      have HC21 := Lib.hid hc21
      clear hc21
      have HRrh_21 := Lib.hid hrrh
      clear hrrh
      go_wp2_with fail
      refine (eq_Int _ _ _ _ nr _ _ lr _ (HRrh_21.out).rd (((((((((((((((((HRrw_5.out.keep HC6.out (by omega)).keep HC7.out (by omega)).keep HC8.out (by omega)).keep HC9.out (by omega)).keep HC10.out (by omega)).keep HC11.out (by omega)).keep HC12.out (by omega)).keep HC13.out (by omega)).keep HC14.out (by omega)).keep HC15.out (by omega)).keep HC16.out (by omega)).keep HC17.out (by omega)).keep HC18.out (by omega)).keep HC19.out (by omega)).keep HC20.out (by omega)).keep HC21.out (by omega))).rd (by omega)).mono ?_
      rintro e w22 ⟨rfl, hc22⟩
      have hs22 := hc22.size
      have HC22 := Lib.hid hc22
      clear hc22
      go_wp2_with fail
      refine (HHr.out _ _ _ _ ((((((HRrg_17.out.keep HC18.out (by omega)).keep HC19.out (by omega)).keep HC20.out (by omega)).keep HC21.out (by omega)).keep HC22.out (by omega))).rd).mono ?_
      rintro e w23 ⟨rfl, hc23⟩
      have hs23 := hc23.size
      have HC23 := Lib.hid hc23
      clear hc23
      go_wp2
      go_ret
      exact ⟨rfl, ((((((((((((((((((((((((Below.refl _ _).trans (HC1.out.below (by omega) (by omega))).trans (HC2.out.below (by omega) (by omega))).trans (HC3.out.below (by omega) (by omega))).trans (HC4.out.below (by omega) (by omega))).trans (HC5.out.below (by omega) (by omega))).trans (HC6.out.below (by omega) (by omega))).trans (HC7.out.below (by omega) (by omega))).trans (HC8.out.below (by omega) (by omega))).trans (HC9.out.below (by omega) (by omega))).trans (HC10.out.below (by omega) (by omega))).trans (HC11.out.below (by omega) (by omega))).trans (HC12.out.below (by omega) (by omega))).trans (HC13.out.below (by omega) (by omega))).trans (HC14.out.below (by omega) (by omega))).trans (HC15.out.below (by omega) (by omega))).trans (HC16.out.below (by omega) (by omega))).trans (HC17.out.below (by omega) (by omega))).trans (HC18.out.below (by omega) (by omega))).trans (HC19.out.below (by omega) (by omega))).trans (HC20.out.below (by omega) (by omega))).trans (HC21.out.below (by omega) (by omega))).trans (HC22.out.below (by omega) (by omega))).trans (HC23.out.below (by omega) (by omega)))⟩
    · go_enter Try.func4, Try.ntmps4
      go_wp2_with fail
      refine (sz_LabelSS_ok w.heap.size Aa na ca la za HZa.out _ _ (by first | omega | simp) Ha.out (by omega) (by omega)).mono ?_
      rintro e w1 ⟨rfl, hc1⟩
      have hs1 := hc1.size
      have HC1 := Lib.hid hc1
      clear hc1
      go_wp2_with fail
      refine (sz_Query_no w.heap.size Ab nb cb lb zb HZb.out _ _ (by first | omega | simp) (Hb.out.keepC HC1.out (by omega) (by omega)) (by omega) (by omega) (by omega) (by omega) HOKb.out).mono ?_
      rintro e w2 ⟨rfl, hc2⟩
      have hs2 := hc2.size
      have HC2 := Lib.hid hc2
      clear hc2
      go_wp2
      go_ret
      exact ⟨rfl, (((Below.refl _ _).trans (HC1.out.below (by omega) (by omega))).trans (HC2.out.below (by omega) (by omega)))⟩
  · go_enter Try.func4, Try.ntmps4
    go_wp2_with fail
    refine (sz_LabelSS_no w.heap.size Aa na ca la za HZa.out _ _ (by first | omega | simp) Ha.out (by omega) (by omega) (by omega) (by omega) HOKa.out).mono ?_
    rintro e w1 ⟨rfl, hc1⟩
    have hs1 := hc1.size
    have HC1 := Lib.hid hc1
    clear hc1
    go_wp2
    go_ret
    exact ⟨rfl, ((Below.refl _ _).trans (HC1.out.below (by omega) (by omega)))⟩
end Go.Proofs.Ytpdclppieicaeaa
