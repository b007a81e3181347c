/- The law GoodQuery. -/
import Derived.Test.YtjadjkdihjddoaaIsQry
import Derived.Test.YtjadjkdihjddoaaGotR
import Derived.Test.YtjadjkdihjddoaaAreLab
namespace Go.Proofs.Ytjadjkdihjddoaa
set_option linter.unusedVariables false
set_option linter.unusedSimpArgs false
open Go.RowKit

theorem qryFit_of {l : List Qry} (h : qrySz l ≤ 1048576) : ∀ p ∈ l, p.name.size ≤ 1048576 ∧ p.value.size ≤ 1048576 := fun p hp => by
  have h1 := sum_mem_le (l.map qrySz1) (qrySz1 p) (List.mem_map_of_mem hp)
  unfold qrySz at h
  have h2 : qrySz1 p = p.name.size + p.value.size := rfl
  omega
theorem iGoodQuery_any (B : Nat) (A : Option Addr) (n c : Nat) (l : List Qry) (w : World) (hBw : B ≤ w.heap.size) (h : Rd w B 5 A n (qrys l)) (hn : n ≤ 1048576) (hok : ∀ p ∈ l, p.name.size ≤ 1048576 ∧ p.value.size ≤ 1048576) :
    Calls Try.prog 23 #[.slice A n c] w fun e w' => e = .returned (.bool (goodQry l)) ∧ Below w.heap.size w w' := by
  have HS := Lib.hid (isQuery_any B A n c l w hBw h hn hok)
  clear h hok
  go_enter Try.func23, Try.ntmps23
  go_wp2_with fail
  refine HS.out.mono ?_
  rintro e w1 ⟨rfl, hb⟩
  have HB := Lib.hid hb
  clear hb
  go_wp2
  go_ret
  exact ⟨rfl, HB.out⟩
theorem both_GoodQuery (n : Nat) (l : List Qry) (hn : n ≤ 1048576) (hz : qrySz l ≤ 1048576) : ∃ (K : Bool),
    (∀ B A c w, B ≤ w.heap.size → Rd w B 5 A n (qrys l) → Calls Try.prog 21 #[.slice A n c] w fun e w' => e = .returned (.bool K) ∧ Ch 0 0 w w') ∧
    (∀ B A c w, B ≤ w.heap.size → Rd w B 5 A n (qrys l) → Calls Try.prog 23 #[.slice A n c] w fun e w' => e = .returned (.bool K) ∧ Ch 0 0 w w') :=
  ⟨goodQry l, fun B A c w hB h => (sGoodQuery_any B A n c l w hB h hn (qryFit_of hz)).mono fun _ _ ⟨he, hb⟩ => ⟨he, Ch.of_below hb⟩,
    fun B A c w hB h => (iGoodQuery_any B A n c l w hB h hn (qryFit_of hz)).mono fun _ _ ⟨he, hb⟩ => ⟨he, Ch.of_below hb⟩⟩
set_option maxRecDepth 100000 in
set_option maxHeartbeats 4000000 in
theorem law_GoodQuery (Aa : Option Addr) (na ca : Nat) (la : List Qry) (w : World) (ha : Rd w w.heap.size 5 Aa na (qrys la)) (hcapa : na ≤ 9223372036854775807) (hoka : qrySzOk la) :
    Calls Try.prog 5 #[.slice Aa na ca] w fun e w' => e = .returned (.bool true) ∧ Below w.heap.size w w' := by
  have Ha := Lib.hid ha
  clear ha
  have HOKa := Lib.hid hoka
  clear hoka
  obtain ⟨za, hza⟩ : ∃ z, z = (qrySz la) := ⟨_, rfl⟩
  have hzna : na ≤ za := by rw [hza]; exact sz_Query_ge Ha.out
  have HZa := Lib.hid hza
  clear hza
  by_cases hqa : za ≤ 1048576
  · skip
    have hna : na ≤ 1048576 := by omega
    obtain ⟨r0, hS, hI⟩ := both_GoodQuery na la hna (by have := HZa.out; omega)
    have HS := Lib.hid hS
    have HI := Lib.hid hI
    clear hS hI
    go_enter Try.func5, Try.ntmps5
    go_wp2_with fail
    refine (sz_Query_ok w.heap.size Aa na ca la za HZa.out _ _ (by omega) Ha.out (by omega) (by omega)).mono ?_
    rintro e w1 ⟨rfl, hc1⟩
    have hs1 := hc1.size
    have HC1 := Lib.hid hc1
    clear hc1
    go_wp2_with fail
    refine (to_Query w.heap.size Aa na ca la _ (by omega) (Ha.out.keepC HC1.out (by omega) (by omega)) hna).mono ?_
    rintro e w2 ⟨Aas, cas, rfl, hras, hc2⟩
    have hs2 := hc2.size
    have HC2 := Lib.hid hc2
    clear hc2
    have HRas_2 := Lib.hid hras
    clear hras
    go_wp2_with fail
    refine (HS.out _ _ _ _ (by omega) (HRas_2.out).rd).mono ?_
    rintro e w3 ⟨rfl, hc3⟩
    have hs3 := hc3.size
    have HC3 := Lib.hid hc3
    clear hc3
    go_wp2_with fail
    refine (to_Query w.heap.size Aa na ca la _ (by omega) (((Ha.out.keepC HC1.out (by omega) (by omega)).keepC HC2.out (by omega) (by omega)).keepC HC3.out (by omega) (by omega)) hna).mono ?_
    rintro e w4 ⟨Aax, cax, rfl, hrax, hc4⟩
    have hs4 := hc4.size
    have HC4 := Lib.hid hc4
    clear hc4
    have HRax_4 := Lib.hid hrax
    clear hrax
    go_wp2_with fail
    refine (HI.out _ _ _ _ (by omega) (HRax_4.out).rd).mono ?_
    rintro e w5 ⟨rfl, hc5⟩
    have hs5 := hc5.size
    have HC5 := Lib.hid hc5
    clear hc5
    go_wp2_with fail
    refine (to_Query w.heap.size Aa na ca la _ (by omega) (((((Ha.out.keepC HC1.out (by omega) (by omega)).keepC HC2.out (by omega) (by omega)).keepC HC3.out (by omega) (by omega)).keepC HC4.out (by omega) (by omega)).keepC HC5.out (by omega) (by omega)) hna).mono ?_
    rintro e w6 ⟨Aay, cay, rfl, hray, hc6⟩
    have hs6 := hc6.size
    have HC6 := Lib.hid hc6
    clear hc6
    have HRay_6 := Lib.hid hray
    clear hray
    go_wp2_with fail
    refine (eq_Query _ _ _ _ na _ _ la _ (by omega) (by omega) (((HRax_4.out.keep HC5.out (by omega)).keep HC6.out (by omega))).rd (HRay_6.out).rd hna).mono ?_
    rintro e w7 ⟨rfl, hc7⟩
    have hs7 := hc7.size
    have HC7 := Lib.hid hc7
    clear hc7
    go_wp2
    go_ret
    exact ⟨rfl, ((((((((Below.refl _ _).trans (HC1.out.below (by omega) (by omega))).trans (HC2.out.below (by omega) (by omega))).trans (HC3.out.below (by omega) (by omega))).trans (HC4.out.below (by omega) (by omega))).trans (HC5.out.below (by omega) (by omega))).trans (HC6.out.below (by omega) (by omega))).trans (HC7.out.below (by omega) (by omega)))⟩
  · go_enter Try.func5, Try.ntmps5
    go_wp2_with fail
    refine (sz_Query_no w.heap.size Aa na ca la za HZa.out _ _ (by omega) Ha.out (by omega) (by omega) (by omega) (by omega) HOKa.out).mono ?_
    rintro e w1 ⟨rfl, hc1⟩
    have hs1 := hc1.size
    have HC1 := Lib.hid hc1
    clear hc1
    go_wp2
    go_ret
    exact ⟨rfl, ((Below.refl _ _).trans (HC1.out.below (by omega) (by omega)))⟩
end Go.Proofs.Ytjadjkdihjddoaa
