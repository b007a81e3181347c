/- The law FitsForm. -/
import Derived.Test.YtbpeceejboojoaaDoorFits
import Derived.Test.YtbpeceejboojoaaDoorFitW
import Derived.Test.YtbpeceejboojoaaDoorMatch
import Derived.Test.YtbpeceejboojoaaDoorTreeS
import Derived.Test.YtbpeceejboojoaaDoorFormI
import Derived.Test.YtbpeceejboojoaaDoorFormLaw
namespace Go.Proofs.YtbpeceejboojoaaDoor
set_option linter.unusedVariables false
set_option linter.unusedSimpArgs false
open Go.RowKit

/-- What FitsForm hands back. -/
def fitK (l : List Prt) (s : ByteArray) : Bool := goodPrt l && okWord s
def fitV (l : List Prt) (s : ByteArray) : Bool := fitK l s && mt (tr l (l.length - 1)) s.data.toList
theorem fit_no {l : List Prt} {s : ByteArray} (h : fitK l s = false) : fitV l s = false := by unfold fitV; rw [h]; rfl
theorem fit_yes {l : List Prt} {s : ByteArray} (h : fitK l s = true) : fitV l s = mt (tr l (l.length - 1)) s.data.toList := by unfold fitV; rw [h]; rfl
theorem okWord_len {s : ByteArray} (h : okWord s = true) : s.size ≤ 12 := by
  unfold okWord at h
  simp only [Bool.and_eq_true, decide_eq_true_eq] at h
  exact h.1
def FR (l : List Prt) (s : ByteArray) (w : World) (e : Ending) (w' : World) : Prop := e = .returned (.tuple #[.bool (fitV l s), .bool (fitK l s)]) ∧ Below w.heap.size w w'
theorem FR.no_ {l : List Prt} {s : ByteArray} {w w' : World} (h : fitK l s = false) (hb : Below w.heap.size w w') : FR l s w (.returned (.tuple #[.bool false, .bool false])) w' := ⟨by rw [fit_no h, h], hb⟩
theorem FR.yes {l : List Prt} {s : ByteArray} {w w' : World} {v : Bool} (h : fitK l s = true) (hv : v = mt (tr l (l.length - 1)) s.data.toList) (hb : Below w.heap.size w w') : FR l s w (.returned (.tuple #[.bool v, .bool true])) w' := ⟨by rw [fit_yes h, h, hv], hb⟩
set_option maxRecDepth 100000 in
set_option maxHeartbeats 4000000 in
theorem iFitsForm_any (B : Nat) (A : Option Addr) (n c : Nat) (l : List Prt) (s : ByteArray) (w : World) (hBw : B ≤ w.heap.size) (h : Rd w B 4 A n (prts l)) (hn : n ≤ 1048576) (hok : ∀ p ∈ l, p.text.size ≤ 1048576) (hs : s.size ≤ 1048576) :
    Calls Tryd.prog 7 #[.slice A n c, .string s] w (FR l s w) := by
  have C1 := Lib.hid (isForm_any B A n c l w hBw h hn hok)
  have C2 := Lib.hid (fun w => isLetters_any s w hs)
  have hlen := h.prt_len
  cases hg : goodPrt l with
  | false =>
    have HK := Lib.hid (show fitK l s = false by unfold fitK; rw [hg]; rfl)
    rw [hg] at C1
    clear hg h hok
    go_enter Tryd.func7, Tryd.ntmps7
    go_wp2_with fail
    refine C1.out.mono ?_
    rintro e w1 ⟨rfl, hb⟩
    have HB := Lib.hid hb
    clear hb
    go_wp2
    go_ret2
    exact FR.no_ HK.out HB.out
  | true =>
    rw [hg] at C1
    cases hw : okWord s with
    | false =>
      have HK := Lib.hid (show fitK l s = false by unfold fitK; rw [hw, Bool.and_false])
      rw [hw] at C2
      clear hg hw h hok
      go_enter Tryd.func7, Tryd.ntmps7
      go_wp2_with fail
      refine C1.out.mono ?_
      rintro e w1 ⟨rfl, hb⟩
      have HB := Lib.hid hb
      clear hb
      go_wp2_with fail
      refine (C2.out _).mono ?_
      rintro e w2 ⟨rfl, hb⟩
      have HB2 := Lib.hid (HB.out.trans (hb.mono HB.out.size))
      clear hb
      go_wp2
      go_ret2
      exact FR.no_ HK.out HB2.out
    | true =>
      have HK := Lib.hid (show fitK l s = true by unfold fitK; rw [hg, hw]; rfl)
      have h12 := okWord_len hw
      rw [hw] at C2
      have hn24 : n ≤ 24 := by
        have := hg
        unfold goodPrt at this
        simp only [Bool.and_eq_true, decide_eq_true_eq] at this
        omega
      have C3 := Lib.hid (fun w1 (hb : Below w.heap.size w w1) => fits_any B A n c l s w1 (Nat.le_trans hBw hb.size) (h.below (hb.mono hBw)) hn24 hg (by omega))
      have HL := Lib.hid hlen
      clear hg hw h hok hlen
      go_enter Tryd.func7, Tryd.ntmps7
      go_wp2_with fail
      refine C1.out.mono ?_
      rintro e w1 ⟨rfl, hb⟩
      have HB := Lib.hid hb
      clear hb
      go_wp2_with fail
      refine (C2.out _).mono ?_
      rintro e w2 ⟨rfl, hb⟩
      have HB2 := Lib.hid (HB.out.trans (hb.mono HB.out.size))
      clear hb
      go_wp2_with fail
      refine (C3.out _ HB2.out).mono ?_
      rintro e w3 ⟨rfl, hb⟩
      have HB3 := Lib.hid (HB2.out.trans (hb.mono HB2.out.size))
      clear hb
      go_wp2
      go_ret2
      exact FR.yes HK.out (by rw [HL.out]) HB3.out
set_option maxRecDepth 100000 in
set_option maxHeartbeats 4000000 in
theorem sFitsForm_any (B : Nat) (A : Option Addr) (n c : Nat) (l : List Prt) (s : ByteArray) (w : World) (hBw : B ≤ w.heap.size) (h : Rd w B 4 A n (prts l)) (hn : n ≤ 1048576) (hok : ∀ p ∈ l, p.text.size ≤ 1048576) (hs : s.size ≤ 1048576) :
    Calls Tryd.prog 5 #[.slice A n c, .string s] w (FR l s w) := by
  have C1 := Lib.hid (sGoodForm_any B A n c l w hBw h hn hok)
  have C2 := Lib.hid (fun w => l5Word_any s w hs)
  have hlen := h.prt_len
  cases hg : goodPrt l with
  | false =>
    have HK := Lib.hid (show fitK l s = false by unfold fitK; rw [hg]; rfl)
    rw [hg] at C1
    clear hg h hok
    go_enter Tryd.func5, Tryd.ntmps5
    go_wp2_with fail
    refine C1.out.mono ?_
    rintro e w1 ⟨rfl, hb⟩
    have HB := Lib.hid hb
    clear hb
    go_wp2
    go_ret2
    exact FR.no_ HK.out HB.out
  | true =>
    rw [hg] at C1
    cases hw : okWord s with
    | false =>
      have HK := Lib.hid (show fitK l s = false by unfold fitK; rw [hw, Bool.and_false])
      rw [hw] at C2
      clear hg hw h hok
      go_enter Tryd.func5, Tryd.ntmps5
      go_wp2_with fail
      refine C1.out.mono ?_
      rintro e w1 ⟨rfl, hb⟩
      have HB := Lib.hid hb
      clear hb
      go_wp2_with fail
      refine (C2.out _).mono ?_
      rintro e w' ⟨rfl, rfl⟩
      go_wp2
      go_ret2
      exact FR.no_ HK.out HB.out
    | true =>
      have HK := Lib.hid (show fitK l s = true by unfold fitK; rw [hg, hw]; rfl)
      have h12 := okWord_len hw
      rw [hw] at C2
      have hn24 : 1 ≤ n ∧ n ≤ 24 := by
        have := hg
        unfold goodPrt at this
        simp only [Bool.and_eq_true, decide_eq_true_eq] at this
        omega
      obtain ⟨m, rfl⟩ : ∃ m, n = m + 1 := ⟨n - 1, by omega⟩
      have hmi : (((m + 1 : Nat) : Int) - 1) = (m : Int) := by omega
      have C3 := Lib.hid (fun w1 (hb : Below w.heap.size w w1) => l5Tree_any B A (m + 1) c l hn24.2 hg m (by omega) w1 (Nat.le_trans hBw hb.size) (h.below (hb.mono hBw)))
      have HL := Lib.hid hlen
      clear hg hw h hok hlen
      go_enter Tryd.func5, Tryd.ntmps5
      go_wp2_with fail
      refine C1.out.mono ?_
      rintro e w1 ⟨rfl, hb⟩
      have HB := Lib.hid hb
      clear hb
      go_wp2_with fail
      refine (C2.out _).mono ?_
      rintro e w' ⟨rfl, rfl⟩
      go_wp2_with fail
      refine (C3.out _ HB.out).mono ?_
      rintro e w3 ⟨b, rfl, ht, hb⟩
      have HB3 := Lib.hid (HB.out.trans (hb.mono HB.out.size))
      have HT := Lib.hid ht
      clear hb ht
      go_wp2_with fail
      refine (l5Match_any (tr l m) _ _ _ s _ HT.out h12).mono ?_
      rintro e w' ⟨rfl, q, rfl⟩
      go_wp2
      go_ret2
      exact FR.yes HK.out (by rw [HL.out]; rfl) (Below.drewN HB3.out q)
theorem both_FitsForm (n : Nat) (l : List Prt) (s : ByteArray) (hn : n ≤ 1048576) (hs : s.size ≤ 1048576) (hz : prtSz l ≤ 1048576) : ∃ (K1 K2 : Bool),
    (∀ B A c w, B ≤ w.heap.size → Rd w B 4 A n (prts l) → Calls Tryd.prog 5 #[.slice A n c, .string s] w fun e w' => e = .returned (.tuple #[.bool K1, .bool K2]) ∧ Ch 0 0 w w') ∧
    (∀ B A c w, B ≤ w.heap.size → Rd w B 4 A n (prts l) → Calls Tryd.prog 7 #[.slice A n c, .string s] w fun e w' => e = .returned (.tuple #[.bool K1, .bool K2]) ∧ Ch 0 0 w w') :=
  ⟨fitV l s, fitK l s, fun B A c w hB h => (sFitsForm_any B A n c l s w hB h hn (prtFit_of hz) hs).mono fun _ _ ⟨he, hb⟩ => ⟨he, Ch.of_below hb⟩,
    fun B A c w hB h => (iFitsForm_any B A n c l s w hB h hn (prtFit_of hz) hs).mono fun _ _ ⟨he, hb⟩ => ⟨he, Ch.of_below hb⟩⟩
set_option maxRecDepth 100000 in
set_option maxHeartbeats 4000000 in
theorem law_FitsForm (Aa : Option Addr) (na ca : Nat) (la : List Prt) (s : ByteArray) (w : World) (ha : Rd w w.heap.size 4 Aa na (prts la)) (hcapa : na ≤ 9223372036854775807) (hoka : prtSzOk la) :
    Calls Tryd.prog 3 #[.slice Aa na ca, .string s] w fun e w' => e = .returned (.bool true) ∧ Below w.heap.size w w' := by
  have Ha := Lib.hid ha
  clear ha
  have HOKa := Lib.hid hoka
  clear hoka
  by_cases hns : s.size ≤ 1048576
  · skip
    obtain ⟨za, hza⟩ : ∃ z, z = (prtSz la) := ⟨_, rfl⟩
    have hzna : na ≤ za := by rw [hza]; exact sz_Part_ge Ha.out
    have HZa := Lib.hid hza
    clear hza
    by_cases hqa : za ≤ 1048576
    · skip
      have hna : na ≤ 1048576 := by omega
      obtain ⟨r0, r1, hS, hI⟩ := both_FitsForm na la s hna hns (by have := HZa.out; omega)
      have HS := Lib.hid hS
      have HI := Lib.hid hI
      clear hS hI
      go_enter Tryd.func3, Tryd.ntmps3
      go_wp2_with fail
      refine (sz_Part_ok w.heap.size Aa na ca la za HZa.out _ _ (by first | omega | simp) Ha.out (by omega) (by omega)).mono ?_
      rintro e w1 ⟨rfl, hc1⟩
      have hs1 := hc1.size
      have HC1 := Lib.hid hc1
      clear hc1
      go_wp2_with fail
      refine (to_Part w.heap.size Aa na ca la _ (by omega) (Ha.out.keepC HC1.out (by omega) (by omega)) hna).mono ?_
      rintro e w2 ⟨Aas, cas, rfl, hras, hc2⟩
      have hs2 := hc2.size
      have HC2 := Lib.hid hc2
      clear hc2
      have HRas_2 := Lib.hid hras
      clear hras
      go_wp2_with fail
      refine (HS.out _ _ _ _ (by omega) (HRas_2.out).rd).mono ?_
      rintro e w3 ⟨rfl, hc3⟩
      have hs3 := hc3.size
      have HC3 := Lib.hid hc3
      clear hc3
      go_wp2_with fail
      refine (to_Part w.heap.size Aa na ca la _ (by omega) (((Ha.out.keepC HC1.out (by omega) (by omega)).keepC HC2.out (by omega) (by omega)).keepC HC3.out (by omega) (by omega)) hna).mono ?_
      rintro e w4 ⟨Aax, cax, rfl, hrax, hc4⟩
      have hs4 := hc4.size
      have HC4 := Lib.hid hc4
      clear hc4
      have HRax_4 := Lib.hid hrax
      clear hrax
      go_wp2_with fail
      refine (HI.out _ _ _ _ (by omega) (HRax_4.out).rd).mono ?_
      rintro e w5 ⟨rfl, hc5⟩
      have hs5 := hc5.size
      have HC5 := Lib.hid hc5
      clear hc5
      go_wp2_with fail
      refine (to_Part w.heap.size Aa na ca la _ (by omega) (((((Ha.out.keepC HC1.out (by omega) (by omega)).keepC HC2.out (by omega) (by omega)).keepC HC3.out (by omega) (by omega)).keepC HC4.out (by omega) (by omega)).keepC HC5.out (by omega) (by omega)) hna).mono ?_
      rintro e w6 ⟨Aay, cay, rfl, hray, hc6⟩
      have hs6 := hc6.size
      have HC6 := Lib.hid hc6
      clear hc6
      have HRay_6 := Lib.hid hray
      clear hray
      go_wp2_with fail
      refine (eq_Part _ _ _ _ na _ _ la _ (by omega) (by omega) (((HRax_4.out.keep HC5.out (by omega)).keep HC6.out (by omega))).rd (HRay_6.out).rd hna).mono ?_
      rintro e w7 ⟨rfl, hc7⟩
      have hs7 := hc7.size
      have HC7 := Lib.hid hc7
      clear hc7
      go_wp2
      go_ret
      exact ⟨rfl, ((((((((Below.refl _ _).trans (HC1.out.below (by omega) (by omega))).trans (HC2.out.below (by omega) (by omega))).trans (HC3.out.below (by omega) (by omega))).trans (HC4.out.below (by omega) (by omega))).trans (HC5.out.below (by omega) (by omega))).trans (HC6.out.below (by omega) (by omega))).trans (HC7.out.below (by omega) (by omega)))⟩
    · go_enter Tryd.func3, Tryd.ntmps3
      go_wp2_with fail
      refine (sz_Part_no w.heap.size Aa na ca la za HZa.out _ _ (by first | omega | simp) Ha.out (by omega) (by omega) (by omega) (by omega) HOKa.out).mono ?_
      rintro e w1 ⟨rfl, hc1⟩
      have hs1 := hc1.size
      have HC1 := Lib.hid hc1
      clear hc1
      go_wp2
      go_ret
      exact ⟨rfl, ((Below.refl _ _).trans (HC1.out.below (by omega) (by omega)))⟩
  · go_enter Tryd.func3, Tryd.ntmps3
    go_wp2
    go_ret
    exact ⟨rfl, (Below.refl _ _)⟩
end Go.Proofs.YtbpeceejboojoaaDoor
