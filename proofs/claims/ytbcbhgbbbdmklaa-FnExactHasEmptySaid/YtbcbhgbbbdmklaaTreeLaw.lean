/- The laws HasEmpty, FormText. -/
import Derived.Test.YtbcbhgbbbdmklaaTreeI
import Derived.Test.YtbcbhgbbbdmklaaEmpt
import Derived.Test.YtbcbhgbbbdmklaaTxtF
import Derived.Test.YtbcbhgbbbdmklaaFormLaw
namespace Go.Proofs.Ytbcbhgbbbdmklaa
set_option linter.unusedVariables false
set_option linter.unusedSimpArgs false
open Go.RowKit

def emR (l : List Prt) : Bool := goodPrt l && nul (tr l (l.length - 1))
def txR (l : List Prt) : ByteArray := if goodPrt l then tB (tr l (l.length - 1)) else ⟨#[]⟩
theorem tr_small {l : List Prt} (h : goodPrt l = true) : trSz (tr l (l.length - 1)) ≤ 33554432 := by
  obtain ⟨h1, h2⟩ := good_len h
  have := tr_size h (l.length - 1) (by omega)
  have h3 : 2 ^ (l.length - 1 + 1) ≤ 2 ^ 24 := Nat.pow_le_pow_right (by omega) (by omega)
  have h4 : (2 : Nat) ^ 24 = 16777216 := by decide
  omega
set_option maxRecDepth 100000 in
set_option maxHeartbeats 2000000 in
theorem sHasEmpty_any (B : Nat) (A : Option Addr) (n c : Nat) (l : List Prt) (w : World) (hBw : B ≤ w.heap.size) (h : Rd w B 4 A n (prts l)) (hn : n ≤ 1048576) (hok : ∀ p ∈ l, p.text.size ≤ 1048576) :
    Calls Try.prog 15 #[.slice A n c] w fun e w' => e = .returned (.tuple #[.bool (emR l), .bool (goodPrt l)]) ∧ Ch 0 0 w w' := by
  have C1 := Lib.hid (sGoodForm_any B A n c l w hBw h hn hok)
  cases hg : goodPrt l with
  | false =>
    have HE := Lib.hid (show emR l = false by unfold emR; rw [hg]; rfl)
    rw [hg] at C1
    clear hg h hok
    go_enter Try.func15, Try.ntmps15
    go_wp2_with fail
    refine C1.out.mono ?_
    rintro e w1 ⟨rfl, hb1⟩
    have HB := Lib.hid hb1
    clear hb1
    go_wp2
    go_ret2
    rw [HE.out]
    exact ⟨rfl, Ch.of_below HB.out⟩
  | true =>
    have hlen := h.prt_len
    obtain ⟨hl1, hl2⟩ := good_len hg
    have HE := Lib.hid (show emR l = nul (tr l (n - 1)) by unfold emR; rw [hg, hlen]; rfl)
    have CT := Lib.hid (fun w1 (hb : Below w.heap.size w w1) => l5Tree_any B A n c l (by omega) hg (n - 1) (by omega) w1 (Nat.le_trans hBw hb.size) (h.below (hb.mono hBw)))
    rw [hg] at C1
    have hn1 : ((n : Int) - 1) = ((n - 1 : Nat) : Int) := by omega
    clear hg h hok hlen
    go_enter Try.func15, Try.ntmps15
    go_wp2_with fail
    refine C1.out.mono ?_
    rintro e w1 ⟨rfl, hb1⟩
    have HB := Lib.hid hb1
    clear hb1
    go_wp2_with (go_at_call 47; refine (CT.out _ HB.out).mono ?_)
    rintro e w2 ⟨b, rfl, ht, hb2⟩
    have HB2 := Lib.hid (HB.out.trans (hb2.mono HB.out.size))
    have HM := Lib.hid (l5Empty_any _ b _ _ w2 ht)
    clear ht hb2
    go_wp2_with fail
    refine HM.out.mono ?_
    rintro e w' ⟨rfl, rfl⟩
    go_wp2
    go_ret2
    rw [HE.out]
    exact ⟨rfl, Ch.of_below HB2.out⟩
set_option maxRecDepth 100000 in
set_option maxHeartbeats 2000000 in
theorem sFormText_any (B : Nat) (A : Option Addr) (n c : Nat) (l : List Prt) (w : World) (hBw : B ≤ w.heap.size) (h : Rd w B 4 A n (prts l)) (hn : n ≤ 1048576) (hok : ∀ p ∈ l, p.text.size ≤ 1048576) :
    Calls Try.prog 21 #[.slice A n c] w fun e w' => e = .returned (.tuple #[.string (txR l), .bool (goodPrt l)]) ∧ Ch 0 0 w w' := by
  have C1 := Lib.hid (sGoodForm_any B A n c l w hBw h hn hok)
  cases hg : goodPrt l with
  | false =>
    have HE := Lib.hid (show txR l = ⟨#[]⟩ by unfold txR; rw [hg]; rfl)
    rw [hg] at C1
    clear hg h hok
    go_enter Try.func21, Try.ntmps21
    go_wp2_with fail
    refine C1.out.mono ?_
    rintro e w1 ⟨rfl, hb1⟩
    have HB := Lib.hid hb1
    clear hb1
    go_wp2
    go_ret2
    rw [HE.out]
    exact ⟨rfl, Ch.of_below HB.out⟩
  | true =>
    have hlen := h.prt_len
    obtain ⟨hl1, hl2⟩ := good_len hg
    have HE := Lib.hid (show txR l = tB (tr l (n - 1)) by unfold txR; rw [hg, hlen]; rfl)
    have CT := Lib.hid (fun w1 (hb : Below w.heap.size w w1) => l5Tree_any B A n c l (by omega) hg (n - 1) (by omega) w1 (Nat.le_trans hBw hb.size) (h.below (hb.mono hBw)))
    have HS := Lib.hid (show trSz (tr l (n - 1)) ≤ 33554432 by rw [← hlen]; exact tr_small hg)
    rw [hg] at C1
    have hn1 : ((n : Int) - 1) = ((n - 1 : Nat) : Int) := by omega
    clear hg h hok hlen
    go_enter Try.func21, Try.ntmps21
    go_wp2_with fail
    refine C1.out.mono ?_
    rintro e w1 ⟨rfl, hb1⟩
    have HB := Lib.hid hb1
    clear hb1
    go_wp2_with (go_at_call 47; refine (CT.out _ HB.out).mono ?_)
    rintro e w2 ⟨b, rfl, ht, hb2⟩
    have HB2 := Lib.hid (HB.out.trans (hb2.mono HB.out.size))
    have HM := Lib.hid (sTxt_any 33554432 _ HS.out (Nat.le_refl _) b _ _ w2 ht (Nat.le_refl _))
    clear ht hb2
    go_wp2_with fail
    refine HM.out.mono ?_
    rintro e w3 ⟨rfl, hb3⟩
    have HB3 := Lib.hid (HB2.out.trans (hb3.mono HB2.out.size))
    clear hb3
    go_wp2
    go_ret2
    rw [HE.out]
    exact ⟨rfl, Ch.of_below HB3.out⟩
set_option maxRecDepth 100000 in
set_option maxHeartbeats 2000000 in
theorem iHasEmpty_any (B : Nat) (A : Option Addr) (n c : Nat) (l : List Prt) (w : World) (hBw : B ≤ w.heap.size) (h : Rd w B 4 A n (prts l)) (hn : n ≤ 1048576) (hok : ∀ p ∈ l, p.text.size ≤ 1048576) :
    Calls Try.prog 16 #[.slice A n c] w fun e w' => e = .returned (.tuple #[.bool (emR l), .bool (goodPrt l)]) ∧ Ch 0 0 w w' := by
  have C1 := Lib.hid (isForm_any B A n c l w hBw h hn hok)
  cases hg : goodPrt l with
  | false =>
    have HE := Lib.hid (show emR l = false by unfold emR; rw [hg]; rfl)
    rw [hg] at C1
    clear hg h hok
    go_enter Try.func16, Try.ntmps16
    go_wp2_with fail
    refine C1.out.mono ?_
    rintro e w1 ⟨rfl, hb1⟩
    have HB := Lib.hid hb1
    clear hb1
    go_wp2
    go_ret2
    rw [HE.out]
    exact ⟨rfl, Ch.of_below HB.out⟩
  | true =>
    have hlen := h.prt_len
    obtain ⟨hl1, hl2⟩ := good_len hg
    have HE := Lib.hid (show emR l = nul (tr l (n - 1)) by unfold emR; rw [hg, hlen]; rfl)
    have CT := Lib.hid (fun w1 (hb : Below w.heap.size w w1) => treeOf_any B A n c l (by omega) hg (n - 1) (by omega) w1 (Nat.le_trans hBw hb.size) (h.below (hb.mono hBw)))
    rw [hg] at C1
    have hn1 : ((n : Int) - 1) = ((n - 1 : Nat) : Int) := by omega
    clear hg h hok hlen
    go_enter Try.func16, Try.ntmps16
    go_wp2_with fail
    refine C1.out.mono ?_
    rintro e w1 ⟨rfl, hb1⟩
    have HB := Lib.hid hb1
    clear hb1
    go_wp2_with (go_at_call 48; refine (CT.out _ HB.out).mono ?_)
    rintro e w2 ⟨b, rfl, ht, hb2⟩
    have HB2 := Lib.hid (HB.out.trans (hb2.mono HB.out.size))
    have HM := Lib.hid (hasEmpty_any _ b _ _ w2 ht)
    clear ht hb2
    go_wp2_with fail
    refine HM.out.mono ?_
    rintro e w' ⟨rfl, rfl⟩
    go_wp2
    go_ret2
    rw [HE.out]
    exact ⟨rfl, Ch.of_below HB2.out⟩
set_option maxRecDepth 100000 in
set_option maxHeartbeats 2000000 in
theorem iFormText_any (B : Nat) (A : Option Addr) (n c : Nat) (l : List Prt) (w : World) (hBw : B ≤ w.heap.size) (h : Rd w B 4 A n (prts l)) (hn : n ≤ 1048576) (hok : ∀ p ∈ l, p.text.size ≤ 1048576) :
    Calls Try.prog 22 #[.slice A n c] w fun e w' => e = .returned (.tuple #[.string (txR l), .bool (goodPrt l)]) ∧ Ch 0 0 w w' := by
  have C1 := Lib.hid (isForm_any B A n c l w hBw h hn hok)
  cases hg : goodPrt l with
  | false =>
    have HE := Lib.hid (show txR l = ⟨#[]⟩ by unfold txR; rw [hg]; rfl)
    rw [hg] at C1
    clear hg h hok
    go_enter Try.func22, Try.ntmps22
    go_wp2_with fail
    refine C1.out.mono ?_
    rintro e w1 ⟨rfl, hb1⟩
    have HB := Lib.hid hb1
    clear hb1
    go_wp2
    go_ret2
    rw [HE.out]
    exact ⟨rfl, Ch.of_below HB.out⟩
  | true =>
    have hlen := h.prt_len
    obtain ⟨hl1, hl2⟩ := good_len hg
    have HE := Lib.hid (show txR l = tB (tr l (n - 1)) by unfold txR; rw [hg, hlen]; rfl)
    have CT := Lib.hid (fun w1 (hb : Below w.heap.size w w1) => treeOf_any B A n c l (by omega) hg (n - 1) (by omega) w1 (Nat.le_trans hBw hb.size) (h.below (hb.mono hBw)))
    have HS := Lib.hid (show trSz (tr l (n - 1)) ≤ 33554432 by rw [← hlen]; exact tr_small hg)
    rw [hg] at C1
    have hn1 : ((n : Int) - 1) = ((n - 1 : Nat) : Int) := by omega
    clear hg h hok hlen
    go_enter Try.func22, Try.ntmps22
    go_wp2_with fail
    refine C1.out.mono ?_
    rintro e w1 ⟨rfl, hb1⟩
    have HB := Lib.hid hb1
    clear hb1
    go_wp2_with (go_at_call 48; refine (CT.out _ HB.out).mono ?_)
    rintro e w2 ⟨b, rfl, ht, hb2⟩
    have HB2 := Lib.hid (HB.out.trans (hb2.mono HB.out.size))
    have HM := Lib.hid (iTxt_any 33554432 _ HS.out (Nat.le_refl _) b _ _ w2 ht (Nat.le_refl _))
    clear ht hb2
    go_wp2_with fail
    refine HM.out.mono ?_
    rintro e w3 ⟨rfl, hb3⟩
    have HB3 := Lib.hid (HB2.out.trans (hb3.mono HB2.out.size))
    clear hb3
    go_wp2
    go_ret2
    rw [HE.out]
    exact ⟨rfl, Ch.of_below HB3.out⟩
theorem both_HasEmpty (n : Nat) (l : List Prt) (hn : n ≤ 1048576) (hz : prtSz l ≤ 1048576) : ∃ (K1 K2 : Bool),
    (∀ B A c w, B ≤ w.heap.size → Rd w B 4 A n (prts l) → Calls Try.prog 15 #[.slice A n c] w fun e w' => e = .returned (.tuple #[.bool K1, .bool K2]) ∧ Ch 0 0 w w') ∧
    (∀ B A c w, B ≤ w.heap.size → Rd w B 4 A n (prts l) → Calls Try.prog 16 #[.slice A n c] w fun e w' => e = .returned (.tuple #[.bool K1, .bool K2]) ∧ Ch 0 0 w w') :=
  ⟨emR l, goodPrt l, fun B A c w hB h => sHasEmpty_any B A n c l w hB h hn (prtFit_of hz), fun B A c w hB h => iHasEmpty_any B A n c l w hB h hn (prtFit_of hz)⟩
theorem both_FormText (n : Nat) (l : List Prt) (hn : n ≤ 1048576) (hz : prtSz l ≤ 1048576) : ∃ (K1 : ByteArray) (K2 : Bool),
    (∀ B A c w, B ≤ w.heap.size → Rd w B 4 A n (prts l) → Calls Try.prog 21 #[.slice A n c] w fun e w' => e = .returned (.tuple #[.string K1, .bool K2]) ∧ Ch 0 0 w w') ∧
    (∀ B A c w, B ≤ w.heap.size → Rd w B 4 A n (prts l) → Calls Try.prog 22 #[.slice A n c] w fun e w' => e = .returned (.tuple #[.string K1, .bool K2]) ∧ Ch 0 0 w w') :=
  ⟨txR l, goodPrt l, fun B A c w hB h => sFormText_any B A n c l w hB h hn (prtFit_of hz), fun B A c w hB h => iFormText_any B A n c l w hB h hn (prtFit_of hz)⟩
set_option maxRecDepth 100000 in
set_option maxHeartbeats 4000000 in
theorem law_HasEmpty (Aa : Option Addr) (na ca : Nat) (la : List Prt) (w : World) (ha : Rd w w.heap.size 4 Aa na (prts la)) (hcapa : na ≤ 9223372036854775807) (hoka : prtSzOk la) :
    Calls Try.prog 4 #[.slice Aa na ca] w fun e w' => e = .returned (.bool true) ∧ Below w.heap.size w w' := by
  have Ha := Lib.hid ha
  clear ha
  have HOKa := Lib.hid hoka
  clear hoka
  obtain ⟨za, hza⟩ : ∃ z, z = (prtSz la) := ⟨_, rfl⟩
  have hzna : na ≤ za := by rw [hza]; exact sz_Part_ge Ha.out
  have HZa := Lib.hid hza
  clear hza
  by_cases hqa : za ≤ 1048576
  · skip
    have hna : na ≤ 1048576 := by omega
    obtain ⟨r0, r1, hS, hI⟩ := both_HasEmpty na la hna (by have := HZa.out; omega)
    have HS := Lib.hid hS
    have HI := Lib.hid hI
    clear hS hI
    go_enter Try.func4, Try.ntmps4
    go_wp2_with fail
    refine (sz_Part_ok w.heap.size Aa na ca la za HZa.out _ _ (by omega) Ha.out (by omega) (by omega)).mono ?_
    rintro e w1 ⟨rfl, hc1⟩
    have hs1 := hc1.size
    have HC1 := Lib.hid hc1
    clear hc1
    go_wp2_with fail
    refine (to_Part w.heap.size Aa na ca la _ (by omega) (Ha.out.keepC HC1.out (by omega) (by omega)) hna).mono ?_
    rintro e w2 ⟨Aas, cas, rfl, hras, hc2⟩
    have hs2 := hc2.size
    have HC2 := Lib.hid hc2
    clear hc2
    have HRas_2 := Lib.hid hras
    clear hras
    go_wp2_with fail
    refine (HS.out _ _ _ _ (by omega) (HRas_2.out).rd).mono ?_
    rintro e w3 ⟨rfl, hc3⟩
    have hs3 := hc3.size
    have HC3 := Lib.hid hc3
    clear hc3
    go_wp2_with fail
    refine (to_Part w.heap.size Aa na ca la _ (by omega) (((Ha.out.keepC HC1.out (by omega) (by omega)).keepC HC2.out (by omega) (by omega)).keepC HC3.out (by omega) (by omega)) hna).mono ?_
    rintro e w4 ⟨Aax, cax, rfl, hrax, hc4⟩
    have hs4 := hc4.size
    have HC4 := Lib.hid hc4
    clear hc4
    have HRax_4 := Lib.hid hrax
    clear hrax
    go_wp2_with fail
    refine (HI.out _ _ _ _ (by omega) (HRax_4.out).rd).mono ?_
    rintro e w5 ⟨rfl, hc5⟩
    have hs5 := hc5.size
    have HC5 := Lib.hid hc5
    clear hc5
    go_wp2_with fail
    refine (to_Part w.heap.size Aa na ca la _ (by omega) (((((Ha.out.keepC HC1.out (by omega) (by omega)).keepC HC2.out (by omega) (by omega)).keepC HC3.out (by omega) (by omega)).keepC HC4.out (by omega) (by omega)).keepC HC5.out (by omega) (by omega)) hna).mono ?_
    rintro e w6 ⟨Aay, cay, rfl, hray, hc6⟩
    have hs6 := hc6.size
    have HC6 := Lib.hid hc6
    clear hc6
    have HRay_6 := Lib.hid hray
    clear hray
    go_wp2_with fail
    refine (eq_Part _ _ _ _ na _ _ la _ (by omega) (by omega) (((HRax_4.out.keep HC5.out (by omega)).keep HC6.out (by omega))).rd (HRay_6.out).rd hna).mono ?_
    rintro e w7 ⟨rfl, hc7⟩
    have hs7 := hc7.size
    have HC7 := Lib.hid hc7
    clear hc7
    go_wp2
    go_ret
    exact ⟨rfl, ((((((((Below.refl _ _).trans (HC1.out.below (by omega) (by omega))).trans (HC2.out.below (by omega) (by omega))).trans (HC3.out.below (by omega) (by omega))).trans (HC4.out.below (by omega) (by omega))).trans (HC5.out.below (by omega) (by omega))).trans (HC6.out.below (by omega) (by omega))).trans (HC7.out.below (by omega) (by omega)))⟩
  · go_enter Try.func4, Try.ntmps4
    go_wp2_with fail
    refine (sz_Part_no w.heap.size Aa na ca la za HZa.out _ _ (by omega) Ha.out (by omega) (by omega) (by omega) (by omega) HOKa.out).mono ?_
    rintro e w1 ⟨rfl, hc1⟩
    have hs1 := hc1.size
    have HC1 := Lib.hid hc1
    clear hc1
    go_wp2
    go_ret
    exact ⟨rfl, ((Below.refl _ _).trans (HC1.out.below (by omega) (by omega)))⟩
set_option maxRecDepth 100000 in
set_option maxHeartbeats 4000000 in
theorem law_FormText (Aa : Option Addr) (na ca : Nat) (la : List Prt) (w : World) (ha : Rd w w.heap.size 4 Aa na (prts la)) (hcapa : na ≤ 9223372036854775807) (hoka : prtSzOk la) :
    Calls Try.prog 6 #[.slice Aa na ca] w fun e w' => e = .returned (.bool true) ∧ Below w.heap.size w w' := by
  have Ha := Lib.hid ha
  clear ha
  have HOKa := Lib.hid hoka
  clear hoka
  obtain ⟨za, hza⟩ : ∃ z, z = (prtSz la) := ⟨_, rfl⟩
  have hzna : na ≤ za := by rw [hza]; exact sz_Part_ge Ha.out
  have HZa := Lib.hid hza
  clear hza
  by_cases hqa : za ≤ 1048576
  · skip
    have hna : na ≤ 1048576 := by omega
    obtain ⟨r0, r1, hS, hI⟩ := both_FormText na la hna (by have := HZa.out; omega)
    have HS := Lib.hid hS
    have HI := Lib.hid hI
    clear hS hI
    go_enter Try.func6, Try.ntmps6
    go_wp2_with fail
    refine (sz_Part_ok w.heap.size Aa na ca la za HZa.out _ _ (by omega) Ha.out (by omega) (by omega)).mono ?_
    rintro e w1 ⟨rfl, hc1⟩
    have hs1 := hc1.size
    have HC1 := Lib.hid hc1
    clear hc1
    go_wp2_with fail
    refine (to_Part w.heap.size Aa na ca la _ (by omega) (Ha.out.keepC HC1.out (by omega) (by omega)) hna).mono ?_
    rintro e w2 ⟨Aas, cas, rfl, hras, hc2⟩
    have hs2 := hc2.size
    have HC2 := Lib.hid hc2
    clear hc2
    have HRas_2 := Lib.hid hras
    clear hras
    go_wp2_with fail
    refine (HS.out _ _ _ _ (by omega) (HRas_2.out).rd).mono ?_
    rintro e w3 ⟨rfl, hc3⟩
    have hs3 := hc3.size
    have HC3 := Lib.hid hc3
    clear hc3
    go_wp2_with fail
    refine (to_Part w.heap.size Aa na ca la _ (by omega) (((Ha.out.keepC HC1.out (by omega) (by omega)).keepC HC2.out (by omega) (by omega)).keepC HC3.out (by omega) (by omega)) hna).mono ?_
    rintro e w4 ⟨Aax, cax, rfl, hrax, hc4⟩
    have hs4 := hc4.size
    have HC4 := Lib.hid hc4
    clear hc4
    have HRax_4 := Lib.hid hrax
    clear hrax
    go_wp2_with fail
    refine (HI.out _ _ _ _ (by omega) (HRax_4.out).rd).mono ?_
    rintro e w5 ⟨rfl, hc5⟩
    have hs5 := hc5.size
    have HC5 := Lib.hid hc5
    clear hc5
    go_wp2_with fail
    refine (to_Part w.heap.size Aa na ca la _ (by omega) (((((Ha.out.keepC HC1.out (by omega) (by omega)).keepC HC2.out (by omega) (by omega)).keepC HC3.out (by omega) (by omega)).keepC HC4.out (by omega) (by omega)).keepC HC5.out (by omega) (by omega)) hna).mono ?_
    rintro e w6 ⟨Aay, cay, rfl, hray, hc6⟩
    have hs6 := hc6.size
    have HC6 := Lib.hid hc6
    clear hc6
    have HRay_6 := Lib.hid hray
    clear hray
    go_wp2_with fail
    refine (eq_Part _ _ _ _ na _ _ la _ (by omega) (by omega) (((HRax_4.out.keep HC5.out (by omega)).keep HC6.out (by omega))).rd (HRay_6.out).rd hna).mono ?_
    rintro e w7 ⟨rfl, hc7⟩
    have hs7 := hc7.size
    have HC7 := Lib.hid hc7
    clear hc7
    go_wp2
    go_ret
    exact ⟨rfl, ((((((((Below.refl _ _).trans (HC1.out.below (by omega) (by omega))).trans (HC2.out.below (by omega) (by omega))).trans (HC3.out.below (by omega) (by omega))).trans (HC4.out.below (by omega) (by omega))).trans (HC5.out.below (by omega) (by omega))).trans (HC6.out.below (by omega) (by omega))).trans (HC7.out.below (by omega) (by omega)))⟩
  · go_enter Try.func6, Try.ntmps6
    go_wp2_with fail
    refine (sz_Part_no w.heap.size Aa na ca la za HZa.out _ _ (by omega) Ha.out (by omega) (by omega) (by omega) (by omega) HOKa.out).mono ?_
    rintro e w1 ⟨rfl, hc1⟩
    have hs1 := hc1.size
    have HC1 := Lib.hid hc1
    clear hc1
    go_wp2
    go_ret
    exact ⟨rfl, ((Below.refl _ _).trans (HC1.out.below (by omega) (by omega)))⟩
end Go.Proofs.Ytbcbhgbbbdmklaa
