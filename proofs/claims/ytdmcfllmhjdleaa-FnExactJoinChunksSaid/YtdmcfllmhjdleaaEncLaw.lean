/- The laws EncodeChunk and ChunkSize. -/
import Derived.Test.YtdmcfllmhjdleaaEncI
import Derived.Test.YtdmcfllmhjdleaaSmpLaw
namespace Go.Proofs.Ytdmcfllmhjdleaa
set_option linter.unusedVariables false
set_option linter.unusedSimpArgs false
open Go.RowKit

set_option maxHeartbeats 1000000 in
theorem sEncodeChunk_any (B : Nat) (A : Option Addr) (n c : Nat) (l : List (Int × Int)) (w : World) (hBw : B ≤ w.heap.size) (h : Rd w B 2 A n (smps l)) (hn : n ≤ 1048576) (S : ByteArray) (K : Bool)
    (hS : S = if goodSmp l then str (enc l) else str []) (hK : K = goodSmp l) :
    Calls Try.prog 30 #[.slice A n c] w fun e w' => e = .returned (.tuple #[.string S, .bool K]) ∧ Below w.heap.size w w' := by
  have HG := Lib.hid (sGoodSamples_any B A n c l w hBw h hn)
  have H := Lib.hid h
  clear h
  cases hg : goodSmp l with
  | true =>
    rw [hg] at HG hK
    rw [hg, if_pos rfl] at hS
    subst hK
    have HE := Lib.hid (fun w (hBw : B ≤ w.heap.size) (h : Rd w B 2 A n (smps l)) => hS ▸ l2Encode_any B A n c l w hBw h hg : ∀ w, B ≤ w.heap.size → Rd w B 2 A n (smps l) → Calls Try.prog 78 #[.slice A n c] w fun e w' => e = .returned (.string S) ∧ Below w.heap.size w w')
    clear hS hg
    go_enter Try.func30, Try.ntmps30
    go_wp2_with fail
    refine HG.out.mono ?_
    rintro e w1 ⟨rfl, hb⟩
    have hs := hb.size
    have HB := Lib.hid hb
    clear hb
    go_wp2_with fail
    refine (HE.out _ (by omega) ((H.out.below (HB.out.mono hBw)))).mono ?_
    rintro e w2 ⟨rfl, hb2⟩
    have HB2 := Lib.hid (HB.out.trans (hb2.mono hs))
    clear hb2
    go_wp2
    go_ret2
    exact ⟨rfl, HB2.out⟩
  | false =>
    rw [hg] at HG hK
    rw [hg] at hS
    have e : S = str [] := by rw [hS]; rfl
    subst hK
    subst e
    clear hS hg
    go_enter Try.func30, Try.ntmps30
    go_wp2_with fail
    refine HG.out.mono ?_
    rintro e w1 ⟨rfl, hb⟩
    have HB := Lib.hid hb
    clear hb
    go_wp2
    go_ret2
    exact ⟨rfl, HB.out⟩
set_option maxHeartbeats 1000000 in
theorem sChunkSize_any (B : Nat) (A : Option Addr) (n c : Nat) (l : List (Int × Int)) (w : World) (hBw : B ≤ w.heap.size) (h : Rd w B 2 A n (smps l)) (hn : n ≤ 1048576) (S : Int) (K : Bool)
    (hS : S = if goodSmp l then ((enc l).length : Int) else 0) (hK : K = goodSmp l) :
    Calls Try.prog 28 #[.slice A n c] w fun e w' => e = .returned (.tuple #[.int .i64 S, .bool K]) ∧ Below w.heap.size w w' := by
  have HG := Lib.hid (sGoodSamples_any B A n c l w hBw h hn)
  have H := Lib.hid h
  clear h
  cases hg : goodSmp l with
  | true =>
    rw [hg] at HG hK
    rw [hg, if_pos rfl] at hS
    subst hK
    obtain ⟨E, hE⟩ : ∃ E, E = str (enc l) := ⟨_, rfl⟩
    have HE := Lib.hid (fun w (hBw : B ≤ w.heap.size) (h : Rd w B 2 A n (smps l)) => hE ▸ l2Encode_any B A n c l w hBw h hg : ∀ w, B ≤ w.heap.size → Rd w B 2 A n (smps l) → Calls Try.prog 78 #[.slice A n c] w fun e w' => e = .returned (.string E) ∧ Below w.heap.size w w')
    have hz : E.size = (enc l).length := by rw [hE, str_size]
    have hz1 : E.size ≤ 486 := by rw [hz]; exact enc_len hg
    have HS := Lib.hid (show (E.size : Int) = S by rw [hS, hz])
    clear hS hg hE hz
    go_enter Try.func28, Try.ntmps28
    go_wp2_with fail
    refine HG.out.mono ?_
    rintro e w1 ⟨rfl, hb⟩
    have hs := hb.size
    have HB := Lib.hid hb
    clear hb
    go_wp2_with fail
    refine (HE.out _ (by omega) ((H.out.below (HB.out.mono hBw)))).mono ?_
    rintro e w2 ⟨rfl, hb2⟩
    have HB2 := Lib.hid (HB.out.trans (hb2.mono hs))
    clear hb2
    go_wp2
    go_ret2
    rw [← HS.out]
    exact ⟨rfl, HB2.out⟩
  | false =>
    rw [hg] at HG hK
    rw [hg] at hS
    have e : S = 0 := by rw [hS]; rfl
    subst hK
    subst e
    clear hS hg
    go_enter Try.func28, Try.ntmps28
    go_wp2_with fail
    refine HG.out.mono ?_
    rintro e w1 ⟨rfl, hb⟩
    have HB := Lib.hid hb
    clear hb
    go_wp2
    go_ret2
    exact ⟨rfl, HB.out⟩
set_option maxHeartbeats 1000000 in
theorem iEncodeChunk_any (B : Nat) (A : Option Addr) (n c : Nat) (l : List (Int × Int)) (w : World) (hBw : B ≤ w.heap.size) (h : Rd w B 2 A n (smps l)) (hn : n ≤ 1048576) (S : ByteArray) (K : Bool)
    (hS : S = if goodSmp l then str (enc l) else str []) (hK : K = goodSmp l) :
    Calls Try.prog 31 #[.slice A n c] w fun e w' => e = .returned (.tuple #[.string S, .bool K]) ∧ Below w.heap.size w w' := by
  have HG := Lib.hid (areSamples_any B A n c l w hBw h hn)
  have H := Lib.hid h
  clear h
  cases hg : goodSmp l with
  | true =>
    rw [hg] at HG hK
    rw [hg, if_pos rfl] at hS
    subst hK
    have HE := Lib.hid (fun w (hBw : B ≤ w.heap.size) (h : Rd w B 2 A n (smps l)) => hS ▸ encodeChunk_any B A n c l w hBw h hg : ∀ w, B ≤ w.heap.size → Rd w B 2 A n (smps l) → Calls Try.prog 79 #[.slice A n c] w fun e w' => e = .returned (.string S) ∧ Below w.heap.size w w')
    clear hS hg
    go_enter Try.func31, Try.ntmps31
    go_wp2_with fail
    refine HG.out.mono ?_
    rintro e w1 ⟨rfl, hb⟩
    have hs := hb.size
    have HB := Lib.hid hb
    clear hb
    go_wp2_with fail
    refine (HE.out _ (by omega) ((H.out.below (HB.out.mono hBw)))).mono ?_
    rintro e w2 ⟨rfl, hb2⟩
    have HB2 := Lib.hid (HB.out.trans (hb2.mono hs))
    clear hb2
    go_wp2
    go_ret2
    exact ⟨rfl, HB2.out⟩
  | false =>
    rw [hg] at HG hK
    rw [hg] at hS
    have e : S = str [] := by rw [hS]; rfl
    subst hK
    subst e
    clear hS hg
    go_enter Try.func31, Try.ntmps31
    go_wp2_with fail
    refine HG.out.mono ?_
    rintro e w1 ⟨rfl, hb⟩
    have HB := Lib.hid hb
    clear hb
    go_wp2
    go_ret2
    exact ⟨rfl, HB.out⟩
set_option maxHeartbeats 1000000 in
theorem iChunkSize_any (B : Nat) (A : Option Addr) (n c : Nat) (l : List (Int × Int)) (w : World) (hBw : B ≤ w.heap.size) (h : Rd w B 2 A n (smps l)) (hn : n ≤ 1048576) (S : Int) (K : Bool)
    (hS : S = if goodSmp l then ((enc l).length : Int) else 0) (hK : K = goodSmp l) :
    Calls Try.prog 29 #[.slice A n c] w fun e w' => e = .returned (.tuple #[.int .i64 S, .bool K]) ∧ Below w.heap.size w w' := by
  have HG := Lib.hid (areSamples_any B A n c l w hBw h hn)
  have H := Lib.hid h
  clear h
  cases hg : goodSmp l with
  | true =>
    rw [hg] at HG hK
    rw [hg, if_pos rfl] at hS
    subst hK
    obtain ⟨E, hE⟩ : ∃ E, E = str (enc l) := ⟨_, rfl⟩
    have HE := Lib.hid (fun w (hBw : B ≤ w.heap.size) (h : Rd w B 2 A n (smps l)) => hE ▸ encodeChunk_any B A n c l w hBw h hg : ∀ w, B ≤ w.heap.size → Rd w B 2 A n (smps l) → Calls Try.prog 79 #[.slice A n c] w fun e w' => e = .returned (.string E) ∧ Below w.heap.size w w')
    have hz : E.size = (enc l).length := by rw [hE, str_size]
    have hz1 : E.size ≤ 486 := by rw [hz]; exact enc_len hg
    have HS := Lib.hid (show (E.size : Int) = S by rw [hS, hz])
    clear hS hg hE hz
    go_enter Try.func29, Try.ntmps29
    go_wp2_with fail
    refine HG.out.mono ?_
    rintro e w1 ⟨rfl, hb⟩
    have hs := hb.size
    have HB := Lib.hid hb
    clear hb
    go_wp2_with fail
    refine (HE.out _ (by omega) ((H.out.below (HB.out.mono hBw)))).mono ?_
    rintro e w2 ⟨rfl, hb2⟩
    have HB2 := Lib.hid (HB.out.trans (hb2.mono hs))
    clear hb2
    go_wp2
    go_ret2
    rw [← HS.out]
    exact ⟨rfl, HB2.out⟩
  | false =>
    rw [hg] at HG hK
    rw [hg] at hS
    have e : S = 0 := by rw [hS]; rfl
    subst hK
    subst e
    clear hS hg
    go_enter Try.func29, Try.ntmps29
    go_wp2_with fail
    refine HG.out.mono ?_
    rintro e w1 ⟨rfl, hb⟩
    have HB := Lib.hid hb
    clear hb
    go_wp2
    go_ret2
    exact ⟨rfl, HB.out⟩
theorem both_EncodeChunk (n : Nat) (l : List (Int × Int)) (hn : n ≤ 1048576) : ∃ (S : ByteArray) (K : Bool),
    (∀ B A c w, B ≤ w.heap.size → Rd w B 2 A n (smps l) → Calls Try.prog 30 #[.slice A n c] w fun e w' => e = .returned (.tuple #[.string S, .bool K]) ∧ Ch 0 0 w w') ∧
    (∀ B A c w, B ≤ w.heap.size → Rd w B 2 A n (smps l) → Calls Try.prog 31 #[.slice A n c] w fun e w' => e = .returned (.tuple #[.string S, .bool K]) ∧ Ch 0 0 w w') :=
  ⟨_, _, fun B A c w hB h => (sEncodeChunk_any B A n c l w hB h hn _ _ rfl rfl).mono fun _ _ ⟨he, hb⟩ => ⟨he, Ch.of_below hb⟩,
    fun B A c w hB h => (iEncodeChunk_any B A n c l w hB h hn _ _ rfl rfl).mono fun _ _ ⟨he, hb⟩ => ⟨he, Ch.of_below hb⟩⟩
theorem both_ChunkSize (n : Nat) (l : List (Int × Int)) (hn : n ≤ 1048576) : ∃ (S : Int) (K : Bool),
    (∀ B A c w, B ≤ w.heap.size → Rd w B 2 A n (smps l) → Calls Try.prog 28 #[.slice A n c] w fun e w' => e = .returned (.tuple #[.int .i64 S, .bool K]) ∧ Ch 0 0 w w') ∧
    (∀ B A c w, B ≤ w.heap.size → Rd w B 2 A n (smps l) → Calls Try.prog 29 #[.slice A n c] w fun e w' => e = .returned (.tuple #[.int .i64 S, .bool K]) ∧ Ch 0 0 w w') :=
  ⟨_, _, fun B A c w hB h => (sChunkSize_any B A n c l w hB h hn _ _ rfl rfl).mono fun _ _ ⟨he, hb⟩ => ⟨he, Ch.of_below hb⟩,
    fun B A c w hB h => (iChunkSize_any B A n c l w hB h hn _ _ rfl rfl).mono fun _ _ ⟨he, hb⟩ => ⟨he, Ch.of_below hb⟩⟩
set_option maxRecDepth 100000 in
set_option maxHeartbeats 4000000 in
theorem law_EncodeChunk (Aa : Option Addr) (na ca : Nat) (la : List (Int × Int)) (w : World) (ha : Rd w w.heap.size 2 Aa na (smps la)) (hcapa : na ≤ 9223372036854775807) :
    Calls Try.prog 7 #[.slice Aa na ca] w fun e w' => e = .returned (.bool true) ∧ Below w.heap.size w w' := by
  have Ha := Lib.hid ha
  clear ha
  by_cases hqa : na ≤ 1048576
  · skip
    have hna : na ≤ 1048576 := by omega
    obtain ⟨r0, r1, hS, hI⟩ := both_EncodeChunk na la hna
    have HS := Lib.hid hS
    have HI := Lib.hid hI
    clear hS hI
    go_enter Try.func7, Try.ntmps7
    go_wp2_with fail
    refine (sz_Sample_ok Aa na ca _ _ (by omega) (by omega)).mono ?_
    rintro e w1 ⟨rfl, hc1⟩
    have hs1 := hc1.size
    have HC1 := Lib.hid hc1
    clear hc1
    go_wp2_with fail
    refine (to_Sample w.heap.size Aa na ca la _ (by omega) (Ha.out.keepC HC1.out (by omega) (by omega)) hna).mono ?_
    rintro e w2 ⟨Aas, cas, rfl, hras, hc2⟩
    have hs2 := hc2.size
    have HC2 := Lib.hid hc2
    clear hc2
    have HRas_2 := Lib.hid hras
    clear hras
    go_wp2_with fail
    refine (HS.out _ _ _ _ (by omega) (HRas_2.out).rd).mono ?_
    rintro e w3 ⟨rfl, hc3⟩
    have hs3 := hc3.size
    have HC3 := Lib.hid hc3
    clear hc3
    go_wp2_with fail
    refine (to_Sample w.heap.size Aa na ca la _ (by omega) (((Ha.out.keepC HC1.out (by omega) (by omega)).keepC HC2.out (by omega) (by omega)).keepC HC3.out (by omega) (by omega)) hna).mono ?_
    rintro e w4 ⟨Aax, cax, rfl, hrax, hc4⟩
    have hs4 := hc4.size
    have HC4 := Lib.hid hc4
    clear hc4
    have HRax_4 := Lib.hid hrax
    clear hrax
    go_wp2_with fail
    refine (HI.out _ _ _ _ (by omega) (HRax_4.out).rd).mono ?_
    rintro e w5 ⟨rfl, hc5⟩
    have hs5 := hc5.size
    have HC5 := Lib.hid hc5
    clear hc5
    go_wp2_with fail
    refine (to_Sample w.heap.size Aa na ca la _ (by omega) (((((Ha.out.keepC HC1.out (by omega) (by omega)).keepC HC2.out (by omega) (by omega)).keepC HC3.out (by omega) (by omega)).keepC HC4.out (by omega) (by omega)).keepC HC5.out (by omega) (by omega)) hna).mono ?_
    rintro e w6 ⟨Aay, cay, rfl, hray, hc6⟩
    have hs6 := hc6.size
    have HC6 := Lib.hid hc6
    clear hc6
    have HRay_6 := Lib.hid hray
    clear hray
    go_wp2_with fail
    refine (eq_Sample _ _ _ _ na _ _ la _ (by omega) (by omega) (((HRax_4.out.keep HC5.out (by omega)).keep HC6.out (by omega))).rd (HRay_6.out).rd hna).mono ?_
    rintro e w7 ⟨rfl, hc7⟩
    have hs7 := hc7.size
    have HC7 := Lib.hid hc7
    clear hc7
    go_wp2
    go_ret
    exact ⟨rfl, ((((((((Below.refl _ _).trans (HC1.out.below (by omega) (by omega))).trans (HC2.out.below (by omega) (by omega))).trans (HC3.out.below (by omega) (by omega))).trans (HC4.out.below (by omega) (by omega))).trans (HC5.out.below (by omega) (by omega))).trans (HC6.out.below (by omega) (by omega))).trans (HC7.out.below (by omega) (by omega)))⟩
  · go_enter Try.func7, Try.ntmps7
    go_wp2_with fail
    refine (sz_Sample_no Aa na ca _ _ (by omega) (by omega) (by omega)).mono ?_
    rintro e w1 ⟨rfl, hc1⟩
    have hs1 := hc1.size
    have HC1 := Lib.hid hc1
    clear hc1
    go_wp2
    go_ret
    exact ⟨rfl, ((Below.refl _ _).trans (HC1.out.below (by omega) (by omega)))⟩
set_option maxRecDepth 100000 in
set_option maxHeartbeats 4000000 in
theorem law_ChunkSize (Aa : Option Addr) (na ca : Nat) (la : List (Int × Int)) (w : World) (ha : Rd w w.heap.size 2 Aa na (smps la)) (hcapa : na ≤ 9223372036854775807) :
    Calls Try.prog 6 #[.slice Aa na ca] w fun e w' => e = .returned (.bool true) ∧ Below w.heap.size w w' := by
  have Ha := Lib.hid ha
  clear ha
  by_cases hqa : na ≤ 1048576
  · skip
    have hna : na ≤ 1048576 := by omega
    obtain ⟨r0, r1, hS, hI⟩ := both_ChunkSize na la hna
    have HS := Lib.hid hS
    have HI := Lib.hid hI
    clear hS hI
    go_enter Try.func6, Try.ntmps6
    go_wp2_with fail
    refine (sz_Sample_ok Aa na ca _ _ (by omega) (by omega)).mono ?_
    rintro e w1 ⟨rfl, hc1⟩
    have hs1 := hc1.size
    have HC1 := Lib.hid hc1
    clear hc1
    go_wp2_with fail
    refine (to_Sample w.heap.size Aa na ca la _ (by omega) (Ha.out.keepC HC1.out (by omega) (by omega)) hna).mono ?_
    rintro e w2 ⟨Aas, cas, rfl, hras, hc2⟩
    have hs2 := hc2.size
    have HC2 := Lib.hid hc2
    clear hc2
    have HRas_2 := Lib.hid hras
    clear hras
    go_wp2_with fail
    refine (HS.out _ _ _ _ (by omega) (HRas_2.out).rd).mono ?_
    rintro e w3 ⟨rfl, hc3⟩
    have hs3 := hc3.size
    have HC3 := Lib.hid hc3
    clear hc3
    go_wp2_with fail
    refine (to_Sample w.heap.size Aa na ca la _ (by omega) (((Ha.out.keepC HC1.out (by omega) (by omega)).keepC HC2.out (by omega) (by omega)).keepC HC3.out (by omega) (by omega)) hna).mono ?_
    rintro e w4 ⟨Aax, cax, rfl, hrax, hc4⟩
    have hs4 := hc4.size
    have HC4 := Lib.hid hc4
    clear hc4
    have HRax_4 := Lib.hid hrax
    clear hrax
    go_wp2_with fail
    refine (HI.out _ _ _ _ (by omega) (HRax_4.out).rd).mono ?_
    rintro e w5 ⟨rfl, hc5⟩
    have hs5 := hc5.size
    have HC5 := Lib.hid hc5
    clear hc5
    go_wp2_with fail
    refine (to_Sample w.heap.size Aa na ca la _ (by omega) (((((Ha.out.keepC HC1.out (by omega) (by omega)).keepC HC2.out (by omega) (by omega)).keepC HC3.out (by omega) (by omega)).keepC HC4.out (by omega) (by omega)).keepC HC5.out (by omega) (by omega)) hna).mono ?_
    rintro e w6 ⟨Aay, cay, rfl, hray, hc6⟩
    have hs6 := hc6.size
    have HC6 := Lib.hid hc6
    clear hc6
    have HRay_6 := Lib.hid hray
    clear hray
    go_wp2_with fail
    refine (eq_Sample _ _ _ _ na _ _ la _ (by omega) (by omega) (((HRax_4.out.keep HC5.out (by omega)).keep HC6.out (by omega))).rd (HRay_6.out).rd hna).mono ?_
    rintro e w7 ⟨rfl, hc7⟩
    have hs7 := hc7.size
    have HC7 := Lib.hid hc7
    clear hc7
    go_wp2
    go_ret
    exact ⟨rfl, ((((((((Below.refl _ _).trans (HC1.out.below (by omega) (by omega))).trans (HC2.out.below (by omega) (by omega))).trans (HC3.out.below (by omega) (by omega))).trans (HC4.out.below (by omega) (by omega))).trans (HC5.out.below (by omega) (by omega))).trans (HC6.out.below (by omega) (by omega))).trans (HC7.out.below (by omega) (by omega)))⟩
  · go_enter Try.func6, Try.ntmps6
    go_wp2_with fail
    refine (sz_Sample_no Aa na ca _ _ (by omega) (by omega) (by omega)).mono ?_
    rintro e w1 ⟨rfl, hc1⟩
    have hs1 := hc1.size
    have HC1 := Lib.hid hc1
    clear hc1
    go_wp2
    go_ret
    exact ⟨rfl, ((Below.refl _ _).trans (HC1.out.below (by omega) (by omega)))⟩
end Go.Proofs.Ytdmcfllmhjdleaa
