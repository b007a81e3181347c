/- The laws GoodForm, NotForm. -/
import Derived.Test.YtbcbhgbbbdmklaaFormI
import Derived.Test.YtbcbhgbbbdmklaaCloneP
import Derived.Test.YtbcbhgbbbdmklaaGotR
import Derived.Test.YtbcbhgbbbdmklaaAppR
namespace Go.Proofs.Ytbcbhgbbbdmklaa
set_option linter.unusedVariables false
set_option linter.unusedSimpArgs false
open Go.RowKit

theorem sum_mem_leP (l : List Nat) (x : Nat) (h : x ∈ l) : x ≤ l.sum := by
  induction l with
  | nil => simp at h
  | cons y l ih =>
    rw [List.sum_cons]
    rcases List.mem_cons.1 h with e | e
    · omega
    · have := ih e; omega
theorem prtFit_of {l : List Prt} (h : prtSz l ≤ 1048576) : ∀ p ∈ l, p.text.size ≤ 1048576 := fun p hp => by
  have h1 := sum_mem_leP (l.map prtSz1) (prtSz1 p) (List.mem_map_of_mem hp)
  unfold prtSz at h
  have h2 : prtSz1 p = p.text.size := rfl
  omega
theorem iGoodForm_any (B : Nat) (A : Option Addr) (n c : Nat) (l : List Prt) (w : World) (hBw : B ≤ w.heap.size) (h : Rd w B 4 A n (prts l)) (hn : n ≤ 1048576) (hok : ∀ p ∈ l, p.text.size ≤ 1048576) :
    Calls Try.prog 13 #[.slice A n c] w fun e w' => e = .returned (.bool (goodPrt l)) ∧ Below w.heap.size w w' := by
  have HS := Lib.hid (isForm_any B A n c l w hBw h hn hok)
  clear h hok
  go_enter Try.func13, Try.ntmps13
  go_wp2_with fail
  refine HS.out.mono ?_
  rintro e w1 ⟨rfl, hb⟩
  have HB := Lib.hid hb
  clear hb
  go_wp2
  go_ret
  exact ⟨rfl, HB.out⟩
theorem both_GoodForm (n : Nat) (l : List Prt) (hn : n ≤ 1048576) (hz : prtSz l ≤ 1048576) : ∃ (K : Bool),
    (∀ B A c w, B ≤ w.heap.size → Rd w B 4 A n (prts l) → Calls Try.prog 11 #[.slice A n c] w fun e w' => e = .returned (.bool K) ∧ Ch 0 0 w w') ∧
    (∀ B A c w, B ≤ w.heap.size → Rd w B 4 A n (prts l) → Calls Try.prog 13 #[.slice A n c] w fun e w' => e = .returned (.bool K) ∧ Ch 0 0 w w') :=
  ⟨goodPrt l, fun B A c w hB h => (sGoodForm_any B A n c l w hB h hn (prtFit_of hz)).mono fun _ _ ⟨he, hb⟩ => ⟨he, Ch.of_below hb⟩,
    fun B A c w hB h => (iGoodForm_any B A n c l w hB h hn (prtFit_of hz)).mono fun _ _ ⟨he, hb⟩ => ⟨he, Ch.of_below hb⟩⟩
set_option maxRecDepth 100000 in
set_option maxHeartbeats 4000000 in
theorem law_GoodForm (Aa : Option Addr) (na ca : Nat) (la : List Prt) (w : World) (ha : Rd w w.heap.size 4 Aa na (prts la)) (hcapa : na ≤ 9223372036854775807) (hoka : prtSzOk la) :
    Calls Try.prog 3 #[.slice Aa na ca] w fun e w' => e = .returned (.bool true) ∧ Below w.heap.size w w' := by
  have Ha := Lib.hid ha
  clear ha
  have HOKa := Lib.hid hoka
  clear hoka
  obtain ⟨za, hza⟩ : ∃ z, z = (prtSz la) := ⟨_, rfl⟩
  have hzna : na ≤ za := by rw [hza]; exact sz_Part_ge Ha.out
  have HZa := Lib.hid hza
  clear hza
  by_cases hqa : za ≤ 1048576
  · skip
    have hna : na ≤ 1048576 := by omega
    obtain ⟨r0, hS, hI⟩ := both_GoodForm na la hna (by have := HZa.out; omega)
    have HS := Lib.hid hS
    have HI := Lib.hid hI
    clear hS hI
    go_enter Try.func3, Try.ntmps3
    go_wp2_with fail
    refine (sz_Part_ok w.heap.size Aa na ca la za HZa.out _ _ (by omega) Ha.out (by omega) (by omega)).mono ?_
    rintro e w1 ⟨rfl, hc1⟩
    have hs1 := hc1.size
    have HC1 := Lib.hid hc1
    clear hc1
    go_wp2_with fail
    refine (to_Part w.heap.size Aa na ca la _ (by omega) (Ha.out.keepC HC1.out (by omega) (by omega)) hna).mono ?_
    rintro e w2 ⟨Aas, cas, rfl, hras, hc2⟩
    have hs2 := hc2.size
    have HC2 := Lib.hid hc2
    clear hc2
    have HRas_2 := Lib.hid hras
    clear hras
    go_wp2_with fail
    refine (HS.out _ _ _ _ (by omega) (HRas_2.out).rd).mono ?_
    rintro e w3 ⟨rfl, hc3⟩
    have hs3 := hc3.size
    have HC3 := Lib.hid hc3
    clear hc3
    go_wp2_with fail
    refine (to_Part w.heap.size Aa na ca la _ (by omega) (((Ha.out.keepC HC1.out (by omega) (by omega)).keepC HC2.out (by omega) (by omega)).keepC HC3.out (by omega) (by omega)) hna).mono ?_
    rintro e w4 ⟨Aax, cax, rfl, hrax, hc4⟩
    have hs4 := hc4.size
    have HC4 := Lib.hid hc4
    clear hc4
    have HRax_4 := Lib.hid hrax
    clear hrax
    go_wp2_with fail
    refine (HI.out _ _ _ _ (by omega) (HRax_4.out).rd).mono ?_
    rintro e w5 ⟨rfl, hc5⟩
    have hs5 := hc5.size
    have HC5 := Lib.hid hc5
    clear hc5
    go_wp2_with fail
    refine (to_Part w.heap.size Aa na ca la _ (by omega) (((((Ha.out.keepC HC1.out (by omega) (by omega)).keepC HC2.out (by omega) (by omega)).keepC HC3.out (by omega) (by omega)).keepC HC4.out (by omega) (by omega)).keepC HC5.out (by omega) (by omega)) hna).mono ?_
    rintro e w6 ⟨Aay, cay, rfl, hray, hc6⟩
    have hs6 := hc6.size
    have HC6 := Lib.hid hc6
    clear hc6
    have HRay_6 := Lib.hid hray
    clear hray
    go_wp2_with fail
    refine (eq_Part _ _ _ _ na _ _ la _ (by omega) (by omega) (((HRax_4.out.keep HC5.out (by omega)).keep HC6.out (by omega))).rd (HRay_6.out).rd hna).mono ?_
    rintro e w7 ⟨rfl, hc7⟩
    have hs7 := hc7.size
    have HC7 := Lib.hid hc7
    clear hc7
    go_wp2
    go_ret
    exact ⟨rfl, ((((((((Below.refl _ _).trans (HC1.out.below (by omega) (by omega))).trans (HC2.out.below (by omega) (by omega))).trans (HC3.out.below (by omega) (by omega))).trans (HC4.out.below (by omega) (by omega))).trans (HC5.out.below (by omega) (by omega))).trans (HC6.out.below (by omega) (by omega))).trans (HC7.out.below (by omega) (by omega)))⟩
  · go_enter Try.func3, Try.ntmps3
    go_wp2_with fail
    refine (sz_Part_no w.heap.size Aa na ca la za HZa.out _ _ (by omega) Ha.out (by omega) (by omega) (by omega) (by omega) HOKa.out).mono ?_
    rintro e w1 ⟨rfl, hc1⟩
    have hs1 := hc1.size
    have HC1 := Lib.hid hc1
    clear hc1
    go_wp2
    go_ret
    exact ⟨rfl, ((Below.refl _ _).trans (HC1.out.below (by omega) (by omega)))⟩
def notP (l : List Prt) : Prt := ⟨8, ⟨#[]⟩, (l.length : Int) - 1, 0⟩
def okNotF (l : List Prt) : Bool := goodPrt l && decide (l.length ≠ 24)
def notFL (l : List Prt) : List Prt := if okNotF l then l ++ [notP l] else []
theorem notF_no {l : List Prt} (h : okNotF l = false) : notFL l = [] := by unfold notFL; rw [h]; rfl
theorem notF_yes {l : List Prt} (h : okNotF l = true) : notFL l = l ++ [notP l] := by unfold notFL; rw [h]; rfl
theorem notF_len (l : List Prt) : (notFL l).length ≤ 1048576 := by
  cases h : okNotF l
  · rw [notF_no h]; exact Nat.zero_le _
  · rw [notF_yes h]
    unfold okNotF at h
    simp only [Bool.and_eq_true] at h
    have := good_len h.1
    simp
    omega
set_option maxRecDepth 100000 in
set_option maxHeartbeats 4000000 in
theorem sNotForm_any (B : Nat) (A : Option Addr) (n c : Nat) (l : List Prt) (w : World) (hBw : B ≤ w.heap.size) (h : Rd w B 4 A n (prts l)) (hn : n ≤ 1048576) (hok : ∀ p ∈ l, p.text.size ≤ 1048576) :
    Calls Try.prog 17 #[.slice A n c] w (GotR 60 4 w (notFL l).length (prts (notFL l)) (okNotF l)) := by
  have hlen := h.prt_len
  have C1 := Lib.hid (sGoodForm_any B A n c l w hBw h hn hok)
  obtain ⟨i0, hi, hi0, hi1, hi2⟩ := info_parts infoPart
  have HI := Lib.hid (And.intro hi (And.intro hi0 (And.intro hi1 hi2)))
  clear hi hi0 hi1 hi2
  cases hg : goodPrt l with
  | false =>
    have e1 : okNotF l = false := by unfold okNotF; rw [hg]; rfl
    rw [e1, notF_no e1]
    rw [hg] at C1
    clear h hlen e1 hg
    go_enter Try.func17, Try.ntmps17
    go_wp2_with fail
    refine C1.out.mono ?_
    rintro e w1 ⟨rfl, hb1⟩
    have HB := Lib.hid hb1
    clear hb1
    go_wp2
    go_ret2
    exact GotR.no_ HB.out
  | true =>
    by_cases h20 : n = 24
    · have e1 : okNotF l = false := by unfold okNotF; rw [hg, hlen, h20]; rfl
      rw [e1, notF_no e1]
      rw [hg] at C1
      clear h hlen e1 hg
      subst h20
      go_enter Try.func17, Try.ntmps17
      go_wp2_with fail
      refine C1.out.mono ?_
      rintro e w1 ⟨rfl, hb1⟩
      have HB := Lib.hid hb1
      clear hb1
      go_wp2
      go_ret2
      exact GotR.no_ HB.out
    · have e1 : okNotF l = true := by unfold okNotF; rw [hg, hlen]; simpa using h20
      rw [e1, notF_yes e1]
      have hlq := good_len hg
      rw [hlen] at hlq
      rw [hg] at C1
      have h20' : ((n : Int) == 24) = false := by simp; omega
      have HL := Lib.hid hlen
      have H := Lib.hid h
      clear e1 hg hlen h
      go_enter Try.func17, Try.ntmps17
      go_wp2_with fail
      refine C1.out.mono ?_
      rintro e w1 ⟨rfl, hb1⟩
      have HB1 := Lib.hid hb1
      have hs1 := hb1.size
      clear hb1
      go_wp2_with (at_builtin; refine wpList_append_rd rfl (.tmp 12) (.tmp 13) 25 rfl w.heap.size 60 i0 (.agg #[.int .i64 0, .string .empty, .int .i64 0, .int .i64 0]) 4 40 Try.underlying25 HI.out.1 HI.out.2.1 HI.out.2.2.1 HI.out.2.2.2 rfl (by decide) _ 0 [] rfl (World.ownsRow_lit w1 #[] 0 hs1 (by unfold maxLen; omega) rfl) A n c B (prts l) rfl (H.out.below ((HB1.out.alloc hs1 _).mono hBw)) (prts_one l) (by unfold maxLen; omega) (by omega) (by simp; omega) ?_)
      intro v' w2 ho2 hg2
      obtain ⟨A2, c2, rfl⟩ := own_slice ho2
      have HB2 := Lib.hid ((HB1.out.alloc hs1 (.cells #[] 60)).grown hg2 (by simp; omega) (fun k hk => by simp [Value.ownBlock] at hk; omega))
      have HO2 := Lib.hid (show w2.ownsRow w.heap.size 60 4 (.slice A2 n c2) n (prts l) by simpa using ho2)
      clear ho2 hg2
      go_wp2_with (at_builtin; refine wpList_append_own _ rfl (.tmp 14) (.tmp 19) 25 rfl w.heap.size 60 i0 (.agg #[.int .i64 0, .string .empty, .int .i64 0, .int .i64 0]) 4 40 Try.underlying25 HI.out.1 HI.out.2.1 HI.out.2.2.1 HI.out.2.2.2 rfl (by decide) _ n _ rfl (HO2.out.alloc _) ⟨w2.heap.size, 0, none⟩ 1 1 (prts [⟨8, ⟨#[]⟩, (n : Int) - 1, 0⟩]) rfl rfl ?c1 (prts_one _) ?c3 ?c4 ?c5 ?_)
      case c1 =>
        intro j u hj
        have hj5 : j < 4 := (List.getElem?_eq_some_iff.1 hj).1
        rw [Addr.add_lit, World.cell?_alloc_at _ _ _ _ rfl]
        simpa [prts, Prt.cells] using hj
      case c3 => unfold maxLen; omega
      case c4 => omega
      case c5 => have := HB2.out.size; simp; omega
      intro v' w3 ho3 hg3 _
      obtain ⟨A3, c3, rfl⟩ := own_slice ho3
      have HB3 := Lib.hid ((HB2.out.alloc (by have := HB2.out.size; omega) (.cells #[.int .i64 8, .string ⟨#[]⟩, .int .i64 ((n : Int) - 1), .int .i64 0] 60)).grown hg3 (by have := HB2.out.size; simp; omega) (fun k hk => (HO2.out.lt k hk).1))
      have HO3 := Lib.hid (show w3.ownsRow w.heap.size 60 4 (.slice A3 (n + 1) c3) (n + 1) (prts (l ++ [notP l])) by rw [prts_app]; unfold notP; rw [HL.out]; exact ho3)
      clear ho3 hg3
      go_wp2
      go_ret2
      rw [List.length_append, HL.out, List.length_singleton]
      exact GotR.own_ HO3.out HB3.out
set_option maxRecDepth 100000 in
set_option maxHeartbeats 4000000 in
theorem iNotForm_any (B : Nat) (A : Option Addr) (n c : Nat) (l : List Prt) (w : World) (hBw : B ≤ w.heap.size) (h : Rd w B 4 A n (prts l)) (hn : n ≤ 1048576) (hok : ∀ p ∈ l, p.text.size ≤ 1048576) :
    Calls Try.prog 18 #[.slice A n c] w (GotR 60 4 w (notFL l).length (prts (notFL l)) (okNotF l)) := by
  have hlen := h.prt_len
  have C1 := Lib.hid (isForm_any B A n c l w hBw h hn hok)
  obtain ⟨i0, hi, hi0, hi1, hi2⟩ := info_parts infoPart
  have HI := Lib.hid (And.intro hi (And.intro hi0 (And.intro hi1 hi2)))
  clear hi hi0 hi1 hi2
  cases hg : goodPrt l with
  | false =>
    have e1 : okNotF l = false := by unfold okNotF; rw [hg]; rfl
    rw [e1, notF_no e1]
    rw [hg] at C1
    clear h hlen e1 hg
    go_enter Try.func18, Try.ntmps18
    go_wp2_with fail
    refine C1.out.mono ?_
    rintro e w1 ⟨rfl, hb1⟩
    have HB := Lib.hid hb1
    clear hb1
    go_wp2
    go_ret2
    exact GotR.no_ HB.out
  | true =>
    by_cases h20 : n = 24
    · have e1 : okNotF l = false := by unfold okNotF; rw [hg, hlen, h20]; rfl
      rw [e1, notF_no e1]
      rw [hg] at C1
      clear h hlen e1 hg
      subst h20
      go_enter Try.func18, Try.ntmps18
      go_wp2_with fail
      refine C1.out.mono ?_
      rintro e w1 ⟨rfl, hb1⟩
      have HB := Lib.hid hb1
      clear hb1
      go_wp2
      go_ret2
      exact GotR.no_ HB.out
    · have e1 : okNotF l = true := by unfold okNotF; rw [hg, hlen]; simpa using h20
      rw [e1, notF_yes e1]
      have hlq := good_len hg
      rw [hlen] at hlq
      rw [hg] at C1
      have h20' : ((n : Int) == 24) = false := by simp; omega
      have HL := Lib.hid hlen
      have H := Lib.hid h
      clear e1 hg hlen h
      go_enter Try.func18, Try.ntmps18
      go_wp2_with fail
      refine C1.out.mono ?_
      rintro e w1 ⟨rfl, hb1⟩
      have HB1 := Lib.hid hb1
      have hs1 := hb1.size
      clear hb1
      go_wp2_with fail
      refine (clonePart_any B _ n c l w1 (by omega) (H.out.below (HB1.out.mono hBw)) hn).mono ?_
      rintro e w2 ⟨A2, c2, rfl, ho2, hg2⟩
      have HB2 := Lib.hid (HB1.out.trans (hg2.mono hs1))
      have HO2 := Lib.hid (own_mono ho2 hs1)
      clear ho2 hg2
      go_wp2_with (at_builtin; refine wpList_append_own _ rfl (.tmp 13) (.tmp 18) 25 rfl w.heap.size 60 i0 (.agg #[.int .i64 0, .string .empty, .int .i64 0, .int .i64 0]) 4 40 Try.underlying25 HI.out.1 HI.out.2.1 HI.out.2.2.1 HI.out.2.2.2 rfl (by decide) _ n _ rfl (HO2.out.alloc _) ⟨w2.heap.size, 0, none⟩ 1 1 (prts [⟨8, ⟨#[]⟩, (n : Int) - 1, 0⟩]) rfl rfl ?c1 (prts_one _) ?c3 ?c4 ?c5 ?_)
      case c1 =>
        intro j u hj
        have hj5 : j < 4 := (List.getElem?_eq_some_iff.1 hj).1
        rw [Addr.add_lit, World.cell?_alloc_at _ _ _ _ rfl]
        simpa [prts, Prt.cells] using hj
      case c3 => unfold maxLen; omega
      case c4 => omega
      case c5 => have := HB2.out.size; simp; omega
      intro v' w3 ho3 hg3 _
      obtain ⟨A3, c3, rfl⟩ := own_slice ho3
      have HB3 := Lib.hid ((HB2.out.alloc (by have := HB2.out.size; omega) (.cells #[.int .i64 8, .string ⟨#[]⟩, .int .i64 ((n : Int) - 1), .int .i64 0] 60)).grown hg3 (by have := HB2.out.size; simp; omega) (fun k hk => (HO2.out.lt k hk).1))
      have HO3 := Lib.hid (show w3.ownsRow w.heap.size 60 4 (.slice A3 (n + 1) c3) (n + 1) (prts (l ++ [notP l])) by rw [prts_app]; unfold notP; rw [HL.out]; exact ho3)
      clear ho3 hg3
      go_wp2
      go_ret2
      rw [List.length_append, HL.out, List.length_singleton]
      exact GotR.own_ HO3.out HB3.out
theorem both_NotForm (n : Nat) (l : List Prt) (hn : n ≤ 1048576) (hz : prtSz l ≤ 1048576) : ∃ (nr : Nat) (lr : List Prt) (r1 : Bool), nr ≤ 1048576 ∧
    (∀ B A c w, B ≤ w.heap.size → Rd w B 4 A n (prts l) → Calls Try.prog 17 #[.slice A n c] w (GotR 60 4 w nr (prts lr) r1)) ∧
    (∀ B A c w, B ≤ w.heap.size → Rd w B 4 A n (prts l) → Calls Try.prog 18 #[.slice A n c] w (GotR 60 4 w nr (prts lr) r1)) :=
  ⟨(notFL l).length, notFL l, _, notF_len l, fun B A c w hB h => sNotForm_any B A n c l w hB h hn (prtFit_of hz), fun B A c w hB h => iNotForm_any B A n c l w hB h hn (prtFit_of hz)⟩
set_option maxRecDepth 100000 in
set_option maxHeartbeats 4000000 in
theorem law_NotForm (Aa : Option Addr) (na ca : Nat) (la : List Prt) (w : World) (ha : Rd w w.heap.size 4 Aa na (prts la)) (hcapa : na ≤ 9223372036854775807) (hoka : prtSzOk la) :
    Calls Try.prog 5 #[.slice Aa na ca] w fun e w' => e = .returned (.bool true) ∧ Below w.heap.size w w' := by
  have Ha := Lib.hid ha
  clear ha
  have HOKa := Lib.hid hoka
  clear hoka
  obtain ⟨za, hza⟩ : ∃ z, z = (prtSz la) := ⟨_, rfl⟩
  have hzna : na ≤ za := by rw [hza]; exact sz_Part_ge Ha.out
  have HZa := Lib.hid hza
  clear hza
  by_cases hqa : za ≤ 1048576
  · skip
    have hna : na ≤ 1048576 := by omega
    obtain ⟨nr, lr, r1, hnr, hS, hI⟩ := both_NotForm na la hna (by have := HZa.out; omega)
    have HS := Lib.hid hS
    have HI := Lib.hid hI
    clear hS hI
    obtain ⟨kxa, mxa, hkxa0, hkxa1, hMxa, hHxa⟩ := mh_Part na 1 hna (by omega) (by omega)
    have HMxa := Lib.hid hMxa
    clear hMxa hHxa
    obtain ⟨mr, mm, hmr0, hmr1, hMr, hHr⟩ := mh_Part nr 1 (by omega) (by omega) (by omega)
    have HMr := Lib.hid hMr
    have HHr := Lib.hid hHr
    clear hMr hHr
    go_enter Try.func5, Try.ntmps5
    go_wp2_with fail
    refine (sz_Part_ok w.heap.size Aa na ca la za HZa.out _ _ (by omega) Ha.out (by omega) (by omega)).mono ?_
    rintro e w1 ⟨rfl, hc1⟩
    have hs1 := hc1.size
    have HC1 := Lib.hid hc1
    clear hc1
    go_wp2_with fail
    refine (to_Part w.heap.size Aa na ca la _ (by omega) (Ha.out.keepC HC1.out (by omega) (by omega)) hna).mono ?_
    rintro e w2 ⟨Aas, cas, rfl, hras, hc2⟩
    have hs2 := hc2.size
    have HC2 := Lib.hid hc2
    clear hc2
    have HRas_2 := Lib.hid hras
    clear hras
    go_wp2_with fail
    refine (HS.out _ _ _ _ (by omega) (HRas_2.out).rd).mono ?_
    rintro e w3 ⟨Arw, crw, rfl, hrrw, hc3⟩
    have hs3 := hc3.size
    have HC3 := Lib.hid hc3
    clear hc3
    have HRrw_3 := Lib.hid hrrw
    clear hrrw
    go_wp2_with fail
    refine (to_Part w.heap.size Aa na ca la _ (by omega) (((Ha.out.keepC HC1.out (by omega) (by omega)).keepC HC2.out (by omega) (by omega)).keepC HC3.out (by omega) (by omega)) hna).mono ?_
    rintro e w4 ⟨Aax, cax, rfl, hrax, hc4⟩
    have hs4 := hc4.size
    have HC4 := Lib.hid hc4
    clear hc4
    have HRax_4 := Lib.hid hrax
    clear hrax
    go_wp2_with fail
    refine (HI.out _ _ _ _ (by omega) (HRax_4.out).rd).mono ?_
    rintro e w5 ⟨Arg, crg, rfl, hrrg, hc5⟩
    have hs5 := hc5.size
    have HC5 := Lib.hid hc5
    clear hc5
    have HRrg_5 := Lib.hid hrrg
    clear hrrg
    go_wp2_with fail
    refine (eq_Part _ _ _ _ nr _ _ lr _ (by omega) (by omega) (HRrg_5.out).rd (((HRrw_3.out.keep HC4.out (by omega)).keep HC5.out (by omega))).rd (by omega)).mono ?_
    rintro e w6 ⟨rfl, hc6⟩
    have hs6 := hc6.size
    have HC6 := Lib.hid hc6
    clear hc6
    go_wp2_with fail
    refine (to_Part w.heap.size Aa na ca la _ (by omega) ((((((Ha.out.keepC HC1.out (by omega) (by omega)).keepC HC2.out (by omega) (by omega)).keepC HC3.out (by omega) (by omega)).keepC HC4.out (by omega) (by omega)).keepC HC5.out (by omega) (by omega)).keepC HC6.out (by omega) (by omega)) hna).mono ?_
    rintro e w7 ⟨Aay, cay, rfl, hray, hc7⟩
    have hs7 := hc7.size
    have HC7 := Lib.hid hc7
    clear hc7
    have HRay_7 := Lib.hid hray
    clear hray
    go_wp2_with fail
    refine (eq_Part _ _ _ _ na _ _ la _ (by omega) (by omega) ((((HRax_4.out.keep HC5.out (by omega)).keep HC6.out (by omega)).keep HC7.out (by omega))).rd (HRay_7.out).rd hna).mono ?_
    rintro e w8 ⟨rfl, hc8⟩
    have hs8 := hc8.size
    have HC8 := Lib.hid hc8
    clear hc8
    go_wp2_with fail
    refine (HMxa.out _ _ _ _ _ _ ((((HRax_4.out.keep HC5.out (by omega)).keep HC6.out (by omega)).keep HC7.out (by omega)).keep HC8.out (by omega))).mono ?_
    rintro e w9 ⟨rfl, hrax, hc9⟩
    have hs9 := hc9.size
    have HC9 := Lib.hid hc9
    clear hc9
    have HRax_9 := Lib.hid hrax
    clear hrax
    go_wp2_with fail
    refine (eq_Part _ _ _ _ nr _ _ lr _ (by omega) (by omega) (((((HRrg_5.out.keep HC6.out (by omega)).keep HC7.out (by omega)).keep HC8.out (by omega)).keep HC9.out (by omega))).rd (((((((HRrw_3.out.keep HC4.out (by omega)).keep HC5.out (by omega)).keep HC6.out (by omega)).keep HC7.out (by omega)).keep HC8.out (by omega)).keep HC9.out (by omega))).rd (by omega)).mono ?_
    rintro e w10 ⟨rfl, hc10⟩
    have hs10 := hc10.size
    have HC10 := Lib.hid hc10
    clear hc10
    go_wp2_with fail
    refine (HMr.out _ _ _ _ _ _ (((((HRrg_5.out.keep HC6.out (by omega)).keep HC7.out (by omega)).keep HC8.out (by omega)).keep HC9.out (by omega)).keep HC10.out (by omega))).mono ?_
    rintro e w11 ⟨rfl, hrrg, hc11⟩
    have hs11 := hc11.size
    have HC11 := Lib.hid hc11
    clear hc11
    have HRrg_11 := Lib.hid hrrg
    clear hrrg
    go_wp2_with fail
    refine (HHr.out _ _ _ _ (by omega) (HRrg_11.out).rd).mono ?_
    rintro e w12 ⟨rfl, hc12⟩
    have hs12 := hc12.size
    have HC12 := Lib.hid hc12
    clear hc12
    go_wp2_with fail
    refine (to_Part w.heap.size Aa na ca la _ (by omega) ((((((((((((Ha.out.keepC HC1.out (by omega) (by omega)).keepC HC2.out (by omega) (by omega)).keepC HC3.out (by omega) (by omega)).keepC HC4.out (by omega) (by omega)).keepC HC5.out (by omega) (by omega)).keepC HC6.out (by omega) (by omega)).keepC HC7.out (by omega) (by omega)).keepC HC8.out (by omega) (by omega)).keepC HC9.out (by omega) (by omega)).keepC HC10.out (by omega) (by omega)).keepC HC11.out (by omega) (by omega)).keepC HC12.out (by omega) (by omega)) hna).mono ?_
    rintro e w13 ⟨Aaz, caz, rfl, hraz, hc13⟩
    have hs13 := hc13.size
    have HC13 := Lib.hid hc13
    clear hc13
    have HRaz_13 := Lib.hid hraz
    clear hraz
    go_wp2_with fail
    refine (HI.out _ _ _ _ (by omega) (HRaz_13.out).rd).mono ?_
    rintro e w14 ⟨Arh, crh, rfl, hrrh, hc14⟩
    have hs14 := hc14.size
    have HC14 := Lib.hid hc14
    clear hc14
    have HRrh_14 := Lib.hid hrrh
    clear hrrh
    go_wp2_with fail
    refine (eq_Part _ _ _ _ nr _ _ lr _ (by omega) (by omega) (HRrh_14.out).rd ((((((((((((HRrw_3.out.keep HC4.out (by omega)).keep HC5.out (by omega)).keep HC6.out (by omega)).keep HC7.out (by omega)).keep HC8.out (by omega)).keep HC9.out (by omega)).keep HC10.out (by omega)).keep HC11.out (by omega)).keep HC12.out (by omega)).keep HC13.out (by omega)).keep HC14.out (by omega))).rd (by omega)).mono ?_
    rintro e w15 ⟨rfl, hc15⟩
    have hs15 := hc15.size
    have HC15 := Lib.hid hc15
    clear hc15
    go_wp2_with fail
    refine (HHr.out _ _ _ _ (by omega) (((((HRrg_11.out.keep HC12.out (by omega)).keep HC13.out (by omega)).keep HC14.out (by omega)).keep HC15.out (by omega))).rd).mono ?_
    rintro e w16 ⟨rfl, hc16⟩
    have hs16 := hc16.size
    have HC16 := Lib.hid hc16
    clear hc16
    go_wp2
    go_ret
    exact ⟨rfl, (((((((((((((((((Below.refl _ _).trans (HC1.out.below (by omega) (by omega))).trans (HC2.out.below (by omega) (by omega))).trans (HC3.out.below (by omega) (by omega))).trans (HC4.out.below (by omega) (by omega))).trans (HC5.out.below (by omega) (by omega))).trans (HC6.out.below (by omega) (by omega))).trans (HC7.out.below (by omega) (by omega))).trans (HC8.out.below (by omega) (by omega))).trans (HC9.out.below (by omega) (by omega))).trans (HC10.out.below (by omega) (by omega))).trans (HC11.out.below (by omega) (by omega))).trans (HC12.out.below (by omega) (by omega))).trans (HC13.out.below (by omega) (by omega))).trans (HC14.out.below (by omega) (by omega))).trans (HC15.out.below (by omega) (by omega))).trans (HC16.out.below (by omega) (by omega)))⟩
  · go_enter Try.func5, Try.ntmps5
    go_wp2_with fail
    refine (sz_Part_no w.heap.size Aa na ca la za HZa.out _ _ (by omega) Ha.out (by omega) (by omega) (by omega) (by omega) HOKa.out).mono ?_
    rintro e w1 ⟨rfl, hc1⟩
    have hs1 := hc1.size
    have HC1 := Lib.hid hc1
    clear hc1
    go_wp2
    go_ret
    exact ⟨rfl, ((Below.refl _ _).trans (HC1.out.below (by omega) (by omega)))⟩
end Go.Proofs.Ytbcbhgbbbdmklaa
