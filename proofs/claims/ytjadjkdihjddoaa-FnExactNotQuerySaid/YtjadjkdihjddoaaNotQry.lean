/- The law NotQuery. -/
import Derived.Test.YtjadjkdihjddoaaQryLaw
import Derived.Test.YtjadjkdihjddoaaCloneP
namespace Go.Proofs.Ytjadjkdihjddoaa
set_option linter.unusedVariables false
set_option linter.unusedSimpArgs false
open Go.RowKit

def okNotQ (l : List Qry) : Bool := goodQry l && decide (l.length ≠ 20)
def notQL (l : List Qry) : List Qry := if okNotQ l then l ++ [notQ l] else []
theorem notQ_no {l : List Qry} (h : okNotQ l = false) : notQL l = [] := by unfold notQL; rw [h]; rfl
theorem notQ_yes {l : List Qry} (h : okNotQ l = true) : notQL l = l ++ [notQ l] := by unfold notQL; rw [h]; rfl
theorem notQ_len (l : List Qry) : (notQL l).length ≤ 1048576 := by
  cases h : okNotQ l
  · rw [notQ_no h]; exact Nat.zero_le _
  · rw [notQ_yes h]
    unfold okNotQ at h
    simp only [Bool.and_eq_true] at h
    have := goodQ_len h.1
    simp
    omega
set_option maxRecDepth 100000 in
set_option maxHeartbeats 4000000 in
theorem sNotQuery_any (B : Nat) (A : Option Addr) (n c : Nat) (l : List Qry) (w : World) (hBw : B ≤ w.heap.size) (h : Rd w B 5 A n (qrys l)) (hn : n ≤ 1048576) (hok : ∀ p ∈ l, p.name.size ≤ 1048576 ∧ p.value.size ≤ 1048576) :
    Calls Try.prog 25 #[.slice A n c] w (GotR 68 5 w (notQL l).length (qrys (notQL l)) (okNotQ l)) := by
  have hlen := h.qry_len
  have C1 := Lib.hid (sGoodQuery_any B A n c l w hBw h hn hok)
  obtain ⟨i0, hi, hi0, hi1, hi2⟩ := info_parts infoQuery
  have HI := Lib.hid (And.intro hi (And.intro hi0 (And.intro hi1 hi2)))
  clear hi hi0 hi1 hi2
  cases hg : goodQry l with
  | false =>
    have e1 : okNotQ l = false := by unfold okNotQ; rw [hg]; rfl
    rw [e1, notQ_no e1]
    rw [hg] at C1
    clear h hlen e1 hg
    go_enter Try.func25, Try.ntmps25
    go_wp2_with fail
    refine C1.out.mono ?_
    rintro e w1 ⟨rfl, hb1⟩
    have HB := Lib.hid hb1
    clear hb1
    go_wp2
    go_ret2
    exact GotR.no_ HB.out
  | true =>
    by_cases h20 : n = 20
    · have e1 : okNotQ l = false := by unfold okNotQ; rw [hg, hlen, h20]; rfl
      rw [e1, notQ_no e1]
      rw [hg] at C1
      clear h hlen e1 hg
      subst h20
      go_enter Try.func25, Try.ntmps25
      go_wp2_with fail
      refine C1.out.mono ?_
      rintro e w1 ⟨rfl, hb1⟩
      have HB := Lib.hid hb1
      clear hb1
      go_wp2
      go_ret2
      exact GotR.no_ HB.out
    · have e1 : okNotQ l = true := by unfold okNotQ; rw [hg, hlen]; simpa using h20
      rw [e1, notQ_yes e1]
      have hlq := goodQ_len hg
      rw [hlen] at hlq
      rw [hg] at C1
      have h20' : ((n : Int) == 20) = false := by simp; omega
      obtain ⟨b0, off, rfl, hb0, hc⟩ := h.2 (by omega)
      have HL := Lib.hid hlen
      have HC := Lib.hid hc
      have H := Lib.hid h
      clear e1 hg hlen hc h
      go_enter Try.func25, Try.ntmps25
      go_wp2_with fail
      refine C1.out.mono ?_
      rintro e w1 ⟨rfl, hb1⟩
      have HB1 := Lib.hid hb1
      have hs1 := hb1.size
      clear hb1
      go_wp2_with (at_builtin; refine wpList_append_own _ rfl (.tmp 12) (.tmp 13) 31 rfl w.heap.size 68 i0 (.agg #[.int .i64 0, .string .empty, .string .empty, .int .i64 0, .int .i64 0]) 5 56 Try.underlying31 HI.out.1 HI.out.2.1 HI.out.2.2.1 HI.out.2.2.2 rfl (by decide) _ 0 [] rfl (World.ownsRow_lit w1 #[] 0 hs1 (by unfold maxLen; omega) rfl) ⟨b0, off, none⟩ n c (qrys l) rfl (by rw [qrys_len, HL.out]) ?c1 (qrys_one l) (by unfold maxLen; omega) (by omega) (by simp; omega) ?_)
      case c1 =>
        intro j u hu
        rw [Addr.add_lit, World.cell?_alloc_lt _ _ _ (by simp; omega)]
        exact (bcell HB1.out _ _ (by omega)).trans (HC.out j u hu)
      intro v' w2 ho2 hg2 _
      obtain ⟨A2, c2, rfl⟩ := own_slice ho2
      have HB2 := Lib.hid ((HB1.out.alloc hs1 (.cells #[] 68)).grown hg2 (by simp; omega) (fun k hk => by simp [Value.ownBlock] at hk; omega))
      have HO2 := Lib.hid (show w2.ownsRow w.heap.size 68 5 (.slice A2 n c2) n (qrys l) by simpa using ho2)
      clear ho2 hg2
      go_wp2_with (at_builtin; refine wpList_append_own _ rfl (.tmp 14) (.tmp 19) 31 rfl w.heap.size 68 i0 (.agg #[.int .i64 0, .string .empty, .string .empty, .int .i64 0, .int .i64 0]) 5 56 Try.underlying31 HI.out.1 HI.out.2.1 HI.out.2.2.1 HI.out.2.2.2 rfl (by decide) _ n _ rfl (HO2.out.alloc _) ⟨w2.heap.size, 0, none⟩ 1 1 (qrys [⟨5, ⟨#[]⟩, ⟨#[]⟩, (n : Int) - 1, 0⟩]) rfl rfl ?c1 (qrys_one _) ?c3 ?c4 ?c5 ?_)
      case c1 =>
        intro j u hj
        have hj5 : j < 5 := (List.getElem?_eq_some_iff.1 hj).1
        rw [Addr.add_lit, World.cell?_alloc_at _ _ _ _ rfl]
        simpa [qrys, Qry.cells] using hj
      case c3 => unfold maxLen; omega
      case c4 => omega
      case c5 => have := HB2.out.size; simp; omega
      intro v' w3 ho3 hg3 _
      obtain ⟨A3, c3, rfl⟩ := own_slice ho3
      have HB3 := Lib.hid ((HB2.out.alloc (by have := HB2.out.size; omega) (.cells #[.int .i64 5, .string ⟨#[]⟩, .string ⟨#[]⟩, .int .i64 ((n : Int) - 1), .int .i64 0] 68)).grown hg3 (by have := HB2.out.size; simp; omega) (fun k hk => (HO2.out.lt k hk).1))
      have HO3 := Lib.hid (show w3.ownsRow w.heap.size 68 5 (.slice A3 (n + 1) c3) (n + 1) (qrys (l ++ [notQ l])) by rw [qrys_app]; unfold notQ; rw [HL.out]; exact ho3)
      clear ho3 hg3
      go_wp2
      go_ret2
      rw [List.length_append, HL.out, List.length_singleton]
      exact GotR.own_ HO3.out HB3.out
set_option maxRecDepth 100000 in
set_option maxHeartbeats 4000000 in
theorem iNotQuery_any (B : Nat) (A : Option Addr) (n c : Nat) (l : List Qry) (w : World) (hBw : B ≤ w.heap.size) (h : Rd w B 5 A n (qrys l)) (hn : n ≤ 1048576) (hok : ∀ p ∈ l, p.name.size ≤ 1048576 ∧ p.value.size ≤ 1048576) :
    Calls Try.prog 26 #[.slice A n c] w (GotR 68 5 w (notQL l).length (qrys (notQL l)) (okNotQ l)) := by
  have hlen := h.qry_len
  have C1 := Lib.hid (isQuery_any B A n c l w hBw h hn hok)
  obtain ⟨i0, hi, hi0, hi1, hi2⟩ := info_parts infoQuery
  have HI := Lib.hid (And.intro hi (And.intro hi0 (And.intro hi1 hi2)))
  clear hi hi0 hi1 hi2
  cases hg : goodQry l with
  | false =>
    have e1 : okNotQ l = false := by unfold okNotQ; rw [hg]; rfl
    rw [e1, notQ_no e1]
    rw [hg] at C1
    clear h hlen e1 hg
    go_enter Try.func26, Try.ntmps26
    go_wp2_with fail
    refine C1.out.mono ?_
    rintro e w1 ⟨rfl, hb1⟩
    have HB := Lib.hid hb1
    clear hb1
    go_wp2
    go_ret2
    exact GotR.no_ HB.out
  | true =>
    by_cases h20 : n = 20
    · have e1 : okNotQ l = false := by unfold okNotQ; rw [hg, hlen, h20]; rfl
      rw [e1, notQ_no e1]
      rw [hg] at C1
      clear h hlen e1 hg
      subst h20
      go_enter Try.func26, Try.ntmps26
      go_wp2_with fail
      refine C1.out.mono ?_
      rintro e w1 ⟨rfl, hb1⟩
      have HB := Lib.hid hb1
      clear hb1
      go_wp2
      go_ret2
      exact GotR.no_ HB.out
    · have e1 : okNotQ l = true := by unfold okNotQ; rw [hg, hlen]; simpa using h20
      rw [e1, notQ_yes e1]
      have hlq := goodQ_len hg
      rw [hlen] at hlq
      rw [hg] at C1
      have h20' : ((n : Int) == 20) = false := by simp; omega
      obtain ⟨b0, off, rfl, hb0, hc⟩ := h.2 (by omega)
      have HL := Lib.hid hlen
      have HC := Lib.hid hc
      have H := Lib.hid h
      clear e1 hg hlen hc h
      go_enter Try.func26, Try.ntmps26
      go_wp2_with fail
      refine C1.out.mono ?_
      rintro e w1 ⟨rfl, hb1⟩
      have HB1 := Lib.hid hb1
      have hs1 := hb1.size
      clear hb1
      go_wp2_with fail
      refine (cloneQuery_any B _ n c l w1 (by omega) (H.out.keep fun b off hb => bcell HB1.out _ _ (by omega)) hn).mono ?_
      rintro e w2 ⟨A2, c2, rfl, ho2, hg2⟩
      have HB2 := Lib.hid (HB1.out.trans (hg2.mono hs1))
      have HO2 := Lib.hid (own_mono ho2 hs1)
      clear ho2 hg2
      go_wp2_with (at_builtin; refine wpList_append_own _ rfl (.tmp 13) (.tmp 18) 31 rfl w.heap.size 68 i0 (.agg #[.int .i64 0, .string .empty, .string .empty, .int .i64 0, .int .i64 0]) 5 56 Try.underlying31 HI.out.1 HI.out.2.1 HI.out.2.2.1 HI.out.2.2.2 rfl (by decide) _ n _ rfl (HO2.out.alloc _) ⟨w2.heap.size, 0, none⟩ 1 1 (qrys [⟨5, ⟨#[]⟩, ⟨#[]⟩, (n : Int) - 1, 0⟩]) rfl rfl ?c1 (qrys_one _) ?c3 ?c4 ?c5 ?_)
      case c1 =>
        intro j u hj
        have hj5 : j < 5 := (List.getElem?_eq_some_iff.1 hj).1
        rw [Addr.add_lit, World.cell?_alloc_at _ _ _ _ rfl]
        simpa [qrys, Qry.cells] using hj
      case c3 => unfold maxLen; omega
      case c4 => omega
      case c5 => have := HB2.out.size; simp; omega
      intro v' w3 ho3 hg3 _
      obtain ⟨A3, c3, rfl⟩ := own_slice ho3
      have HB3 := Lib.hid ((HB2.out.alloc (by have := HB2.out.size; omega) (.cells #[.int .i64 5, .string ⟨#[]⟩, .string ⟨#[]⟩, .int .i64 ((n : Int) - 1), .int .i64 0] 68)).grown hg3 (by have := HB2.out.size; simp; omega) (fun k hk => (HO2.out.lt k hk).1))
      have HO3 := Lib.hid (show w3.ownsRow w.heap.size 68 5 (.slice A3 (n + 1) c3) (n + 1) (qrys (l ++ [notQ l])) by rw [qrys_app]; unfold notQ; rw [HL.out]; exact ho3)
      clear ho3 hg3
      go_wp2
      go_ret2
      rw [List.length_append, HL.out, List.length_singleton]
      exact GotR.own_ HO3.out HB3.out
theorem both_NotQuery (n : Nat) (l : List Qry) (hn : n ≤ 1048576) (hz : qrySz l ≤ 1048576) : ∃ (nr : Nat) (lr : List Qry) (r1 : Bool), nr ≤ 1048576 ∧
    (∀ B A c w, B ≤ w.heap.size → Rd w B 5 A n (qrys l) → Calls Try.prog 25 #[.slice A n c] w (GotR 68 5 w nr (qrys lr) r1)) ∧
    (∀ B A c w, B ≤ w.heap.size → Rd w B 5 A n (qrys l) → Calls Try.prog 26 #[.slice A n c] w (GotR 68 5 w nr (qrys lr) r1)) :=
  ⟨(notQL l).length, notQL l, _, notQ_len l, fun B A c w hB h => sNotQuery_any B A n c l w hB h hn (qryFit_of hz), fun B A c w hB h => iNotQuery_any B A n c l w hB h hn (qryFit_of hz)⟩
set_option maxRecDepth 100000 in
set_option maxHeartbeats 4000000 in
theorem law_NotQuery (Aa : Option Addr) (na ca : Nat) (la : List Qry) (w : World) (ha : Rd w w.heap.size 5 Aa na (qrys la)) (hcapa : na ≤ 9223372036854775807) (hoka : qrySzOk la) :
    Calls Try.prog 6 #[.slice Aa na ca] w fun e w' => e = .returned (.bool true) ∧ Below w.heap.size w w' := by
  have Ha := Lib.hid ha
  clear ha
  have HOKa := Lib.hid hoka
  clear hoka
  obtain ⟨za, hza⟩ : ∃ z, z = (qrySz la) := ⟨_, rfl⟩
  have hzna : na ≤ za := by rw [hza]; exact sz_Query_ge Ha.out
  have HZa := Lib.hid hza
  clear hza
  by_cases hqa : za ≤ 1048576
  · skip
    have hna : na ≤ 1048576 := by omega
    obtain ⟨nr, lr, r1, hnr, hS, hI⟩ := both_NotQuery na la hna (by have := HZa.out; omega)
    have HS := Lib.hid hS
    have HI := Lib.hid hI
    clear hS hI
    obtain ⟨kxa, mxa, hkxa0, hkxa1, hMxa, hHxa⟩ := mh_Query na 1 hna (by omega) (by omega)
    have HMxa := Lib.hid hMxa
    clear hMxa hHxa
    obtain ⟨mr, mm, hmr0, hmr1, hMr, hHr⟩ := mh_Query nr 1 (by omega) (by omega) (by omega)
    have HMr := Lib.hid hMr
    have HHr := Lib.hid hHr
    clear hMr hHr
    go_enter Try.func6, Try.ntmps6
    go_wp2_with fail
    refine (sz_Query_ok w.heap.size Aa na ca la za HZa.out _ _ (by omega) Ha.out (by omega) (by omega)).mono ?_
    rintro e w1 ⟨rfl, hc1⟩
    have hs1 := hc1.size
    have HC1 := Lib.hid hc1
    clear hc1
    go_wp2_with fail
    refine (to_Query w.heap.size Aa na ca la _ (by omega) (Ha.out.keepC HC1.out (by omega) (by omega)) hna).mono ?_
    rintro e w2 ⟨Aas, cas, rfl, hras, hc2⟩
    have hs2 := hc2.size
    have HC2 := Lib.hid hc2
    clear hc2
    have HRas_2 := Lib.hid hras
    clear hras
    go_wp2_with fail
    refine (HS.out _ _ _ _ (by omega) (HRas_2.out).rd).mono ?_
    rintro e w3 ⟨Arw, crw, rfl, hrrw, hc3⟩
    have hs3 := hc3.size
    have HC3 := Lib.hid hc3
    clear hc3
    have HRrw_3 := Lib.hid hrrw
    clear hrrw
    go_wp2_with fail
    refine (to_Query w.heap.size Aa na ca la _ (by omega) (((Ha.out.keepC HC1.out (by omega) (by omega)).keepC HC2.out (by omega) (by omega)).keepC HC3.out (by omega) (by omega)) hna).mono ?_
    rintro e w4 ⟨Aax, cax, rfl, hrax, hc4⟩
    have hs4 := hc4.size
    have HC4 := Lib.hid hc4
    clear hc4
    have HRax_4 := Lib.hid hrax
    clear hrax
    go_wp2_with fail
    refine (HI.out _ _ _ _ (by omega) (HRax_4.out).rd).mono ?_
    rintro e w5 ⟨Arg, crg, rfl, hrrg, hc5⟩
    have hs5 := hc5.size
    have HC5 := Lib.hid hc5
    clear hc5
    have HRrg_5 := Lib.hid hrrg
    clear hrrg
    go_wp2_with fail
    refine (eq_Query _ _ _ _ nr _ _ lr _ (by omega) (by omega) (HRrg_5.out).rd (((HRrw_3.out.keep HC4.out (by omega)).keep HC5.out (by omega))).rd (by omega)).mono ?_
    rintro e w6 ⟨rfl, hc6⟩
    have hs6 := hc6.size
    have HC6 := Lib.hid hc6
    clear hc6
    go_wp2_with fail
    refine (to_Query w.heap.size Aa na ca la _ (by omega) ((((((Ha.out.keepC HC1.out (by omega) (by omega)).keepC HC2.out (by omega) (by omega)).keepC HC3.out (by omega) (by omega)).keepC HC4.out (by omega) (by omega)).keepC HC5.out (by omega) (by omega)).keepC HC6.out (by omega) (by omega)) hna).mono ?_
    rintro e w7 ⟨Aay, cay, rfl, hray, hc7⟩
    have hs7 := hc7.size
    have HC7 := Lib.hid hc7
    clear hc7
    have HRay_7 := Lib.hid hray
    clear hray
    go_wp2_with fail
    refine (eq_Query _ _ _ _ na _ _ la _ (by omega) (by omega) ((((HRax_4.out.keep HC5.out (by omega)).keep HC6.out (by omega)).keep HC7.out (by omega))).rd (HRay_7.out).rd hna).mono ?_
    rintro e w8 ⟨rfl, hc8⟩
    have hs8 := hc8.size
    have HC8 := Lib.hid hc8
    clear hc8
    go_wp2_with fail
    refine (HMxa.out _ _ _ _ _ _ ((((HRax_4.out.keep HC5.out (by omega)).keep HC6.out (by omega)).keep HC7.out (by omega)).keep HC8.out (by omega))).mono ?_
    rintro e w9 ⟨rfl, hrax, hc9⟩
    have hs9 := hc9.size
    have HC9 := Lib.hid hc9
    clear hc9
    have HRax_9 := Lib.hid hrax
    clear hrax
    go_wp2_with fail
    refine (eq_Query _ _ _ _ nr _ _ lr _ (by omega) (by omega) (((((HRrg_5.out.keep HC6.out (by omega)).keep HC7.out (by omega)).keep HC8.out (by omega)).keep HC9.out (by omega))).rd (((((((HRrw_3.out.keep HC4.out (by omega)).keep HC5.out (by omega)).keep HC6.out (by omega)).keep HC7.out (by omega)).keep HC8.out (by omega)).keep HC9.out (by omega))).rd (by omega)).mono ?_
    rintro e w10 ⟨rfl, hc10⟩
    have hs10 := hc10.size
    have HC10 := Lib.hid hc10
    clear hc10
    go_wp2_with fail
    refine (HMr.out _ _ _ _ _ _ (((((HRrg_5.out.keep HC6.out (by omega)).keep HC7.out (by omega)).keep HC8.out (by omega)).keep HC9.out (by omega)).keep HC10.out (by omega))).mono ?_
    rintro e w11 ⟨rfl, hrrg, hc11⟩
    have hs11 := hc11.size
    have HC11 := Lib.hid hc11
    clear hc11
    have HRrg_11 := Lib.hid hrrg
    clear hrrg
    go_wp2_with fail
    refine (HHr.out _ _ _ _ (by omega) (HRrg_11.out).rd).mono ?_
    rintro e w12 ⟨rfl, hc12⟩
    have hs12 := hc12.size
    have HC12 := Lib.hid hc12
    clear hc12
    go_wp2_with fail
    refine (to_Query w.heap.size Aa na ca la _ (by omega) ((((((((((((Ha.out.keepC HC1.out (by omega) (by omega)).keepC HC2.out (by omega) (by omega)).keepC HC3.out (by omega) (by omega)).keepC HC4.out (by omega) (by omega)).keepC HC5.out (by omega) (by omega)).keepC HC6.out (by omega) (by omega)).keepC HC7.out (by omega) (by omega)).keepC HC8.out (by omega) (by omega)).keepC HC9.out (by omega) (by omega)).keepC HC10.out (by omega) (by omega)).keepC HC11.out (by omega) (by omega)).keepC HC12.out (by omega) (by omega)) hna).mono ?_
    rintro e w13 ⟨Aaz, caz, rfl, hraz, hc13⟩
    have hs13 := hc13.size
    have HC13 := Lib.hid hc13
    clear hc13
    have HRaz_13 := Lib.hid hraz
    clear hraz
    go_wp2_with fail
    refine (HI.out _ _ _ _ (by omega) (HRaz_13.out).rd).mono ?_
    rintro e w14 ⟨Arh, crh, rfl, hrrh, hc14⟩
    have hs14 := hc14.size
    have HC14 := Lib.hid hc14
    clear hc14
    have HRrh_14 := Lib.hid hrrh
    clear hrrh
    go_wp2_with fail
    refine (eq_Query _ _ _ _ nr _ _ lr _ (by omega) (by omega) (HRrh_14.out).rd ((((((((((((HRrw_3.out.keep HC4.out (by omega)).keep HC5.out (by omega)).keep HC6.out (by omega)).keep HC7.out (by omega)).keep HC8.out (by omega)).keep HC9.out (by omega)).keep HC10.out (by omega)).keep HC11.out (by omega)).keep HC12.out (by omega)).keep HC13.out (by omega)).keep HC14.out (by omega))).rd (by omega)).mono ?_
    rintro e w15 ⟨rfl, hc15⟩
    have hs15 := hc15.size
    have HC15 := Lib.hid hc15
    clear hc15
    go_wp2_with fail
    refine (HHr.out _ _ _ _ (by omega) (((((HRrg_11.out.keep HC12.out (by omega)).keep HC13.out (by omega)).keep HC14.out (by omega)).keep HC15.out (by omega))).rd).mono ?_
    rintro e w16 ⟨rfl, hc16⟩
    have hs16 := hc16.size
    have HC16 := Lib.hid hc16
    clear hc16
    go_wp2
    go_ret
    exact ⟨rfl, (((((((((((((((((Below.refl _ _).trans (HC1.out.below (by omega) (by omega))).trans (HC2.out.below (by omega) (by omega))).trans (HC3.out.below (by omega) (by omega))).trans (HC4.out.below (by omega) (by omega))).trans (HC5.out.below (by omega) (by omega))).trans (HC6.out.below (by omega) (by omega))).trans (HC7.out.below (by omega) (by omega))).trans (HC8.out.below (by omega) (by omega))).trans (HC9.out.below (by omega) (by omega))).trans (HC10.out.below (by omega) (by omega))).trans (HC11.out.below (by omega) (by omega))).trans (HC12.out.below (by omega) (by omega))).trans (HC13.out.below (by omega) (by omega))).trans (HC14.out.below (by omega) (by omega))).trans (HC15.out.below (by omega) (by omega))).trans (HC16.out.below (by omega) (by omega)))⟩
  · go_enter Try.func6, Try.ntmps6
    go_wp2_with fail
    refine (sz_Query_no w.heap.size Aa na ca la za HZa.out _ _ (by omega) Ha.out (by omega) (by omega) (by omega) (by omega) HOKa.out).mono ?_
    rintro e w1 ⟨rfl, hc1⟩
    have hs1 := hc1.size
    have HC1 := Lib.hid hc1
    clear hc1
    go_wp2
    go_ret
    exact ⟨rfl, ((Below.refl _ _).trans (HC1.out.below (by omega) (by omega)))⟩
end Go.Proofs.Ytjadjkdihjddoaa
