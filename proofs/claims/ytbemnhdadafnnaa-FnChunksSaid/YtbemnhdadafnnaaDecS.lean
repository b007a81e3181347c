/- The contract of spec.l2Decode. -/
import Derived.Test.YtbemnhdadafnnaaEncI
namespace Go.Proofs.Ytbemnhdadafnnaa
set_option linter.unusedVariables false
set_option linter.unusedSimpArgs false
open Go.RowKit
attribute [local go_sem ↓] Go.wp_at_zero Go.wp_at_succ

/-- What reading a chunk hands back: nil and false, or the samples in new memory. -/
def GotS (w : World) (T : Option (List (Int × Int))) (e : Ending) (w' : World) : Prop :=
  (T = none → e = .returned (.tuple #[.slice none 0 0, .bool false])) ∧
  (∀ l, T = some l → ∃ A c, e = .returned (.tuple #[.slice A l.length c, .bool true]) ∧ w'.ownsRow w.heap.size 31 2 (.slice A l.length c) l.length (smps l)) ∧ Below w.heap.size w w'
theorem GotS.no {w w' : World} {T : Option (List (Int × Int))} {e : Ending} (hT : T = none) (he : e = .returned (.tuple #[.slice none 0 0, .bool false])) (hb : Below w.heap.size w w') : GotS w T e w' :=
  ⟨fun _ => he, fun l h => (by rw [hT] at h; cases h), hb⟩
theorem fst_get {ps : List (Int × Int)} {k : Nat} {x y : Int} (h : ps[k]? = some (x, y)) : (ps.map Prod.fst)[k]? = some x := by rw [List.getElem?_map, h]; rfl
theorem snd_get {ps : List (Int × Int)} {k : Nat} {x y : Int} (h : ps[k]? = some (x, y)) : (ps.map Prod.snd)[k]? = some y := by rw [List.getElem?_map, h]; rfl
theorem unparts_at {ps : List (Int × Int)} {k : Nat} {x y : Int} (hx : (sums 0 (sums 0 (ps.map Prod.fst)))[k]? = some x) (hy : (sums 0 (ps.map Prod.snd))[k]? = some y) : (unparts ps)[k]? = some (x, y) := by
  unfold unparts; rw [List.getElem?_zip_eq_some]; exact ⟨hx, hy⟩
theorem unparts_len (ps : List (Int × Int)) : (unparts ps).length = ps.length := by unfold unparts; rw [List.length_zip, sums_len, sums_len, sums_len, List.length_map, List.length_map]; omega
theorem smps_take {l : List (Int × Int)} {k : Nat} {x y : Int} (h : l[k]? = some (x, y)) : smps (l.take (k + 1)) = smps (l.take k) ++ [.int .i64 x, .int .i64 y] := by rw [take_snoc' l k _ h, smps_app]; rfl
theorem within_pairs {M : Int} : ∀ (f : Nat) (t : List Int), t.length ≤ f → within_ M t → within_ M ((pairsP t).map Prod.fst) ∧ within_ M ((pairsP t).map Prod.snd)
  | 0, t, hf, h => by
    obtain rfl : t = [] := List.eq_nil_of_length_eq_zero (by omega)
    exact ⟨fun x hx => by simp [pairsP] at hx, fun x hx => by simp [pairsP] at hx⟩
  | f + 1, [], hf, h => ⟨fun x hx => by simp [pairsP] at hx, fun x hx => by simp [pairsP] at hx⟩
  | f + 1, [a], hf, h => ⟨fun x hx => by simp [pairsP] at hx, fun x hx => by simp [pairsP] at hx⟩
  | f + 1, a :: b :: t, hf, h => by
    obtain ⟨h1, h2⟩ := within_pairs f t (by simp at hf; omega) (fun x hx => h x (List.mem_cons_of_mem _ (List.mem_cons_of_mem _ hx)))
    refine ⟨fun x hx => ?_, fun x hx => ?_⟩
    · simp only [pairsP, List.map_cons, List.mem_cons] at hx
      rcases hx with rfl | hx
      · exact h _ (List.mem_cons_self ..)
      · exact h1 x hx
    · simp only [pairsP, List.map_cons, List.mem_cons] at hx
      rcases hx with rfl | hx
      · exact h _ (List.mem_cons_of_mem _ (List.mem_cons_self ..))
      · exact h2 x hx
theorem infoSmp : (Try.prog.info? 31).map (fun i => (i.zero, i.size, i.bytes)) = some (some (.agg #[.int .i64 0, .int .i64 0]), 2, 16) := by kernel_rfl
theorem pairs_len' {x : Int} {t : List Int} {m : Nat} (h : (x :: t).length = 1 + 2 * m) : (pairsP t).length = m := by
  rw [pairsP_len _ t (Nat.le_refl _)]; rw [List.length_cons] at h; omega
theorem pair_at {x : Int} {t : List Int} {k : Nat} {p q : Int} (hp : (x :: t)[2 * k + 1]? = some p) (hq : (x :: t)[2 * k + 1 + 1]? = some q) : (pairsP t)[k]? = some (p, q) :=
  pairsP_get k t p q (by simpa using hp) (by simpa using hq)
theorem str_ne {a b : ByteArray} (h : ¬ a = b) : (a.toList == b.toList) = false := by
  rw [ByteArray.toList_eq, ByteArray.toList_eq]
  have : a.data.toList ≠ b.data.toList := fun e => h (by cases a; cases b; congr; exact Array.toList_inj.1 e)
  simpa using this
theorem str_eq (S : ByteArray) (l : List UInt8) : S = str l ↔ l = S.data.toList := by
  constructor
  · rintro rfl; simp [str]
  · intro h; subst h; cases S; simp [str]

set_option maxRecDepth 100000 in
set_option maxHeartbeats 2000000 in
theorem l2Decode_any (s : ByteArray) (w : World) (hs : s.size ≤ 600) : Calls Try.prog 43 #[.string s] w (GotS w (dec s.data.toList)) := by
  obtain ⟨i0, hi, hi0, hi1, hi2⟩ := info_parts infoInt
  have HI := Lib.hid (And.intro hi (And.intro hi0 (And.intro hi1 hi2)))
  clear hi hi0 hi1 hi2
  obtain ⟨j0, hj, hj0, hj1, hj2⟩ := info_parts infoSmp
  have HJ := Lib.hid (And.intro hj (And.intro hj0 (And.intro hj1 hj2)))
  clear hj hj0 hj1 hj2
  cases hr : rd s.data.toList with
  | none =>
    have HD := Lib.hid (dec_none_rd hr)
    have HC := Lib.hid (l1GetAll_any s w (by omega))
    rw [hr] at HC
    clear hr
    go_enter Try.func43, Try.ntmps43
    go_wp2_with fail
    refine HC.out.mono ?_
    rintro e w1 ⟨h1, _, hb1⟩
    obtain rfl := h1 rfl
    have HB1 := Lib.hid hb1
    clear h1 hb1
    go_wp2
    go_ret2
    exact GotS.no HD.out rfl HB1.out
  | some n =>
    have HR := Lib.hid hr
    have hnl := rd_len _ _ _ (Nat.le_refl _) hr
    have hsz : s.data.toList.length = s.size := by exact Array.length_toList
    have hnl' : n.length ≤ 600 := by omega
    clear hsz
    have HW := Lib.hid (rd_within _ _ _ (Nat.le_refl _) hr)
    have HC := Lib.hid (l1GetAll_any s w (by omega))
    rw [hr] at HC
    clear hr hnl
    cases n with
    | nil =>
      have HD := Lib.hid (dec_shape HR.out (fun m _ h _ => by simp at h; omega))
      go_enter Try.func43, Try.ntmps43
      go_wp2_with fail
      refine HC.out.mono ?_
      rintro e w1 ⟨_, h1, hb1⟩
      obtain ⟨A, c, rfl, _⟩ := h1 [] rfl
      have HB1 := Lib.hid hb1
      clear h1 hb1
      go_wp2
      go_ret2
      exact GotS.no HD.out rfl HB1.out
    | cons x t =>
    have hx0 := HW.out x (List.mem_cons_self ..)
    by_cases hgood : ∃ m : Nat, m ≤ 40 ∧ (x :: t).length = 1 + 2 * m ∧ x = (m : Int)
    · obtain ⟨m, hm, hlen, rfl⟩ := hgood
      have hin : inB (m : Int) 0 40 = true := inB_t (by omega) (by omega)
      have hz0 : ((1 + 2 * (m : Int)) == 0) = false := by simp; omega
      have hz1 : ((1 + 2 * (m : Int)) != 1 + 2 * (m : Int)) = false := by simp
      have HN := Lib.hid hlen
      clear hnl'
      go_enter Try.func43, Try.ntmps43
      go_wp2_with fail
      refine HC.out.mono ?_
      rintro e w1 ⟨_, h1, hb1⟩
      obtain ⟨A, c, rfl, ho1⟩ := h1 _ rfl
      have HB1 := Lib.hid hb1
      rw [HN.out] at ho1
      have H := Lib.hid (Rd.of_own ho1)
      rw [HN.out]
      clear h1 hb1 ho1 hlen
      obtain ⟨b0, off0, x', rfl, hb0, hx', hc0⟩ := H.out.int_at (k := 0) (by omega)
      obtain rfl : (m : Int) = x' := by simpa using hx'
      simp only [Nat.add_zero] at hc0
      clear hx' hb0
      go_wp2_with (go_at_call 58; refine (l1In_any _ _ _ _).mono ?_; rintro e w' ⟨rfl, rfl⟩)
      clear hc0 hin
      have HPL := Lib.hid (pairs_len' HN.out)
      have HWP := Lib.hid (within_pairs _ t (Nat.le_refl _) (fun z hz => HW.out z (List.mem_cons_of_mem _ hz)))
      have HDR := Lib.hid (dec_rd HR.out)
      clear HW HR
      go_loopw [6, 7, 8] (fun v1 v2 i wr => ∃ k : Nat, k ≤ m ∧ i = .int .i64 (2 * (k : Int) + 1) ∧ Two w1 3 1 3 1 v1 k (ints (((pairsP t).map Prod.fst).take k)) v2 k (ints (((pairsP t).map Prod.snd).take k)) wr) (fun _ _ i _ => 2 * m + 1 - (intOf i).toNat)
      case atStart => exact ⟨0, Nat.zero_le _, rfl, Two.nil_⟩
      case round =>
        obtain ⟨k, hk, rfl, ht⟩ := hrel
        have HT := Lib.hid ht
        have hsz := ht.2.2.2.size
        clear ht
        by_cases hlt : k < m
        · obtain ⟨b, off, p, heA, hbB, hp, hcp⟩ := H.out.int_at (k := 2 * k + 1) (by omega)
          obtain ⟨b', off', q, he, hbB', hq, hcq⟩ := H.out.int_at (k := 2 * k + 1 + 1) (by omega)
          obtain ⟨rfl, rfl⟩ : b = b' ∧ off = off' := by simpa using heA.symm.trans he
          obtain ⟨rfl, rfl⟩ : b0 = b ∧ off0 = off := by simpa using heA
          have hcp' : wr.cell? ⟨b0, off0 + (2 * k + 1), none⟩ = some (.int .i64 p) := (bcell HT.out.2.2.2 _ _ (by omega)).trans hcp
          have hcq' : wr.cell? ⟨b0, off0 + (2 * k + 1 + 1), none⟩ = some (.int .i64 q) := (bcell HT.out.2.2.2 _ _ (by omega)).trans hcq
          have HX := Lib.hid (pair_at hp hq)
          try clear heA
          clear he hbB' hp hq hcp hcq
          go_wp2_with (at_builtin; refine wpList_append_lies _ rfl (.tmp 48) (.tmp 53) 47 rfl w1.heap.size 3 i0 (.int .i64 0) 1 8 Try.underlying47 HI.out.1 HI.out.2.1 HI.out.2.2.1 HI.out.2.2.2 rfl (by decide) _ k _ rfl (HT.out.alloc _).1 ⟨wr.heap.size, 0, none⟩ 1 1 [.int .i64 p] rfl rfl ?c1 ?c2 (by decide) ?c3 ?c4 ?c5 (wr.heap.size + 1) ?c6 ?_)
          case c1 =>
            intro j u hj
            match j, hj with
            | 0, hj => simp at hj; subst hj; simp [Addr.add]
          case c2 => intro u hu; simp at hu; subst hu; rfl
          case c3 => unfold maxLen; omega
          case c4 => omega
          case c5 => simp; omega
          case c6 => simp
          intro g1 cap1 w2 ho1 hg1 hat1 hlt1
          have hcq2 : w2.cell? ⟨b0, off0 + (2 * k + 1 + 1), none⟩ = some (.int .i64 q) := grown_cell hg1 ((World.cell?_alloc_lt _ _ _ (by simp; omega)).trans hcq') (by simp; omega) (fun g e => by have := (HT.out.1.lt g e).1; omega)
          have T1 := Lib.hid ((HT.out.alloc _).app1 ho1 hg1 hat1 (by simp))
          have hs1 := hg1.size
          clear ho1 hg1 hat1 hlt1 hcp' hcq'
          go_wp2_with (at_builtin; refine wpList_append_lies _ rfl (.tmp 55) (.tmp 61) 47 rfl w1.heap.size 3 i0 (.int .i64 0) 1 8 Try.underlying47 HI.out.1 HI.out.2.1 HI.out.2.2.1 HI.out.2.2.2 rfl (by decide) _ k _ rfl (T1.out.alloc _).2.1 ⟨w2.heap.size, 0, none⟩ 1 1 [.int .i64 q] rfl rfl ?c1 ?c2 (by decide) ?c3 ?c4 ?c5 (w2.heap.size + 1) ?c6 ?_)
          case c1 =>
            intro j u hj
            match j, hj with
            | 0, hj => simp at hj; subst hj; simp [Addr.add]
          case c2 => intro u hu; simp at hu; subst hu; rfl
          case c3 => unfold maxLen; omega
          case c4 => omega
          case c5 => simp at hs1 ⊢; omega
          case c6 => simp
          intro g2 cap2 w3 ho2 hg2 hat2 hlt2
          have T2 := Lib.hid ((T1.out.alloc _).app2 ho2 hg2 hat2 (by simp))
          clear ho2 hg2 hat2 hlt2 hcq2
          go_wp2
          go_roundw
          case rel => exact ⟨k + 1, by omega, by go_num, by rw [fst_at HX.out, snd_at HX.out]; exact T2.out⟩
          case measure => simp [intOf]; omega
        · have hkm : k = m := by omega
          have ht := HT.out
          rw [hkm] at ht
          rw [List.take_of_length_le (by rw [List.length_map, HPL.out]; omega), List.take_of_length_le (by rw [List.length_map, HPL.out]; omega)] at ht
          obtain ⟨A1, c1, rfl⟩ := own_slice ht.1
          obtain ⟨A2, c2, rfl⟩ := own_slice ht.2.1
          have H1 := Lib.hid (Rd.of_own ht.1)
          have H2 := Lib.hid (Rd.of_own ht.2.1)
          have HB2 := Lib.hid (HB1.out.trans (ht.2.2.2.mono (by have := HB1.out.size; omega)) : Below w.heap.size w wr)
          clear ht HT HB1 H
          go_wp2_with fail
          refine (l2Sums_any wr.heap.size A1 m c1 ((pairsP t).map Prod.fst) wr (Nat.le_refl _) H1.out (by omega) (within_mono HWP.out.1 (by omega))).mono ?_
          rintro e w3 ⟨A3, c3, rfl, h3, hb3⟩
          have H3 := Lib.hid h3.rd
          have HB3 := Lib.hid hb3
          clear h3 hb3
          have HWS := Lib.hid (within_sums (M := 1000000000000) (l := (pairsP t).map Prod.fst) (a := 0) (j := 0) (by omega) (by omega) (by omega) HWP.out.1)
          have hq40 : (1000000000000 : Int) * ((0 + ((pairsP t).map Prod.fst).length : Nat) : Int) ≤ 1000000000000000 := by rw [List.length_map, HPL.out]; omega
          go_wp2_with fail
          refine (l2Sums_any w3.heap.size A3 m c3 (sums 0 ((pairsP t).map Prod.fst)) w3 (Nat.le_refl _) H3.out (by omega) (within_mono HWS.out hq40)).mono ?_
          rintro e w4 ⟨A4, c4, rfl, h4, hb4⟩
          have H4 := Lib.hid h4.rd
          have HB4 := Lib.hid hb4
          clear h4 hb4 hq40
          have hs3 := HB3.out.size
          have hs4 := HB4.out.size
          have H2' := Lib.hid ((H2.out.below HB3.out).below (HB4.out.mono hs3))
          go_wp2_with fail
          refine (l2Sums_any wr.heap.size A2 m c2 ((pairsP t).map Prod.snd) w4 (by omega) H2'.out (by omega) (within_mono HWP.out.2 (by omega))).mono ?_
          rintro e w5 ⟨A5, c5, rfl, h5, hb5⟩
          have H5 := Lib.hid h5.rd
          have H4' := Lib.hid (H4.out.below hb5)
          have hs5 := hb5.size
          have hsw := HB2.out.size
          have HB5 := Lib.hid ((((HB2.out.trans (HB3.out.mono hsw)).trans (HB4.out.mono (by omega))).trans (hb5.mono (by omega))) : Below w.heap.size w w5)
          clear h5 hb5 H1 H2 H2' H3 H4 HB2 HB3 HB4 HWS HWP
          obtain ⟨L, hL⟩ : ∃ L, L = unparts (pairsP t) := ⟨_, rfl⟩
          have hLl : L.length = m := by rw [hL, unparts_len, HPL.out]
          have HL := Lib.hid hL
          have HLL := Lib.hid hLl
          clear hL hLl
          go_wp2_with fail
          go_loopw [11, 70] (fun v i wr => ∃ k : Nat, k ≤ m ∧ i = .int .i64 k ∧ wr.ownsRow w5.heap.size 31 2 v k (smps (L.take k)) ∧ Below w5.heap.size w5 wr) (fun _ i _ => m - (intOf i).toNat)
          case atStart => exact ⟨0, Nat.zero_le _, rfl, World.ownsRow_nil _ _ _ _, Below.refl _ _⟩
          case round =>
            obtain ⟨k2, hk2, rfl, ho, hb⟩ := hrel
            have HO := Lib.hid ho
            have HB := Lib.hid hb
            have hsr := hb.size
            clear ho hb
            by_cases hlt2 : k2 < m
            · obtain ⟨b, off, x1, rfl, hbB, hx1, hc1⟩ := H4'.out.int_at hlt2
              obtain ⟨b', off', y1, rfl, hbB', hy1, hc2⟩ := H5.out.int_at hlt2
              have HX := Lib.hid (show L[k2]? = some (x1, y1) by rw [HL.out]; exact unparts_at hx1 hy1)
              have hcx := (bcell HB.out b (off + k2) (by omega)).trans hc1
              have hcy := (bcell HB.out b' (off' + k2) (by omega)).trans hc2
              have hi0 : (0 : Int) ≤ (k2 : Int) := Int.natCast_nonneg _
              have hi1 : (k2 : Int) < (m : Int) := by omega
              clear hx1 hy1 hc1 hc2
              go_wp2_with fail
              go_region_held3 (fun w' => w'.cell? ⟨b, off + k2, none⟩ = some (.int .i64 x1) ∧ w'.cell? ⟨b', off' + k2, none⟩ = some (.int .i64 y1))
                (first
                  | go_keep
                  | (go_split_ands
                     exact ⟨grown_cell hgrow (by assumption) (by simp; omega) (fun g e => by have := (HO.out.lt g e).1; omega), grown_cell hgrow (by assumption) (by simp; omega) (fun g e => by have := (HO.out.lt g e).1; omega)⟩))
                ((refine step_append_lies _ (by rfl) (.tmp 73) (.tmp 83) 25 (by rfl) w5.heap.size 31 j0 (.agg #[.int .i64 0, .int .i64 0]) 2 16 Try.underlying25 HJ.out.1 HJ.out.2.1 HJ.out.2.2.1 HJ.out.2.2.2 rfl (by decide) _ k2 (smps (L.take k2)) (by rfl) (HO.out.drew.alloc _) _ 1 1 [.int .i64 x1, .int .i64 y1] (by rfl) rfl (World.news_of_block (cs := #[.int .i64 x1, .int .i64 y1]) (t := 31) (fr := (0, 0)) (heap_alloc_new _ _)) (by simp [Value.oneCell']) (by decide) (by unfold maxLen; omega) (by omega) (by simp; omega) _ rfl ?_
                  intro g cap w1a ho1 hgrow hat hltg
                  have HBN := Lib.hid ((HB.out.drew.alloc (by simp; omega) _).grown hgrow (by simp; omega) (fun k hk => (HO.out.lt k hk).1))))
              all_goals go_wp2
              all_goals go_roundw
              case rel => exact ⟨k2 + 1, by omega, by go_num, by rw [smps_take HX.out]; exact ho1, HBN.out⟩
              case measure => simp [intOf]; omega
            · have hkm2 : k2 = m := by omega
              have ho := HO.out
              rw [hkm2, List.take_of_length_le (by rw [HLL.out]; omega)] at ho
              obtain ⟨A6, c6, rfl⟩ := own_slice ho
              have HO6 := Lib.hid ho
              have H6 := Lib.hid (Rd.of_own ho)
              have HB6 := Lib.hid (HB5.out.trans (HB.out.mono (by have := HB5.out.size; omega)) : Below w.heap.size w wr)
              have hs6 := HB5.out.size
              clear ho HO HB HB5 H4' H5
              have HDL := Lib.hid (show dec s.data.toList = if goodSmp L = true ∧ enc L = s.data.toList then some L else none by rw [HL.out]; exact HDR.out)
              clear HDR
              cases hg : goodSmp L with
              | false =>
                have HG := Lib.hid hg
                clear hg
                have C1 := Lib.hid (sGoodSamples_any wr.heap.size A6 m c6 L wr (Nat.le_refl _) H6.out (by omega))
                rw [HG.out] at C1
                go_wp2_with fail
                refine C1.out.mono ?_
                rintro e w7 ⟨rfl, hb7⟩
                have HB7 := Lib.hid (HB6.out.trans (hb7.mono HB6.out.size))
                clear hb7
                go_wp2
                go_ret2
                exact GotS.no (by rw [HDL.out, HG.out]; simp) rfl HB7.out
              | true =>
                have HG := Lib.hid hg
                clear hg
                have C1 := Lib.hid (sGoodSamples_any wr.heap.size A6 m c6 L wr (Nat.le_refl _) H6.out (by omega))
                rw [HG.out] at C1
                go_wp2_with fail
                refine C1.out.mono ?_
                rintro e w7 ⟨rfl, hb7⟩
                have HB7 := Lib.hid (HB6.out.trans (hb7.mono HB6.out.size))
                have H7 := Lib.hid (H6.out.below hb7)
                have HO7 := Lib.hid (own_below HO6.out hb7 (Nat.le_refl _))
                have hs7 := hb7.size
                clear hb7 HB6 H6 HO6
                obtain ⟨E, hE⟩ : ∃ E, E = str (enc L) := ⟨_, rfl⟩
                have C2 := Lib.hid (l2Encode_any wr.heap.size A6 m c6 L w7 hs7 H7.out HG.out)
                rw [← hE] at C2
                have HE := Lib.hid hE
                clear hE C1
                by_cases hes : E = s
                · have HES := Lib.hid hes
                  subst hes
                  go_wp2_with fail
                  refine C2.out.mono ?_
                  rintro e w8 ⟨rfl, hb8⟩
                  have HB8 := Lib.hid (HB7.out.trans (hb8.mono HB7.out.size))
                  have HO8 := Lib.hid (own_below HO7.out hb8 (Nat.le_refl _))
                  clear hb8
                  go_wp2
                  go_ret2
                  have hd : dec E.data.toList = some L := by rw [HDL.out, if_pos ⟨HG.out, (str_eq E (enc L)).1 HE.out⟩]
                  refine ⟨fun h => (by rw [hd] at h; cases h), fun l h => ?_, HB8.out⟩
                  rw [hd] at h
                  injection h with h
                  subst h
                  have h8 := own_mono HO8.out (show w.heap.size ≤ w5.heap.size from hs6)
                  rw [HLL.out]
                  exact ⟨A6, c6, rfl, h8⟩
                · have hne := str_ne hes
                  go_wp2_with fail
                  refine C2.out.mono ?_
                  rintro e w8 ⟨rfl, hb8⟩
                  have HB8 := Lib.hid (HB7.out.trans (hb8.mono HB7.out.size))
                  clear hb8
                  go_wp2
                  go_ret2
                  refine GotS.no ?_ rfl HB8.out
                  rw [HDL.out, if_neg]
                  rintro ⟨_, h⟩
                  exact hes (by rw [HE.out]; exact ((str_eq s (enc L)).2 h).symm)
    · have HD := Lib.hid (dec_shape HR.out (fun m hm h h0 => hgood ⟨m, hm, h, by simpa using h0⟩))
      obtain ⟨N, hN⟩ : ∃ N, N = (x :: t).length := ⟨_, rfl⟩
      have hN0 : 0 < N := by rw [hN]; simp
      have hz0 : ((N : Int) == 0) = false := by simp; omega
      rw [← hN] at hnl'
      have HN := Lib.hid hN.symm
      cases hin : inB x 0 40 with
      | true =>
        have hin2 := inB_iff.1 hin
        have hz1 : ((N : Int) != 1 + 2 * x) = true := by
          simp
          intro e
          exact hgood ⟨x.toNat, by omega, by rw [HN.out]; omega, by omega⟩
        clear hgood hN
        go_enter Try.func43, Try.ntmps43
        go_wp2_with fail
        refine HC.out.mono ?_
        rintro e w1 ⟨_, h1, hb1⟩
        obtain ⟨A, c, rfl, ho1⟩ := h1 _ rfl
        have HB1 := Lib.hid hb1
        rw [HN.out] at ho1
        have H := Lib.hid (Rd.of_own ho1)
        rw [HN.out]
        clear h1 hb1 ho1
        obtain ⟨b0, off0, x', rfl, hb0, hx', hc0⟩ := H.out.int_at (k := 0) (by omega)
        obtain rfl : x = x' := by simpa using hx'
        simp only [Nat.add_zero] at hc0
        clear hx' hb0
        go_wp2_with (go_at_call 58; refine (l1In_any _ _ _ _).mono ?_; rintro e w' ⟨rfl, rfl⟩)
        go_ret2
        exact GotS.no HD.out rfl HB1.out
      | false =>
        clear hgood hN
        go_enter Try.func43, Try.ntmps43
        go_wp2_with fail
        refine HC.out.mono ?_
        rintro e w1 ⟨_, h1, hb1⟩
        obtain ⟨A, c, rfl, ho1⟩ := h1 _ rfl
        have HB1 := Lib.hid hb1
        rw [HN.out] at ho1
        have H := Lib.hid (Rd.of_own ho1)
        rw [HN.out]
        clear h1 hb1 ho1
        obtain ⟨b0, off0, x', rfl, hb0, hx', hc0⟩ := H.out.int_at (k := 0) (by omega)
        obtain rfl : x = x' := by simpa using hx'
        simp only [Nat.add_zero] at hc0
        clear hx' hb0
        go_wp2_with (go_at_call 58; refine (l1In_any _ _ _ _).mono ?_; rintro e w' ⟨rfl, rfl⟩)
        go_ret2
        exact GotS.no HD.out rfl HB1.out
end Go.Proofs.Ytbemnhdadafnnaa
