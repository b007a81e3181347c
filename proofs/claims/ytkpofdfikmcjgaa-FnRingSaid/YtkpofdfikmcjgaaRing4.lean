/- The law DropOwner. -/
import Derived.Test.YtkpofdfikmcjgaaRing3
namespace Go.Proofs.Ytkpofdfikmcjgaa
set_option linter.unusedVariables false
set_option linter.unusedSimpArgs false
open Go.RowKit

def okDrop (l : List Tok) (o : Int) : Bool := goodTok l && ownsT l o
def isO (o : Int) (t : Tok) : Bool := t.2 == o
def dropL (l : List Tok) (o : Int) : List Tok := if okDrop l o then kept (isO o) l else []
theorem drop_no {l : List Tok} {o : Int} (h : okDrop l o = false) : dropL l o = [] := by unfold dropL; rw [h]; rfl
theorem drop_yes {l : List Tok} {o : Int} (h : okDrop l o = true) : dropL l o = kept (isO o) l := by unfold dropL; rw [h]; rfl
set_option maxRecDepth 100000 in
set_option maxHeartbeats 4000000 in
theorem iDropOwner_any (B : Nat) (A : Option Addr) (n c : Nat) (l : List Tok) (o : Int) (w : World) (hBw : B ≤ w.heap.size) (h : Rd w B 2 A n (smps l)) (hn : n ≤ 1048576) :
    Calls Try.prog 22 #[.slice A n c, .int .i64 o] w (GotR 75 2 w (dropL l o).length (smps (dropL l o)) (okDrop l o)) := by
  obtain ⟨wb, hwb⟩ : ∃ wb, wb = w.alloc (.cells #[.int .i64 o] 3) := ⟨_, rfl⟩
  have hb0 : Below w.heap.size w wb := hwb ▸ (Below.refl _ _).alloc (Nat.le_refl _) _
  have hsz : w.heap.size + 1 ≤ wb.heap.size := by rw [hwb]; simp
  have hcb : wb.cell? ⟨w.heap.size, 0, none⟩ = some (.int .i64 o) := by rw [hwb]; simp
  have hBb : B ≤ wb.heap.size := by omega
  have hsb : w.heap.size ≤ wb.heap.size := by omega
  have hR := h.below (hb0.mono hBw)
  have C1 := Lib.hid (isRing_any B A n c l wb hBb hR hn)
  have H0 := Lib.hid hb0
  have HW := Lib.hid hwb
  have HCB := Lib.hid hcb
  cases hg : goodTok l with
  | false =>
    have hK : okDrop l o = false := by unfold okDrop; rw [hg]; rfl
    have HL := Lib.hid (drop_no hK)
    rw [hK]
    rw [hg] at C1
    clear hg h hK hR hwb hb0 hcb
    go_enter Try.func22, Try.ntmps22
    go_wp2_with fail
    rw [← HW.out]
    refine C1.out.mono ?_
    rintro e w1 ⟨rfl, hb⟩
    have HB := Lib.hid (H0.out.trans (hb.mono hsb))
    clear hb
    go_wp2
    go_ret2
    rw [HL.out]
    exact GotR.no HB.out
  | true =>
    rw [hg] at C1
    have C2 := Lib.hid (fun w hB h => hasOwner_any B A n c l o w hB h hn)
    have HR := Lib.hid hR
    cases ho : ownsT l o with
    | false =>
      have hK : okDrop l o = false := by unfold okDrop; rw [ho]; simp
      have HL := Lib.hid (drop_no hK)
      rw [hK]
      rw [ho] at C2
      clear hg h hK hR hwb hb0 hcb ho
      go_enter Try.func22, Try.ntmps22
      go_wp2_with fail
      rw [← HW.out]
      refine C1.out.mono ?_
      rintro e w1 ⟨rfl, hb⟩
      have HB := Lib.hid (H0.out.trans (hb.mono hsb))
      have hs1 := hb.size
      have HR1 := Lib.hid (HR.out.below (hb.mono hBb))
      have hc1 : w1.cell? ⟨w.heap.size, 0, none⟩ = some (.int .i64 o) := (bcell hb _ _ (by omega)).trans HCB.out
      clear hb
      go_wp2_with fail
      refine (C2.out _ (by omega) HR1.out).mono ?_
      rintro e w2 ⟨rfl, hb⟩
      have HB2 := Lib.hid (HB.out.trans (hb.mono HB.out.size))
      clear hb hc1
      go_wp2
      go_ret2
      rw [HL.out]
      exact GotR.no HB2.out
    | true =>
      have hK : okDrop l o = true := by unfold okDrop; rw [hg, ho]; rfl
      have HL := Lib.hid (drop_yes hK)
      rw [hK]
      rw [ho] at C2
      have C3 := Lib.hid (fun w hB h => cloneToken_any B A n c l w hB h hn)
      obtain ⟨L, hL⟩ : ∃ L, kept (isO o) l = L := ⟨_, rfl⟩
      rw [hL] at HL
      have HKP := Lib.hid hL
      clear hg h hK hR hwb hb0 hcb ho hL
      go_enter Try.func22, Try.ntmps22
      go_wp2_with fail
      rw [← HW.out]
      refine C1.out.mono ?_
      rintro e w1 ⟨rfl, hb⟩
      have HB := Lib.hid (H0.out.trans (hb.mono hsb))
      have hs1 := hb.size
      have HR1 := Lib.hid (HR.out.below (hb.mono hBb))
      have hc1 : w1.cell? ⟨w.heap.size, 0, none⟩ = some (.int .i64 o) := (bcell hb _ _ (by omega)).trans HCB.out
      clear hb
      go_wp2_with fail
      refine (C2.out _ (by omega) HR1.out).mono ?_
      rintro e w2 ⟨rfl, hb⟩
      have HB2 := Lib.hid (HB.out.trans (hb.mono HB.out.size))
      have hs2 := hb.size
      have HR2 := Lib.hid (HR1.out.below (hb.mono (by omega)))
      have HC2 := Lib.hid (show w2.cell? ⟨w.heap.size, 0, none⟩ = some (.int .i64 o) from (bcell hb _ _ (by omega)).trans hc1)
      clear hb hc1
      go_wp2_with fail
      refine (C3.out _ (by omega) HR2.out).mono ?_
      rintro e w3 ⟨A3, c3, rfl, ho3, hb⟩
      have HB3 := Lib.hid (HB2.out.trans (hb.mono HB2.out.size))
      have hs3 := hb.size
      have HD := Lib.hid (drop_del w2.heap.size w3 (some ⟨w.heap.size, 0, none⟩) (isO o) hs3
        (fun x y w' hw => DropOwner1_any w.heap.size o x y w' ((bcell hw _ _ (by omega)).trans ((bcell hb _ _ (by omega)).trans HC2.out)) (by have := hw.size; omega))
        A3 n c3 l w3 (Below.refl _ _) ho3 hn)
      rw [HKP.out] at HD
      clear hb ho3
      go_wp2_with fail
      refine HD.out.mono ?_
      rintro e w4 ⟨A4, c4, rfl, ho4, hb⟩
      have HB4 := Lib.hid (HB3.out.trans (hb.mono (by omega)))
      have HO4 := Lib.hid (own_mono ho4 (show w.heap.size ≤ w2.heap.size by omega))
      clear hb ho4 HD
      go_wp2
      go_ret2
      rw [HL.out]
      exact GotR.of_own HO4.out HB4.out
theorem isO_take {o : Int} {l : List Tok} {k : Nat} {x y : Int} (h : l[k]? = some (x, y)) : kept (isO o) (l.take (k + 1)) = if y == o then kept (isO o) (l.take k) else kept (isO o) (l.take k) ++ [(x, y)] := by
  cases e : y == o with
  | true => exact kept_snoc_no h e
  | false => exact kept_snoc_yes h e
set_option maxRecDepth 100000 in
set_option maxHeartbeats 4000000 in
theorem sDropOwner_any (B : Nat) (A : Option Addr) (n c : Nat) (l : List Tok) (o : Int) (w : World) (hBw : B ≤ w.heap.size) (h : Rd w B 2 A n (smps l)) (hn : n ≤ 1048576) :
    Calls Try.prog 21 #[.slice A n c, .int .i64 o] w (GotR 75 2 w (dropL l o).length (smps (dropL l o)) (okDrop l o)) := by
  obtain ⟨j0, hj, hj0, hj1, hj2⟩ := info_parts infoToken
  have HJ := Lib.hid (And.intro hj (And.intro hj0 (And.intro hj1 hj2)))
  clear hj hj0 hj1 hj2
  have C1 := Lib.hid (sGoodRing_any B A n c l w hBw h hn)
  have hlen := h.smp_len
  cases hg : goodTok l with
  | false =>
    have hK : okDrop l o = false := by unfold okDrop; rw [hg]; rfl
    have HL := Lib.hid (drop_no hK)
    rw [hK]
    rw [hg] at C1
    clear hg h hK
    go_enter Try.func21, Try.ntmps21
    go_wp2_with fail
    refine C1.out.mono ?_
    rintro e w1 ⟨rfl, hb⟩
    have HB := Lib.hid hb
    clear hb
    go_wp2
    go_ret2
    rw [HL.out]
    exact GotR.no HB.out
  | true =>
    rw [hg] at C1
    have C2 := Lib.hid (fun w hB h => l3Owns_any B A n c l o w hB h hn)
    have H := Lib.hid h
    have hn40 : n ≤ 40 := by have := goodTok_len hg; omega
    cases ho : ownsT l o with
    | false =>
      have hK : okDrop l o = false := by unfold okDrop; rw [ho]; simp
      have HL := Lib.hid (drop_no hK)
      rw [hK]
      rw [ho] at C2
      clear hg h hK ho
      go_enter Try.func21, Try.ntmps21
      go_wp2_with fail
      refine C1.out.mono ?_
      rintro e w1 ⟨rfl, hb⟩
      have HB := Lib.hid hb
      have hs1 := hb.size
      clear hb
      go_wp2_with fail
      refine (C2.out _ (by omega) (H.out.below (HB.out.mono hBw))).mono ?_
      rintro e w2 ⟨rfl, hb⟩
      have HB2 := Lib.hid (HB.out.trans (hb.mono hs1))
      clear hb
      go_wp2
      go_ret2
      rw [HL.out]
      exact GotR.no HB2.out
    | true =>
      have hK : okDrop l o = true := by unfold okDrop; rw [hg, ho]; rfl
      have HL := Lib.hid (drop_yes hK)
      rw [hK]
      rw [ho] at C2
      have HLN := Lib.hid hlen
      clear hg h hK ho hlen
      go_enter Try.func21, Try.ntmps21
      go_wp2_with fail
      refine C1.out.mono ?_
      rintro e w1 ⟨rfl, hb⟩
      have HB := Lib.hid hb
      have hs1 := hb.size
      clear hb
      go_wp2_with fail
      refine (C2.out _ (by omega) (H.out.below (HB.out.mono hBw))).mono ?_
      rintro e w2 ⟨rfl, hb⟩
      have HB2 := Lib.hid (HB.out.trans (hb.mono hs1))
      have hs2 : w.heap.size ≤ w2.heap.size := (HB.out.trans (hb.mono hs1)).size
      clear hb HB
      go_wp2_with fail
      go_loopw [6, 20] (fun v i wr => ∃ (k m : Nat) (acc : List Tok), k ≤ n ∧ i = .int .i64 k ∧ m ≤ k ∧ acc.length = m ∧ acc = kept (isO o) (l.take k) ∧ wr.ownsRow w2.heap.size 75 2 v m (smps acc) ∧ Below w2.heap.size w2 wr) (fun _ i _ => n - (intOf i).toNat)
      case atStart => exact ⟨0, 0, [], Nat.zero_le _, rfl, Nat.le_refl _, rfl, rfl, World.ownsRow_nil _ _ _ _, Below.refl _ _⟩
      case round =>
        obtain ⟨k, m, acc, hk, rfl, hm, hml, hacc, ho, hb⟩ := hrel
        have HM := Lib.hid hml
        have HA := Lib.hid hacc
        have HO := Lib.hid ho
        have HBr := Lib.hid hb
        have hsr := hb.size
        clear hml hacc ho hb
        by_cases hlt : k < n
        · obtain ⟨b, off, x, y, rfl, hbB, hx, hc0, hc1⟩ := H.out.smp_at hlt
          have hc0' : wr.cell? ⟨b, off + k * 2, none⟩ = some (.int .i64 x) := (bcell HBr.out _ _ (by omega)).trans ((bcell HB2.out _ _ (by omega)).trans hc0)
          have hc1' : wr.cell? ⟨b, off + k * 2 + 1, none⟩ = some (.int .i64 y) := (bcell HBr.out _ _ (by omega)).trans ((bcell HB2.out _ _ (by omega)).trans hc1)
          have HX := Lib.hid (isO_take (o := o) hx)
          have HBA := Lib.hid (HBr.out.alloc hsr (.cells #[.int .i64 x, .int .i64 y] 75))
          clear hx hc0 hc1
          by_cases hyo : y = o
          · have hd : (y != o) = false := by simpa using hyo
            have HE := Lib.hid (show acc = kept (isO o) (l.take (k + 1)) by rw [HX.out, if_pos (by simpa using hyo)]; exact HA.out)
            clear hyo HX
            go_wp2
            go_roundw
            case rel => exact ⟨k + 1, m, acc, by omega, by go_num, by omega, HM.out, HE.out, HO.out.alloc _, HBA.out⟩
            case measure => simp [intOf]; omega
          · have hd : (y != o) = true := by simpa using hyo
            have HE := Lib.hid (show acc ++ [(x, y)] = kept (isO o) (l.take (k + 1)) by rw [HX.out, if_neg (by simpa using hyo), HA.out])
            clear hyo HX
            go_wp2_with (at_builtin; refine wpList_append_own _ rfl (.tmp 28) (.tmp 30) 33 rfl w2.heap.size 75 j0 (.agg #[.int .i64 0, .int .i64 0]) 2 16 Try.underlying33 HJ.out.1 HJ.out.2.1 HJ.out.2.2.1 HJ.out.2.2.2 rfl (by decide) _ m _ rfl ((HO.out.alloc _).alloc _) ⟨wr.heap.size + 1, 0, none⟩ 1 1 [.int .i64 x, .int .i64 y] rfl rfl ?c1 (by simp [Value.oneCell']) ?c3 ?c4 ?c5 ?_)
            case c1 =>
              intro j u hj
              match j, hj with
              | 0, hj => simp at hj; subst hj; simp [Addr.add]
              | 1, hj => simp at hj; subst hj; simp [Addr.add]
            case c3 => unfold maxLen; omega
            case c4 => omega
            case c5 => simp; omega
            intro v' w3 ho3 hg3 _
            have HB3 := Lib.hid ((HBA.out.alloc (by simp; omega) (.cells #[.int .i64 x, .int .i64 y] 75)).grown hg3 (by simp; omega) (fun k hk => (HO.out.lt k hk).1))
            have HO3 := Lib.hid (show w3.ownsRow w2.heap.size 75 2 v' (m + 1) (smps (acc ++ [(x, y)])) by rw [smps_app]; exact ho3)
            clear ho3 hg3
            go_wp2
            go_roundw
            case rel => exact ⟨k + 1, m + 1, acc ++ [(x, y)], by omega, by go_num, by omega, by rw [List.length_append, HM.out]; rfl, HE.out, HO3.out, HB3.out⟩
            case measure => simp [intOf]; omega
        · obtain ⟨A2, c2, rfl⟩ := own_slice HO.out
          have e := HA.out
          rw [List.take_of_length_le (by rw [HLN.out]; omega)] at e
          have HE := Lib.hid e
          clear e
          go_wp2
          go_ret2
          rw [HL.out, ← HE.out, HM.out]
          exact GotR.of_own (own_mono HO.out hs2) (HB2.out.trans (HBr.out.mono hs2))
theorem both_DropOwner (n : Nat) (l : List Tok) (o : Int) (hn : n ≤ 1048576) : ∃ (nr : Nat) (lr : List Tok) (r1 : Bool), nr ≤ 1048576 ∧
    (∀ B A c w, B ≤ w.heap.size → Rd w B 2 A n (smps l) → Calls Try.prog 21 #[.slice A n c, .int .i64 o] w (GotR 75 2 w nr (smps lr) r1)) ∧
    (∀ B A c w, B ≤ w.heap.size → Rd w B 2 A n (smps l) → Calls Try.prog 22 #[.slice A n c, .int .i64 o] w (GotR 75 2 w nr (smps lr) r1)) := by
  refine ⟨(dropL l o).length, dropL l o, _, ?_, fun B A c w hB h => sDropOwner_any B A n c l o w hB h hn, fun B A c w hB h => iDropOwner_any B A n c l o w hB h hn⟩
  unfold dropL
  split
  · rename_i hg
    unfold okDrop at hg
    simp only [Bool.and_eq_true] at hg
    have h1 := goodTok_len hg.1
    exact Nat.le_trans (List.length_filter_le ..) (by omega)
  · simp
set_option maxRecDepth 100000 in
set_option maxHeartbeats 4000000 in
theorem law_DropOwner (Aa : Option Addr) (na ca : Nat) (la : List (Int × Int)) (o : Int) (w : World) (ha : Rd w w.heap.size 2 Aa na (smps la)) (hcapa : na ≤ 9223372036854775807) :
    Calls Try.prog 5 #[.slice Aa na ca, .int .i64 o] w fun e w' => e = .returned (.bool true) ∧ Below w.heap.size w w' := by
  have Ha := Lib.hid ha
  clear ha
  by_cases hqa : na ≤ 1048576
  · skip
    have hna : na ≤ 1048576 := by omega
    obtain ⟨nr, lr, r1, hnr, hS, hI⟩ := both_DropOwner na la o hna
    have HS := Lib.hid hS
    have HI := Lib.hid hI
    clear hS hI
    obtain ⟨kxa, mxa, hkxa0, hkxa1, hMxa, hHxa⟩ := mh_Token na 1 hna (by omega) (by omega)
    have HMxa := Lib.hid hMxa
    clear hMxa hHxa
    obtain ⟨mr, mm, hmr0, hmr1, hMr, hHr⟩ := mh_Token nr 1 (by omega) (by omega) (by omega)
    have HMr := Lib.hid hMr
    have HHr := Lib.hid hHr
    clear hMr hHr
    go_enter Try.func5, Try.ntmps5
    go_wp2_with fail
    refine (sz_Token_ok Aa na ca _ _ (by omega) (by omega)).mono ?_
    rintro e w1 ⟨rfl, hc1⟩
    have hs1 := hc1.size
    have HC1 := Lib.hid hc1
    clear hc1
    go_wp2_with fail
    refine (to_Token w.heap.size Aa na ca la _ (by omega) (Ha.out.keepC HC1.out (by omega) (by omega)) hna).mono ?_
    rintro e w2 ⟨Aas, cas, rfl, hras, hc2⟩
    have hs2 := hc2.size
    have HC2 := Lib.hid hc2
    clear hc2
    have HRas_2 := Lib.hid hras
    clear hras
    go_wp2_with fail
    refine (HS.out _ _ _ _ (by omega) (HRas_2.out).rd).mono ?_
    rintro e w3 ⟨Arw, crw, rfl, hrrw, hc3⟩
    have hs3 := hc3.size
    have HC3 := Lib.hid hc3
    clear hc3
    have HRrw_3 := Lib.hid hrrw
    clear hrrw
    go_wp2_with fail
    refine (to_Token w.heap.size Aa na ca la _ (by omega) (((Ha.out.keepC HC1.out (by omega) (by omega)).keepC HC2.out (by omega) (by omega)).keepC HC3.out (by omega) (by omega)) hna).mono ?_
    rintro e w4 ⟨Aax, cax, rfl, hrax, hc4⟩
    have hs4 := hc4.size
    have HC4 := Lib.hid hc4
    clear hc4
    have HRax_4 := Lib.hid hrax
    clear hrax
    go_wp2_with fail
    refine (HI.out _ _ _ _ (by omega) (HRax_4.out).rd).mono ?_
    rintro e w5 ⟨Arg, crg, rfl, hrrg, hc5⟩
    have hs5 := hc5.size
    have HC5 := Lib.hid hc5
    clear hc5
    have HRrg_5 := Lib.hid hrrg
    clear hrrg
    go_wp2_with fail
    refine (eq_Token _ _ _ _ nr _ _ lr _ (by omega) (by omega) (HRrg_5.out).rd (((HRrw_3.out.keep HC4.out (by omega)).keep HC5.out (by omega))).rd (by omega)).mono ?_
    rintro e w6 ⟨rfl, hc6⟩
    have hs6 := hc6.size
    have HC6 := Lib.hid hc6
    clear hc6
    go_wp2_with fail
    refine (to_Token w.heap.size Aa na ca la _ (by omega) ((((((Ha.out.keepC HC1.out (by omega) (by omega)).keepC HC2.out (by omega) (by omega)).keepC HC3.out (by omega) (by omega)).keepC HC4.out (by omega) (by omega)).keepC HC5.out (by omega) (by omega)).keepC HC6.out (by omega) (by omega)) hna).mono ?_
    rintro e w7 ⟨Aay, cay, rfl, hray, hc7⟩
    have hs7 := hc7.size
    have HC7 := Lib.hid hc7
    clear hc7
    have HRay_7 := Lib.hid hray
    clear hray
    go_wp2_with fail
    refine (eq_Token _ _ _ _ na _ _ la _ (by omega) (by omega) ((((HRax_4.out.keep HC5.out (by omega)).keep HC6.out (by omega)).keep HC7.out (by omega))).rd (HRay_7.out).rd hna).mono ?_
    rintro e w8 ⟨rfl, hc8⟩
    have hs8 := hc8.size
    have HC8 := Lib.hid hc8
    clear hc8
    go_wp2_with fail
    refine (HMxa.out _ _ _ _ _ _ ((((HRax_4.out.keep HC5.out (by omega)).keep HC6.out (by omega)).keep HC7.out (by omega)).keep HC8.out (by omega))).mono ?_
    rintro e w9 ⟨rfl, hrax, hc9⟩
    have hs9 := hc9.size
    have HC9 := Lib.hid hc9
    clear hc9
    have HRax_9 := Lib.hid hrax
    clear hrax
    go_wp2_with fail
    refine (eq_Token _ _ _ _ nr _ _ lr _ (by omega) (by omega) (((((HRrg_5.out.keep HC6.out (by omega)).keep HC7.out (by omega)).keep HC8.out (by omega)).keep HC9.out (by omega))).rd (((((((HRrw_3.out.keep HC4.out (by omega)).keep HC5.out (by omega)).keep HC6.out (by omega)).keep HC7.out (by omega)).keep HC8.out (by omega)).keep HC9.out (by omega))).rd (by omega)).mono ?_
    rintro e w10 ⟨rfl, hc10⟩
    have hs10 := hc10.size
    have HC10 := Lib.hid hc10
    clear hc10
    go_wp2_with fail
    refine (HMr.out _ _ _ _ _ _ (((((HRrg_5.out.keep HC6.out (by omega)).keep HC7.out (by omega)).keep HC8.out (by omega)).keep HC9.out (by omega)).keep HC10.out (by omega))).mono ?_
    rintro e w11 ⟨rfl, hrrg, hc11⟩
    have hs11 := hc11.size
    have HC11 := Lib.hid hc11
    clear hc11
    have HRrg_11 := Lib.hid hrrg
    clear hrrg
    go_wp2_with fail
    refine (HHr.out _ _ _ _ (HRrg_11.out).rd).mono ?_
    rintro e w12 ⟨rfl, hc12⟩
    have hs12 := hc12.size
    have HC12 := Lib.hid hc12
    clear hc12
    go_wp2_with fail
    refine (to_Token w.heap.size Aa na ca la _ (by omega) ((((((((((((Ha.out.keepC HC1.out (by omega) (by omega)).keepC HC2.out (by omega) (by omega)).keepC HC3.out (by omega) (by omega)).keepC HC4.out (by omega) (by omega)).keepC HC5.out (by omega) (by omega)).keepC HC6.out (by omega) (by omega)).keepC HC7.out (by omega) (by omega)).keepC HC8.out (by omega) (by omega)).keepC HC9.out (by omega) (by omega)).keepC HC10.out (by omega) (by omega)).keepC HC11.out (by omega) (by omega)).keepC HC12.out (by omega) (by omega)) hna).mono ?_
    rintro e w13 ⟨Aaz, caz, rfl, hraz, hc13⟩
    have hs13 := hc13.size
    have HC13 := Lib.hid hc13
    clear hc13
    have HRaz_13 := Lib.hid hraz
    clear hraz
    go_wp2_with fail
    refine (HI.out _ _ _ _ (by omega) (HRaz_13.out).rd).mono ?_
    rintro e w14 ⟨Arh, crh, rfl, hrrh, hc14⟩
    have hs14 := hc14.size
    have HC14 := Lib.hid hc14
    clear hc14
    have HRrh_14 := Lib.hid hrrh
    clear hrrh
    go_wp2_with fail
    refine (eq_Token _ _ _ _ nr _ _ lr _ (by omega) (by omega) (HRrh_14.out).rd ((((((((((((HRrw_3.out.keep HC4.out (by omega)).keep HC5.out (by omega)).keep HC6.out (by omega)).keep HC7.out (by omega)).keep HC8.out (by omega)).keep HC9.out (by omega)).keep HC10.out (by omega)).keep HC11.out (by omega)).keep HC12.out (by omega)).keep HC13.out (by omega)).keep HC14.out (by omega))).rd (by omega)).mono ?_
    rintro e w15 ⟨rfl, hc15⟩
    have hs15 := hc15.size
    have HC15 := Lib.hid hc15
    clear hc15
    go_wp2_with fail
    refine (HHr.out _ _ _ _ (((((HRrg_11.out.keep HC12.out (by omega)).keep HC13.out (by omega)).keep HC14.out (by omega)).keep HC15.out (by omega))).rd).mono ?_
    rintro e w16 ⟨rfl, hc16⟩
    have hs16 := hc16.size
    have HC16 := Lib.hid hc16
    clear hc16
    go_wp2
    go_ret
    exact ⟨rfl, (((((((((((((((((Below.refl _ _).trans (HC1.out.below (by omega) (by omega))).trans (HC2.out.below (by omega) (by omega))).trans (HC3.out.below (by omega) (by omega))).trans (HC4.out.below (by omega) (by omega))).trans (HC5.out.below (by omega) (by omega))).trans (HC6.out.below (by omega) (by omega))).trans (HC7.out.below (by omega) (by omega))).trans (HC8.out.below (by omega) (by omega))).trans (HC9.out.below (by omega) (by omega))).trans (HC10.out.below (by omega) (by omega))).trans (HC11.out.below (by omega) (by omega))).trans (HC12.out.below (by omega) (by omega))).trans (HC13.out.below (by omega) (by omega))).trans (HC14.out.below (by omega) (by omega))).trans (HC15.out.below (by omega) (by omega))).trans (HC16.out.below (by omega) (by omega)))⟩
  · go_enter Try.func5, Try.ntmps5
    go_wp2_with fail
    refine (sz_Token_no Aa na ca _ _ (by omega) (by omega) (by omega)).mono ?_
    rintro e w1 ⟨rfl, hc1⟩
    have hs1 := hc1.size
    have HC1 := Lib.hid hc1
    clear hc1
    go_wp2
    go_ret
    exact ⟨rfl, ((Below.refl _ _).trans (HC1.out.below (by omega) (by omega)))⟩
end Go.Proofs.Ytkpofdfikmcjgaa
