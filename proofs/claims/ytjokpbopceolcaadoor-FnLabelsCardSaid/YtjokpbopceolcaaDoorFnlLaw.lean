/- The law FnLabels. -/
import Derived.Test.YtjokpbopceolcaaDoorDrawFnl
import Derived.Deep.DeepCutAuto
import Derived.Outline
import Derived.OwnWalk
namespace Go.Proofs.YtjokpbopceolcaaDoor
set_option linter.unusedVariables false
set_option linter.unusedSimpArgs false
open Go.RowKit

theorem facts_FnLabels {W : World} (_ : laidMetH Tryd.prog Rows.fnLabelsRow.laid W) (h : W.ShapedOpen Tryd.prog) : MxAt W := mx_of h
theorem good_fit {l : List Lab} (h : goodLab l = true) : lblFit l := fun p hp => by
  obtain ⟨w1, w2⟩ := labOk_t (x := p.1) (y := p.2) (good_mem h p hp)
  have := wordOk_len w1
  have := wordOk_len w2
  omega
theorem both_Read2 (s : ByteArray) (hs : s.size ≤ 1048576) : ∃ (nr : Nat) (lr : List Lab) (r1 : Bool), nr ≤ 6 ∧ lr.length = nr ∧ lblFit lr ∧
    (∀ w, Calls Tryd.prog 7 #[.string s] w (GotR 48 2 w nr (lbls lr) r1)) ∧ (∀ w, MxAt w → Calls Tryd.prog 8 #[.string s] w (GotR 48 2 w nr (lbls lr) r1)) ∧
    (r1 = true → goodLab lr = true ∧ txtR lr = s) := by
  have h1 := fun w => sReadLabels_any s w hs
  have h2 := fun w h => iReadLabels_any s w hs h
  unfold LR at h1 h2
  cases e : refL s.data.toList with
  | some l =>
    rw [e] at h1 h2
    obtain ⟨hg, ht⟩ := refL_inv e
    refine ⟨l.length, l, true, goodLab_len hg, rfl, good_fit hg, h1, h2, fun _ => ⟨hg, ?_⟩⟩
    rw [txt_yes hg, ← toB_of (labTxt l), ht, toB_of]
  | none =>
    rw [e] at h1 h2
    exact ⟨0, [], false, by omega, rfl, (fun p hp => by cases hp), h1, h2, fun h => by cases h⟩
theorem read_txt {l : List Lab} (h : goodLab l = true) (w : World) (hm : MxAt w) : Calls Tryd.prog 8 #[.string (txtR l)] w (GotR 48 2 w l.length (lbls l) true) := by
  have h1 := iReadLabels_any (txtR l) w (by have := txtR_size l; omega) hm
  unfold LR at h1
  rw [txt_yes h, refL_txt h] at h1
  rw [txt_yes h]
  exact h1
def LbRd (w : World) (A : Option Addr) (n : Nat) (l : List Lab) : Prop := Rd w w.heap.size 2 A n (lbls l)
theorem LbRd.below {w w' : World} {A : Option Addr} {n : Nat} {l : List Lab} (h : LbRd w A n l) (hb : Below w.heap.size w w') : LbRd w' A n l := (Rd.below h hb).more hb.size
set_option maxRecDepth 200000 in
set_option maxHeartbeats 16000000 in
theorem law_FnLabels (A : Option Addr) (n c : Nat) (l : List UInt8) (A' : Option Addr) (n' c' : Nat) (l' : List UInt8) (w : World) (h : Rd w w.heap.size 1 A n (bys l)) (hn : n ≤ 140737488355328) (h' : Rd w w.heap.size 1 A' n' (bys l')) (hn' : n' ≤ 140737488355328) (hM : MxAt w) :
    Calls Tryd.prog 6 #[.slice A n c, .slice A' n' c'] w fun e w' => e = .returned (.bool true) ∧ Below w.heap.size w w' := by
  have H := Lib.hid h
  have H' := Lib.hid h'
  have HM := Lib.hid hM
  clear h h' hM
  by_cases hs : n + n' ≤ 1048576
  · go_enter Tryd.func6, Tryd.ntmps6
    go_wp2_with fail
    refine (DrawLabelsText_any A n c l _ H.out (by omega)).mono ?_
    rintro e w1 ⟨_, rfl, ⟨A1, k1, c1, l1, rfl, hl1⟩, hb⟩
    have HB1 := Lib.hid hb
    have HL1 := Lib.hid hl1
    have hk1 : k1 ≤ 7 := hl1.2.1
    have HLN := Lib.hid hl1.1.lab_len
    clear hb hl1
    have C1 := fun B A c w hB h => iLabelsText_any B A k1 c l1 w hB h (by omega) HL1.out.2.2.2
    have C2 := fun B A c w hB h => sLabelsText_any B A k1 c l1 w hB h (by omega) HL1.out.2.2.2
    have C3 := fun B A c w hB h => iGoodLabels_any B A k1 c l1 w hB h (by omega) HL1.out.2.2.2
    have RT := fun h => read_txt (l := l1) h
    have hts := txtR_size l1
    rw [HLN.out] at RT
    obtain ⟨K, hK⟩ : ∃ K, goodLab l1 = K := ⟨_, rfl⟩
    obtain ⟨S, hS⟩ : ∃ S, txtR l1 = S := ⟨_, rfl⟩
    rw [hS] at hts
    rw [hK, hS] at C1 C2 RT
    rw [hK] at C3
    have HC1 := Lib.hid C1
    have HC2 := Lib.hid C2
    have HC3 := Lib.hid C3
    have HRT := Lib.hid RT
    clear C1 C2 C3 RT hK hS
    go_wp2_with fail
    refine (HC1.out _ _ _ _ (Nat.le_refl _) HL1.out.1).mono ?_
    rintro e w2 ⟨rfl, hc⟩
    have HB2 := Lib.hid (HB1.out.trans (hc.below0.mono HB1.out.size))
    have HL2 := Lib.hid (HL1.out.below hc.below0)
    clear hc HB1 HL1 HC1
    go_wp2_with fail
    refine (HC2.out _ _ _ _ (Nat.le_refl _) HL2.out.1).mono ?_
    rintro e w3 ⟨rfl, hc⟩
    have HB3 := Lib.hid (HB2.out.trans (hc.below0.mono HB2.out.size))
    have HL3 := Lib.hid (HL2.out.below hc.below0)
    clear hc HB2 HL2 HC2
    go_wp2_with fail
    refine (HC3.out _ _ _ _ (Nat.le_refl _) HL3.out.1).mono ?_
    rintro e w4 ⟨rfl, hb⟩
    have HB4 := Lib.hid (HB3.out.trans (hb.mono HB3.out.size))
    have HL4 := Lib.hid (HL3.out.below hb)
    clear hb HB3 HL3 HC3
    go_upto_if 64 with fail
    go_cut [] (fun wx => Below w.heap.size w wx)
    case first =>
      cases K with
      | true =>
        go_wp2_with fail
        refine (HRT.out (by trivial) _ (HM.out.below HB4.out)).mono ?_
        rintro e w5 ⟨A5, c5, rfl, hr, hc⟩
        have HB5 := Lib.hid (HB4.out.trans (hc.below0.mono HB4.out.size))
        have HL5 := Lib.hid (HL4.out.below hc.below0)
        have HR5 := Lib.hid (show LbRd w5 A5 k1 l1 from hr.rd)
        clear hr hc HB4 HL4
        go_wp2_with fail
        refine (sameLabels_same w5.heap.size A5 A1 k1 c5 c1 l1 w5 HR5.out HL5.out.1 (by omega)).mono ?_
        rintro e w6 ⟨rfl, hdr⟩
        have HB6 := Lib.hid (HB5.out.trans ((Ch.of_drewN hdr).below0.mono HB5.out.size))
        clear hdr HB5 HL5 HR5
        go_wp2_with fail
        go_meet
        exact HB6.out
      | false =>
        go_wp2_with fail
        go_meet
        exact HB4.out
    case rest =>
      have HB0 := Lib.hid hcut
      have HD := Lib.hid ((H'.out.below hcut).more hcut.size)
      clear hcut HB4 HL4 HRT
      go_wp2_with fail
      refine (DrawReadLabels_any A' n' c' l' _ HD.out (by omega)).mono ?_
      rintro e w1 ⟨_, rfl, ⟨T, rfl, hT⟩, hb⟩
      have HB1 := Lib.hid (HB0.out.trans (hb.mono HB0.out.size))
      clear hb HB0 HD
      obtain ⟨nr, lr, r1, hnr, hlr, hfr, hS, hI, hL⟩ := both_Read2 T (by omega)
      have HS := Lib.hid hS
      have HI := Lib.hid hI
      have HLK := Lib.hid hL
      have HFR := Lib.hid hfr
      clear hS hI hL hfr hlr
      go_wp2_with fail
      refine (HI.out _ (HM.out.below HB1.out)).mono ?_
      rintro e w2 ⟨A2, c2, rfl, hr, hc⟩
      have HB2 := Lib.hid (HB1.out.trans (hc.below0.mono HB1.out.size))
      have HR2 := Lib.hid (show LbRd w2 A2 nr lr from hr.rd)
      clear hr hc HB1 HI
      go_wp2_with fail
      refine (HS.out _).mono ?_
      rintro e w3 ⟨A3, c3, rfl, hr, hc⟩
      have HB3 := Lib.hid (HB2.out.trans (hc.below0.mono HB2.out.size))
      have HR3 := Lib.hid (HR2.out.below hc.below0)
      have HQ3 := Lib.hid (show LbRd w3 A3 nr lr from hr.rd)
      clear hr hc HB2 HR2 HS
      go_wp2_with fail
      refine (sameLabels_same w3.heap.size A2 A3 nr c2 c3 lr w3 HR3.out HQ3.out (by omega)).mono ?_
      rintro e w4 ⟨rfl, hdr⟩
      have hb := (Ch.of_drewN hdr).below0
      have HB4 := Lib.hid (HB3.out.trans (hb.mono HB3.out.size))
      have HR4 := Lib.hid (HR3.out.below hb)
      clear hdr hb HB3 HR3 HQ3
      go_upto_if 99 with fail
      go_cut [] (fun wx => Below w.heap.size w wx)
      case first =>
        cases r1 with
        | true =>
          obtain ⟨hg, ht⟩ := HLK.out (by trivial)
          have C := iLabelsText_any w4.heap.size A2 nr c2 lr w4 (Nat.le_refl _) HR4.out (by omega) HFR.out
          rw [hg, ht] at C
          have HC := Lib.hid C
          clear C hg ht
          go_wp2_with fail
          refine HC.out.mono ?_
          rintro e w5 ⟨rfl, hc⟩
          have HB5 := Lib.hid (HB4.out.trans (hc.below0.mono HB4.out.size))
          clear hc HB4
          go_wp2_with fail
          go_meet
          exact HB5.out
        | false =>
          go_wp2_with fail
          go_meet
          exact HB4.out
      case rest =>
        have HB0 := Lib.hid hcut
        have HD := Lib.hid ((H'.out.below hcut).more hcut.size)
        clear hcut HB4 HR4 HLK HFR
        go_wp2_with fail
        refine (DrawMergeLabels_any A' n' c' l' _ HD.out (by omega)).mono ?_
        rintro e w1 ⟨_, rfl, ⟨Aa, ka, ca, la, Ab, kb, cb, lb, rfl, hla, hlb⟩, hb⟩
        have HB1 := Lib.hid (HB0.out.trans (hb.mono HB0.out.size))
        have HA1 := Lib.hid hla
        have HBb1 := Lib.hid hlb
        have hka : ka ≤ 7 := hla.2.1
        have hkb : kb ≤ 7 := hlb.2.1
        clear hb HB0 HD hla hlb
        have CI := fun B A A' c c' w hB h h' => iMergeLabels_any B A A' ka c kb c' la lb w hB h (by omega) h' (by omega) HA1.out.2.2.2 HBb1.out.2.2.2
        have CS := fun B A A' c c' w hB h hc h' => sMergeLabels_any B A A' ka c kb c' la lb w hB h (by omega) hc h' (by omega) HA1.out.2.2.2 HBb1.out.2.2.2
        have MI := fun h => merge_idem (a := la) (b := lb) h
        obtain ⟨K, hK⟩ : ∃ K, okMerge la lb = K := ⟨_, rfl⟩
        have hMl := mergeL_len la lb
        obtain ⟨Mg, hMg⟩ : ∃ M, mergeL la lb = M := ⟨_, rfl⟩
        rw [hMg] at hMl
        rw [hK, hMg] at CI CS MI
        obtain ⟨nM, hnM⟩ : ∃ nM, Mg.length = nM := ⟨_, rfl⟩
        rw [hnM] at CI CS hMl
        have HCI := Lib.hid CI
        have HCS := Lib.hid CS
        have HMI := Lib.hid MI
        have HNM := Lib.hid hnM
        clear CI CS MI hK hMg hnM
        go_wp2_with fail
        refine (HCI.out _ _ _ _ _ _ (Nat.le_refl _) HA1.out.1 HBb1.out.1).mono ?_
        rintro e w2 ⟨Am, cm, rfl, hr, hc⟩
        have HB2 := Lib.hid (HB1.out.trans (hc.below0.mono HB1.out.size))
        have HA2 := Lib.hid (HA1.out.below hc.below0)
        have HBb2 := Lib.hid (HBb1.out.below hc.below0)
        have HR2 := Lib.hid (show LbRd w2 Am nM Mg from hr.rd)
        clear hr hc HB1 HCI HA1 HBb1
        go_wp2_with fail
        refine (HCS.out _ _ _ _ _ _ (Nat.le_refl _) HA2.out.1 HA2.out.2.2.1 HBb2.out.1).mono ?_
        rintro e w3 ⟨An, cn, rfl, hr, hc⟩
        have HB3 := Lib.hid (HB2.out.trans (hc.below0.mono HB2.out.size))
        have HBb3 := Lib.hid (HBb2.out.below hc.below0)
        have HR3 := Lib.hid (HR2.out.below hc.below0)
        have HQ3 := Lib.hid (show LbRd w3 An nM Mg from hr.rd)
        clear hr hc HB2 HCS HA2 HBb2 HR2
        go_wp2_with fail
        refine (sameLabels_same w3.heap.size Am An nM cm cn Mg w3 HR3.out HQ3.out (by omega)).mono ?_
        rintro e w4 ⟨rfl, hdr⟩
        have hb := (Ch.of_drewN hdr).below0
        have HB4 := Lib.hid (HB3.out.trans (hb.mono HB3.out.size))
        have HBb4 := Lib.hid (HBb3.out.below hb)
        have HR4 := Lib.hid (HR3.out.below hb)
        clear hdr hb HB3 HR3 HQ3 HBb3
        go_upto_if 138 with fail
        go_cut [] (fun wx => Below w.heap.size w wx)
        case first =>
          cases K with
          | true =>
            obtain ⟨hi1, hi2, hi3⟩ := HMI.out (by trivial)
            have hfm := good_fit hi3
            have C := iMergeLabels_any w4.heap.size Am Ab nM cm kb cb Mg lb w4 (Nat.le_refl _) HR4.out (by omega) HBb4.out.1 (by omega) hfm HBb4.out.2.2.2
            rw [hi1, hi2, HNM.out] at C
            have CG := fun B A c w hB h => iGoodLabels_any B A nM c Mg w hB h (by omega) hfm
            rw [hi3] at CG
            have HC := Lib.hid C
            have HCG := Lib.hid CG
            clear C CG hi1 hi2 hi3 hfm
            go_wp2_with fail
            refine HC.out.mono ?_
            rintro e w5 ⟨A5, c5, rfl, hr, hc⟩
            have HB5 := Lib.hid (HB4.out.trans (hc.below0.mono HB4.out.size))
            have HR5 := Lib.hid (HR4.out.below hc.below0)
            have HQ5 := Lib.hid (show LbRd w5 A5 nM Mg from hr.rd)
            clear hr hc HB4 HR4 HBb4 HC
            go_wp2_with fail
            refine (HCG.out _ _ _ _ (Nat.le_refl _) HR5.out).mono ?_
            rintro e w6 ⟨rfl, hb⟩
            have HB6 := Lib.hid (HB5.out.trans (hb.mono HB5.out.size))
            have HR6 := Lib.hid (HR5.out.below hb)
            have HQ6 := Lib.hid (HQ5.out.below hb)
            clear hb HB5 HR5 HQ5
            go_wp2_with fail
            refine (sameLabels_same w6.heap.size A5 Am nM c5 cm Mg w6 HQ6.out HR6.out (by omega)).mono ?_
            rintro e w7 ⟨rfl, hdr⟩
            have HB7 := Lib.hid (HB6.out.trans ((Ch.of_drewN hdr).below0.mono HB6.out.size))
            clear hdr HB6
            go_wp2_with fail
            go_meet
            exact HB7.out
          | false =>
            go_wp2_with fail
            go_meet
            exact HB4.out
        case rest =>
          have HB0 := Lib.hid hcut
          have HD := Lib.hid ((H'.out.below hcut).more hcut.size)
          clear hcut HB4 HR4 HBb4 HMI
          go_wp2_with fail
          refine (DrawHashText_any A' n' c' l' _ HD.out (by omega)).mono ?_
          rintro e w1 ⟨_, rfl, ⟨X, rfl, hX⟩, hb⟩
          have HB1 := Lib.hid (HB0.out.trans (hb.mono HB0.out.size))
          have HX1 := Lib.hid (iHashText_t X w1 (by omega))
          have HX2 := Lib.hid (sHashText_t X w1 (by omega))
          clear hb HB0 HD
          go_wp2_with fail
          refine HX1.out.mono ?_
          rintro e w' ⟨rfl, rfl⟩
          go_wp2_with fail
          refine HX2.out.mono ?_
          rintro e w' ⟨rfl, rfl⟩
          go_wp2
          go_ret
          exact ⟨rfl, HB1.out⟩
  · go_enter Tryd.func6, Tryd.ntmps6
    go_wp2
    go_ret
    exact ⟨rfl, Below.refl _ _⟩
end Go.Proofs.YtjokpbopceolcaaDoor
