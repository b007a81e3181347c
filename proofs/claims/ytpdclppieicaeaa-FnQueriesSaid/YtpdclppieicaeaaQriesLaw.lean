/- The law FnQueries. -/
import Derived.Test.YtpdclppieicaeaaDrawEvl
import Derived.Test.YtpdclppieicaeaaSame
import Derived.Deep.DeepCutAuto
import Derived.Outline
import Derived.OwnWalk
namespace Go.Proofs.Ytpdclppieicaeaa
set_option linter.unusedVariables false
set_option linter.unusedSimpArgs false
open Go.RowKit

def IntRd (w : World) (A : Option Addr) (n : Nat) (zs : List Int) : Prop := Rd w w.heap.size 1 A n (ints zs)
theorem IntRd.below {w w' : World} {A : Option Addr} {n : Nat} {zs : List Int} (h : IntRd w A n zs) (hb : Below w.heap.size w w') : IntRd w' A n zs := (Rd.below h hb).more hb.size
set_option maxRecDepth 200000 in
set_option maxHeartbeats 16000000 in
theorem law_FnQueries (A : Option Addr) (n c : Nat) (l : List UInt8) (A' : Option Addr) (n' c' : Nat) (l' : List UInt8) (w : World) (h : Rd w w.heap.size 1 A n (bys l)) (hn : n ≤ 140737488355328) (h' : Rd w w.heap.size 1 A' n' (bys l')) (hn' : n' ≤ 140737488355328) :
    Calls Try.prog 5 #[.slice A n c, .slice A' n' c'] w fun e w' => e = .returned (.bool true) ∧ Below w.heap.size w w' := by
  have H := Lib.hid h
  have H' := Lib.hid h'
  clear h h'
  by_cases hs : n + n' ≤ 1048576
  · go_enter Try.func5, Try.ntmps5
    go_wp2_with fail
    refine (DrawEvalQuery_any A n c l _ H.out (by omega)).mono ?_
    rintro e w1 ⟨_, rfl, ⟨As, ks, cs, ls, Aq, kq, cq, q, rfl, hser, hqry⟩, hb1⟩
    have HB1 := Lib.hid hb1
    have HS1 := Lib.hid hser
    have HQ1 := Lib.hid hqry
    have hks : ks ≤ 61 := hser.2.1
    have hkq : kq ≤ 21 := hqry.2.1
    have HLS := Lib.hid hser.1.len
    have HQLh := Lib.hid hqry.1.qry_len
    clear hb1 hser hqry
    obtain ⟨K, hK⟩ : ∃ K, (goodSer ls && goodQry q) = K := ⟨_, rfl⟩
    obtain ⟨L, hL⟩ : ∃ L, evalR ls q = L := ⟨_, rfl⟩
    have hLn := evalR_len ls q
    have CE := fun B A c B' A' c' w hB h hB' h' => iEvalQuery_any B A ks c ls B' A' kq c' q w hB h hB' h' (by omega) HS1.out.2.2 (by omega) HQ1.out.2.2
    have CS := fun B A c B' A' c' w hB h hB' h' => sEvalQuery_any B A ks c ls B' A' kq c' q w hB h hB' h' (by omega) HS1.out.2.2 (by omega) HQ1.out.2.2
    rw [hL] at hLn
    rw [hK, hL] at CE CS
    have HCE := Lib.hid CE
    have HCS := Lib.hid CS
    have HK := Lib.hid hK
    have HL := Lib.hid hL
    obtain ⟨nL, hnL⟩ : ∃ nL, L.length = nL := ⟨_, rfl⟩
    rw [hnL] at HCE HCS hLn
    have HNL := Lib.hid hnL
    clear CE CS hK hL hnL
    go_wp2_with fail
    refine (HCE.out _ _ _ _ _ _ _ (Nat.le_refl _) HS1.out.1 (Nat.le_refl _) HQ1.out.1).mono ?_
    rintro e w2 ⟨Al, cl, rfl, hr, hc⟩
    have HB2 := Lib.hid (HB1.out.trans (hc.below0.mono HB1.out.size))
    have HS2 := Lib.hid (HS1.out.below hc.below0)
    have HQ2 := Lib.hid (HQ1.out.below hc.below0)
    have HL2 := Lib.hid (show IntRd w2 Al nL L from hr.rd)
    clear hr hc HB1 HCE
    go_wp2_with fail
    refine (HCS.out _ _ _ _ _ _ _ (Nat.le_refl _) HS2.out.1 (Nat.le_refl _) HQ2.out.1).mono ?_
    rintro e w3 ⟨Am, cm, rfl, hr, hc⟩
    have HB3 := Lib.hid (HB2.out.trans (hc.below0.mono HB2.out.size))
    have HS3 := Lib.hid (HS2.out.below hc.below0)
    have HQ3 := Lib.hid (HQ2.out.below hc.below0)
    have HL3 := Lib.hid (HL2.out.below hc.below0)
    have HM3 := Lib.hid (show IntRd w3 Am nL L from hr.rd)
    clear hr hc HB2 HS2 HQ2 HL2 HCS HS1 HQ1
    go_wp2_with fail
    refine (sameInts_same w3.heap.size Al Am nL cl cm L w3 HL3.out HM3.out (by omega)).mono ?_
    rintro e w4 ⟨rfl, hb⟩
    have HB4 := Lib.hid (HB3.out.trans (hb.mono HB3.out.size))
    have HS4 := Lib.hid (HS3.out.below hb)
    have HQ4 := Lib.hid (HQ3.out.below hb)
    have HL4 := Lib.hid (HL3.out.below hb)
    clear hb HB3 HS3 HQ3 HL3 HM3
    obtain ⟨Kq, hKq⟩ : ∃ Kq, goodQry q = Kq := ⟨_, rfl⟩
    have CG1 := fun B A c w hB h => iGoodQuery_any B A kq c q w hB h (by omega) HQ4.out.2.2
    have CG2 := fun B A c w hB h => sGoodQuery_any B A kq c q w hB h (by omega) HQ4.out.2.2
    rw [hKq] at CG1 CG2
    have HG1 := Lib.hid CG1
    have HG2 := Lib.hid CG2
    clear CG1 CG2 hKq
    go_wp2_with fail
    refine (HG1.out _ _ _ _ (Nat.le_refl _) HQ4.out.1).mono ?_
    rintro e w5 ⟨rfl, hb⟩
    have HB5 := Lib.hid (HB4.out.trans (hb.mono HB4.out.size))
    have HS5 := Lib.hid (HS4.out.below hb)
    have HQ5 := Lib.hid (HQ4.out.below hb)
    have HL5 := Lib.hid (HL4.out.below hb)
    clear hb HB4 HS4 HQ4 HL4 HG1
    go_wp2_with fail
    refine (HG2.out _ _ _ _ (Nat.le_refl _) HQ5.out.1).mono ?_
    rintro e w6 ⟨rfl, hb⟩
    have HB6 := Lib.hid (HB5.out.trans (hb.mono HB5.out.size))
    have HS6 := Lib.hid (HS5.out.below hb)
    have HQ6 := Lib.hid (HQ5.out.below hb)
    have HL6 := Lib.hid (HL5.out.below hb)
    clear hb HB5 HS5 HQ5 HL5 HG2
    go_upto_if 69 with fail
    go_cut [] (fun wx => Below w.heap.size w wx)
    case first =>
      cases K with
      | false =>
        go_wp2_with fail
        go_meet
        exact HB6.out
      | true =>
        have HGP := Lib.hid (show goodPosts L = true by have := evalR_good ls q HK.out; rwa [HL.out] at this)
        obtain ⟨Kn, hKn⟩ : ∃ Kn, okNotQ q = Kn := ⟨_, rfl⟩
        have CN := iNotQuery_any w6.heap.size Aq kq cq q w6 (Nat.le_refl _) HQ6.out.1 (by omega) HQ6.out.2.2
        rw [hKn] at CN
        have HCN := Lib.hid CN
        have HKN := Lib.hid hKn
        clear CN hKn
        go_wp2_with fail
        refine HCN.out.mono ?_
        rintro e w7 ⟨An, cn, rfl, hr, hc⟩
        have HB7 := Lib.hid (HB6.out.trans (hc.below0.mono HB6.out.size))
        have HS7 := Lib.hid (HS6.out.below hc.below0)
        have HL7 := Lib.hid (HL6.out.below hc.below0)
        have HN7 := Lib.hid (show Rd w7 w7.heap.size 5 An _ _ from hr.rd)
        have HQF := Lib.hid HQ6.out.2.2
        clear hr hc HB6 HS6 HQ6 HL6 HCN
        cases Kn with
        | false =>
          have CP := Lib.hid (iGoodPosts_any w7.heap.size Al nL cl L w7 HL7.out (by omega))
          go_wp2_with fail
          refine CP.out.mono ?_
          rintro e w' ⟨rfl, rfl⟩
          rw [HGP.out]
          go_wp2_with fail
          go_meet
          exact HB7.out
        | true =>
          obtain ⟨hg1, hg2, hg3⟩ := not_facts HK.out HKN.out
          have hsel := sel_eval ls q
          have hevL : evalL ls q = L := by rw [← HL.out]; unfold evalR; rw [if_pos HK.out]
          have hnl := notQ_yes HKN.out
          have hnlen : (notQL q).length = kq + 1 := by
            rw [hnl, List.length_append, HQLh.out]; rfl
          rw [hevL] at hg2 hsel
          have hrest := sel_rest hsel
          obtain ⟨O, hO⟩ : ∃ O, lessP (allP ls.length) L = O := ⟨_, rfl⟩
          have hmeet : setR meetP L O = [] := by
            rw [← hO]
            unfold setR
            rw [meet_less]
            split <;> rfl
          have hgO : goodPosts O = true := by rw [← hO]; exact sel_good (goodSer_len (Bool.and_eq_true _ _ |>.mp HK.out).1) (Sel.less (Sel.all _))
          rw [hO] at hg2 hrest
          obtain ⟨nO, hnO⟩ : ∃ nO, O.length = nO := ⟨_, rfl⟩
          have hfitN : qryFitE (notQL q) := by
            rw [hnl]
            intro p hp
            rcases List.mem_append.1 hp with h3 | h3
            · exact HQF.out p h3
            · rw [List.mem_singleton.1 h3]; exact ⟨Nat.zero_le _, Nat.zero_le _⟩
          have CE := iEvalQuery_any w7.heap.size As ks cs ls w7.heap.size An _ cn (notQL q) w7 (Nat.le_refl _) HS7.out.1 (Nat.le_refl _) HN7.out (by omega) HS7.out.2.2 (by omega) hfitN
          rw [hg1, hg2, hnO] at CE
          have HCE := Lib.hid CE
          have HMT := Lib.hid hmeet
          have HGO := Lib.hid hgO
          have HFN := Lib.hid hfitN
          have hsum : nL + nO = ks := by rw [← HNL.out, ← hnO, ← HLS.out]; exact hrest
          have HG3 := Lib.hid hg3
          have hkn : kq + 1 ≤ 22 := by omega
          rw [hnlen] at HCE HN7 ⊢
          clear CE hg1 hg2 hg3 hsel hevL hnl hnlen hrest hO hmeet hgO hnO hfitN
          go_wp2_with fail
          refine HCE.out.mono ?_
          rintro e w8 ⟨Ao, co, rfl, hr, hc⟩
          have HB8 := Lib.hid (HB7.out.trans (hc.below0.mono HB7.out.size))
          have HL8 := Lib.hid (HL7.out.below hc.below0)
          have HN8 := Lib.hid ((HN7.out.below hc.below0).more hc.below0.size)
          have HO8 := Lib.hid (show IntRd w8 Ao nO O from hr.rd)
          clear hr hc HB7 HS7 HL7 HN7 HCE
          have CM := iMeetPosts_any w8.heap.size Al Ao nL cl nO co L O w8 (Nat.le_refl _) HL8.out (by omega) HO8.out (by omega)
          rw [HMT.out, HGP.out, HGO.out] at CM
          have HCM := Lib.hid CM
          clear CM
          go_wp2_with fail
          refine HCM.out.mono ?_
          rintro e w9 ⟨Ax, cx, rfl, hr, hc⟩
          have HB9 := Lib.hid (HB8.out.trans (hc.below0.mono HB8.out.size))
          have HL9 := Lib.hid (HL8.out.below hc.below0)
          have HN9 := Lib.hid ((HN8.out.below hc.below0).more hc.below0.size)
          clear hr hc HB8 HL8 HN8 HCM
          have CG := iGoodQuery_any w9.heap.size An (kq + 1) cn (notQL q) w9 (Nat.le_refl _) HN9.out (by omega) HFN.out
          rw [HG3.out] at CG
          have HCG := Lib.hid CG
          clear CG
          go_wp2_with fail
          refine HCG.out.mono ?_
          rintro e w10 ⟨rfl, hb⟩
          have HB10 := Lib.hid (HB9.out.trans (hb.mono HB9.out.size))
          have HL10 := Lib.hid (HL9.out.below hb)
          clear hb HB9 HL9 HN9 HCG
          have CP := Lib.hid (iGoodPosts_any w10.heap.size Al nL cl L w10 HL10.out (by omega))
          go_wp2_with fail
          refine CP.out.mono ?_
          rintro e w' ⟨rfl, rfl⟩
          rw [HGP.out]
          go_wp2_with fail
          go_meet
          exact HB10.out
    case rest =>
      have HC := Lib.hid hcut
      have HD := Lib.hid ((H'.out.below hcut).more hcut.size)
      clear hcut HB6 HS6 HQ6 HL6
      go_wp2_with fail
      refine (DrawPostsOf_any A' n' c' l' _ HD.out (by omega)).mono ?_
      rintro e x1 ⟨_, rfl, ⟨At, kt, ct, lt, x, y, rfl, hser, hx16, hy16⟩, hb⟩
      have XB1 := Lib.hid (HC.out.trans (hb.mono HC.out.size))
      have XS1 := Lib.hid hser
      have hkt : kt ≤ 61 := hser.2.1
      clear hb hser HC HD
      have XB1' := Lib.hid (XB1.out.alloc XB1.out.size (.cells #[.string x, .string y] 32))
      have XS1' := Lib.hid (XS1.out.below ((Below.refl _ x1).alloc (Nat.le_refl _) (.cells #[.string x, .string y] 32)))
      obtain ⟨x0, hx0⟩ : ∃ x0, x1.alloc (.cells #[.string x, .string y] 32) = x0 := ⟨_, rfl⟩
      have HE0 : x0.cell? ⟨x1.heap.size, 0, none⟩ = some (.string x) := by rw [← hx0]; simp
      have HE1 : x0.cell? ⟨x1.heap.size, 1, none⟩ = some (.string y) := by rw [← hx0]; simp
      have hsx0 : x0.heap.size = x1.heap.size + 1 := by rw [← hx0]; simp
      have HX0 := Lib.hid hx0
      rw [hx0] at XB1' XS1'
      have XE0 := Lib.hid HE0
      have XE1 := Lib.hid HE1
      obtain ⟨X, hX⟩ : ∃ X, x1.heap.size = X := ⟨_, rfl⟩
      rw [hX] at XE0 XE1 hsx0
      have HXX := Lib.hid hX
      obtain ⟨K2, hK2⟩ : ∃ K, (goodSer lt && labOk (x, y)) = K := ⟨_, rfl⟩
      obtain ⟨P, hP⟩ : ∃ P, postsR lt (x, y) = P := ⟨_, rfl⟩
      have hPn := postsR_len lt (x, y)
      obtain ⟨nP, hnP⟩ : ∃ nP, P.length = nP := ⟨_, rfl⟩
      rw [hP, hnP] at hPn
      have CP1 := fun B A c w hB h => iPostsOf_any B A kt c lt x y w hB h (by omega) XS1.out.2.2 (by omega) (by omega)
      have CP2 := fun B A c w hB h => sPostsOf_any B A kt c lt x y w hB h (by omega) XS1.out.2.2 (by omega) (by omega)
      have CE3 := fun B A c B' A' c' w hB h hB' h' => iEvalQuery_any B A kt c lt B' A' 1 c' [⟨2, x, y, 0, 0⟩] w hB h hB' h' (by omega) XS1.out.2.2 (by omega) (show qryFitE [⟨2, x, y, 0, 0⟩] from fun p hp => by rw [List.mem_singleton.1 hp]; exact ⟨Nat.le_trans hx16 (by omega), Nat.le_trans hy16 (by omega)⟩)
      rw [has_one, eval_has] at CE3
      rw [hK2, hP, hnP] at CP1 CP2 CE3
      have HCP1 := Lib.hid CP1
      have HCP2 := Lib.hid CP2
      have HCE3 := Lib.hid CE3
      clear CP1 CP2 CE3 hK2 hP hnP hx0 HE0 HE1 XB1 hX XS1
      go_upto_region 18 with fail
      rw [HX0.out, HXX.out]
      have XC0 := Lib.hid (And.intro XE0.out XE1.out)
      have hc0 := XE0.out
      have hc1 := XE1.out
      clear HX0 HXX XE0 XE1
      go_wp2_with fail
      refine (HCP1.out _ _ _ _ (Nat.le_refl _) XS1'.out.1).mono ?_
      rintro e x2 ⟨Ap, cp, rfl, hr, hc⟩
      have hb := hc.below0
      have hsb := hb.size
      have XB2 := Lib.hid (XB1'.out.trans (hb.mono XB1'.out.size))
      have XS2 := Lib.hid (XS1'.out.below hb)
      have XP2 := Lib.hid (show IntRd x2 Ap nP P from hr.rd)
      have XC2 := Lib.hid (And.intro ((bcell hb _ _ (by omega)).trans hc0) ((bcell hb _ _ (by omega)).trans hc1))
      clear hr hc hb XB1' XS1' HCP1 XC0 hc0 hc1
      have hc0 := XC2.out.1
      have hc1 := XC2.out.2
      go_wp2_with fail
      refine (HCP2.out _ _ _ _ (Nat.le_refl _) XS2.out.1).mono ?_
      rintro e x3 ⟨Ar, cr, rfl, hr, hc⟩
      have hb := hc.below0
      have hsb3 := hb.size
      have XB3 := Lib.hid (XB2.out.trans (hb.mono XB2.out.size))
      have XS3 := Lib.hid (XS2.out.below hb)
      have XP3 := Lib.hid (XP2.out.below hb)
      have XR3 := Lib.hid (show IntRd x3 Ar nP P from hr.rd)
      have XC3 := Lib.hid (And.intro ((bcell hb _ _ (by omega)).trans hc0) ((bcell hb _ _ (by omega)).trans hc1))
      have XD3 := Lib.hid ((H'.out.below XB3.out).more XB3.out.size)
      clear hr hc hb XB2 XS2 XP2 HCP2 XC2 hc0 hc1
      go_wp2_with fail
      refine (DrawNotQuery_any A' n' c' l' _ XD3.out (by omega)).mono ?_
      rintro e x4 ⟨_, rfl, ⟨Ay, ky, cy, qy, rfl, hqy⟩, hb⟩
      have hsb4 := hb.size
      have hky : ky ≤ 21 := hqy.2.1
      have XB4 := Lib.hid (XB3.out.trans (hb.mono XB3.out.size))
      have XS4 := Lib.hid (XS3.out.below hb)
      have XP4 := Lib.hid (XP3.out.below hb)
      have XR4 := Lib.hid (XR3.out.below hb)
      have XY4 := Lib.hid hqy
      have XC4 := Lib.hid (And.intro ((bcell hb _ _ (by omega)).trans XC3.out.1) ((bcell hb _ _ (by omega)).trans XC3.out.2))
      clear hb XB3 XS3 XP3 XR3 XC3 XD3 hqy
      have CN1 := fun B A c w hB h => iNotQuery_any B A ky c qy w hB h (by omega) XY4.out.2.2
      have CN2 := fun B A c w hB h => sNotQuery_any B A ky c qy w hB h (by omega) XY4.out.2.2
      obtain ⟨KY, hKY⟩ : ∃ K, okNotQ qy = K := ⟨_, rfl⟩
      have hYn := notQ_len qy
      obtain ⟨Y, hY⟩ : ∃ Y, notQL qy = Y := ⟨_, rfl⟩
      obtain ⟨nY, hnY⟩ : ∃ nY, Y.length = nY := ⟨_, rfl⟩
      rw [hY, hnY] at hYn
      rw [hKY, hY, hnY] at CN1 CN2
      have HCN1 := Lib.hid CN1
      have HCN2 := Lib.hid CN2
      clear CN1 CN2 hKY hY hnY
      go_wp2_with fail
      refine (HCN1.out _ _ _ _ (Nat.le_refl _) XY4.out.1).mono ?_
      rintro e x5 ⟨An, cn, rfl, hr, hc⟩
      have hb := hc.below0
      have hsb5 := hb.size
      have XB5 := Lib.hid (XB4.out.trans (hb.mono XB4.out.size))
      have XS5 := Lib.hid (XS4.out.below hb)
      have XP5 := Lib.hid (XP4.out.below hb)
      have XR5 := Lib.hid (XR4.out.below hb)
      have XY5 := Lib.hid (XY4.out.below hb)
      have XN5 := Lib.hid (show Rd x5 x5.heap.size 5 An nY (qrys Y) from hr.rd)
      have XC5 := Lib.hid (And.intro ((bcell hb _ _ (by omega)).trans XC4.out.1) ((bcell hb _ _ (by omega)).trans XC4.out.2))
      clear hr hc hb XB4 XS4 XP4 XR4 XY4 XC4 HCN1
      go_wp2_with fail
      refine (HCN2.out _ _ _ _ (Nat.le_refl _) XY5.out.1).mono ?_
      rintro e x6 ⟨Ao, co, rfl, hr, hc⟩
      have hb := hc.below0
      have hsb6 := hb.size
      have XB6 := Lib.hid (XB5.out.trans (hb.mono XB5.out.size))
      have XS6 := Lib.hid (XS5.out.below hb)
      have XP6 := Lib.hid (XP5.out.below hb)
      have XR6 := Lib.hid (XR5.out.below hb)
      have XN6 := Lib.hid ((XN5.out.below hb).more hb.size)
      have XO6 := Lib.hid (show Rd x6 x6.heap.size 5 Ao nY (qrys Y) from hr.rd)
      have XC6 := Lib.hid (And.intro ((bcell hb _ _ (by omega)).trans XC5.out.1) ((bcell hb _ _ (by omega)).trans XC5.out.2))
      clear hr hc hb XB5 XS5 XP5 XR5 XY5 XN5 XC5 HCN2
      go_wp2_with fail
      refine (sameInts_same x6.heap.size Ap Ar nP cp cr P x6 XP6.out XR6.out (by omega)).mono ?_
      rintro e x7 ⟨rfl, hb⟩
      have hsb7 := hb.size
      have XB7 := Lib.hid (XB6.out.trans (hb.mono XB6.out.size))
      have XS7 := Lib.hid (XS6.out.below hb)
      have XP7 := Lib.hid (XP6.out.below hb)
      have XN7 := Lib.hid ((XN6.out.below hb).more hb.size)
      have XO7 := Lib.hid ((XO6.out.below hb).more hb.size)
      have XC7 := Lib.hid (And.intro ((bcell hb _ _ (by omega)).trans XC6.out.1) ((bcell hb _ _ (by omega)).trans XC6.out.2))
      clear hb XB6 XS6 XP6 XR6 XN6 XO6 XC6
      go_wp2_with fail
      refine (sameQuery_same x7.heap.size An Ao nY cn co Y x7 XN7.out XO7.out (by omega)).mono ?_
      rintro e x8 ⟨rfl, hdr⟩
      have hb := (Ch.of_drewN hdr).below0
      have hsb8 := hb.size
      have XB8 := Lib.hid (XB7.out.trans (hb.mono XB7.out.size))
      have XS8 := Lib.hid (XS7.out.below hb)
      have XP8 := Lib.hid (XP7.out.below hb)
      have XC8 := Lib.hid (And.intro ((bcell hb _ _ (by omega)).trans XC7.out.1) ((bcell hb _ _ (by omega)).trans XC7.out.2))
      clear hb hdr XB7 XS7 XP7 XN7 XO7 XC7
      cases K2 with
      | false =>
        go_wp2
        go_ret
        exact ⟨rfl, XB8.out⟩
      | true =>
        have hc0 := XC8.out.1
        have hc1 := XC8.out.2
        have XQ := Lib.hid (show Rd (x8.alloc (.cells #[.int .i64 2, .string x, .string y, .int .i64 0, .int .i64 0] 59)) (x8.alloc (.cells #[.int .i64 2, .string x, .string y, .int .i64 0, .int .i64 0] 59)).heap.size 5 (some ⟨x8.heap.size, 0, none⟩) 1 (qrys [⟨2, x, y, 0, 0⟩]) from
          Rd.of_own (World.ownsRow_lit x8 #[.int .i64 2, .string x, .string y, .int .i64 0, .int .i64 0] 1 (Nat.le_refl _) (by unfold maxLen; omega) rfl))
        have hbq : Below x8.heap.size x8 (x8.alloc (.cells #[.int .i64 2, .string x, .string y, .int .i64 0, .int .i64 0] 59)) := (Below.refl _ _).alloc (Nat.le_refl _) _
        have XB9 := Lib.hid (XB8.out.trans (hbq.mono XB8.out.size))
        have XS9 := Lib.hid (XS8.out.below hbq)
        have XP9 := Lib.hid (XP8.out.below hbq)
        clear hbq XB8 XS8 XP8 XC8
        go_wp2_with fail
        refine (HCE3.out _ _ _ _ _ _ _ (Nat.le_refl _) XS9.out.1 (Nat.le_refl _) XQ.out).mono ?_
        rintro e x10 ⟨Ah, ch, rfl, hr, hc⟩
        have hb := hc.below0
        have XB10 := Lib.hid (XB9.out.trans (hb.mono XB9.out.size))
        have XP10 := Lib.hid (XP9.out.below hb)
        have XH10 := Lib.hid (show IntRd x10 Ah nP P from hr.rd)
        clear hr hc hb hc0 hc1 XB9 XS9 XP9 XQ HCE3
        go_wp2_with fail
        refine (sameInts_same x10.heap.size Ah Ap nP ch cp P x10 XH10.out XP10.out (by omega)).mono ?_
        rintro e x11 ⟨rfl, hb⟩
        have XB11 := Lib.hid (XB10.out.trans (hb.mono XB10.out.size))
        clear hb
        go_wp2
        go_ret
        exact ⟨rfl, XB11.out⟩
  · go_enter Try.func5, Try.ntmps5
    go_wp2
    go_ret
    exact ⟨rfl, Below.refl _ _⟩
end Go.Proofs.Ytpdclppieicaeaa
