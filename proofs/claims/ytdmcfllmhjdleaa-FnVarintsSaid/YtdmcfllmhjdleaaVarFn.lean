/- The law FnVarints. -/
import Derived.Test.YtdmcfllmhjdleaaVarMore
import Derived.Test.YtdmcfllmhjdleaaDraw1
import Derived.Deep.DeepCutAuto
import Derived.Outline
namespace Go.Proofs.Ytdmcfllmhjdleaa
set_option linter.unusedVariables false
set_option linter.unusedSimpArgs false
open Go.RowKit

theorem ba_ext {a b : ByteArray} (h : a.data.toList = b.data.toList) : a = b := by cases a; cases b; congr; exact Array.toList_inj.1 h
theorem gAt_put {n : Int} (h : isV n = true) : gAt (pvB n) 0 = some (n, (vz n).length) := by
  have e : pvB n = str (vz n) := by unfold pvB; rw [h]; rfl
  have hp := (vz_len h).1
  rw [e]
  show gAt (str (vz n)) ((0 : Nat) : Int) = _
  rw [gAt_in (pos := 0) (by rw [str_size]; exact hp)]
  have hz := zig_bd (isV_bd h).1 (isV_bd h).2
  have := gv_put (z := (zig n).toNat) (by omega) []
  rw [List.append_nil] at this
  show gv (from_ (str (vz n)) 0) = _
  rw [show from_ (str (vz n)) 0 = vz n from rfl]
  unfold vz
  rw [this, show (((zig n).toNat : Nat) : Int) = zig n by omega, zag_zig]
/-- What is known of a number's encodings. -/
structure Told (n : Int) : Prop where
  back : gvI 0 (gAt (pvB n) 0) = .tuple #[.int .i64 n, .int .i64 ((pvB n).size : Nat), .bool true]
  zig0 : 0 ≤ zgB n
  zigU : isU (zgB n) = true
  zagU : uzB (zgB n) = n
  len : lnB n = ((pvB n).size : Nat)
  half : isV (n.tdiv 2) = true
  less : lnB (n.tdiv 2) ≤ lnB n
theorem told_of {n : Int} (h : isV n = true) : Told n := by
  have hz := zig_bd (isV_bd h).1 (isV_bd h).2
  have ep : pvB n = str (vz n) := by unfold pvB; rw [h]; rfl
  have ez : zgB n = zig n := by unfold zgB; rw [h]; rfl
  have el : lnB n = ((vz n).length : Nat) := by unfold lnB; rw [h]; rfl
  have hu : isU (zgB n) = true := by rw [ez]; exact inB_iff.2 hz
  have hh := isV_half h
  refine ⟨?_, by rw [ez]; exact hz.1, hu, ?_, by rw [el, ep, str_size], hh, ?_⟩
  · rw [gAt_put h, ep, str_size]; simp [gvI]
  · unfold uzB; rw [hu, ez]; exact zag_zig n
  · rw [el]
    have : lnB (n.tdiv 2) = ((vz (n.tdiv 2)).length : Nat) := by unfold lnB; rw [hh]; rfl
    rw [this]
    have := vz_half n
    omega
theorem gv_text {s : ByteArray} {x n : Int} {k : Nat} (h : gAt s x = some (n, k)) : 0 ≤ x ∧ isV n = true ∧ x.toNat + k ≤ s.size ∧ s.extract x.toNat (x.toNat + k) = pvB n := by
  unfold gAt at h
  split at h
  · rename_i hx
    obtain ⟨hv, ht, hk⟩ := gv_inv h
    rw [from_len] at hk
    refine ⟨hx.1, hv, by omega, ?_⟩
    have ep : pvB n = str (vz n) := by unfold pvB; rw [hv]; rfl
    rw [ep, ht]
    refine ba_ext ?_
    rw [Lib.extract_data]
    unfold from_ str
    simp [List.extract]
  · cases h
theorem got_true {p : Nat} {R : Option (Int × Nat)} {v e : Int} (h : gvI p R = .tuple #[.int .i64 v, .int .i64 e, .bool true]) : ∃ k : Nat, R = some (v, k) ∧ e = ((p + k : Nat) : Int) := by
  cases R with
  | none => simp [gvI] at h
  | some q =>
    obtain ⟨m, k⟩ := q
    simp [gvI] at h
    obtain ⟨rfl, rfl⟩ := h
    exact ⟨k, rfl, by simp⟩
set_option maxRecDepth 200000 in
set_option maxHeartbeats 16000000 in
theorem law_FnVarints (A : Option Addr) (n c : Nat) (l : List UInt8) (A' : Option Addr) (n' c' : Nat) (l' : List UInt8) (w : World) (h : Rd w w.heap.size 1 A n (bys l)) (hn : n ≤ 140737488355328) (h' : Rd w w.heap.size 1 A' n' (bys l')) (hn' : n' ≤ 140737488355328) :
    Calls Try.prog 12 #[.slice A n c, .slice A' n' c'] w fun e w' => e = .returned (.bool true) ∧ Below w.heap.size w w' := by
  have H := Lib.hid h
  have H' := Lib.hid h'
  clear h h'
  by_cases hs : n + n' ≤ 1048576
  · go_enter Try.func12, Try.ntmps12
    go_wp2_with fail
    refine (DrawPutVarint_any A n c l _ H.out (by omega)).mono ?_
    rintro e w1 ⟨_, rfl, ⟨x, rfl, hx0, hx1⟩, hb1⟩
    have HB1 := Lib.hid hb1
    obtain ⟨b, hv⟩ : ∃ b, isV x = b := ⟨_, rfl⟩
    have HV := Lib.hid hv
    clear hb1 hv
    go_wp2_with fail
    refine (iPutVarint_b x b HV.out _).mono ?_
    rintro e w2 ⟨rfl, hb⟩
    have HB2 := Lib.hid (HB1.out.trans (hb.mono HB1.out.size))
    clear hb HB1
    go_wp2_with fail
    refine (sPutVarint_b x b HV.out _).mono ?_
    rintro e w3 ⟨rfl, hb⟩
    have HB3 := Lib.hid (HB2.out.trans (hb.mono HB2.out.size))
    clear hb HB2
    go_wp2_with fail
    refine (iZigZag_b x b HV.out _).mono ?_
    rintro e w' ⟨rfl, rfl⟩
    go_wp2_with fail
    refine (sZigZag_b x b HV.out _).mono ?_
    rintro e w' ⟨rfl, rfl⟩
    go_wp2_with fail
    refine (iLengthOf_b x b HV.out _).mono ?_
    rintro e w4 ⟨rfl, hb⟩
    have HB4 := Lib.hid (HB3.out.trans (hb.mono HB3.out.size))
    clear hb HB3
    go_wp2_with fail
    refine (sLengthOf_b x b HV.out _).mono ?_
    rintro e w5 ⟨rfl, hb⟩
    have HB5 := Lib.hid (HB4.out.trans (hb.mono HB4.out.size))
    clear hb HB4
    go_upto_if 113 with fail
    go_cut [] (fun wx => Below w.heap.size w wx)
    case first =>
      cases b with
      | true =>
        have T := told_of HV.out
        have hps : (pvB x).size ≤ 6 := by
          have := (vz_len HV.out).2
          have e : pvB x = str (vz x) := by unfold pvB; rw [HV.out]; rfl
          rw [e, str_size]; omega
        have HG := Lib.hid (fun w => (iGetVarint_at (pvB x) 0 w (by omega)).mono fun e w' ⟨he, hw⟩ => ⟨he.trans (congrArg _ T.back), hw⟩ : ∀ w, Calls Try.prog 50 #[.string (pvB x), .int .i64 0] w fun e w' => e = .returned (.tuple #[.int .i64 x, .int .i64 ((pvB x).size : Nat), .bool true]) ∧ w = w')
        have HU := Lib.hid (fun w => (iUnZigZag_u (zgB x) w).mono fun e w' ⟨he, hw⟩ => ⟨he.trans (by rw [T.zigU, T.zagU]), hw⟩ : ∀ w, Calls Try.prog 51 #[.int .i64 (zgB x)] w fun e w' => e = .returned (.tuple #[.int .i64 x, .bool true]) ∧ w = w')
        have hz0 := T.zig0
        have hlen := T.len
        have hless := T.less
        obtain ⟨Z, hZ⟩ : ∃ Z, Z = zgB x := ⟨_, rfl⟩
        obtain ⟨L, hL⟩ : ∃ L, L = lnB x := ⟨_, rfl⟩
        obtain ⟨L2, hL2⟩ : ∃ L, L = lnB (x.tdiv 2) := ⟨_, rfl⟩
        have HH := Lib.hid (fun w => hL2 ▸ iLengthOf_b (x.tdiv 2) true T.half w : ∀ w, Calls Try.prog 48 #[.int .i64 (x.tdiv 2)] w fun e w' => e = .returned (.tuple #[.int .i64 L2, .bool true]) ∧ Below w.heap.size w w')
        have hL2L : L2 ≤ lnB x := by omega
        have hne : ((pvB x).size : Int) = lnB x := hlen.symm
        have HN := Lib.hid hne
        clear T hlen hless hZ hL hL2 hne
        go_wp2_with fail
        refine (HG.out _).mono ?_
        rintro e w' ⟨rfl, rfl⟩
        go_wp2_with fail
        refine (HU.out _).mono ?_
        rintro e w' ⟨rfl, rfl⟩
        go_wp2_with fail
        refine (HH.out _).mono ?_
        rintro e w6 ⟨rfl, hb⟩
        have HB6 := Lib.hid (HB5.out.trans (hb.mono HB5.out.size))
        clear hb HB5
        have hq : (lnB x != ((pvB x).size : Int)) = false := by rw [HN.out]; simp
        go_wp2_with fail
        go_meet
        exact HB6.out
      | false =>
        go_wp2_with fail
        go_meet
        exact HB5.out
    case rest =>
      have HC := Lib.hid hcut
      have hcs := hcut.size
      have HD := Lib.hid ((H'.out.below hcut).more hcut.size)
      clear hcut HB5 HV
      go_wp2_with fail
      refine (DrawGetVarint_any A' n' c' l' _ HD.out (by omega)).mono ?_
      rintro e w7 ⟨_, rfl, ⟨S, y, rfl, hS, hy0, hy1⟩, hb⟩
      have HB7 := Lib.hid (HC.out.trans (hb.mono hcs))
      clear hb HC HD
      obtain ⟨v, en, b2, hg⟩ := gvI_form y.toNat (gAt S y)
      have HG1 := Lib.hid (fun w => hg ▸ iGetVarint_at S y w (by omega) : ∀ w, Calls Try.prog 50 #[.string S, .int .i64 y] w fun e w' => e = .returned (.tuple #[.int .i64 v, .int .i64 en, .bool b2]) ∧ w = w')
      have HG2 := Lib.hid (fun w => hg ▸ sGetVarint_at S y w (by omega) : ∀ w, Calls Try.prog 53 #[.string S, .int .i64 y] w fun e w' => e = .returned (.tuple #[.int .i64 v, .int .i64 en, .bool b2]) ∧ Below w.heap.size w w')
      have HGG := Lib.hid hg
      clear hg
      go_wp2_with fail
      refine (HG1.out _).mono ?_
      rintro e w' ⟨rfl, rfl⟩
      go_wp2_with fail
      refine (HG2.out _).mono ?_
      rintro e w8 ⟨rfl, hb⟩
      have HB8 := Lib.hid (HB7.out.trans (hb.mono HB7.out.size))
      clear hb HB7 HG1 HG2
      go_upto_if 212 with fail
      go_cut [] (fun wx => Below w.heap.size w wx)
      case first =>
        cases b2 with
        | true =>
          obtain ⟨k, hR, he⟩ := got_true HGG.out
          obtain ⟨hy, hv, hle, hx⟩ := gv_text hR
          obtain ⟨p, rfl⟩ := Int.eq_ofNat_of_zero_le hy
          simp only [Int.toNat_natCast] at he hle hx
          obtain ⟨q, hq⟩ : ∃ q, q = p + k := ⟨_, rfl⟩
          rw [← hq] at he hle hx
          subst he
          have hpq : p ≤ q := by omega
          have HP := Lib.hid (iPutVarint_b v true hv)
          clear hR hv hq HGG hy
          go_wp2_with fail
          refine (HP.out _).mono ?_
          rintro e w9 ⟨rfl, hb⟩
          have HB9 := Lib.hid (HB8.out.trans (hb.mono HB8.out.size))
          clear hb HB8
          go_wp2_with fail
          go_meet
          exact HB9.out
        | false =>
          go_wp2_with fail
          go_meet
          exact HB8.out
      case rest =>
        have HC := Lib.hid hcut
        have hcs := hcut.size
        have HD := Lib.hid ((H'.out.below hcut).more hcut.size)
        clear hcut HB8 HGG
        go_wp2_with fail
        refine (DrawPutAll_any A' n' c' l' _ HD.out (by omega)).mono ?_
        rintro e w10 ⟨_, rfl, ⟨A2, c2, k, zs, rfl, hk, ho, hz⟩, hb⟩
        have HB10 := Lib.hid (HC.out.trans (hb.mono hcs))
        have HZ := Lib.hid (Rd.of_own ho)
        have hlen := (Rd.of_own ho).int_len
        have hs10 := HB10.out.size
        clear hb ho hz HD
        obtain ⟨b3, hb3⟩ : ∃ b, okPut k zs = b := ⟨_, rfl⟩
        obtain ⟨U, hU⟩ : ∃ U : ByteArray, (if okPut k zs = true then (⟨(putL zs).toArray⟩ : ByteArray) else ⟨#[]⟩) = U := ⟨_, rfl⟩
        have HP1 := Lib.hid (fun B A c w hB h => hb3 ▸ hU ▸ iPutAll_any B A k c zs w hB h (by omega) : ∀ B A c w, B ≤ w.heap.size → Rd w B 1 A k (ints zs) → Calls Try.prog 55 #[.slice A k c] w fun e w' => e = .returned (.tuple #[.string U, .bool b3]) ∧ Below w.heap.size w w')
        have HP2 := Lib.hid (fun B A c w hB h => hb3 ▸ hU ▸ sPutAll_any B A k c zs w hB h (by omega) : ∀ B A c w, B ≤ w.heap.size → Rd w B 1 A k (ints zs) → Calls Try.prog 56 #[.slice A k c] w fun e w' => e = .returned (.tuple #[.string U, .bool b3]) ∧ Below w.heap.size w w')
        have HOK := Lib.hid hb3
        have HUU := Lib.hid hU
        have HL := Lib.hid hlen
        clear hb3 hU hlen
        go_wp2_with fail
        refine (HP1.out _ _ _ _ (Nat.le_refl _) HZ.out).mono ?_
        rintro e w11 ⟨rfl, hb⟩
        have HB11 := Lib.hid (HB10.out.trans (hb.mono hs10))
        have HZ11 := Lib.hid ((HZ.out.below hb).more hb.size)
        have hs11 := HB11.out.size
        clear hb HB10 HZ
        go_wp2_with fail
        refine (HP2.out _ _ _ _ (Nat.le_refl _) HZ11.out).mono ?_
        rintro e w12 ⟨rfl, hb⟩
        have HB12 := Lib.hid (HB11.out.trans (hb.mono hs11))
        have HZ12 := Lib.hid ((HZ11.out.below hb).more hb.size)
        have hs12 := HB12.out.size
        have HD := Lib.hid ((H'.out.below HB12.out).more hs12)
        clear hb HB11 HZ11 HP1 HP2
        go_wp2_with fail
        refine (DrawGetAll_any A' n' c' l' _ HD.out (by omega)).mono ?_
        rintro e w13 ⟨_, rfl, ⟨S4, rfl, hS4⟩, hb⟩
        have HB13 := Lib.hid (HB12.out.trans (hb.mono hs12))
        have HZ13 := Lib.hid ((HZ12.out.below hb).more hb.size)
        have hs13 := HB13.out.size
        clear hb HB12 HZ12 HD HC
        obtain ⟨n4, l4, K4, hn4, hA1, hA2⟩ := getAll_both S4 (by omega)
        have HA1 := Lib.hid hA1
        have HA2 := Lib.hid hA2
        clear hA1 hA2
        go_wp2_with fail
        refine (HA2.out _).mono ?_
        rintro e w14 ⟨A5, c5, rfl, ho5, hb⟩
        have HB14 := Lib.hid (HB13.out.trans (hb.mono hs13))
        have HZ14 := Lib.hid ((HZ13.out.below hb).more hb.size)
        have HR5 := Lib.hid (Rd.of_own ho5)
        have hs14 := HB14.out.size
        clear hb ho5 HB13 HZ13
        go_wp2_with fail
        refine (HA1.out _).mono ?_
        rintro e w15 ⟨A6, c6, rfl, ho6, hb⟩
        have HB15 := Lib.hid (HB14.out.trans (hb.mono hs14))
        have HZ15 := Lib.hid ((HZ14.out.below hb).more hb.size)
        have HR5' := Lib.hid ((HR5.out.below hb).more hb.size)
        have HR6 := Lib.hid (Rd.of_own ho6)
        have hs15 := HB15.out.size
        clear hb ho6 HB14 HZ14 HR5 HA1 HA2
        go_wp2_with fail
        refine (sameInts_same _ A5 A6 n4 c5 c6 l4 _ HR5'.out HR6.out (by omega)).mono ?_
        rintro e w16 ⟨rfl, hb⟩
        have HB16 := Lib.hid (HB15.out.trans (hb.mono hs15))
        have HZ16 := Lib.hid ((HZ15.out.below hb).more hb.size)
        have hs16 := HB16.out.size
        clear hb HB15 HZ15 HR5' HR6
        cases b3 with
        | false =>
          go_wp2
          go_ret
          exact ⟨rfl, HB16.out⟩
        | true =>
          by_cases h6 : U.size ≤ 600
          · have hok := HOK.out
            unfold okPut at hok
            simp only [Bool.and_eq_true, decide_eq_true_eq] at hok
            have hrd : rd U.data.toList = some zs := by
              have := HUU.out
              rw [HOK.out] at this
              rw [← this]
              exact rd_putL hok.2
            have HT := Lib.hid (fun w => iGetAll_t U w h6 zs hrd (by have := HL.out; omega))
            clear hok hrd
            go_wp2_with fail
            refine (HT.out _).mono ?_
            rintro e w17 ⟨A7, c7, rfl, ho7, hb⟩
            have HB17 := Lib.hid (HB16.out.trans (hb.mono hs16))
            have HZ17 := Lib.hid ((HZ16.out.below hb).more hb.size)
            have HR7 := Lib.hid (Rd.of_own ho7)
            have hs17 := HB17.out.size
            clear hb ho7 HB16 HZ16
            have hl := HL.out
            subst hl
            go_wp2_with fail
            refine (sameInts_same _ A7 A2 zs.length c7 c2 zs _ HR7.out HZ17.out (by omega)).mono ?_
            rintro e w18 ⟨rfl, hb⟩
            have HB18 := Lib.hid (HB17.out.trans (hb.mono hs17))
            clear hb
            go_wp2
            go_ret
            exact ⟨rfl, HB18.out⟩
          · go_wp2
            go_ret
            exact ⟨rfl, HB16.out⟩
  · go_enter Try.func12, Try.ntmps12
    go_wp2
    go_ret
    exact ⟨rfl, Below.refl _ _⟩
end Go.Proofs.Ytdmcfllmhjdleaa
