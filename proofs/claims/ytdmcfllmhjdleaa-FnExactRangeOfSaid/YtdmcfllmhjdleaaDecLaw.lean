/- The law DecodeChunk. -/
import Derived.Test.YtdmcfllmhjdleaaDecI
import Derived.Test.YtdmcfllmhjdleaaDeltas
namespace Go.Proofs.Ytdmcfllmhjdleaa
set_option linter.unusedVariables false
set_option linter.unusedSimpArgs false
open Go.RowKit

theorem GotS.gotR {w w' : World} {T : Option (List (Int × Int))} {e : Ending} (h : GotS w T e w') : GotR 45 2 w (T.getD []).length (smps (T.getD [])) T.isSome e w' := by
  cases T with
  | none =>
    rw [h.1 rfl]
    exact GotR.nil_ (Ch.of_below h.2.2)
  | some l =>
    obtain ⟨A, c, he, ho⟩ := h.2.1 l rfl
    exact ⟨A, c, he, Row.of_own ho, Ch.of_below h.2.2⟩
set_option maxHeartbeats 1000000 in
theorem sDecodeChunk_any (s : ByteArray) (w : World) (hs : s.size ≤ 1048576) : Calls Try.prog 37 #[.string s] w (GotS w (dec s.data.toList)) := by
  by_cases h6 : s.size ≤ 600
  · have HC := Lib.hid (l2Decode_any s w h6)
    generalize dec s.data.toList = T at HC ⊢
    go_enter Try.func37, Try.ntmps37
    go_wp2_with fail
    refine HC.out.mono ?_
    intro e w1 hg
    cases T with
    | none =>
      obtain rfl := hg.1 rfl
      have HB := Lib.hid hg.2.2
      clear hg
      go_wp2
      go_ret2
      exact GotS.no rfl rfl HB.out
    | some l =>
      obtain ⟨A, c, rfl, ho⟩ := hg.2.1 l rfl
      have HB := Lib.hid hg.2.2
      have HO := Lib.hid ho
      clear hg ho
      go_wp2
      go_ret2
      exact ⟨fun h => (by cases h), fun l' h => (by injection h with h; subst h; exact ⟨A, c, rfl, HO.out⟩), HB.out⟩
  · have e : dec s.data.toList = none := dec_long (by have : s.data.toList.length = s.size := Array.length_toList
                                                      omega)
    have HD := Lib.hid e
    clear e
    go_enter Try.func37, Try.ntmps37
    go_wp2
    go_ret2
    exact GotS.no HD.out rfl (Below.refl _ _)
set_option maxHeartbeats 1000000 in
theorem iDecodeChunk_any (s : ByteArray) (w : World) (hs : s.size ≤ 1048576) : Calls Try.prog 38 #[.string s] w (GotS w (dec s.data.toList)) := by
  have HC := Lib.hid (decodeChunk_any s w hs)
  generalize dec s.data.toList = T at HC ⊢
  go_enter Try.func38, Try.ntmps38
  go_wp2_with fail
  refine HC.out.mono ?_
  intro e w1 hg
  cases T with
  | none =>
    obtain rfl := hg.1 rfl
    have HB := Lib.hid hg.2.2
    clear hg
    go_wp2
    go_ret2
    exact GotS.no rfl rfl HB.out
  | some l =>
    obtain ⟨A, c, rfl, ho⟩ := hg.2.1 l rfl
    have HB := Lib.hid hg.2.2
    have HO := Lib.hid ho
    clear hg ho
    go_wp2
    go_ret2
    exact ⟨fun h => (by cases h), fun l' h => (by injection h with h; subst h; exact ⟨A, c, rfl, HO.out⟩), HB.out⟩
theorem dec_len {s : List UInt8} : ((dec s).getD []).length ≤ 40 := by
  cases e : dec s with
  | none => simp
  | some l => exact goodSmp_len (dec_some e).1
theorem both_DecodeChunk (s : ByteArray) (hs : s.size ≤ 1048576) : ∃ (nr : Nat) (lr : List (Int × Int)) (r1 : Bool), nr ≤ 1048576 ∧
    (∀ w, Calls Try.prog 37 #[.string s] w (GotR 45 2 w nr (smps lr) r1)) ∧
    (∀ w, Calls Try.prog 38 #[.string s] w (GotR 45 2 w nr (smps lr) r1)) :=
  ⟨_, _, _, Nat.le_trans dec_len (by omega), fun w => (sDecodeChunk_any s w hs).mono fun _ _ h => h.gotR, fun w => (iDecodeChunk_any s w hs).mono fun _ _ h => h.gotR⟩
set_option maxRecDepth 100000 in
set_option maxHeartbeats 4000000 in
theorem law_DecodeChunk (s : ByteArray) (w : World)  :
    Calls Try.prog 10 #[.string s] w fun e w' => e = .returned (.bool true) ∧ Below w.heap.size w w' := by
  by_cases hns : s.size ≤ 1048576
  · skip
    obtain ⟨nr, lr, r1, hnr, hS, hI⟩ := both_DecodeChunk s hns
    have HS := Lib.hid hS
    have HI := Lib.hid hI
    clear hS hI
    obtain ⟨mr, mm, hmr0, hmr1, hMr, hHr⟩ := mh_Sample nr 1 (by omega) (by omega) (by omega)
    have HMr := Lib.hid hMr
    have HHr := Lib.hid hHr
    clear hMr hHr
    go_enter Try.func10, Try.ntmps10
    go_wp2_with fail
    refine (HS.out  _ ).mono ?_
    rintro e w1 ⟨Arw, crw, rfl, hrrw, hc1⟩
    have hs1 := hc1.size
    have HC1 := Lib.hid hc1
    clear hc1
    have HRrw_1 := Lib.hid hrrw
    clear hrrw
    go_wp2_with fail
    refine (HI.out  _ ).mono ?_
    rintro e w2 ⟨Arg, crg, rfl, hrrg, hc2⟩
    have hs2 := hc2.size
    have HC2 := Lib.hid hc2
    clear hc2
    have HRrg_2 := Lib.hid hrrg
    clear hrrg
    go_wp2_with fail
    refine (eq_Sample _ _ _ _ nr _ _ lr _ (by omega) (by omega) (HRrg_2.out).rd ((HRrw_1.out.keep HC2.out (by omega))).rd (by omega)).mono ?_
    rintro e w3 ⟨rfl, hc3⟩
    have hs3 := hc3.size
    have HC3 := Lib.hid hc3
    clear hc3
    go_wp2_with fail
    refine (HMr.out _ _ _ _ _ _ (HRrg_2.out.keep HC3.out (by omega))).mono ?_
    rintro e w4 ⟨rfl, hrrg, hc4⟩
    have hs4 := hc4.size
    have HC4 := Lib.hid hc4
    clear hc4
    have HRrg_4 := Lib.hid hrrg
    clear hrrg
    go_wp2_with fail
    refine (HHr.out _ _ _ _ (HRrg_4.out).rd).mono ?_
    rintro e w5 ⟨rfl, hc5⟩
    have hs5 := hc5.size
    have HC5 := Lib.hid hc5
    clear hc5
    go_wp2_with fail
    refine (HI.out  _ ).mono ?_
    rintro e w6 ⟨Arh, crh, rfl, hrrh, hc6⟩
    have hs6 := hc6.size
    have HC6 := Lib.hid hc6
    clear hc6
    have HRrh_6 := Lib.hid hrrh
    clear hrrh
    go_wp2_with fail
    refine (eq_Sample _ _ _ _ nr _ _ lr _ (by omega) (by omega) (HRrh_6.out).rd ((((((HRrw_1.out.keep HC2.out (by omega)).keep HC3.out (by omega)).keep HC4.out (by omega)).keep HC5.out (by omega)).keep HC6.out (by omega))).rd (by omega)).mono ?_
    rintro e w7 ⟨rfl, hc7⟩
    have hs7 := hc7.size
    have HC7 := Lib.hid hc7
    clear hc7
    go_wp2_with fail
    refine (HHr.out _ _ _ _ ((((HRrg_4.out.keep HC5.out (by omega)).keep HC6.out (by omega)).keep HC7.out (by omega))).rd).mono ?_
    rintro e w8 ⟨rfl, hc8⟩
    have hs8 := hc8.size
    have HC8 := Lib.hid hc8
    clear hc8
    go_wp2
    go_ret
    exact ⟨rfl, (((((((((Below.refl _ _).trans (HC1.out.below (by omega) (by omega))).trans (HC2.out.below (by omega) (by omega))).trans (HC3.out.below (by omega) (by omega))).trans (HC4.out.below (by omega) (by omega))).trans (HC5.out.below (by omega) (by omega))).trans (HC6.out.below (by omega) (by omega))).trans (HC7.out.below (by omega) (by omega))).trans (HC8.out.below (by omega) (by omega)))⟩
  · go_enter Try.func10, Try.ntmps10
    go_wp2
    go_ret
    exact ⟨rfl, (Below.refl _ _)⟩
end Go.Proofs.Ytdmcfllmhjdleaa
