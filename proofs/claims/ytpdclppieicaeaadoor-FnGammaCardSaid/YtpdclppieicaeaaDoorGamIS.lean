/- ReadGamma: the program's walk. -/
import Derived.Test.YtpdclppieicaeaaDoorPuOut
namespace Go.Proofs.YtpdclppieicaeaaDoor
set_option linter.unusedVariables false
set_option linter.unusedSimpArgs false
open Go.RowKit

theorem implG_none {s : List UInt8} (h : one1 s = none) : implG s = none := by unfold implG; rw [h]
theorem implG_no {s : List UInt8} {z : Nat} (h : one1 s = some z) (hn : ¬ (s.length ≤ 600 ∧ (s.take z).all (· == 48) = true ∧ 2 * z + 1 ≤ s.length)) : implG s = none := by
  unfold implG; rw [h]; exact if_neg hn
theorem implG_of {s tl : List UInt8} {z : Nat} (h : one1 s = some z) (hy : s.length ≤ 600 ∧ (s.take z).all (· == 48) = true ∧ 2 * z + 1 ≤ s.length) (ht : tl = (s.drop z).take (z + 1)) :
    (pu 0 tl = none → implG s = none) ∧ ∀ n, pu 0 tl = some n → implG s = if n ≤ 1000000 then some (n, 2 * z + 1) else none := by
  subst ht
  have e : implG s = match pu 0 ((s.drop z).take (z + 1)) with
      | some n => if n ≤ 1000000 then some (n, 2 * z + 1) else none
      | none => none := by
    unfold implG; rw [h]; exact if_pos hy
  exact ⟨fun q => by rw [e, q], fun n q => by rw [e, q]⟩
theorem sB_ne {l : List UInt8} (h : l ≠ []) : (sB l).toList.isEmpty = false := by
  rw [ByteArray.toList_eq, sB_data]
  cases l with
  | nil => exact absurd rfl h
  | cons c r => rfl
set_option maxRecDepth 100000 in
set_option maxHeartbeats 4000000 in
theorem iReadGamma_any (s : ByteArray) (w : World) (hs : s.size ≤ 1048576) (hS : SentAt w) : Calls Tryd.prog 8 #[.string s] w (RG s w) := by
  have hsz : s.data.toList.length = s.size := by simp
  have HG := Lib.hid (implG_eq s.data.toList)
  have HS := Lib.hid hS
  have HI := Lib.hid (idxByte s)
  clear hS
  cases h1 : one1 s.data.toList with
  | none =>
    have hz : one1Z s.data.toList = -1 := by unfold one1Z; rw [h1]
    rw [hz] at HI
    have HN := Lib.hid (HG.out.symm.trans (implG_none h1))
    clear h1 hz hsz
    go_enter Tryd.func8, Tryd.ntmps8
    go_wp2_with fail
    refine (HI.out _).mono ?_
    rintro e w' ⟨rfl, rfl⟩
    by_cases h6 : s.size ≤ 600
    · go_wp2
      go_ret3
      exact RG.no_ HN.out (Below.refl _ _)
    · go_wp2
      go_ret3
      exact RG.no_ HN.out (Below.refl _ _)
  | some z =>
    have hz : one1Z s.data.toList = (z : Int) := by unfold one1Z; rw [h1]
    rw [hz] at HI
    have hzs : z < s.size := by have := (one1_some _ h1).1; omega
    have HNO := Lib.hid (fun h => HG.out.symm.trans (implG_no h1 h))
    have HYES := Lib.hid (fun (tl : List UInt8) h ht => implG_of (tl := tl) h1 h ht)
    have HSZ := Lib.hid hsz
    clear h1 hz hsz
    by_cases h6 : s.size ≤ 600
    · obtain ⟨T0, hT0⟩ : ∃ T0, s.extract 0 z = T0 := ⟨_, rfl⟩
      have hT0s : T0.size ≤ 1048576 := by rw [← hT0]; simp; omega
      have hT0l : T0.data.toList = s.data.toList.take z := by rw [← hT0, cutG]; simp
      have HTR := Lib.hid (fun w => trim48 T0 w hT0s)
      have hall := trLR_all T0.data.toList
      rw [hT0l] at hall
      obtain ⟨R, hR⟩ : ∃ R, trL (trR T0.data.toList) = R := ⟨_, rfl⟩
      rw [hR] at HTR
      rw [hT0l] at hR
      rw [hR] at hall
      clear hT0s hT0l hR
      by_cases ha : (s.data.toList.take z).all (· == 48) = true
      · obtain rfl : R = [] := hall.2 ha
        clear hall
        rw [show sB ([] : List UInt8) = (⟨#[]⟩ : ByteArray) from rfl] at HTR
        by_cases h2 : 2 * z + 1 ≤ s.size
        · obtain ⟨T, hT⟩ : ∃ T, s.extract z (2 * z + 1) = T := ⟨_, rfl⟩
          have hTs : T.size = z + 1 := by rw [← hT]; simp; omega
          have HTL := Lib.hid (show T.data.toList = (s.data.toList.drop z).take (z + 1) by rw [← hT, cutG, show 2 * z + 1 - z = z + 1 by omega])
          have HOK := Lib.hid (HYES.out T.data.toList (by rw [HSZ.out]; exact ⟨h6, ha, h2⟩) HTL.out)
          have HP := Lib.hid (fun w (h : SentAt w) => outerPu T (by omega) (by omega) w h)
          clear HNO HYES HSZ HTL ha hTs
          go_enter Tryd.func8, Tryd.ntmps8
          go_wp2_with fail
          refine (HI.out _).mono ?_
          rintro e w' ⟨rfl, rfl⟩
          go_wp2_with fail
          refine (HTR.out _).mono ?_
          rintro e w' ⟨rfl, m, rfl⟩
          have HB0 := Lib.hid (Below.drewN (Below.refl w.heap.size w) m)
          go_wp2_with fail
          refine (HP.out _ (HS.out.below HB0.out)).mono ?_
          rintro e w2 ⟨⟨v, rfl, hv⟩, hb⟩
          have HB := Lib.hid (HB0.out.trans (hb.mono HB0.out.size))
          clear hb
          cases hp : pu 0 T.data.toList with
          | some n =>
            rw [hp] at hv
            have hv : v = .tuple #[.int .u64 n, .nilIface] := hv
            subst hv
            have HF := Lib.hid (HOK.out.2 n hp)
            have hn := pu_lt _ _ _ (by omega) hp
            clear hp
            by_cases hm : n ≤ 1000000
            · go_wp2
              go_ret3
              exact RG.yes (n' := n) (k' := 2 * z + 1) (by rw [HG.out.symm, HF.out, if_pos hm]) rfl (by omega) HB.out
            · go_wp2
              go_ret3
              exact RG.no_ (by rw [HG.out.symm, HF.out, if_neg hm]) HB.out
          | none =>
            rw [hp] at hv
            have HF := Lib.hid (HOK.out.1 hp)
            obtain ⟨m1, N, rfl⟩ := hv
            clear hp
            go_wp2
            go_ret3
            exact RG.no_ (by rw [HG.out.symm, HF.out]) HB.out
        · have HN := Lib.hid (HNO.out (by rw [HSZ.out]; omega))
          go_enter Tryd.func8, Tryd.ntmps8
          go_wp2_with fail
          refine (HI.out _).mono ?_
          rintro e w' ⟨rfl, rfl⟩
          go_wp2_with fail
          refine (HTR.out _).mono ?_
          rintro e w' ⟨rfl, m, rfl⟩
          have HB0 := Lib.hid (Below.drewN (Below.refl w.heap.size w) m)
          go_wp2
          go_ret3
          exact RG.no_ HN.out HB0.out
      · have HN := Lib.hid (HNO.out (fun h => ha h.2.1))
        have HNE := sB_ne (fun e => ha (hall.1 e))
        obtain ⟨Q, hQ⟩ : ∃ Q, sB R = Q := ⟨_, rfl⟩
        rw [hQ] at HTR HNE
        clear hQ hall ha
        go_enter Tryd.func8, Tryd.ntmps8
        go_wp2_with fail
        refine (HI.out _).mono ?_
        rintro e w' ⟨rfl, rfl⟩
        go_wp2_with fail
        refine (HTR.out _).mono ?_
        rintro e w' ⟨rfl, m, rfl⟩
        have HB0 := Lib.hid (Below.drewN (Below.refl w.heap.size w) m)
        go_wp2
        go_ret3
        exact RG.no_ HN.out HB0.out
    · have HN := Lib.hid (HNO.out (by rw [HSZ.out]; omega))
      go_enter Tryd.func8, Tryd.ntmps8
      go_wp2_with fail
      refine (HI.out _).mono ?_
      rintro e w' ⟨rfl, rfl⟩
      go_wp2
      go_ret3
      exact RG.no_ HN.out (Below.refl _ _)
end Go.Proofs.YtpdclppieicaeaaDoor
