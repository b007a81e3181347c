/- The law FnGamma. -/
import Derived.Test.YtpdclppieicaeaaDoorGamLaw
import Derived.Test.YtpdclppieicaeaaDoorReadLaw
import Derived.Test.YtpdclppieicaeaaDoorDrawGam
import Derived.Test.YtpdclppieicaeaaDoorLaw1
import Derived.Deep.DeepCutAuto
import Derived.Outline
namespace Go.Proofs.YtpdclppieicaeaaDoor
set_option linter.unusedVariables false
set_option linter.unusedSimpArgs false
open Go.RowKit

def FactsG (w : World) : Prop := TabAt w ∧ SentAt w
theorem FactsG.below {w w' : World} (h : FactsG w) (hb : Below w.heap.size w w') : FactsG w' := ⟨h.1.below hb, h.2.below hb⟩
theorem facts_FnGamma {W : World} (h : laidMetH Tryd.prog Rows.fnGammaRow.laid W) (_ : W.ShapedOpen Tryd.prog) : FactsG W := by
  rw [MakeChecks.laidMetH_plain _ _ _ (by kernel_rfl)] at h
  obtain ⟨t1, p1, h1⟩ := sentRan h.tail.tail.tail.tail
  obtain ⟨t0, p0, h0⟩ := sentSyn h.tail.tail.tail.tail.tail
  exact ⟨tabAt_of h (.tail _ (.head _)), t0, p0, t1, p1, h0, h1⟩
theorem sBapp (a : List UInt8) (T : ByteArray) : (sB a ++ T).data.toList = a ++ T.data.toList := by
  rw [ByteArray.data_append, Array.toList_append]; simp [sB]
theorem both_zag (z : Int) : ∃ (u : Int) (b : Bool), (∀ w, Calls Tryd.prog 11 #[.int .i64 z] w fun e w' => e = .returned (.tuple #[.int .i64 u, .bool b]) ∧ w = w') ∧
    (∀ w, Calls Tryd.prog 12 #[.int .i64 z] w fun e w' => e = .returned (.tuple #[.int .i64 u, .bool b]) ∧ w = w') ∧ (b = true → ∀ w, Calls Tryd.prog 13 #[.int .i64 u] w fun e w' => e = .returned (.tuple #[.int .i64 z, .bool true]) ∧ w = w') := by
  cases h : inB z 0 2000000000000 with
  | true =>
    obtain ⟨h0, h1⟩ := inB_iff.1 h
    refine ⟨zag z, true, fun w => iUnZigZag_t z w h, fun w => sUnZigZag_t z w h, fun _ w => ?_⟩
    have hv : isV (zag z) = true := inB_iff.2 (by unfold zag; split <;> omega)
    have := iZigZag_t (zag z) w hv
    rwa [zig_zag h0] at this
  | false => exact ⟨0, false, fun w => iUnZigZag_f z w h, fun w => sUnZigZag_f z w h, fun e => by cases e⟩
theorem both_read (T : ByteArray) (hT : T.size ≤ 1048576) : ∃ (a b : Int) (c : Bool), (∀ w, SentAt w → Calls Tryd.prog 8 #[.string T] w fun e w' => e = .returned (.tuple #[.int .i64 a, .int .i64 b, .bool c]) ∧ Below w.heap.size w w') ∧
    (∀ w, Calls Tryd.prog 9 #[.string T] w fun e w' => e = .returned (.tuple #[.int .i64 a, .int .i64 b, .bool c]) ∧ Below w.heap.size w w') ∧ (c = true → ∃ m k : Nat, a = m ∧ b = k ∧ readG T.data.toList = some (m, k)) := by
  cases e : readG T.data.toList with
  | some q =>
    obtain ⟨m, k⟩ := q
    refine ⟨m, k, true, fun w hS => ?_, fun w => ?_, fun _ => ⟨m, k, rfl, rfl, rfl⟩⟩
    · have := iReadGamma_any T w hT hS
      unfold RG at this
      rwa [e] at this
    · have := sReadGamma_any T w hT
      unfold RG at this
      rwa [e] at this
  | none =>
    refine ⟨0, 0, false, fun w hS => ?_, fun w => ?_, fun h => by cases h⟩
    · have := iReadGamma_any T w hT hS
      unfold RG at this
      rwa [e] at this
    · have := sReadGamma_any T w hT
      unfold RG at this
      rwa [e] at this
theorem read_back {x : Int} (hx : gbK x = true) (T : ByteArray) (hT : T.size ≤ 200) : (∀ w, SentAt w → Calls Tryd.prog 8 #[.string (gbS x ++ T)] w fun e w' => e = .returned (.tuple #[.int .i64 x, .int .i64 (gbS x).size, .bool true]) ∧ Below w.heap.size w w') ∧ ∃ q : Nat, (gbS x).size = 2 * q + 1 := by
  obtain ⟨n, rfl, h1, h2⟩ := gbK_t hx
  have e : gbS (n : Int) = sB (gam n) := by unfold gbS; rw [hx]; rfl
  have hl := gam_len n
  have hp := bnr_len_pos n
  have h20 := bnr_len h2
  rw [e]
  refine ⟨fun w hS => ?_, (bnr n).length - 1, by rw [sB_size]; omega⟩
  have hr : readG (sB (gam n) ++ T).data.toList = some (n, (gam n).length) := by
    rw [sBapp]
    exact read_gam h1 h2 _ (by simp; omega)
  have := iReadGamma_any (sB (gam n) ++ T) w (by rw [ByteArray.size_append, sB_size]; omega) hS
  unfold RG at this
  rw [hr] at this
  rw [sB_size]
  exact this
theorem bits_back {T : ByteArray} {m k : Nat} (h : readG T.data.toList = some (m, k)) : (∀ w, TabAt w → Calls Tryd.prog 5 #[.int .i64 m] w fun e w' => e = .returned (.tuple #[.string (T.extract 0 k), .bool true]) ∧ Below w.heap.size w w') ∧ k ≤ T.size := by
  obtain ⟨h1, h2, h3, h4, h5⟩ := gam_read h
  have hk : gbK (m : Int) = true := by unfold gbK; rw [decide_eq_true (by omega), decide_eq_true (by omega)]; rfl
  have e : gbS (m : Int) = T.extract 0 k := by
    unfold gbS
    rw [hk, if_pos rfl, Int.toNat_natCast, ← h3]
    symm
    refine sB_of ?_
    rw [extT, List.drop_zero, Nat.sub_zero]
  refine ⟨fun w hT => ?_, by simpa using h4⟩
  have := iGammaBits_any (m : Int) w hT.1 hT.2
  unfold GB at this
  rwa [hk, e] at this
set_option maxRecDepth 200000 in
set_option maxHeartbeats 16000000 in
theorem law_FnGamma (A : Option Addr) (n c : Nat) (l : List UInt8) (A' : Option Addr) (n' c' : Nat) (l' : List UInt8) (w : World) (h : Rd w w.heap.size 1 A n (bys l)) (hn : n ≤ 140737488355328) (h' : Rd w w.heap.size 1 A' n' (bys l')) (hn' : n' ≤ 140737488355328) (hF : FactsG w) :
    Calls Tryd.prog 3 #[.slice A n c, .slice A' n' c'] w fun e w' => e = .returned (.bool true) ∧ Below w.heap.size w w' := by
  have H := Lib.hid h
  have H' := Lib.hid h'
  have HF := Lib.hid hF
  clear h h' hF
  by_cases hs : n + n' ≤ 1048576
  · go_enter Tryd.func3, Tryd.ntmps3
    go_wp2_with fail
    refine (DrawGammaBits_any A n c l _ H.out (by omega)).mono ?_
    rintro e w1 ⟨_, rfl, ⟨x, rfl, hx0, hx1⟩, hb1⟩
    have HB1 := Lib.hid hb1
    clear hb1
    have C1 := fun w (h : TabAt w) => iGammaBits_any x w h.1 h.2
    have C2 := fun w => sGammaBits_any x w
    have RB := Lib.hid (fun (h : gbK x = true) T hT => read_back h T hT)
    have hss := gbS_size x
    unfold GB at C1 C2
    obtain ⟨S, hS⟩ : ∃ S, gbS x = S := ⟨_, rfl⟩
    obtain ⟨K, hK⟩ : ∃ K, gbK x = K := ⟨_, rfl⟩
    rw [hS] at hss
    rw [hS, hK] at C1 C2 RB
    have HC1 := Lib.hid C1
    have HC2 := Lib.hid C2
    clear C1 C2 hS hK
    go_wp2_with fail
    refine (HC1.out _ (HF.out.below HB1.out).1).mono ?_
    rintro e w2 ⟨rfl, hb⟩
    have HB2 := Lib.hid (HB1.out.trans (hb.mono HB1.out.size))
    clear hb HB1
    go_wp2_with fail
    refine (HC2.out _).mono ?_
    rintro e w3 ⟨rfl, hb⟩
    have HB3 := Lib.hid (HB2.out.trans (hb.mono HB2.out.size))
    have HD := Lib.hid ((H'.out.below HB3.out).more HB3.out.size)
    clear hb HB2 HC1 HC2
    go_wp2_with fail
    refine (DrawReadGamma_any A' n' c' l' _ HD.out (by omega)).mono ?_
    rintro e w4 ⟨_, rfl, ⟨T, rfl, hT⟩, hb⟩
    have HB4 := Lib.hid (HB3.out.trans (hb.mono HB3.out.size))
    clear hb HB3 HD
    obtain ⟨a, b, is, hr1, hr2, hr3⟩ := both_read T (by omega)
    have HR1 := Lib.hid hr1
    have HR2 := Lib.hid hr2
    have HR3 := Lib.hid hr3
    clear hr1 hr2 hr3
    go_wp2_with fail
    refine (HR1.out _ (HF.out.below HB4.out).2).mono ?_
    rintro e w5 ⟨rfl, hb⟩
    have HB5 := Lib.hid (HB4.out.trans (hb.mono HB4.out.size))
    clear hb HB4
    go_wp2_with fail
    refine (HR2.out _).mono ?_
    rintro e w6 ⟨rfl, hb⟩
    have HB6 := Lib.hid (HB5.out.trans (hb.mono HB5.out.size))
    clear hb HB5 HR1 HR2
    cases K with
    | true =>
      obtain ⟨hrb, q, hq⟩ := RB.out rfl T hT
      have HRB := Lib.hid hrb
      have hcat := fun w => run_string_add_sum (P := Tryd.prog) (w := w) S T (by omega)
      have hm : ((S.size : Int)) % 2 = 1 := by omega
      have hm2 : ((S.size : Int)).tmod 2 = 1 := by rw [Int.tmod_eq_emod_of_nonneg (by omega)]; omega
      clear hrb hq
      go_wp2_with fail
      refine (HRB.out _ (HF.out.below HB6.out).2).mono ?_
      rintro e w7 ⟨rfl, hb⟩
      have HC := Lib.hid (HB6.out.trans (hb.mono HB6.out.size))
      clear hb HB6 hcat
      · skip
        go_upto_if 115 with fail
        go_cut [] (fun wx => Below w.heap.size w wx)
        case first =>
          cases is with
          | true =>
            obtain ⟨m, k, rfl, rfl, hr⟩ := HR3.out rfl
            obtain ⟨hbb, hk⟩ := bits_back hr
            have HBB := Lib.hid hbb
            clear hr hbb HR3
            go_wp2_with fail
            refine (HBB.out _ (HF.out.below HC.out).1).mono ?_
            rintro e w7 ⟨rfl, hb⟩
            have HB7 := Lib.hid (HC.out.trans (hb.mono HC.out.size))
            clear hb HC
            go_wp2_with fail
            go_meet
            exact HB7.out
          | false =>
            go_wp2_with fail
            go_meet
            exact HC.out
        case rest =>
          have HC2 := Lib.hid hcut
          have HD := Lib.hid ((H'.out.below hcut).more hcut.size)
          clear hcut HC HR3
          go_wp2_with fail
          refine (DrawUnZigZag_any A' n' c' l' _ HD.out (by omega)).mono ?_
          rintro e w8 ⟨_, rfl, ⟨z, rfl, hz0, hz1⟩, hb⟩
          have HB8 := Lib.hid (HC2.out.trans (hb.mono HC2.out.size))
          clear hb HC2 HD
          obtain ⟨u, zb, hu1, hu2, hu3⟩ := both_zag z
          have HU1 := Lib.hid hu1
          have HU2 := Lib.hid hu2
          have HU3 := Lib.hid hu3
          clear hu1 hu2 hu3
          go_wp2_with fail
          refine (HU1.out _).mono ?_
          rintro e w' ⟨rfl, rfl⟩
          go_wp2_with fail
          refine (HU2.out _).mono ?_
          rintro e w' ⟨rfl, rfl⟩
          cases zb with
          | true =>
            go_wp2_with fail
            refine (HU3.out (by trivial) _).mono ?_
            rintro e w' ⟨rfl, rfl⟩
            go_wp2
            go_ret
            exact ⟨rfl, HB8.out⟩
          | false =>
            go_wp2
            go_ret
            exact ⟨rfl, HB8.out⟩
    | false =>
      have HC := HB6
      clear HB6
      · skip
        go_upto_if 115 with fail
        go_cut [] (fun wx => Below w.heap.size w wx)
        case first =>
          cases is with
          | true =>
            obtain ⟨m, k, rfl, rfl, hr⟩ := HR3.out rfl
            obtain ⟨hbb, hk⟩ := bits_back hr
            have HBB := Lib.hid hbb
            clear hr hbb HR3
            go_wp2_with fail
            refine (HBB.out _ (HF.out.below HC.out).1).mono ?_
            rintro e w7 ⟨rfl, hb⟩
            have HB7 := Lib.hid (HC.out.trans (hb.mono HC.out.size))
            clear hb HC
            go_wp2_with fail
            go_meet
            exact HB7.out
          | false =>
            go_wp2_with fail
            go_meet
            exact HC.out
        case rest =>
          have HC2 := Lib.hid hcut
          have HD := Lib.hid ((H'.out.below hcut).more hcut.size)
          clear hcut HC HR3
          go_wp2_with fail
          refine (DrawUnZigZag_any A' n' c' l' _ HD.out (by omega)).mono ?_
          rintro e w8 ⟨_, rfl, ⟨z, rfl, hz0, hz1⟩, hb⟩
          have HB8 := Lib.hid (HC2.out.trans (hb.mono HC2.out.size))
          clear hb HC2 HD
          obtain ⟨u, zb, hu1, hu2, hu3⟩ := both_zag z
          have HU1 := Lib.hid hu1
          have HU2 := Lib.hid hu2
          have HU3 := Lib.hid hu3
          clear hu1 hu2 hu3
          go_wp2_with fail
          refine (HU1.out _).mono ?_
          rintro e w' ⟨rfl, rfl⟩
          go_wp2_with fail
          refine (HU2.out _).mono ?_
          rintro e w' ⟨rfl, rfl⟩
          cases zb with
          | true =>
            go_wp2_with fail
            refine (HU3.out (by trivial) _).mono ?_
            rintro e w' ⟨rfl, rfl⟩
            go_wp2
            go_ret
            exact ⟨rfl, HB8.out⟩
          | false =>
            go_wp2
            go_ret
            exact ⟨rfl, HB8.out⟩
  · go_enter Tryd.func3, Tryd.ntmps3
    go_wp2
    go_ret
    exact ⟨rfl, Below.refl _ _⟩
end Go.Proofs.YtpdclppieicaeaaDoor
