/- The contract of spec.l2Encode. -/
import Derived.Test.YtbemnhdadafnnaaParts
import Derived.Test.YtbemnhdadafnnaaBeyond
import Derived.Laws.Concat
import Derived.Lib.SmallJoins
namespace Go.Proofs.Ytbemnhdadafnnaa
set_option linter.unusedVariables false
set_option linter.unusedSimpArgs false
open Go.RowKit

theorem within_big {M : Int} {l : List Int} (h : within_ M l) (hM : M ≤ 1000000000000000) : within_ 1000000000000000 l := within_mono h hM
theorem str_list' (S : ByteArray) (l : List UInt8) (h : S.data.toList = l) : S = ⟨l.toArray⟩ := by subst h; cases S; simp
theorem parts_at {l : List (Int × Int)} {k : Nat} {x y : Int} (hx : (deltas 0 (deltas 0 (l.map Prod.fst)))[k]? = some x) (hy : (deltas 0 (l.map Prod.snd))[k]? = some y) : (parts l)[k]? = some (x, y) := by
  unfold parts; rw [List.getElem?_zip_eq_some]; exact ⟨hx, hy⟩
theorem varint_len1 {l : List (Int × Int)} (h : goodSmp l = true) : (vz ((l.length : Nat) : Int)).length ≤ 6 := (vz_len (isV_of (by omega) (by have := goodSmp_len h; omega))).2

set_option maxRecDepth 100000 in
set_option maxHeartbeats 4000000 in
theorem l2Encode_any (B : Nat) (A : Option Addr) (n c : Nat) (l : List (Int × Int)) (w : World) (hBw : B ≤ w.heap.size) (h : Rd w B 2 A n (smps l)) (hg : goodSmp l = true) :
    Calls Try.prog 42 #[.slice A n c] w fun e w' => e = .returned (.string (str (enc l))) ∧ Below w.heap.size w w' := by
  have hlen := h.smp_len
  have hn : n ≤ 40 := by have := goodSmp_len hg; omega
  have HL := Lib.hid hlen
  have H := Lib.hid h
  have HG := Lib.hid hg
  clear h hlen hg
  obtain ⟨hw1, hw2⟩ := goodSmp_within HG.out
  have HW1 := Lib.hid (within_big hw1 (by omega))
  have HW2 := Lib.hid (within_big hw2 (by omega))
  have HW3 := Lib.hid (within_big (within_deltas (M := 1000000000) (by omega) (a := 0) (by omega) (by omega) hw1) (by omega))
  clear hw1 hw2
  go_enter Try.func42, Try.ntmps42
  go_wp2_with fail
  refine (l2Parts_any B A n c l w hBw H.out (by omega)).mono ?_
  rintro e w1 ⟨A1, c1, A2, c2, rfl, h1, h2, hb1⟩
  have H1 := Lib.hid h1.rd
  have H2 := Lib.hid h2.rd
  have HB1 := Lib.hid hb1
  clear h1 h2 hb1
  go_wp2_with fail
  refine (l2Deltas_any w1.heap.size A1 n c1 (l.map Prod.fst) w1 (Nat.le_refl _) H1.out (by omega) HW1.out).mono ?_
  rintro e w2 ⟨A3, c3, rfl, h3, hb2⟩
  have H3 := Lib.hid h3.rd
  have HB2 := Lib.hid hb2
  clear h3 hb2
  go_wp2_with fail
  refine (l2Deltas_any w2.heap.size A3 n c3 (deltas 0 (l.map Prod.fst)) w2 (Nat.le_refl _) H3.out (by omega) HW3.out).mono ?_
  rintro e w3 ⟨A4, c4, rfl, h4, hb3⟩
  have H4 := Lib.hid h4.rd
  have HB3 := Lib.hid hb3
  clear h4 hb3
  have hs2 := HB2.out.size
  have hs3 := HB3.out.size
  have H2' := Lib.hid ((H2.out.below HB2.out).below (HB3.out.mono hs2))
  go_wp2_with fail
  refine (l2Deltas_any w1.heap.size A2 n c2 (l.map Prod.snd) w3 (by omega) H2'.out (by omega) HW2.out).mono ?_
  rintro e w4 ⟨A5, c5, rfl, h5, hb4⟩
  have H5 := Lib.hid h5.rd
  have HB4 := Lib.hid hb4
  clear h5 hb4
  have hs1 := HB1.out.size
  have hs4 := HB4.out.size
  have H4' := Lib.hid (H4.out.below HB4.out)
  have HBW := Lib.hid (((HB1.out.trans (HB2.out.mono hs1)).trans (HB3.out.mono (by omega))).trans (HB4.out.mono (by omega)) : Below w.heap.size w w4)
  clear H1 H2 H2' H3 H4 HB1 HB2 HB3 HB4 HW1 HW2 HW3
  obtain ⟨S0, hS0⟩ : ∃ S : ByteArray, S = ⟨(vb (zig (n : Int)).toNat).toArray⟩ := ⟨_, rfl⟩
  have hc0 := Lib.hid (fun w => hS0 ▸ l1Varint_any (n : Int) w (isV_of (by omega) (by omega)) : ∀ w, Calls Try.prog 60 #[.int .i64 (n : Int)] w fun e w' => e = .returned (.string S0) ∧ Below w.heap.size w w')
  have hz0 : S0.size ≤ 6 := by
    rw [hS0]
    have := varint_len1 HG.out
    rw [HL.out] at this
    exact Nat.le_trans (Nat.le_of_eq (str_size _)) this
  have HS0 := Lib.hid (show S0.data.toList = vz ((l.length : Nat) : Int) by rw [hS0, HL.out]; rfl)
  clear hS0
  go_wp2_with fail
  refine (hc0.out _).mono ?_
  rintro e w5 ⟨rfl, hb5⟩
  have hs5 := hb5.size
  have HB5 := Lib.hid (HBW.out.trans (hb5.mono (by omega)))
  have HT := Lib.hid (H4'.out.below (hb5.mono hs4))
  have HV := Lib.hid (H5.out.below hb5)
  clear hb5 HBW H4' H5 hc0
  go_wp2_with fail
  go_loopw [7, 24] (fun s i wr => ∃ (k : Nat) (S : ByteArray), k ≤ n ∧ i = .int .i64 k ∧ s = .string S ∧ S.data.toList = vz ((l.length : Nat) : Int) ++ bodyP ((parts l).take k) ∧ S.size ≤ 6 + 12 * k ∧ Below w5.heap.size w5 wr) (fun _ i _ => n - (intOf i).toNat)
  case atStart => exact ⟨0, S0, Nat.zero_le _, rfl, rfl, by rw [HS0.out]; simp [bodyP], by omega, Below.refl _ _⟩
  case round =>
    obtain ⟨k, S, hk, rfl, rfl, hS, hsz, hb⟩ := hrel
    have HS := Lib.hid hS
    have HB := Lib.hid hb
    have hsr := hb.size
    clear hS hb
    by_cases hlt : k < n
    · obtain ⟨b, off, x, rfl, hbB, hx, hcx⟩ := HT.out.int_at hlt
      obtain ⟨b', off', y, rfl, hbB', hy, hcy⟩ := HV.out.int_at hlt
      have hcx' : wr.cell? ⟨b, off + k, none⟩ = some (.int .i64 x) := (bcell HB.out _ _ (by omega)).trans hcx
      have hcy' : wr.cell? ⟨b', off' + k, none⟩ = some (.int .i64 y) := (bcell HB.out _ _ (by omega)).trans hcy
      have hp := parts_at hx hy
      obtain ⟨hvx, hvy⟩ := parts_ok HG.out _ (List.mem_of_getElem? hp)
      have HP := Lib.hid hp
      clear hx hy hcx hcy hp
      obtain ⟨F, hF⟩ : ∃ F : Int → ByteArray, F = fun z => str (vz z) := ⟨_, rfl⟩
      have hvs : (F x).size ≤ 6 := by rw [hF, str_size]; exact (vz_len hvx).2
      have hus : (F y).size ≤ 6 := by rw [hF, str_size]; exact (vz_len hvy).2
      have C1 := Lib.hid (fun z (hz : isV z = true) w => hF ▸ l1Varint_any z w hz : ∀ z, isV z = true → ∀ w, Calls Try.prog 60 #[.int .i64 z] w fun e w' => e = .returned (.string (F z)) ∧ Below w.heap.size w w')
      have HF := Lib.hid hF
      clear hF
      have hcat1 := fun w => run_string_add_sum (P := Try.prog) (w := w) (F x) (F y) (by omega)
      have hcat2 := fun w => run_string_add_sum (P := Try.prog) (w := w) S (F x ++ F y) (by rw [ByteArray.size_append]; omega)
      have e0 := beyond_cell (B := wr.heap.size) (W := wr) hcx' (by omega)
      have e1 := beyond_cell (B := wr.heap.size) (W := wr) hcy' (by omega)
      clear hcx' hcy'
      go_wp2_with fail
      refine wp_region_beyond (B := wr.heap.size) (W := wr) (Below.refl _ _) (by kernel_rfl) (by kernel_rfl) ?_
      repeat (go_big_quiet_step ((go_at_call 60; exact calls_beyond (Nat.le_refl _) (C1.out _ (by assumption) _))))
      refine wpQuiet_nil ?_
      intro _ hw'
      obtain ⟨z, rfl⟩ := hw'
      have HZ := Lib.hid ((HB.out.trans (z.2.mono hsr)) : Below w5.heap.size w5 z.1)
      generalize z.1 = wz at HZ ⊢
      clear hvx hvy
      clear e0 e1 hcat1 hcat2
      go_wp2
      go_roundw
      case rel =>
        refine ⟨k + 1, S ++ (F x ++ F y), by omega, by go_num, rfl, ?_, ?_, HZ.out⟩
        · rw [Joins.data_append, Joins.data_append, HS.out, HF.out, bodyP_snoc _ _ _ HP.out, List.append_assoc]; rfl
        · rw [ByteArray.size_append, ByteArray.size_append]; omega
      case measure => simp [intOf]; omega
    · go_wp2
      go_ret
      refine ⟨?_, HB5.out.trans (HB.out.mono (by have := HB5.out.size; omega))⟩
      have e := HS.out
      rw [List.take_of_length_le (by rw [parts_len]; have := HL.out; omega)] at e
      exact congrArg (fun s => Ending.returned (Value.string s)) (str_list' S _ e)
end Go.Proofs.Ytbemnhdadafnnaa
