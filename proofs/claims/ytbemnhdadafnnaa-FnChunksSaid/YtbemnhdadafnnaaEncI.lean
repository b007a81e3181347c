/- The contract of impl.encodeChunk. -/
import Derived.Test.YtbemnhdadafnnaaEncS
import Derived.Deep.RegionHeld3
import Derived.Deep.DrawnRows
namespace Go.Proofs.Ytbemnhdadafnnaa
set_option linter.unusedVariables false
set_option linter.unusedSimpArgs false
open Go.RowKit
attribute [local go_sem ↓] Go.wp_at_zero Go.wp_at_succ

set_option maxRecDepth 100000 in
set_option maxHeartbeats 2000000 in
theorem encodeChunk_any (B : Nat) (A : Option Addr) (n c : Nat) (l : List (Int × Int)) (w : World) (hBw : B ≤ w.heap.size) (h : Rd w B 2 A n (smps l)) (hg : goodSmp l = true) :
    Calls Try.prog 40 #[.slice A n c] w fun e w' => e = .returned (.string (str (enc l))) ∧ Below w.heap.size w w' := by
  obtain ⟨i0, hi, hi0, hi1, hi2⟩ := info_parts infoInt
  have HI := Lib.hid (And.intro hi (And.intro hi0 (And.intro hi1 hi2)))
  clear hi hi0 hi1 hi2
  have hlen := h.smp_len
  have hn : n ≤ 40 := by have := goodSmp_len hg; omega
  have HL := Lib.hid hlen
  have H := Lib.hid h
  have HG := Lib.hid hg
  clear h hlen hg
  go_enter Try.func40, Try.ntmps40
  go_wp2
  go_loopw [3, 4, 11] (fun v1 v2 i wr => ∃ k : Nat, k ≤ n ∧ i = .int .i64 k ∧ Two w 3 1 3 1 v1 k (ints ((l.map Prod.fst).take k)) v2 k (ints ((l.map Prod.snd).take k)) wr) (fun _ _ i _ => n - (intOf i).toNat)
  case atStart => exact ⟨0, Nat.zero_le _, rfl, Two.nil_⟩
  case round =>
    obtain ⟨k, hk, rfl, ht⟩ := hrel
    have HT := Lib.hid ht
    have hsz := ht.2.2.2.size
    clear ht
    by_cases hlt : k < n
    · obtain ⟨b, off, x, y, rfl, hbB, hx, hc0, hc1⟩ := H.out.smp_at hlt
      have hc0' : wr.cell? ⟨b, off + k * 2, none⟩ = some (.int .i64 x) := (bcell HT.out.2.2.2 _ _ (by omega)).trans hc0
      have hc1' : wr.cell? ⟨b, off + k * 2 + 1, none⟩ = some (.int .i64 y) := (bcell HT.out.2.2.2 _ _ (by omega)).trans hc1
      have HX := Lib.hid hx
      clear hx hc0 hc1
      go_wp2_with fail
      clear hc0' hc1'
      go_region_held3 (fun w' => w'.cell? ⟨wr.heap.size, 0, none⟩ = some (.int .i64 x) ∧ w'.cell? ⟨wr.heap.size, 1, none⟩ = some (.int .i64 y))
        (first
          | go_keep
          | (go_split_ands
             exact ⟨grown_cell hg (by assumption) (by first | omega | (simp; omega)) (fun g e => by have := (HT.out.1.lt g e).2; omega), grown_cell hg (by assumption) (by first | omega | (simp; omega)) (fun g e => by have := (HT.out.1.lt g e).2; omega)⟩)
          | (go_split_ands
             exact ⟨grown_cell hg (by assumption) (by first | omega | (simp; omega)) (fun g e => by have := (HT.out.2.1.lt g e).2; omega), grown_cell hg (by assumption) (by first | omega | (simp; omega)) (fun g e => by have := (HT.out.2.1.lt g e).2; omega)⟩))
        (first
          | (refine step_append_lies _ (by rfl) (.tmp 15) (.tmp 18) 47 (by rfl) w.heap.size 3 i0 (.int .i64 0) 1 8 Try.underlying47 HI.out.1 HI.out.2.1 HI.out.2.2.1 HI.out.2.2.2 rfl (by decide) _ k (ints ((l.map Prod.fst).take k)) (by rfl) (by apply Two.own1; repeat (first | assumption | exact HT.out | apply Two.alloc | apply Two.drew)) _ 1 1 [.int .i64 x] (by rfl) rfl
                  (by
                    intro j u hj
                    match j, hj with
                    | 0, hj => simp at hj; subst hj; first | (simp [Addr.add]; done) | (simp [Addr.add, World.cell?_alloc_lt]; done) | (simp only [Addr.add, World.cell?_drew]; first | exact new_cell (by simp) rfl | exact grown_cell hg (by first | (simp; done) | (simp [World.cell?_alloc_lt]; done) | (simp only [World.cell?_drew]; exact new_cell (by simp) rfl)) (by simp) (fun g e => by have := (HT.out.2.1.lt g e).2; omega)))
                  (by intro u hu; simp at hu; subst hu; rfl) (by decide) (by unfold maxLen; omega) (by omega) (by first | omega | (simp; omega)) _ rfl ?_
             intro g cap w1 ho hg hat hlt1
             have T := Two.app1 (by repeat (first | assumption | exact HT.out | apply Two.alloc | apply Two.drew)) ho hg hat rfl
             have hs1 : wr.heap.size < w1.heap.size := by have hq := hg.size; first | omega | (simp at hq; omega)
             clear ho hat hlt1)
          | (refine step_append_lies _ (by rfl) (.tmp 20) (.tmp 23) 47 (by rfl) w.heap.size 3 i0 (.int .i64 0) 1 8 Try.underlying47 HI.out.1 HI.out.2.1 HI.out.2.2.1 HI.out.2.2.2 rfl (by decide) _ k (ints ((l.map Prod.snd).take k)) (by rfl) (by apply Two.own2; repeat (first | assumption | exact HT.out | apply Two.alloc | apply Two.drew)) _ 1 1 [.int .i64 y] (by rfl) rfl
                  (by
                    intro j u hj
                    match j, hj with
                    | 0, hj => simp at hj; subst hj; first | (simp [Addr.add]; done) | (simp [Addr.add, World.cell?_alloc_lt]; done) | (simp only [Addr.add, World.cell?_drew]; first | exact new_cell (by simp) rfl | exact grown_cell hg (by first | (simp; done) | (simp [World.cell?_alloc_lt]; done) | (simp only [World.cell?_drew]; exact new_cell (by simp) rfl)) (by simp) (fun g e => by have := (HT.out.1.lt g e).2; omega)))
                  (by intro u hu; simp at hu; subst hu; rfl) (by decide) (by unfold maxLen; omega) (by omega) (by first | omega | (simp; omega)) _ rfl ?_
             intro g cap w1 ho hg hat hlt1
             have T := Two.app2 (by repeat (first | assumption | exact HT.out | apply Two.alloc | apply Two.drew)) ho hg hat rfl
             have hs1 : wr.heap.size < w1.heap.size := by have hq := hg.size; first | omega | (simp at hq; omega)
             clear ho hat hlt1))
      all_goals go_wp2
      all_goals go_roundw
      all_goals first | exact ⟨k + 1, by omega, by go_num, by rw [fst_at HX.out, snd_at HX.out]; assumption⟩ | (simp [intOf]; omega)
    · have hkn : k = n := by omega
      have ht := HT.out
      rw [hkn] at ht
      rw [List.take_of_length_le (by rw [List.length_map]; have := HL.out; omega), List.take_of_length_le (by rw [List.length_map]; have := HL.out; omega)] at ht
      obtain ⟨A1, c1, rfl⟩ := own_slice ht.1
      obtain ⟨A2, c2, rfl⟩ := own_slice ht.2.1
      have H1 := Lib.hid (Rd.of_own ht.1)
      have H2 := Lib.hid (Rd.of_own ht.2.1)
      have HB1 := Lib.hid ht.2.2.2
      clear ht HT
      obtain ⟨hw1, hw2⟩ := goodSmp_within HG.out
      have HW1 := Lib.hid (within_big hw1 (by omega))
      have HW2 := Lib.hid (within_big hw2 (by omega))
      have HW3 := Lib.hid (within_big (within_deltas (M := 1000000000) (by omega) (a := 0) (by omega) (by omega) hw1) (by omega))
      clear hw1 hw2
      go_wp2_with fail
      refine (deltasOf_any wr.heap.size A1 n c1 (l.map Prod.fst) wr (Nat.le_refl _) H1.out (by omega) HW1.out).mono ?_
      rintro e w2 ⟨A3, c3, rfl, h3, hb2⟩
      have H3 := Lib.hid h3.rd
      have HB2 := Lib.hid hb2
      clear h3 hb2
      go_wp2_with fail
      refine (deltasOf_any w2.heap.size A3 n c3 (deltas 0 (l.map Prod.fst)) w2 (Nat.le_refl _) H3.out (by omega) HW3.out).mono ?_
      rintro e w3 ⟨A4, c4, rfl, h4, hb3⟩
      have H4 := Lib.hid h4.rd
      have HB3 := Lib.hid hb3
      clear h4 hb3
      have hs2 := HB2.out.size
      have hs3 := HB3.out.size
      have H2' := Lib.hid ((H2.out.below HB2.out).below (HB3.out.mono hs2))
      go_wp2_with fail
      refine (deltasOf_any wr.heap.size A2 n c2 (l.map Prod.snd) w3 (by omega) H2'.out (by omega) HW2.out).mono ?_
      rintro e w4 ⟨A5, c5, rfl, h5, hb4⟩
      have H5 := Lib.hid h5.rd
      have HB4 := Lib.hid hb4
      clear h5 hb4
      have hs1 := HB1.out.size
      have hs4 := HB4.out.size
      have H4' := Lib.hid (H4.out.below HB4.out)
      have HBW := Lib.hid (((HB1.out.trans (HB2.out.mono hs1)).trans (HB3.out.mono (by omega))).trans (HB4.out.mono (by omega)) : Below w.heap.size w w4)
      clear H1 H2 H2' H3 H4 HB1 HB2 HB3 HB4 HW1 HW2 HW3
      obtain ⟨S0, hS0⟩ : ∃ S : ByteArray, S = ⟨(vb (zig (n : Int)).toNat).toArray⟩ := ⟨_, rfl⟩
      have hc0 := Lib.hid (fun w => hS0 ▸ putVarint_any (n : Int) w (isV_of (by omega) (by omega)) : ∀ w, Calls Try.prog 57 #[.int .i64 (n : Int)] w fun e w' => e = .returned (.string S0) ∧ Below w.heap.size w w')
      have hz0 : S0.size ≤ 6 := by
        rw [hS0]
        have := varint_len1 HG.out
        rw [HL.out] at this
        exact Nat.le_trans (Nat.le_of_eq (str_size _)) this
      have HS0 := Lib.hid (show S0.data.toList = vz ((l.length : Nat) : Int) by rw [hS0, HL.out]; rfl)
      clear hS0
      go_wp2_with fail
      refine (hc0.out _).mono ?_
      rintro e w5 ⟨rfl, hb5⟩
      have hs5 := hb5.size
      have HB5 := Lib.hid (HBW.out.trans (hb5.mono (by omega)))
      have HT := Lib.hid (H4'.out.below (hb5.mono hs4))
      have HV := Lib.hid (H5.out.below hb5)
      clear hb5 HBW H4' H5 hc0
      go_wp2_with fail
      go_loopw [7, 36] (fun s i wr => ∃ (k : Nat) (S : ByteArray), k ≤ n ∧ i = .int .i64 k ∧ s = .string S ∧ S.data.toList = vz ((l.length : Nat) : Int) ++ bodyP ((parts l).take k) ∧ S.size ≤ 6 + 12 * k ∧ Below w5.heap.size w5 wr) (fun _ i _ => n - (intOf i).toNat)
      case atStart => exact ⟨0, S0, Nat.zero_le _, rfl, rfl, by rw [HS0.out]; simp [bodyP], by omega, Below.refl _ _⟩
      case round =>
        obtain ⟨k, S, hk, rfl, rfl, hS, hsz, hb⟩ := hrel
        have HS := Lib.hid hS
        have HB := Lib.hid hb
        have hsr := hb.size
        clear hS hb
        by_cases hlt : k < n
        · obtain ⟨b, off, x, rfl, hbB, hx, hcx⟩ := HT.out.int_at hlt
          obtain ⟨b', off', y, rfl, hbB', hy, hcy⟩ := HV.out.int_at hlt
          have hcx' : wr.cell? ⟨b, off + k, none⟩ = some (.int .i64 x) := (bcell HB.out _ _ (by omega)).trans hcx
          have hcy' : wr.cell? ⟨b', off' + k, none⟩ = some (.int .i64 y) := (bcell HB.out _ _ (by omega)).trans hcy
          have hp := parts_at hx hy
          obtain ⟨hvx, hvy⟩ := parts_ok HG.out _ (List.mem_of_getElem? hp)
          have HP := Lib.hid hp
          clear hx hy hcx hcy hp
          obtain ⟨F, hF⟩ : ∃ F : Int → ByteArray, F = fun z => str (vz z) := ⟨_, rfl⟩
          have hvs : (F x).size ≤ 6 := by rw [hF, str_size]; exact (vz_len hvx).2
          have hus : (F y).size ≤ 6 := by rw [hF, str_size]; exact (vz_len hvy).2
          have C1 := Lib.hid (fun z (hz : isV z = true) w => hF ▸ putVarint_any z w hz : ∀ z, isV z = true → ∀ w, Calls Try.prog 57 #[.int .i64 z] w fun e w' => e = .returned (.string (F z)) ∧ Below w.heap.size w w')
          have HF := Lib.hid hF
          clear hF
          have hcat1 := fun w => run_string_add_sum (P := Try.prog) (w := w) (F x) (F y) (by omega)
          have hcat2 := fun w => run_string_add_sum (P := Try.prog) (w := w) S (F x ++ F y) (by rw [ByteArray.size_append]; omega)
          have e0 := beyond_cell (B := wr.heap.size) (W := wr) hcx' (by omega)
          have e1 := beyond_cell (B := wr.heap.size) (W := wr) hcy' (by omega)
          clear hcx' hcy'
          go_wp2_with fail
          refine wp_region_beyond (B := wr.heap.size) (W := wr) (Below.refl _ _) (by kernel_rfl) (by kernel_rfl) ?_
          repeat (go_big_quiet_step ((go_at_call 57; exact calls_beyond (Nat.le_refl _) (C1.out _ (by assumption) _))))
          refine wpQuiet_nil ?_
          intro _ hw'
          obtain ⟨z, rfl⟩ := hw'
          have HZ := Lib.hid ((HB.out.trans (z.2.mono hsr)) : Below w5.heap.size w5 z.1)
          generalize z.1 = wz at HZ ⊢
          clear hvx hvy
          clear e0 e1 hcat1 hcat2
          go_wp2
          go_roundw
          case rel =>
            refine ⟨k + 1, S ++ (F x ++ F y), by omega, by go_num, rfl, ?_, ?_, HZ.out⟩
            · rw [Joins.data_append, Joins.data_append, HS.out, HF.out, bodyP_snoc _ _ _ HP.out, List.append_assoc]; rfl
            · rw [ByteArray.size_append, ByteArray.size_append]; omega
          case measure => simp [intOf]; omega
        · go_wp2
          go_ret
          refine ⟨?_, HB5.out.trans (HB.out.mono (by have := HB5.out.size; omega))⟩
          have e := HS.out
          rw [List.take_of_length_le (by rw [parts_len]; have := HL.out; omega)] at e
          exact congrArg (fun s => Ending.returned (Value.string s)) (str_list' S _ e)
end Go.Proofs.Ytbemnhdadafnnaa
