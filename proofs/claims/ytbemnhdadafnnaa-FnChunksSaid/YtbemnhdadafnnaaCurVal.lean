/- The contracts of the generators of numbers, of bytes of numbers, and of spoilt texts. -/
import Derived.Test.YtbemnhdadafnnaaCur
import Derived.Test.YtbemnhdadafnnaaVar
import Derived.Laws.Concat
import Derived.Lib.SmallJoins
import Derived.Lib.AppendStr
namespace Go.Proofs.Ytbemnhdadafnnaa
set_option linter.unusedVariables false
set_option linter.unusedSimpArgs false
open Go.RowKit

theorem lit_cell {w : World} {t j : Nat} {zs : List Int} {x : Int} (h : zs[j]? = some x) : (w.alloc (.cells (ints zs).toArray t)).cell? ⟨w.heap.size, j, none⟩ = some (.int .i64 x) := by
  rw [cell_of_row _ _ _ _ _ _ (heap_alloc_new w _)]
  simp [ints, h]
/-- A number of the generators. -/
def ValV (_ : World) (v : Value) : Prop := ∃ x : Int, v = .int .i64 x ∧ -1000000000001 ≤ x ∧ x ≤ 1000000000001
set_option maxRecDepth 100000 in
set_option maxHeartbeats 2000000 in
theorem value_any (u : CU) (m : Nat) (w : World) (h : CurAt u m w) (hm : m ≤ 549755813000) :
    Calls Try.prog 62 #[.pointer (some ⟨u.b, 0, none⟩)] w (Drew u (m + 6) w ValV) := by
  have HH := Lib.hid h
  clear h
  go_enter Try.func62, Try.ntmps62
  go_wp2_with fail
  refine (one_any u m 4 _ HH.out (by omega) (by omega)).mono ?_
  rintro e w1 ⟨_, rfl, ⟨r, rfl⟩, hcu, hch⟩
  have hub := hcu.hb
  have HC := Lib.hid hcu
  have HW := Lib.hid hch
  clear hcu hch HH
  cases r with
  | true =>
    go_wp2_with fail
    refine (among_any u (m + 2) w1.heap.size 11 11 [0, 63, 64, -64, -65, 8191, 8192, 1000000000000, -1000000000000, 1000000000001, -1000000000001] _ (HC.out.alloc _) (by omega) (by omega) rfl (by omega) (by omega) (fun j x h => lit_cell h) (by simp)).mono ?_
    rintro e w2 ⟨_, rfl, ⟨x, hx, rfl⟩, hcu, hch⟩
    have HC2 := Lib.hid hcu
    have HW2 := Lib.hid ((HW.out.trans (Ch.alloc _ _).zero).trans hch)
    have HX := Lib.hid (show -1000000000001 ≤ x ∧ x ≤ 1000000000001 by simp at hx; omega)
    clear hcu hch hx
    go_wp2
    go_ret
    exact ⟨_, rfl, ⟨x, rfl, HX.out.1, HX.out.2⟩, HC2.out.more (by omega), HW2.out⟩
  | false =>
    go_wp2_with fail
    refine (pick_any u (m + 2) 256 _ HC.out (by omega) (by omega)).mono ?_
    rintro e w2 ⟨_, rfl, ⟨r, rfl, hr0, hr⟩, hcu, hch⟩
    have hub2 := hcu.hb
    have HC2 := Lib.hid hcu
    have HW2 := Lib.hid (HW.out.trans hch)
    have hr1 : r ≤ 255 := by omega
    clear hcu hch hr
    go_wp2_with fail
    refine (among_any u (m + 4) w2.heap.size 6 6 [1, 1, 1, 77, 10007, 123456789] _ (HC2.out.alloc _) (by omega) (by omega) rfl (by omega) (by omega) (fun j x h => lit_cell h) (by simp)).mono ?_
    rintro e w3 ⟨_, rfl, ⟨x, hx, rfl⟩, hcu, hch⟩
    have HC3 := Lib.hid hcu
    have HW3 := Lib.hid ((HW2.out.trans (Ch.alloc _ _).zero).trans hch)
    have hx0 : 1 ≤ x ∧ x ≤ 123456789 := by simp at hx; omega
    clear hcu hch hx
    have hm1 : -15802468992 ≤ (r - 128) * x ∧ (r - 128) * x ≤ 15802468992 := by
      constructor
      · have h1 : (128 - r) * x ≤ 128 * 123456789 := by
          by_cases hr2 : r ≤ 128
          · exact Int.le_trans (Int.mul_le_mul_of_nonneg_right (show 128 - r ≤ 128 by omega) (by omega)) (Int.mul_le_mul_of_nonneg_left hx0.2 (by omega))
          · have : (128 - r) * x ≤ 0 := Int.mul_nonpos_of_nonpos_of_nonneg (by omega) (by omega)
            omega
        have h2 : (r - 128) * x = -((128 - r) * x) := by rw [← Int.neg_mul]; congr 1; omega
        omega
      · by_cases hr2 : 128 ≤ r
        · exact Int.le_trans (Int.mul_le_mul_of_nonneg_right (show r - 128 ≤ 128 by omega) (by omega)) (Int.le_trans (Int.mul_le_mul_of_nonneg_left hx0.2 (by omega)) (by omega))
        · have : (r - 128) * x ≤ 0 := Int.mul_nonpos_of_nonpos_of_nonneg (by omega) (by omega)
          omega
    have HM := Lib.hid hm1
    have HP := Lib.hid (show wrap64 ((r - 128) * x) = (r - 128) * x from IntWalk.wrap64_in _ (by omega))
    clear hm1
    go_wp2
    go_ret
    exact ⟨_, rfl, ⟨_, congrArg (Value.int .i64) HP.out, by have := HM.out; omega, by have := HM.out; omega⟩, HC3.out, HW3.out⟩
/-- A step that a cursor's may be followed by: what lay below the call's own blocks is as it was. -/
theorem Ch.grow {a b : Nat} {u v w : World} (B : Nat) (h : Ch a b u v) (k : Below B v w) (hB : u.heap.size ≤ B) : Ch a b u w :=
  ⟨k.os.trans h.os, k.tape.trans h.tape, k.output.trans h.output, Nat.le_trans h.size k.size, fun i hi ho => (k.block i (by omega)).trans (h.block i hi ho)⟩
theorem own_ch {w w' : World} {base e s n a b : Nat} {v : Value} {xs : List Value} (h : w.ownsRow base e s v n xs) (hc : Ch a b w w') (hab : b ≤ base) : w'.ownsRow base e s v n xs := by
  refine ⟨h.1, ?_⟩
  rcases h.2 with h2 | ⟨g, cap, cur, hv, hl, hh, r⟩
  · exact .inl h2
  · have hlt := (h.lt g (by rw [hv]; rfl)).2
    exact .inr ⟨g, cap, cur, hv, hl, (hc.block g hlt (by omega)).trans hh, r⟩
/-- Numbers of the generators, in new memory. -/
def ValsV (base most : Nat) (w : World) (v : Value) : Prop := ∃ A c k zs, v = .slice A k c ∧ k ≤ most ∧ w.ownsRow base 3 1 (.slice A k c) k (ints zs) ∧ ∀ x ∈ zs, -1000000000001 ≤ x ∧ x ≤ 1000000000001
set_option maxRecDepth 100000 in
set_option maxHeartbeats 4000000 in
theorem values_any (u : CU) (m most : Nat) (w : World) (h : CurAt u m w) (hm : m ≤ 549755800000) (hmost : most ≤ 100) :
    Calls Try.prog 45 #[.pointer (some ⟨u.b, 0, none⟩), .int .i64 most] w (Drew u (m + 2 + 6 * most) w (ValsV w.heap.size most)) := by
  obtain ⟨i0, hi, hi0, hi1, hi2⟩ := info_parts infoInt
  have HI := Lib.hid (And.intro hi (And.intro hi0 (And.intro hi1 hi2)))
  clear hi hi0 hi1 hi2
  have hub := h.hb
  have HH := Lib.hid h
  clear h
  go_enter Try.func45, Try.ntmps45
  go_wp2_with fail
  refine (pick_any u m _ _ HH.out (by omega) (by omega)).mono ?_
  rintro e w1 ⟨_, rfl, ⟨r, rfl, hr0, hr⟩, hcu, hch⟩
  obtain ⟨N, rfl⟩ := Int.eq_ofNat_of_zero_le hr0
  have hN : N ≤ most := by omega
  have hs1 := hch.size
  have HC := Lib.hid hcu
  have HW := Lib.hid hch
  clear hcu hch hr hr0
  go_wp2_with fail
  go_loopw [5, 6] (fun v i wr => ∃ (k j : Nat) (zs : List Int), k + j = N ∧ i = .int .i64 j ∧ wr.ownsRow w.heap.size 3 1 v k (ints zs) ∧ (∀ x ∈ zs, -1000000000001 ≤ x ∧ x ≤ 1000000000001) ∧ CurAt u (m + 2 + 6 * k) wr ∧ Ch u.b (u.b + 1) w wr) (fun _ i _ => (intOf i).toNat)
  case atStart => exact ⟨0, N, [], by omega, rfl, World.ownsRow_nil _ _ _ _, by simp, HC.out, HW.out⟩
  case round =>
    clear HC HW HH
    obtain ⟨k, j, zs, hkj, rfl, ho, hz, hcu, hch⟩ := hrel
    have hsz := hch.size
    have HO := Lib.hid ho
    have HZ := Lib.hid hz
    have HC := Lib.hid hcu
    have HW := Lib.hid hch
    clear ho hz hcu hch
    have hkj' : k + j ≤ N := by omega
    have HKJ := Lib.hid hkj
    clear hkj
    by_cases hlt : 0 < j
    · go_wp2_with fail
      refine (value_any u (m + 2 + 6 * k) _ HC.out (by omega)).mono ?_
      rintro e w2 ⟨_, rfl, ⟨x, rfl, hx0, hx1⟩, hcu, hch⟩
      have hs2 := hch.size
      have HO2 := Lib.hid (own_ch HO.out hch (by omega))
      have HC2 := Lib.hid hcu
      have HW2 := Lib.hid (HW.out.trans hch)
      clear hcu hch HC HO HW
      go_wp2_with (at_builtin; refine wpList_append_own _ rfl (.tmp 15) (.tmp 18) 47 rfl w.heap.size 3 i0 (.int .i64 0) 1 8 Try.underlying47 HI.out.1 HI.out.2.1 HI.out.2.2.1 HI.out.2.2.2 rfl (by decide) _ _ _ rfl (HO2.out.alloc _) ⟨w2.heap.size, 0, none⟩ 1 1 [.int .i64 x] rfl rfl ?c1 ?c2 ?c3 ?c4 ?c5 ?_)
      case c1 =>
        intro i q hq
        match i, hq with
        | 0, hq => simp at hq; subst hq; simp [Addr.add]
      case c2 => intro q hq; simp at hq; subst hq; rfl
      case c3 => unfold maxLen; omega
      case c4 => omega
      case c5 => simp; omega
      intro v' w3 ho3 hg3 _
      have HO3 := Lib.hid (show w3.ownsRow w.heap.size 3 1 v' (k + 1) (ints (zs ++ [x])) by rw [ints_app]; exact ho3)
      have hb3 : Below w.heap.size (w2.alloc (.cells #[.int .i64 x] 3)) w3 := (Below.refl _ _).grown hg3 (by simp; omega) (fun k hk => (HO2.out.lt k hk).1)
      have HC3 := Lib.hid ((HC2.out.alloc (.cells #[.int .i64 x] 3)).below (hb3.mono (by omega)))
      have HW3 := Lib.hid ((HW2.out.trans (Ch.alloc w2 (.cells #[.int .i64 x] 3)).zero).grow w.heap.size hb3 (by omega))
      clear ho3 hg3 hb3
      go_wp2
      go_roundw
      case rel => exact ⟨k + 1, j - 1, zs ++ [x], by have := HKJ.out; omega, by go_num, HO3.out, fun y hy => by
                          rcases List.mem_append.1 hy with h | h
                          · exact HZ.out y h
                          · rw [List.mem_singleton.1 h]; exact ⟨hx0, hx1⟩, HC3.out.more (by omega), HW3.out⟩
      case measure => simp [intOf]; omega
    · obtain rfl : j = 0 := by omega
      obtain ⟨A, c, rfl⟩ := own_slice HO.out
      go_wp2
      go_ret
      exact ⟨_, rfl, ⟨A, c, k, zs, rfl, by omega, HO.out, HZ.out⟩, HC.out.more (by omega), HW.out⟩
/-- A text of at most so many bytes. -/
def TextV (most : Nat) (_ : World) (v : Value) : Prop := ∃ S : ByteArray, v = .string S ∧ S.size ≤ most
set_option maxRecDepth 100000 in
set_option maxHeartbeats 8000000 in
theorem spoilt_any (u : CU) (m : Nat) (s t : ByteArray) (w : World) (h : CurAt u m w) (hm : m ≤ 549755800000) (hs : s.size ≤ 1000000) (ht0 : 0 < t.size) (ht : t.size ≤ 1000) :
    Calls Try.prog 53 #[.pointer (some ⟨u.b, 0, none⟩), .string s, .string t] w (Drew u (m + 14) w (TextV (s.size + 2))) := by
  have hub := h.hb
  have HH := Lib.hid h
  clear h
  go_enter Try.func53, Try.ntmps53
  go_wp2_with fail
  refine (pick_any u m _ _ HH.out (by omega) (by omega)).mono ?_
  rintro e w1 ⟨_, rfl, ⟨r, rfl, hr0, hr⟩, hcu, hch⟩
  obtain ⟨N, rfl⟩ := Int.eq_ofNat_of_zero_le hr0
  have hN : N ≤ 2 := by omega
  have hs1 := hch.size
  have HC := Lib.hid hcu
  have HW := Lib.hid hch
  clear hcu hch hr hr0
  go_wp2_with fail
  go_loopw [1, 7] (fun v i wr => ∃ (k j : Nat) (S : ByteArray), k + j ≤ N ∧ i = .int .i64 j ∧ v = .string S ∧ S.size ≤ s.size + k ∧ CurAt u (m + 2 + 6 * k) wr ∧ Ch u.b (u.b + 1) w wr) (fun _ i _ => (intOf i).toNat)
  case atStart => exact ⟨0, N, s, by omega, rfl, rfl, by omega, HC.out, HW.out⟩
  case round =>
    clear HC HW HH
    obtain ⟨k, j, S, hkj, rfl, rfl, hS, hcu, hch⟩ := hrel
    have hsz := hch.size
    have HC := Lib.hid hcu
    have HW := Lib.hid hch
    clear hcu hch
    by_cases hlt : 0 < j
    · by_cases hS0 : 0 < S.size
      · go_wp2_with fail
        refine (pick_any u (m + 2 + 6 * k) S.size _ HC.out (by omega) (by omega)).mono ?_
        rintro e w2 ⟨_, rfl, ⟨r, rfl, hr0, hr⟩, hcu, hch⟩
        obtain ⟨i, rfl⟩ := Int.eq_ofNat_of_zero_le hr0
        have hi : i < S.size := by omega
        have hs2 := hch.size
        have HC2 := Lib.hid hcu
        have HW2 := Lib.hid (HW.out.trans hch)
        clear hcu hch hr hr0 HC HW
        go_wp2_with fail
        refine (pick_any u (m + 4 + 6 * k) t.size _ (HC2.out.more (by omega)) (by omega) (by omega)).mono ?_
        rintro e w3 ⟨_, rfl, ⟨r, rfl, hr0, hr⟩, hcu, hch⟩
        obtain ⟨q, rfl⟩ := Int.eq_ofNat_of_zero_le hr0
        have hq : q < t.size := by omega
        have hs3 := hch.size
        have HC3 := Lib.hid hcu
        have HW3 := Lib.hid (HW2.out.trans hch)
        clear hcu hch hr hr0 HC2 HW2
        obtain ⟨c, hc⟩ : ∃ c : UInt8, c = t[q] := ⟨_, rfl⟩
        have HQ := Lib.hid hc
        have hcv : (convert 22 9 (.slice (some ⟨w3.heap.size, 0, none⟩) 1 1)).run Try.prog (w3.alloc (.cells #[.int .u8 (t[q].toNat : Int)] 5)) = .ok (.string ⟨#[c]⟩) (w3.alloc (.cells #[.int .u8 (t[q].toNat : Int)] 5)) := by
          refine run_convert_bytes_back (P := Try.prog) _ 22 9 5 ⟨w3.heap.size, 0, none⟩ 1 [c] Try.underlying22 Try.underlying5 Try.underlying9 ?_
          intro i hi
          obtain rfl : i = 0 := by simpa using hi
          simp [Addr.add, hc]
        clear hc
        have HC4 := Lib.hid (HC3.out.alloc (.cells #[.int .u8 (t[q].toNat : Int)] 5))
        have HW4 := Lib.hid (HW3.out.trans (Ch.alloc w3 (.cells #[.int .u8 (t[q].toNat : Int)] 5)).zero)
        go_wp2_with fail
        refine (pick_any u (m + 6 + 6 * k) 3 _ (HC4.out.more (by omega)) (by omega) (by omega)).mono ?_
        rintro e w5 ⟨_, rfl, ⟨r, rfl, hr0, hr⟩, hcu, hch⟩
        have HC5 := Lib.hid (show CurAt u (m + 2 + 6 * (k + 1)) w5 from hcu.more (by omega))
        have HW5 := Lib.hid (HW4.out.trans hch)
        clear hcu hch HC3 HC4 HW3 HW4 hcv
        have hw1 : (⟨#[c]⟩ : ByteArray).size = 1 := rfl
        have z0 : (S.extract 0 i).size ≤ i := by rw [ByteArray.size_extract]; omega
        have z1 : (S.extract i S.size).size ≤ S.size - i := by rw [ByteArray.size_extract]; omega
        have z2 : (S.extract (i + 1) S.size).size ≤ S.size - (i + 1) := by rw [ByteArray.size_extract]; omega
        have za : (S.extract 0 i ++ ⟨#[c]⟩).size ≤ i + 1 := by rw [ByteArray.size_append]; omega
        have hcat1 := fun w => run_string_add_sum (P := Try.prog) (w := w) (S.extract 0 i) ⟨#[c]⟩ (by omega)
        have hcat2 := fun w => run_string_add_sum (P := Try.prog) (w := w) (S.extract 0 i ++ ⟨#[c]⟩) (S.extract i S.size) (by omega)
        have hcat3 := fun w => run_string_add_sum (P := Try.prog) (w := w) (S.extract 0 i ++ ⟨#[c]⟩) (S.extract (i + 1) S.size) (by omega)
        have hcat4 := fun w => run_string_add_sum (P := Try.prog) (w := w) (S.extract 0 i) (S.extract (i + 1) S.size) (by omega)
        have HZ := Lib.hid (show (S.extract 0 i ++ ⟨#[c]⟩ ++ S.extract i S.size).size ≤ S.size + 1 ∧ (S.extract 0 i ++ ⟨#[c]⟩ ++ S.extract (i + 1) S.size).size ≤ S.size + 1 ∧ (S.extract 0 i ++ S.extract (i + 1) S.size).size ≤ S.size + 1 from
          ⟨by rw [ByteArray.size_append]; omega, by rw [ByteArray.size_append]; omega, by rw [ByteArray.size_append]; omega⟩)
        clear z0 z1 z2 za hw1
        have h3 : r = 0 ∨ r = 1 ∨ r = 2 := by omega
        clear hr hr0
        rcases h3 with rfl | rfl | rfl
        · go_wp2
          go_quiet (fail)
          clear hcat1 hcat2 hcat3 hcat4
          go_wp2
          go_roundw
          case rel => exact ⟨k + 1, j - 1, _, by omega, by go_num, rfl, Nat.le_trans HZ.out.1 (by omega), HC5.out.drewN _, HW5.out.drewN _⟩
          case measure => simp [intOf]; omega
        · go_wp2
          go_quiet (fail)
          clear hcat1 hcat2 hcat3 hcat4
          go_wp2
          go_roundw
          case rel => exact ⟨k + 1, j - 1, _, by omega, by go_num, rfl, Nat.le_trans HZ.out.2.1 (by omega), HC5.out.drewN _, HW5.out.drewN _⟩
          case measure => simp [intOf]; omega
        · go_wp2
          go_quiet (fail)
          clear hcat1 hcat2 hcat3 hcat4
          go_wp2
          go_roundw
          case rel => exact ⟨k + 1, j - 1, _, by omega, by go_num, rfl, Nat.le_trans HZ.out.2.2 (by omega), HC5.out.drewN _, HW5.out.drewN _⟩
          case measure => simp [intOf]; omega
      · go_wp2
        go_ret
        exact ⟨_, rfl, ⟨S, rfl, by omega⟩, HC.out.more (by omega), HW.out⟩
    · obtain rfl : j = 0 := by omega
      go_wp2
      go_ret
      exact ⟨_, rfl, ⟨S, rfl, by omega⟩, HC.out.more (by omega), HW.out⟩
end Go.Proofs.Ytbemnhdadafnnaa
