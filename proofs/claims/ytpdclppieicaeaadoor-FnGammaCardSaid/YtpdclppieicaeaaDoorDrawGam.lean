/- The contracts of the generators of the law on codes. -/
import Derived.Test.YtpdclppieicaeaaDoorDraw1
import Derived.Test.YtpdclppieicaeaaDoorGamS
namespace Go.Proofs.YtpdclppieicaeaaDoor
set_option linter.unusedVariables false
set_option linter.unusedSimpArgs false
open Go.RowKit

/-- A number from lo to hi. -/
def BetV (lo hi : Int) (_ : World) (v : Value) : Prop := ∃ x : Int, v = .int .i64 x ∧ lo ≤ x ∧ x ≤ hi
theorem gbS_size (n : Int) : (gbS n).size ≤ 40 := by
  unfold gbS
  by_cases h : gbK n = true
  · rw [if_pos h, sB_size, gam_len]
    obtain ⟨m, rfl, h1, h2⟩ := gbK_t h
    have := bnr_len h2
    simp; omega
  · rw [if_neg h]; exact Nat.zero_le _
set_option maxRecDepth 100000 in
set_option maxHeartbeats 2000000 in
theorem DrawUnZigZag_any (A : Option Addr) (n c : Nat) (l : List UInt8) (w : World) (h : Rd w w.heap.size 1 A n (bys l)) (hn : n ≤ 1048576) : Calls Tryd.prog 10 #[.slice A n c] w (Drawn w (BetV (-1) 2000000000001)) := by
  have HH := Lib.hid (fun t => cur_new (c := c) (t := t) h hn)
  clear h
  go_enter Tryd.func10, Tryd.ntmps10
  go_wp2_with fail
  refine (one_any ⟨w.heap.size, w.heap.size, n, c, A, l⟩ 0 6 _ (HH.out _) (by omega) (by omega)).mono ?_
  rintro e w1 ⟨_, rfl, ⟨r, rfl⟩, hcu, hch⟩
  have hs1 := hch.size
  simp at hs1
  have HC := Lib.hid hcu
  have HW := Lib.hid hch
  clear hcu hch
  cases r with
  | true =>
    go_wp2_with fail
    refine (among_any ⟨w.heap.size, w.heap.size, n, c, A, l⟩ 2 w1.heap.size 3 3 [-1, 2000000000000, 2000000000001] _ (HC.out.alloc _) (by omega) (show w1.heap.size ≠ w.heap.size by omega) rfl (by omega) (by omega) (fun j x h => lit_cell h) (by simp)).mono ?_
    rintro e w2 ⟨_, rfl, ⟨x, hx, rfl⟩, hcu, hch⟩
    have HW2 := Lib.hid (new_below ((HW.out.trans (Ch.alloc _ _).zero).trans hch))
    have HX := Lib.hid (show -1 ≤ x ∧ x ≤ 2000000000001 by simp at hx; omega)
    clear hcu hch hx
    go_wp2
    go_ret
    exact ⟨_, rfl, ⟨x, rfl, HX.out.1, HX.out.2⟩, HW2.out⟩
  | false =>
    go_wp2_with fail
    refine (pick_any ⟨w.heap.size, w.heap.size, n, c, A, l⟩ 2 256 _ HC.out (by omega) (by omega)).mono ?_
    rintro e w2 ⟨_, rfl, ⟨r, rfl, hr0, hr⟩, hcu, hch⟩
    have hs2 := hch.size
    have HC2 := Lib.hid hcu
    have HW2 := Lib.hid (HW.out.trans hch)
    have hr1 : r ≤ 255 := by omega
    clear hcu hch hr
    go_wp2_with fail
    refine (among_any ⟨w.heap.size, w.heap.size, n, c, A, l⟩ 4 w2.heap.size 3 3 [1, 257, 99991] _ (HC2.out.alloc _) (by omega) (show w2.heap.size ≠ w.heap.size by omega) rfl (by omega) (by omega) (fun j x h => lit_cell h) (by simp)).mono ?_
    rintro e w3 ⟨_, rfl, ⟨x, hx, rfl⟩, hcu, hch⟩
    have HW3 := Lib.hid (new_below ((HW2.out.trans (Ch.alloc _ _).zero).trans hch))
    have hx0 : x = 1 ∨ x = 257 ∨ x = 99991 := by simp at hx; omega
    have hm : 0 ≤ r * x ∧ r * x ≤ 25497705 := by rcases hx0 with rfl | rfl | rfl <;> omega
    obtain ⟨q, hq⟩ : ∃ q, r * x = q := ⟨_, rfl⟩
    obtain ⟨hm0, hm1⟩ := hm
    clear hcu hch hx hx0
    go_wp2
    go_ret
    exact ⟨_, rfl, ⟨_, rfl, by omega, by omega⟩, HW3.out⟩
set_option maxRecDepth 100000 in
set_option maxHeartbeats 2000000 in
theorem DrawGammaBits_any (A : Option Addr) (n c : Nat) (l : List UInt8) (w : World) (h : Rd w w.heap.size 1 A n (bys l)) (hn : n ≤ 1048576) : Calls Tryd.prog 4 #[.slice A n c] w (Drawn w (BetV 0 1000001)) := by
  have HH := Lib.hid (fun t => cur_new (c := c) (t := t) h hn)
  clear h
  go_enter Tryd.func4, Tryd.ntmps4
  go_wp2_with fail
  refine (pick_any ⟨w.heap.size, w.heap.size, n, c, A, l⟩ 0 256 _ (HH.out _) (by omega) (by omega)).mono ?_
  rintro e w1 ⟨_, rfl, ⟨p, rfl, hp0, hp⟩, hcu, hch⟩
  have hs1 := hch.size
  simp at hs1
  have HC := Lib.hid hcu
  have HW := Lib.hid hch
  have hp1 : p ≤ 255 := by omega
  clear hcu hch hp
  go_wp2_with fail
  refine (pick_any ⟨w.heap.size, w.heap.size, n, c, A, l⟩ 2 256 _ HC.out (by omega) (by omega)).mono ?_
  rintro e w2 ⟨_, rfl, ⟨q, rfl, hq0, hq⟩, hcu, hch⟩
  have hs2 := hch.size
  have HC2 := Lib.hid hcu
  have HW2 := Lib.hid (HW.out.trans hch)
  have hq1 : q ≤ 255 := by omega
  clear hcu hch hq
  have hm0 : 0 ≤ p * q := Int.mul_nonneg hp0 hq0
  have hm1 : p * q ≤ 65025 := by
    have := Int.mul_le_mul hp1 hq1 hq0 (by omega : (0 : Int) ≤ 255)
    omega
  go_wp2_with fail
  refine (among_any ⟨w.heap.size, w.heap.size, n, c, A, l⟩ 4 w2.heap.size 11 11 [0, 1, 2, 3, 4, 7, 8, 255, 1000000, 1000001, 1 + p * q] _ (HC2.out.alloc _) (by omega) (show w2.heap.size ≠ w.heap.size by omega) rfl (by omega) (by omega) (fun j x h => lit_cell h) (by simp)).mono ?_
  rintro e w3 ⟨_, rfl, ⟨x, hx, rfl⟩, hcu, hch⟩
  have HW3 := Lib.hid (new_below ((HW2.out.trans (Ch.alloc _ _).zero).trans hch))
  have HX := Lib.hid (show 0 ≤ x ∧ x ≤ 1000001 by simp at hx; omega)
  clear hcu hch hx hm0 hm1
  go_wp2
  go_ret
  exact ⟨_, rfl, ⟨x, rfl, HX.out.1, HX.out.2⟩, HW3.out⟩
set_option maxRecDepth 100000 in
set_option maxHeartbeats 4000000 in
theorem DrawReadGamma_any (A : Option Addr) (n c : Nat) (l : List UInt8) (w : World) (h : Rd w w.heap.size 1 A n (bys l)) (hn : n ≤ 1048576) : Calls Tryd.prog 7 #[.slice A n c] w (Drawn w (TextV 200)) := by
  have HH := Lib.hid (fun t => cur_new (c := c) (t := t) h hn)
  clear h
  go_enter Tryd.func7, Tryd.ntmps7
  go_wp2_with fail
  refine (pick_any ⟨w.heap.size, w.heap.size, n, c, A, l⟩ 0 3 _ (HH.out _) (by omega) (by omega)).mono ?_
  rintro e w1 ⟨_, rfl, ⟨r, rfl, hr0, hr⟩, hcu, hch⟩
  obtain ⟨N, rfl⟩ := Int.eq_ofNat_of_zero_le hr0
  have hN : N ≤ 2 := by omega
  have HC := Lib.hid hcu
  have HW := Lib.hid (new_below hch)
  clear hcu hch hr hr0
  go_wp2_with fail
  go_loopw [4, 5] (fun v i wr => ∃ (k j : Nat) (S : ByteArray), k + j ≤ N ∧ i = .int .i64 j ∧ v = .string S ∧ S.size ≤ 40 * k ∧ CurAt ⟨w.heap.size, w.heap.size, n, c, A, l⟩ (2 + 2 * k) wr ∧ Below w.heap.size w wr) (fun _ i _ => (intOf i).toNat)
  case atStart => exact ⟨0, N, ⟨#[]⟩, by omega, rfl, rfl, Nat.le_refl _, HC.out, HW.out⟩
  case round =>
    clear HC HW HH
    obtain ⟨k, j, S, hkj, rfl, rfl, hS, hcu, hw⟩ := hrel
    have HC := Lib.hid hcu
    have HW := Lib.hid hw
    clear hcu hw
    by_cases hlt : 0 < j
    · go_wp2_with fail
      refine (pick_any ⟨w.heap.size, w.heap.size, n, c, A, l⟩ (2 + 2 * k) 300 _ HC.out (by omega) (by omega)).mono ?_
      rintro e w2 ⟨_, rfl, ⟨r, rfl, hr0, hr⟩, hcu, hch⟩
      have HC2 := Lib.hid hcu
      have HW2 := Lib.hid (HW.out.trans (hch.below (by have := HW.out.size; omega) (.inl (Nat.le_refl _))))
      have hr1 : r ≤ 299 := by omega
      clear hcu hch hr HC HW
      go_wp2_with fail
      refine (sGammaBits_any _ _).mono ?_
      rintro e w3 ⟨rfl, hb⟩
      have HC3 := Lib.hid (HC2.out.ch (Ch.of_below hb) (.inr rfl))
      have HW3 := Lib.hid (HW2.out.trans (hb.mono HW2.out.size))
      have hV := gbS_size (1 + r)
      obtain ⟨V, hVe⟩ : ∃ V, gbS (1 + r) = V := ⟨_, rfl⟩
      rw [hVe] at hV ⊢
      have hcat := fun w => run_string_add_sum (P := Tryd.prog) (w := w) S V (by omega)
      clear hb HC2 HW2 hVe
      go_wp2
      go_roundw
      case rel => exact ⟨k + 1, j - 1, S ++ V, by omega, by go_num, rfl, by rw [ByteArray.size_append]; omega, HC3.out.more (by omega), HW3.out⟩
      case measure => simp [intOf]; omega
    · obtain rfl : j = 0 := by omega
      go_wp2_with fail
      refine (one_any ⟨w.heap.size, w.heap.size, n, c, A, l⟩ (2 + 2 * k) 3 _ HC.out (by omega) (by omega)).mono ?_
      rintro e w2 ⟨_, rfl, ⟨r, rfl⟩, hcu, hch⟩
      have HC2 := Lib.hid hcu
      have HW2 := Lib.hid (HW.out.trans (hch.below (by have := HW.out.size; omega) (.inl (Nat.le_refl _))))
      clear hcu hch HC HW
      cases r with
      | true =>
        go_wp2_with fail
        refine (spoilt_any ⟨w.heap.size, w.heap.size, n, c, A, l⟩ (4 + 2 * k) S ⟨#[48, 49, 120]⟩ _ (HC2.out.more (by omega)) (by omega) (by omega) (by decide) (by decide)).mono ?_
        rintro e w3 ⟨_, rfl, ⟨S2, rfl, hS2⟩, hcu, hch⟩
        have HW3 := Lib.hid (HW2.out.trans (hch.below (by have := HW2.out.size; omega) (.inl (Nat.le_refl _))))
        clear hcu hch HC2 HW2
        go_wp2
        go_ret
        exact ⟨_, rfl, ⟨S2, rfl, by omega⟩, HW3.out⟩
      | false =>
        go_wp2
        go_ret
        exact ⟨_, rfl, ⟨S, rfl, by omega⟩, HW2.out⟩
end Go.Proofs.YtpdclppieicaeaaDoor
