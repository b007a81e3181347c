/- The draws of the law on rings. -/
import Derived.Test.YtkpofdfikmcjgaaRingFns
import Derived.Deep.RegionWith
namespace Go.Proofs.Ytkpofdfikmcjgaa
set_option linter.unusedVariables false
set_option linter.unusedSimpArgs false
open Go.RowKit

/-- A drawn ring, an owner, places. -/
def AddV (base : Nat) (w : World) (v : Value) : Prop := ∃ A c k l o A' c' k' zs, v = .tuple #[.slice A k c, .int .i64 o, .slice A' k' c'] ∧ k ≤ 40 ∧ k' ≤ 4 ∧ 0 ≤ o ∧ o ≤ 8 ∧ w.ownsRow base 75 2 (.slice A k c) k (smps l) ∧ w.ownsRow base 3 1 (.slice A' k' c') k' (ints zs)
set_option maxRecDepth 100000 in
set_option maxHeartbeats 4000000 in
theorem DrawAddOwner_any (A : Option Addr) (n c : Nat) (l : List UInt8) (w : World) (h : Rd w w.heap.size 1 A n (bys l)) (hn : n ≤ 1048576) : Calls Try.prog 39 #[.slice A n c] w (DrawnP w (AddV w.heap.size)) := by
  have HH := Lib.hid (fun t => cur_newP (c := c) (t := t) h hn)
  clear h
  go_enter Try.func39, Try.ntmps39
  go_wp2_with fail
  refine (ring_any ⟨w.heap.size, w.heap.size, n, c, A, l⟩ 0 _ (HH.out _) (by omega)).mono ?_
  rintro e w1 ⟨_, rfl, ⟨A1, c1, k1, l1, rfl, hk1, ho1⟩, hcu, hch⟩
  have hs1 := hch.size
  simp at hs1
  have HO1 := Lib.hid (show w1.ownsRow (w.heap.size + 1) _ _ _ _ _ by simpa using ho1)
  have HC := Lib.hid hcu
  have HW := Lib.hid hch
  clear ho1 hcu hch HH
  go_wp2_with fail
  refine (pick_any ⟨w.heap.size, w.heap.size, n, c, A, l⟩ (0 + 120) 5 _ HC.out (by omega) (by omega)).mono ?_
  rintro e w2 ⟨_, rfl, ⟨r, rfl, hr0, hr1⟩, hcu, hch⟩
  have hs2 := hch.size
  obtain ⟨N, rfl⟩ := Int.eq_ofNat_of_zero_le hr0
  have hN : N ≤ 4 := by omega
  have HO2 := Lib.hid (own_chP HO1.out hch (by simp))
  have HC2 := Lib.hid hcu
  have HW2 := Lib.hid (HW.out.trans hch)
  clear hcu hch HC HW HO1 hr0 hr1
  go_wp2_with fail
  go_loopw [7, 8] (fun v i wr => ∃ (k j : Nat) (A5 : Option Addr) (c5 : Nat) (zs : List Int), k + j ≤ N ∧ i = .int .i64 j ∧ v = .slice A5 k c5 ∧ zs.length = k ∧ wr.ownsRow (w.heap.size + 1) 3 1 (.slice A5 k c5) k (ints zs) ∧ wr.ownsRow (w.heap.size + 1) 75 2 (.slice A1 k1 c1) k1 (smps l1) ∧ CurAt ⟨w.heap.size, w.heap.size, n, c, A, l⟩ (122 + 2 * (N - j)) wr ∧ Ch w.heap.size (w.heap.size + 1) (w.alloc (.cells #[.slice A n c, .int .i64 0, .int .u64 0] 92)) wr) (fun _ i _ => (intOf i).toNat)
  case atStart => exact ⟨0, N, none, 0, [], by omega, rfl, rfl, rfl, World.ownsRow_nil _ _ _ _, HO2.out, HC2.out.more (by omega), HW2.out⟩
  case round =>
    clear HO2 HC2 HW2
    obtain ⟨k, j, A5, c5, zs, hkj, rfl, rfl, hl5, ho5, ho, hcu, hch⟩ := hrel
    have hsw := hch.size
    simp at hsw
    have HL5 := Lib.hid hl5
    have HO5 := Lib.hid ho5
    have HO := Lib.hid ho
    have HC := Lib.hid hcu
    have HW := Lib.hid hch
    clear ho5 ho hcu hch hl5
    by_cases hlt : 0 < j
    · go_wp2_with fail
      refine (pick_any ⟨w.heap.size, w.heap.size, n, c, A, l⟩ (122 + 2 * (N - j)) 252 _ HC.out (by omega) (by omega)).mono ?_
      rintro e w3 ⟨_, rfl, ⟨p, rfl, hp0, hp⟩, hcu, hch⟩
      have hs3 := hch.size
      have ho53 := own_chP HO5.out hch (by simp)
      have HO3 := Lib.hid (own_chP HO.out hch (by simp))
      have HC3 := Lib.hid hcu
      have HW3 := Lib.hid (HW.out.trans hch)
      clear hcu hch HO5 HO HC HW
      have hp2 : p ≤ 251 := by omega
      clear hp
      have CP := Lib.hid (l1Put_any (w.heap.size + 1) A5 k c5 zs (p * 4) w3 ho53 (by omega) (by omega))
      clear ho53
      go_wp2_with fail
      refine CP.out.mono ?_
      rintro e w5 ⟨A6, c6, rfl, ho6, hb6⟩
      have hpl := put_len zs (p * 4)
      rw [HL5.out] at hpl
      obtain ⟨P, hP⟩ : ∃ P, put zs (p * 4) = P := ⟨_, rfl⟩
      rw [hP] at ho6 hpl ⊢
      have HO6 := Lib.hid ho6
      have HO5' := Lib.hid (own_below HO3.out hb6 (Nat.le_refl _))
      have HC5 := Lib.hid (show CurAt ⟨w.heap.size, w.heap.size, n, c, A, l⟩ (122 + 2 * (N - (j - 1))) w5 from (HC3.out.ch (Ch.of_below hb6) (.inr rfl)).more (by omega))
      have HW5 := Lib.hid (HW3.out.trans (Ch.of_below hb6).zero)
      clear ho6 hb6 HO3 HC3 HW3 CP hP
      go_wp2
      go_roundw
      case rel => exact ⟨P.length, j - 1, A6, c6, P, by omega, by go_num, rfl, rfl, HO6.out, HO5'.out, HC5.out, HW5.out⟩
      case measure => simp [intOf]; omega
    · obtain rfl : j = 0 := by omega
      go_wp2_with fail
      refine (pick_any ⟨w.heap.size, w.heap.size, n, c, A, l⟩ (122 + 2 * (N - 0)) 9 _ HC.out (by omega) (by omega)).mono ?_
      rintro e w3 ⟨_, rfl, ⟨p, rfl, hp0, hp⟩, hcu, hch⟩
      have HB := Lib.hid (new_belowP (HW.out.trans hch))
      have HO53 := Lib.hid (own_mono (own_chP HO5.out hch (by simp)) (show w.heap.size ≤ _ by omega))
      have HO3 := Lib.hid (own_mono (own_chP HO.out hch (by simp)) (show w.heap.size ≤ _ by omega))
      clear hcu hch HO5 HO HC HW
      have hp2 : p ≤ 8 := by omega
      clear hp
      go_wp2
      go_ret3
      exact ⟨_, rfl, ⟨A1, c1, k1, l1, p, A5, c5, k, zs, rfl, hk1, by omega, hp0, hp2, HO3.out, HO53.out⟩, HB.out⟩
/-- A drawn ring, and two numbers. -/
def ManyV (base : Nat) (w : World) (v : Value) : Prop := ∃ A c k l x m, v = .tuple #[.slice A k c, .int .i64 x, .int .i64 m] ∧ k ≤ 40 ∧ w.ownsRow base 75 2 (.slice A k c) k (smps l) ∧ 0 ≤ m ∧ m ≤ 5
set_option maxRecDepth 100000 in
set_option maxHeartbeats 4000000 in
theorem DrawOwnersOf_any (A : Option Addr) (n c : Nat) (l : List UInt8) (w : World) (h : Rd w w.heap.size 1 A n (bys l)) (hn : n ≤ 1048576) : Calls Try.prog 45 #[.slice A n c] w (DrawnP w (ManyV w.heap.size)) := by
  have HH := Lib.hid (fun t => cur_newP (c := c) (t := t) h hn)
  clear h
  go_enter Try.func45, Try.ntmps45
  go_wp2_with fail
  refine (ring_any ⟨w.heap.size, w.heap.size, n, c, A, l⟩ 0 _ (HH.out _) (by omega)).mono ?_
  rintro e w1 ⟨_, rfl, ⟨A1, c1, k1, l1, rfl, hk1, ho1⟩, hcu, hch⟩
  have hs1 := hch.size
  simp at hs1
  have HO1 := Lib.hid (show w1.ownsRow (w.heap.size + 1) _ _ _ _ _ by simpa using ho1)
  have HC := Lib.hid hcu
  have HW := Lib.hid hch
  clear ho1 hcu hch HH
  go_wp2_with fail
  refine (pick_any ⟨w.heap.size, w.heap.size, n, c, A, l⟩ (0 + 120) 252 _ HC.out (by omega) (by omega)).mono ?_
  rintro e w2 ⟨_, rfl, ⟨r, rfl, hr0, hr1⟩, hcu, hch⟩
  have HO2 := Lib.hid (own_chP HO1.out hch (by simp))
  have HC2 := Lib.hid hcu
  have HW2 := Lib.hid (HW.out.trans hch)
  clear hcu hch HC HW HO1
  have hr2 : r ≤ 251 := by omega
  clear hr1
  go_wp2_with fail
  refine (pick_any ⟨w.heap.size, w.heap.size, n, c, A, l⟩ (0 + 120 + 2) 6 _ HC2.out (by omega) (by omega)).mono ?_
  rintro e w3 ⟨_, rfl, ⟨q, rfl, hq0, hq1⟩, hcu, hch⟩
  have HO3 := Lib.hid (own_mono (own_chP HO2.out hch (by simp)) (show w.heap.size ≤ _ by omega))
  have HB := Lib.hid (new_belowP (HW2.out.trans hch))
  clear hcu hch
  have hq2 : q ≤ 5 := by omega
  clear hq1
  go_wp2
  go_ret3
  exact ⟨_, rfl, ⟨A1, c1, k1, l1, _, _, rfl, hk1, HO3.out, hq0, hq2⟩, HB.out⟩
/-- A drawn ring, and a number. -/
def OneV (base : Nat) (w : World) (v : Value) : Prop := ∃ A c k l x, v = .tuple #[.slice A k c, .int .i64 x] ∧ k ≤ 40 ∧ w.ownsRow base 75 2 (.slice A k c) k (smps l)
/-- What a pick leaves beside a row. -/
def PickR (u : CU) (w0 : World) (g c k : Nat) (l : List Tok) (m : Nat) (w : World) : Prop := CurAt u m w ∧ w.ownsRow (u.b + 1) 75 2 (.slice (some ⟨g, 0, none⟩) k c) k (smps l) ∧ Ch u.b (u.b + 1) w0 w
theorem PickR.drew {u : CU} {w0 : World} {g c k : Nat} {l : List Tok} {m : Nat} {w : World} (h : PickR u w0 g c k l m w) : PickR u w0 g c k l m w.drew := ⟨h.1.drewN 1, own_drewN h.2.1 1, h.2.2.drewN 1⟩
theorem PickR.cells {u : CU} {w0 : World} {g c k : Nat} {l : List Tok} {m : Nat} {w : World} (h : PickR u w0 g c k l m w) : (∀ j : Nat, j < k → w.cell? ⟨g, j * 2, none⟩ = some (.int .i64 (l.getD j (0, 0)).1)) ∧ (∀ j : Nat, j < k → w.cell? ⟨g, j * 2 + 1, none⟩ = some (.int .i64 (l.getD j (0, 0)).2)) := by
  refine ⟨fun j hj => ?_, fun j hj => ?_⟩
  all_goals
    obtain ⟨b, off, x, y, he, hB, hx, hc0, hc1⟩ := (Rd.of_own h.2.1).smp_at hj
    obtain ⟨rfl, rfl⟩ : g = b ∧ 0 = off := by simpa using he
    simp only [Nat.zero_add] at hc0 hc1
    simp only [List.getD, hx, Option.getD_some]
    assumption
theorem pick_ring (u : CU) (w0 : World) (g c k : Nat) (l : List Tok) (m : Nat) (N : Int) (w : World) (h : PickR u w0 g c k l m w) (hm : m ≤ 1000) (hN0 : 0 < N) (hN : N ≤ 1000) :
    Calls Try.prog 76 #[.pointer (some ⟨u.b, 0, none⟩), .int .i64 N] w fun e w' => ∃ r : Nat, e = .returned (.int .i64 r) ∧ (r : Int) < N ∧ PickR u w0 g c k l (m + 2) w' :=
  (pick_any u m N w h.1 (by omega) (by omega)).mono (by
    rintro e w' ⟨_, rfl, ⟨r, rfl, hr0, hr⟩, hcu, hch⟩
    obtain ⟨q, rfl⟩ := Int.eq_ofNat_of_zero_le hr0
    exact ⟨q, rfl, by omega, hcu, own_chP h.2.1 hch (by omega), h.2.2.trans hch⟩)
theorem RingV.row {base k : Nat} {w : World} {A : Option Addr} {c : Nat} {l : List Tok} (ho : w.ownsRow base 75 2 (.slice A k c) k (smps l)) (hk : 0 < k) : ∃ g, A = some ⟨g, 0, none⟩ := by
  rcases own_casesI ho with ⟨_, h, _⟩ | h
  · omega
  · exact h
set_option maxRecDepth 100000 in
set_option maxHeartbeats 4000000 in
theorem DrawOwnerOf_any (A : Option Addr) (n c : Nat) (l : List UInt8) (w : World) (h : Rd w w.heap.size 1 A n (bys l)) (hn : n ≤ 1048576) : Calls Try.prog 44 #[.slice A n c] w (DrawnP w (OneV w.heap.size)) := by
  have HH := Lib.hid (fun t => cur_newP (c := c) (t := t) h hn)
  clear h
  go_enter Try.func44, Try.ntmps44
  go_wp2_with fail
  refine (ring_any ⟨w.heap.size, w.heap.size, n, c, A, l⟩ 0 _ (HH.out _) (by omega)).mono ?_
  rintro e w1 ⟨_, rfl, ⟨A1, c1, k1, l1, rfl, hk1, ho1⟩, hcu, hch⟩
  have hs1 := hch.size
  simp at hs1
  have HO1 := Lib.hid (show w1.ownsRow (w.heap.size + 1) _ _ _ _ _ by simpa using ho1)
  have HC := Lib.hid hcu
  have HW := Lib.hid hch
  clear ho1 hcu hch HH
  have Z : ∀ (w2 : World) (x : Int), CurAt ⟨w.heap.size, w.heap.size, n, c, A, l⟩ 130 w2 → Ch w.heap.size (w.heap.size + 1) (w.alloc (.cells #[.slice A n c, .int .i64 0, .int .u64 0] 92)) w2 → w2.ownsRow (w.heap.size + 1) 75 2 (.slice A1 k1 c1) k1 (smps l1) → DrawnP w (OneV w.heap.size) (.returned (.tuple #[.slice A1 k1 c1, .int .i64 x])) w2 :=
    fun w2 x _ hw ho => ⟨_, rfl, ⟨A1, c1, k1, l1, x, rfl, hk1, own_mono ho (by omega)⟩, new_belowP hw⟩
  have HZ := Lib.hid Z
  clear Z
  by_cases hk0 : k1 = 0
  · subst hk0
    go_wp2_with fail
    refine (pick_any ⟨w.heap.size, w.heap.size, n, c, A, l⟩ (0 + 120) 256 _ HC.out (by omega) (by omega)).mono ?_
    rintro e w4 ⟨_, rfl, ⟨r, rfl, hr0, hr1⟩, hcu, hch⟩
    have HO4 := Lib.hid (own_chP HO1.out hch (by simp))
    have HC4 := Lib.hid hcu
    have HW4 := Lib.hid (HW.out.trans hch)
    clear hcu hch HC HW HO1
    have hr2 : r ≤ 255 := by omega
    clear hr1
    go_wp2_with fail
    refine (pick_any ⟨w.heap.size, w.heap.size, n, c, A, l⟩ ((0 + 120) + 2) 3 _ HC4.out (by omega) (by omega)).mono ?_
    rintro e w5 ⟨_, rfl, ⟨q, rfl, hq0, hq1⟩, hcu, hch⟩
    have HO5 := Lib.hid (own_chP HO4.out hch (by simp))
    have HC5 := Lib.hid hcu
    have HW5 := Lib.hid (HW4.out.trans hch)
    clear hcu hch HC4 HW4 HO4
    have hq2 : q ≤ 2 := by omega
    clear hq1
    go_wp2
    go_ret2
    exact HZ.out _ _ (HC5.out.more (by omega)) HW5.out HO5.out
  · obtain ⟨g, rfl⟩ := RingV.row HO1.out (by omega)
    have hk0' : (0 : Int) < (k1 : Int) := by omega
    go_wp2_with fail
    refine (one_any ⟨w.heap.size, w.heap.size, n, c, A, l⟩ (0 + 120) 3 _ HC.out (by omega) (by omega)).mono ?_
    rintro e w2 ⟨_, rfl, ⟨q, rfl⟩, hcu, hch⟩
    have HO2 := Lib.hid (own_chP HO1.out hch (by simp))
    have HC2 := Lib.hid hcu
    have HW2 := Lib.hid (HW.out.trans hch)
    clear hcu hch HC HW HO1
    have hP : PickR ⟨w.heap.size, w.heap.size, n, c, A, l⟩ (w.alloc (.cells #[.slice A n c, .int .i64 0, .int .u64 0] 92)) g c1 k1 l1 122 w2.drew := PickR.drew ⟨HC2.out, HO2.out, HW2.out⟩
    have CP := Lib.hid (pick_ring ⟨w.heap.size, w.heap.size, n, c, A, l⟩ (w.alloc (.cells #[.slice A n c, .int .i64 0, .int .u64 0] 92)) g c1 k1 l1)
    cases q with
    | false =>
      go_wp2_with fail
      refine (pick_any ⟨w.heap.size, w.heap.size, n, c, A, l⟩ (0 + 120 + 2) 256 _ HC2.out (by omega) (by omega)).mono ?_
      rintro e w4 ⟨_, rfl, ⟨r, rfl, hr0, hr1⟩, hcu, hch⟩
      have HO4 := Lib.hid (own_chP HO2.out hch (by simp))
      have HC4 := Lib.hid hcu
      have HW4 := Lib.hid (HW2.out.trans hch)
      clear hcu hch HC2 HW2 HO2
      have hr2 : r ≤ 255 := by omega
      clear hr1
      go_wp2_with fail
      refine (pick_any ⟨w.heap.size, w.heap.size, n, c, A, l⟩ ((0 + 120 + 2) + 2) 3 _ HC4.out (by omega) (by omega)).mono ?_
      rintro e w5 ⟨_, rfl, ⟨q, rfl, hq0, hq1⟩, hcu, hch⟩
      have HO5 := Lib.hid (own_chP HO4.out hch (by simp))
      have HC5 := Lib.hid hcu
      have HW5 := Lib.hid (HW4.out.trans hch)
      clear hcu hch HC4 HW4 HO4
      have hq2 : q ≤ 2 := by omega
      clear hq1
      go_wp2
      go_ret2
      exact HZ.out _ _ (HC5.out.more (by omega)) HW5.out HO5.out
    | true =>
      go_wp2_with fail
      go_region_held3 (fun w' => (∀ j : Nat, j < k1 → w'.cell? ⟨g, j * 2, none⟩ = some (.int .i64 (l1.getD j (0, 0)).1)) ∧ (∀ j : Nat, j < k1 → w'.cell? ⟨g, j * 2 + 1, none⟩ = some (.int .i64 (l1.getD j (0, 0)).2)))
        (first | exact hP.cells | exact PickR.cells (by assumption))
        ((go_at_call 76; refine (CP.out _ _ _ (by assumption) (by omega) (by omega) (by omega)).mono ?_; rintro e w' ⟨r, rfl, hr, hP⟩; obtain ⟨hcs0, hcs1⟩ := hP.cells; try simp only [Int.ofNat_lt] at hr))
      all_goals go_wp2
      all_goals go_ret2
      all_goals exact HZ.out _ _ ((show PickR _ _ _ _ _ _ _ _ by assumption).1.more (by omega)) ((show PickR _ _ _ _ _ _ _ _ by assumption).2.2) ((show PickR _ _ _ _ _ _ _ _ by assumption).2.1)
set_option maxRecDepth 100000 in
set_option maxHeartbeats 4000000 in
theorem DrawDropOwner_any (A : Option Addr) (n c : Nat) (l : List UInt8) (w : World) (h : Rd w w.heap.size 1 A n (bys l)) (hn : n ≤ 1048576) : Calls Try.prog 46 #[.slice A n c] w (DrawnP w (OneV w.heap.size)) := by
  have HH := Lib.hid (fun t => cur_newP (c := c) (t := t) h hn)
  clear h
  go_enter Try.func46, Try.ntmps46
  go_wp2_with fail
  refine (ring_any ⟨w.heap.size, w.heap.size, n, c, A, l⟩ 0 _ (HH.out _) (by omega)).mono ?_
  rintro e w1 ⟨_, rfl, ⟨A1, c1, k1, l1, rfl, hk1, ho1⟩, hcu, hch⟩
  have hs1 := hch.size
  simp at hs1
  have HO1 := Lib.hid (show w1.ownsRow (w.heap.size + 1) _ _ _ _ _ by simpa using ho1)
  have HC := Lib.hid hcu
  have HW := Lib.hid hch
  clear ho1 hcu hch HH
  have Z : ∀ (w2 : World) (x : Int), CurAt ⟨w.heap.size, w.heap.size, n, c, A, l⟩ 130 w2 → Ch w.heap.size (w.heap.size + 1) (w.alloc (.cells #[.slice A n c, .int .i64 0, .int .u64 0] 92)) w2 → w2.ownsRow (w.heap.size + 1) 75 2 (.slice A1 k1 c1) k1 (smps l1) → DrawnP w (OneV w.heap.size) (.returned (.tuple #[.slice A1 k1 c1, .int .i64 x])) w2 :=
    fun w2 x _ hw ho => ⟨_, rfl, ⟨A1, c1, k1, l1, x, rfl, hk1, own_mono ho (by omega)⟩, new_belowP hw⟩
  have HZ := Lib.hid Z
  clear Z
  by_cases hk0 : k1 = 0
  · subst hk0
    go_wp2_with fail
    refine (pick_any ⟨w.heap.size, w.heap.size, n, c, A, l⟩ (0 + 120) 9 _ HC.out (by omega) (by omega)).mono ?_
    rintro e w4 ⟨_, rfl, ⟨r, rfl, hr0, hr1⟩, hcu, hch⟩
    have HO4 := Lib.hid (own_chP HO1.out hch (by simp))
    have HC4 := Lib.hid hcu
    have HW4 := Lib.hid (HW.out.trans hch)
    clear hcu hch HC HW HO1
    have hr2 : r ≤ 8 := by omega
    clear hr1
    go_wp2
    go_ret2
    exact HZ.out _ _ (HC4.out.more (by omega)) HW4.out HO4.out
  · obtain ⟨g, rfl⟩ := RingV.row HO1.out (by omega)
    have hk0' : (0 : Int) < (k1 : Int) := by omega
    go_wp2_with fail
    refine (one_any ⟨w.heap.size, w.heap.size, n, c, A, l⟩ (0 + 120) 4 _ HC.out (by omega) (by omega)).mono ?_
    rintro e w2 ⟨_, rfl, ⟨q, rfl⟩, hcu, hch⟩
    have HO2 := Lib.hid (own_chP HO1.out hch (by simp))
    have HC2 := Lib.hid hcu
    have HW2 := Lib.hid (HW.out.trans hch)
    clear hcu hch HC HW HO1
    have hP : PickR ⟨w.heap.size, w.heap.size, n, c, A, l⟩ (w.alloc (.cells #[.slice A n c, .int .i64 0, .int .u64 0] 92)) g c1 k1 l1 122 w2.drew := PickR.drew ⟨HC2.out, HO2.out, HW2.out⟩
    have CP := Lib.hid (pick_ring ⟨w.heap.size, w.heap.size, n, c, A, l⟩ (w.alloc (.cells #[.slice A n c, .int .i64 0, .int .u64 0] 92)) g c1 k1 l1)
    cases q with
    | true =>
      go_wp2_with fail
      refine (pick_any ⟨w.heap.size, w.heap.size, n, c, A, l⟩ (0 + 120 + 2) 9 _ HC2.out (by omega) (by omega)).mono ?_
      rintro e w4 ⟨_, rfl, ⟨r, rfl, hr0, hr1⟩, hcu, hch⟩
      have HO4 := Lib.hid (own_chP HO2.out hch (by simp))
      have HC4 := Lib.hid hcu
      have HW4 := Lib.hid (HW2.out.trans hch)
      clear hcu hch HC2 HW2 HO2
      have hr2 : r ≤ 8 := by omega
      clear hr1
      go_wp2
      go_ret2
      exact HZ.out _ _ (HC4.out.more (by omega)) HW4.out HO4.out
    | false =>
      go_wp2_with fail
      go_region_held3 (fun w' => (∀ j : Nat, j < k1 → w'.cell? ⟨g, j * 2, none⟩ = some (.int .i64 (l1.getD j (0, 0)).1)) ∧ (∀ j : Nat, j < k1 → w'.cell? ⟨g, j * 2 + 1, none⟩ = some (.int .i64 (l1.getD j (0, 0)).2)))
        (first | exact hP.cells | exact PickR.cells (by assumption))
        ((go_at_call 76; refine (CP.out _ _ _ (by assumption) (by omega) (by omega) (by omega)).mono ?_; rintro e w' ⟨r, rfl, hr, hP⟩; obtain ⟨hcs0, hcs1⟩ := hP.cells; try simp only [Int.ofNat_lt] at hr))
      all_goals go_wp2
      all_goals go_ret2
      all_goals exact HZ.out _ _ ((show PickR _ _ _ _ _ _ _ _ by assumption).1.more (by omega)) ((show PickR _ _ _ _ _ _ _ _ by assumption).2.2) ((show PickR _ _ _ _ _ _ _ _ by assumption).2.1)
end Go.Proofs.Ytkpofdfikmcjgaa
