/- The generator of rings. -/
import Derived.Test.YtkpofdfikmcjgaaCur
import Derived.Test.YtkpofdfikmcjgaaPutI
import Derived.Test.YtkpofdfikmcjgaaRing6
import Derived.Test.YtkpofdfikmcjgaaDrawPost0
namespace Go.Proofs.Ytkpofdfikmcjgaa
set_option linter.unusedVariables false
set_option linter.unusedSimpArgs false
open Go.RowKit

theorem okAdd_len {l : List Tok} {o : Int} {a : List Int} (h : okAdd l o a = true) : (addL l o a).length ≤ 40 := by
  rw [add_yes h]
  unfold okAdd at h
  simp only [Bool.and_eq_true] at h
  exact (goodTok_iff.1 h.2).2.2
/-- A drawn ring, in new memory. -/
def RingV (base : Nat) (w : World) (v : Value) : Prop := ∃ A c k l, v = .slice A k c ∧ k ≤ 40 ∧ w.ownsRow base 75 2 (.slice A k c) k (smps l)
set_option maxRecDepth 100000 in
set_option maxHeartbeats 8000000 in
theorem ring_any (u : CU) (m : Nat) (w : World) (h : CurAt u m w) (hm : m ≤ 549755800000) :
    Calls Try.prog 75 #[.pointer (some ⟨u.b, 0, none⟩)] w (Drew u (m + 120) w (RingV w.heap.size)) := by
  have hub := h.hb
  have HH := Lib.hid h
  clear h
  go_enter Try.func75, Try.ntmps75
  go_wp2_with fail
  refine (pick_any u m 5 _ HH.out (by omega) (by omega)).mono ?_
  rintro e w1 ⟨_, rfl, ⟨r, rfl, hr0, hr⟩, hcu, hch⟩
  obtain ⟨N, rfl⟩ := Int.eq_ofNat_of_zero_le hr0
  have hN : N ≤ 4 := by omega
  have hs1 := hch.size
  have HC := Lib.hid hcu
  have HW := Lib.hid hch
  clear hcu hch HH hr hr0
  go_wp2_with fail
  go_loopw [3, 4] (fun v i wr => ∃ (k j : Nat) (A : Option Addr) (c : Nat) (l : List Tok), j ≤ N ∧ i = .int .i64 j ∧ k ≤ 40 ∧ v = .slice A k c ∧ wr.ownsRow w.heap.size 75 2 (.slice A k c) k (smps l) ∧ CurAt u (m + 2 + 24 * (N - j)) wr ∧ Ch u.b (u.b + 1) w wr) (fun _ i _ => (intOf i).toNat)
  case atStart => exact ⟨0, N, none, 0, [], Nat.le_refl _, rfl, by omega, rfl, World.ownsRow_nil _ _ _ _, HC.out.more (by omega), HW.out⟩
  case round =>
    clear HC HW
    obtain ⟨k, j, A, c, l, hj, rfl, hk, rfl, ho, hcu, hch⟩ := hrel
    obtain ⟨wo, rfl⟩ : ∃ wo : World, wo = wr := ⟨_, rfl⟩
    have hsz := hch.size
    have HO := Lib.hid ho
    have HC := Lib.hid hcu
    have HW := Lib.hid hch
    clear ho hcu hch
    by_cases hlt : 0 < j
    · go_wp2_with fail
      refine (pick_any u (m + 2 + 24 * (N - j)) 4 _ HC.out (by omega) (by omega)).mono ?_
      rintro e w2 ⟨_, rfl, ⟨q, rfl, hq0, hq⟩, hcu, hch⟩
      obtain ⟨M, hM⟩ : ∃ M : Nat, 1 + q = (M : Int) := ⟨(1 + q).toNat, by omega⟩
      have hM4 : M ≤ 4 := by omega
      have hs2 := hch.size
      have HO2 := Lib.hid (own_chP HO.out hch (by omega))
      have HC2 := Lib.hid hcu
      have HW2 := Lib.hid (HW.out.trans hch)
      clear hcu hch hq0 hq HO HC HW
      go_wp2_with fail
      go_loopw [5, 6] (fun v i wr => ∃ (k5 j5 : Nat) (A5 : Option Addr) (c5 : Nat) (at5 : List Int), k5 + j5 ≤ M ∧ i = .int .i64 j5 ∧ v = .slice A5 k5 c5 ∧ at5.length = k5 ∧ wr.ownsRow w.heap.size 3 1 (.slice A5 k5 c5) k5 (ints at5) ∧ wr.ownsRow w.heap.size 75 2 (.slice A k c) k (smps l) ∧ CurAt u (m + 4 + 24 * (N - j) + 4 * (M - j5)) wr ∧ Ch u.b (u.b + 1) w wr) (fun _ i _ => (intOf i).toNat)
      case atStart => exact ⟨0, M, none, 0, [], by omega, by first | rfl | rw [hM], rfl, rfl, World.ownsRow_nil _ _ _ _, HO2.out, HC2.out.more (by omega), HW2.out⟩
      case round =>
        clear HO2 HC2 HW2
        obtain ⟨k5, j5, A5, c5, at5, hkj, rfl, rfl, hl5, ho5, ho, hcu, hch⟩ := hrel
        have hsw := hch.size
        have HO5 := Lib.hid ho5
        have HL5 := Lib.hid hl5
        have HO := Lib.hid ho
        have HC := Lib.hid hcu
        have HW := Lib.hid hch
        clear ho5 ho hcu hch hl5
        by_cases hlt5 : 0 < j5
        · go_wp2_with fail
          refine (pick_any u (m + 4 + 24 * (N - j) + 4 * (M - j5)) 256 _ HC.out (by omega) (by omega)).mono ?_
          rintro e w3 ⟨_, rfl, ⟨p, rfl, hp0, hp⟩, hcu, hch⟩
          have hs3 := hch.size
          have HO53 := Lib.hid (own_chP HO5.out hch (by omega))
          have HO3 := Lib.hid (own_chP HO.out hch (by omega))
          have HC3 := Lib.hid hcu
          have HW3 := Lib.hid (HW.out.trans hch)
          clear hcu hch HO5 HO HC HW
          have hp2 : p ≤ 255 := by omega
          clear hp
          go_wp2_with fail
          refine (pick_any u (m + 4 + 24 * (N - j) + 4 * (M - j5) + 2) 4 _ HC3.out (by omega) (by omega)).mono ?_
          rintro e w4 ⟨_, rfl, ⟨d, rfl, hd0, hd⟩, hcu, hch⟩
          have hs4 := hch.size
          have ho54 := own_chP HO53.out hch (by omega)
          have HO4 := Lib.hid (own_chP HO3.out hch (by omega))
          have HC4 := Lib.hid hcu
          have HW4 := Lib.hid (HW3.out.trans hch)
          clear hcu hch HO53 HO3 HC3 HW3
          have hd2 : d ≤ 3 := by omega
          clear hd
          have CP := Lib.hid (l1Put_any w.heap.size A5 k5 c5 at5 (p * 4 - d + 3) w4 ho54 (by omega) (by omega))
          clear ho54
          go_wp2_with fail
          refine CP.out.mono ?_
          rintro e w5 ⟨A6, c6, rfl, ho6, hb6⟩
          have hpl := put_len at5 (p * 4 - d + 3)
          rw [HL5.out] at hpl
          obtain ⟨P, hP⟩ : ∃ P, put at5 (p * 4 - d + 3) = P := ⟨_, rfl⟩
          rw [hP] at ho6 hpl ⊢
          have HO6 := Lib.hid ho6
          have HO5' := Lib.hid (own_below HO4.out hb6 (Nat.le_refl _))
          have HC5 := Lib.hid (show CurAt u (m + 4 + 24 * (N - j) + 4 * (M - (j5 - 1))) w5 from (HC4.out.ch (Ch.of_below hb6) (.inr rfl)).more (by omega))
          have HW5 := Lib.hid (HW4.out.trans (Ch.of_below hb6).zero)
          clear ho6 hb6 HO4 HC4 HW4 CP hP
          go_wp2
          go_roundw
          case rel => exact ⟨P.length, j5 - 1, A6, c6, P, by omega, by go_num, rfl, rfl, HO6.out, HO5'.out, HC5.out, HW5.out⟩
          case measure => simp [intOf]; omega
        · obtain rfl : j5 = 0 := by omega
          go_wp2_with fail
          refine (pick_any u (m + 4 + 24 * (N - j) + 4 * (M - 0)) 8 _ HC.out (by omega) (by omega)).mono ?_
          rintro e w3 ⟨_, rfl, ⟨p, rfl, hp0, hp⟩, hcu, hch⟩
          have hs3 := hch.size
          have ho53 := own_chP HO5.out hch (by omega)
          have ho3 := own_chP HO.out hch (by omega)
          have HC3 := Lib.hid hcu
          have HW3 := Lib.hid (HW.out.trans hch)
          have CA := Lib.hid (sAddOwner_any w3.heap.size A A5 k c k5 c5 l p at5 w3 (Nat.le_refl _) (Rd.of_own ho3) (by omega) (Rd.of_own ho53) (by omega))
          have HO3 := Lib.hid ho3
          clear hcu hch HO5 HO HC HW ho53 ho3
          obtain ⟨K, hK⟩ : ∃ K, okAdd l p at5 = K := ⟨_, rfl⟩
          have HL := Lib.hid (fun (e : K = true) => okAdd_len (hK.trans e))
          rw [hK] at CA
          clear hK
          go_wp2_with fail
          refine CA.out.mono ?_
          rintro e w4 ⟨A7, c7, rfl, hr7, hc7⟩
          have HO4 := Lib.hid (own_below HO3.out hc7.below0 (Nat.le_refl _))
          have HR7 := Lib.hid (own_mono hr7.1 (show w.heap.size ≤ w3.heap.size by omega))
          have HC4 := Lib.hid (show CurAt u (m + 2 + 24 * (N - (j - 1))) w4 from (HC3.out.ch hc7 (.inr rfl)).more (by omega))
          have HW4 := Lib.hid (HW3.out.trans hc7.zero)
          clear hr7 hc7 HO3 HC3 HW3
          cases K with
          | true =>
            have hl7 := HL.out rfl
            go_wp2
            go_roundw
            case rel => exact ⟨_, j - 1, A7, c7, _, by omega, by go_num, hl7, rfl, HR7.out, HC4.out, HW4.out⟩
            case measure => simp [intOf]; omega
          | false =>
            go_wp2
            go_roundw
            case rel => exact ⟨k, j - 1, A, c, l, by omega, by go_num, hk, rfl, HO4.out, HC4.out, HW4.out⟩
            case measure => simp [intOf]; omega
    · obtain rfl : j = 0 := by omega
      by_cases hk0 : k = 0
      · subst hk0
        go_wp2
        go_ret
        exact ⟨_, rfl, ⟨A, c, 0, l, rfl, by omega, HO.out⟩, HC.out.more (by omega), HW.out⟩
      · have hk0' : (0 : Int) < (k : Int) := by omega
        go_wp2_with fail
        refine (one_any u (m + 2 + 24 * (N - 0)) 30 _ HC.out (by omega) (by omega)).mono ?_
        rintro e w5 ⟨_, rfl, ⟨q, rfl⟩, hcu, hch⟩
        have hs5 := hch.size
        have HO5 := Lib.hid (own_chP HO.out hch (by omega))
        have HC5 := Lib.hid hcu
        have HW5 := Lib.hid (HW.out.trans hch)
        clear hcu hch HO HC HW
        cases q with
        | false =>
          go_wp2
          go_ret
          exact ⟨_, rfl, ⟨A, c, k, l, rfl, hk, HO5.out⟩, HC5.out.more (by omega), HW5.out⟩
        | true =>
          go_wp2_with fail
          refine (among_any u (m + 4 + 24 * (N - 0)) w5.heap.size 3 3 [-1, 1008, 1009] _ ((HC5.out.more (by omega)).alloc _) (by omega) (by have := HC5.out.hb; omega) rfl (by omega) (by omega) (fun j x h => lit_cellP h) (by simp)).mono ?_
          rintro e w6 ⟨_, rfl, ⟨x, hx, rfl⟩, hcu, hch⟩
          have ho6 := own_chP (HO5.out.alloc (.cells #[.int .i64 (-1), .int .i64 1008, .int .i64 1009] 3)) hch (by omega)
          have HC6 := Lib.hid hcu
          have HW6 := Lib.hid ((HW5.out.trans (Ch.alloc _ _).zero).trans hch)
          clear hcu hch hx
          obtain ⟨g, cap, e6, hbg, hgl, hnc, _⟩ := own_form ho6 (by omega)
          obtain ⟨rfl, rfl⟩ : A = some ⟨g, 0, none⟩ ∧ c = cap := by simpa using e6
          have hs := (ho6.stored 0 (.int .i64 x)).1
          have hf : w6.frozen? ⟨g, 0, none⟩ = false := ho6.frozenAt 0
          obtain ⟨y, hy⟩ : ∃ y, w6.cell? ⟨g, 0, none⟩ = some y := by
            rw [ho6.cellAt 0 (by omega)]
            exact ⟨_, List.getElem?_eq_getElem (by have := ho6.1; omega)⟩
          have hset : ∃ l2 : List Tok, (smps l).set 0 (.int .i64 x) = smps l2 := by
            cases l with
            | nil => have := ho6.1; simp [smps] at this; omega
            | cons p l => exact ⟨(x, p.2) :: l, rfl⟩
          obtain ⟨l2, hl2⟩ := hset
          rw [hl2] at hs
          have HS := Lib.hid hs
          have hne : g ≠ u.b := by omega
          clear hs ho6 e6 hl2
          go_wp2
          go_ret
          refine ⟨_, rfl, ⟨_, c, k, l2, rfl, hk, HS.out⟩, ?_, ?_⟩
          · exact (HC6.out.more (by omega)).below ((Below.refl _ _).setCell (by simp; omega) _)
          · exact HW6.out.growP w.heap.size ((Below.refl _ _).setCell (by simpa using hbg) _) (Nat.le_refl _)
end Go.Proofs.Ytkpofdfikmcjgaa
