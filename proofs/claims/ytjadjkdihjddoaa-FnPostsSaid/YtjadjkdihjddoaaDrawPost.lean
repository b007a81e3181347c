/- The generators of posting lists. -/
import Derived.Test.YtjadjkdihjddoaaCur
import Derived.Test.YtjadjkdihjddoaaPutI
import Derived.Test.YtjadjkdihjddoaaRowInts
namespace Go.Proofs.Ytjadjkdihjddoaa
set_option linter.unusedVariables false
set_option linter.unusedSimpArgs false
open Go.RowKit

theorem lit_cellP {w : World} {t j : Nat} {zs : List Int} {x : Int} (h : zs[j]? = some x) : (w.alloc (.cells (ints zs).toArray t)).cell? ⟨w.heap.size, j, none⟩ = some (.int .i64 x) := by
  rw [cell_of_row _ _ _ _ _ _ (heap_alloc_new w _)]
  simp [ints, h]
theorem Ch.growP {a b : Nat} {u v w : World} (B : Nat) (h : Ch a b u v) (k : Below B v w) (hB : u.heap.size ≤ B) : Ch a b u w :=
  ⟨k.os.trans h.os, k.tape.trans h.tape, k.output.trans h.output, Nat.le_trans h.size k.size, fun i hi ho => (k.block i (by omega)).trans (h.block i hi ho)⟩
theorem own_chP {w w' : World} {base e s n a b : Nat} {v : Value} {xs : List Value} (h : w.ownsRow base e s v n xs) (hc : Ch a b w w') (hab : b ≤ base) : w'.ownsRow base e s v n xs := by
  refine ⟨h.1, ?_⟩
  rcases h.2 with h2 | ⟨g, cap, cur, hv, hl, hh, r⟩
  · exact .inl h2
  · have hlt := (h.lt g (by rw [hv]; rfl)).2
    exact .inr ⟨g, cap, cur, hv, hl, (hc.block g hlt (by omega)).trans hh, r⟩
theorem cur_newP {w : World} {A : Option Addr} {n c t : Nat} {l : List UInt8} (h : Rd w w.heap.size 1 A n (bys l)) (hn : n ≤ 1048576) :
    CurAt ⟨w.heap.size, w.heap.size, n, c, A, l⟩ 0 (w.alloc (.cells #[.slice A n c, .int .i64 0, .int .u64 0] t)) :=
  ⟨Nat.le_refl _, by simp, hn, h.below ((Below.refl _ _).alloc (Nat.le_refl _) _), by simp, ⟨0, Nat.le_refl _, by simp⟩, ⟨0, by simp⟩, fun j => by simp⟩
def DrawnP (w : World) (P : World → Value → Prop) (e : Ending) (w' : World) : Prop := ∃ v, e = .returned v ∧ P w' v ∧ Below w.heap.size w w'
theorem new_belowP {w w' : World} {o : Obj} (h : Ch w.heap.size (w.heap.size + 1) (w.alloc o) w') : Below w.heap.size w w' :=
  ((Below.refl _ _).alloc (Nat.le_refl _) o).trans (h.below (by simp) (.inl (Nat.le_refl _)))
/-- A drawn list of numbers, in new memory. -/
def PostV (base : Nat) (w : World) (v : Value) : Prop := ∃ A c k zs, v = .slice A k c ∧ k ≤ 61 ∧ w.ownsRow base 3 1 (.slice A k c) k (ints zs)
set_option maxRecDepth 100000 in
set_option maxHeartbeats 8000000 in
theorem posts_any (u : CU) (m : Nat) (w : World) (h : CurAt u m w) (hm : m ≤ 549755800000) :
    Calls Try.prog 78 #[.pointer (some ⟨u.b, 0, none⟩)] w (Drew u (m + 140) w (PostV w.heap.size)) := by
  obtain ⟨i0, hi, hi0, hi1, hi2⟩ := info_parts infoInt
  have HI := Lib.hid (And.intro hi (And.intro hi0 (And.intro hi1 hi2)))
  clear hi hi0 hi1 hi2
  have hub := h.hb
  have HH := Lib.hid h
  clear h
  go_enter Try.func78, Try.ntmps78
  go_wp2_with fail
  refine (pick_any u m 10 _ HH.out (by omega) (by omega)).mono ?_
  rintro e w1 ⟨_, rfl, ⟨r, rfl, hr0, hr⟩, hcu, hch⟩
  have hs1 := hch.size
  have HC1 := Lib.hid hcu
  have HW1 := Lib.hid hch
  clear hcu hch HH
  go_wp2_with fail
  refine (one_any u (m + 2) 20 _ HC1.out (by omega) (by omega)).mono ?_
  rintro e w2 ⟨_, rfl, ⟨q, rfl⟩, hcu, hch⟩
  have hs2 := hch.size
  have HC := Lib.hid hcu
  have HW := Lib.hid (HW1.out.trans hch)
  clear hcu hch HC1 HW1
  cases q with
  | false =>
    obtain ⟨N, rfl⟩ := Int.eq_ofNat_of_zero_le hr0
    have hN : N ≤ 61 := by omega
    clear hr0 hr
    go_wp2_with fail
    refine (pick_any u (m + 4) 4 _ HC.out (by omega) (by omega)).mono ?_
    rintro e w4 ⟨_, rfl, ⟨at0, rfl, hat0, hat1⟩, hcu, hch⟩
    have hs4 := hch.size
    have HC4 := Lib.hid (show CurAt u (m + 8) w4 from hcu.more (by omega))
    have HW4 := Lib.hid (HW.out.trans hch)
    clear hcu hch HC HW
    go_wp2_with fail
    go_loopw [3, 4, 5] (fun v i q wr => ∃ (k j : Nat) (a : Int) (A : Option Addr) (c : Nat) (zs : List Int), k + j = N ∧ i = .int .i64 j ∧ q = .int .i64 a ∧ 0 ≤ a ∧ a ≤ 4 + 4 * k ∧ v = .slice A k c ∧ wr.ownsRow w.heap.size 3 1 (.slice A k c) k (ints zs) ∧ CurAt u (m + 8 + 2 * k) wr ∧ Ch u.b (u.b + 1) w wr) (fun _ i _ _ => (intOf i).toNat)
    case atStart => exact ⟨0, N, at0, none, 0, [], by omega, rfl, rfl, by omega, by omega, rfl, World.ownsRow_nil _ _ _ _, HC4.out, HW4.out⟩
    case round =>
      clear HC4 HW4
      obtain ⟨k, j, a, A, c, zs, hkj, rfl, rfl, ha0, ha1, rfl, ho, hcu, hch⟩ := hrel
      have hsz := hch.size
      have HO := Lib.hid ho
      have HC := Lib.hid hcu
      have HW := Lib.hid hch
      clear ho hcu hch
      have hkj' : k + j ≤ N := by omega
      have HKJ := Lib.hid hkj
      clear hkj
      by_cases hlt : 0 < j
      · go_wp2_with (at_builtin; refine wpList_append_own _ rfl (.tmp 19) (.tmp 21) 22 rfl w.heap.size 3 i0 (.int .i64 0) 1 8 Try.underlying22 HI.out.1 HI.out.2.1 HI.out.2.2.1 HI.out.2.2.2 rfl (by decide) _ _ _ rfl (HO.out.alloc _) ⟨wr.heap.size, 0, none⟩ 1 1 [.int .i64 a] rfl rfl ?c1 ?c2 ?c3 ?c4 ?c5 ?_)
        case c1 =>
          intro i q hq
          match i, hq with
          | 0, hq => simp at hq; subst hq; simp [Addr.add]
        case c2 => intro q hq; simp at hq; subst hq; rfl
        case c3 => unfold maxLen; omega
        case c4 => omega
        case c5 => simp; omega
        intro v' w5 ho5 hg5 _
        obtain ⟨A5, c5, rfl⟩ := own_slice ho5
        have HO5 := Lib.hid (show w5.ownsRow w.heap.size 3 1 (.slice A5 (k + 1) c5) (k + 1) (ints (zs ++ [a])) by rw [ints_app]; exact ho5)
        have hb5 : Below w.heap.size (wr.alloc (.cells #[.int .i64 a] 3)) w5 := (Below.refl _ _).grown hg5 (by simp; omega) (fun k hk => (HO.out.lt k hk).1)
        have HC5 := Lib.hid ((HC.out.alloc (.cells #[.int .i64 a] 3)).below (hb5.mono (by omega)))
        have HW5 := Lib.hid ((HW.out.trans (Ch.alloc wr (.cells #[.int .i64 a] 3)).zero).growP w.heap.size hb5 (by omega))
        clear ho5 hg5 hb5
        go_wp2_with fail
        refine (pick_any u (m + 8 + 2 * k) 4 _ HC5.out (by omega) (by omega)).mono ?_
        rintro e w6 ⟨_, rfl, ⟨d, rfl, hd0, hd1⟩, hcu, hch⟩
        have HO6 := Lib.hid (own_chP HO5.out hch (by omega))
        have HC6 := Lib.hid (show CurAt u (m + 8 + 2 * (k + 1)) w6 from hcu.more (by omega))
        have HW6 := Lib.hid (HW5.out.trans hch)
        clear hcu hch HO HC HW
        have hd2 : d ≤ 3 := by omega
        clear hd1
        go_wp2
        go_roundw
        case rel => exact ⟨k + 1, j - 1, a + (1 + d), A5, c5, zs ++ [a], by have := HKJ.out; omega, by go_num, by go_num, by omega, by omega, rfl, HO6.out, HC6.out, HW6.out⟩
        case measure => simp [intOf]; omega
      · obtain rfl : j = 0 := by omega
        have hkN : k ≤ 61 := by omega
        by_cases hk0 : k = 0
        · subst hk0
          go_wp2
          go_ret
          exact ⟨_, rfl, ⟨A, c, 0, zs, rfl, by omega, HO.out⟩, HC.out.more (by omega), HW.out⟩
        · have hk0' : (0 : Int) < (k : Int) := by omega
          go_wp2_with fail
          refine (one_any u (m + 8 + 2 * k) 30 _ HC.out (by omega) (by omega)).mono ?_
          rintro e w5 ⟨_, rfl, ⟨r, rfl⟩, hcu, hch⟩
          have hs5 := hch.size
          have HO5 := Lib.hid (own_chP HO.out hch (by omega))
          have HC5 := Lib.hid hcu
          have HW5 := Lib.hid (HW.out.trans hch)
          clear hcu hch HO HC HW
          cases r with
          | false =>
            go_wp2
            go_ret
            exact ⟨_, rfl, ⟨A, c, k, zs, rfl, by omega, HO5.out⟩, HC5.out.more (by omega), HW5.out⟩
          | true =>
            go_wp2_with fail
            refine (among_any u (m + 10 + 2 * k) w5.heap.size 3 3 [-1, 9999, 10000] _ ((HC5.out.more (by omega)).alloc _) (by omega) (by have := HC5.out.hb; omega) rfl (by omega) (by omega) (fun j x h => lit_cellP h) (by simp)).mono ?_
            rintro e w6 ⟨_, rfl, ⟨x, hx, rfl⟩, hcu, hch⟩
            have ho6 := own_chP (HO5.out.alloc (.cells #[.int .i64 (-1), .int .i64 9999, .int .i64 10000] 3)) hch (by omega)
            have HC6 := Lib.hid hcu
            have HW6 := Lib.hid ((HW5.out.trans (Ch.alloc _ _).zero).trans hch)
            clear hcu hch hx
            obtain ⟨g, cap, e6, hbg, hgl, hnc, _⟩ := own_form ho6 (by omega)
            obtain ⟨rfl, rfl⟩ : A = some ⟨g, 0, none⟩ ∧ c = cap := by simpa using e6
            have hs := ho6.stored 0 (.int .i64 x)
            have hf : w6.frozen? ⟨g, 0, none⟩ = false := ho6.frozenAt 0
            obtain ⟨y, hy⟩ : ∃ y, w6.cell? ⟨g, 0, none⟩ = some y := by
              rw [ho6.cellAt 0 (by omega)]
              exact ⟨_, List.getElem?_eq_getElem (by have := ho6.1; omega)⟩
            have hset : (ints zs).set 0 (.int .i64 x) = ints (zs.set 0 x) := by simp [ints, List.map_set]
            rw [hset] at hs
            have HS := Lib.hid hs.1
            have hne : g ≠ u.b := by omega
            clear hs ho6 e6 hset
            go_wp2
            go_ret
            refine ⟨_, rfl, ⟨_, c, k, zs.set 0 x, rfl, by omega, HS.out⟩, ?_, ?_⟩
            · exact (HC6.out.more (by omega)).below ((Below.refl _ _).setCell (by simp; omega) _)
            · exact HW6.out.growP w.heap.size ((Below.refl _ _).setCell (by simpa using hbg) _) (Nat.le_refl _)
  | true =>
    go_wp2_with fail
    refine (pick_any u (m + 4) 3 _ HC.out (by omega) (by omega)).mono ?_
    rintro e w3 ⟨_, rfl, ⟨r3, rfl, hr30, hr31⟩, hcu, hch⟩
    have hs3 := hch.size
    have HC3 := Lib.hid hcu
    have HW3 := Lib.hid (HW.out.trans hch)
    clear hcu hch HC HW
    have HC := Lib.hid HC3.out
    have HW := Lib.hid HW3.out
    obtain ⟨N, hN0⟩ : ∃ N : Nat, 59 + r3 = (N : Int) := ⟨(59 + r3).toNat, by omega⟩
    have hN : N ≤ 61 := by omega
    clear hr30 hr31 hr0 hr HC3 HW3
    go_wp2_with fail
    refine (pick_any u (m + 6) 4 _ HC.out (by omega) (by omega)).mono ?_
    rintro e w4 ⟨_, rfl, ⟨at0, rfl, hat0, hat1⟩, hcu, hch⟩
    have hs4 := hch.size
    have HC4 := Lib.hid (show CurAt u (m + 8) w4 from hcu.more (by omega))
    have HW4 := Lib.hid (HW.out.trans hch)
    clear hcu hch HC HW
    go_wp2_with fail
    go_loopw [3, 4, 5] (fun v i q wr => ∃ (k j : Nat) (a : Int) (A : Option Addr) (c : Nat) (zs : List Int), k + j = N ∧ i = .int .i64 j ∧ q = .int .i64 a ∧ 0 ≤ a ∧ a ≤ 4 + 4 * k ∧ v = .slice A k c ∧ wr.ownsRow w.heap.size 3 1 (.slice A k c) k (ints zs) ∧ CurAt u (m + 8 + 2 * k) wr ∧ Ch u.b (u.b + 1) w wr) (fun _ i _ _ => (intOf i).toNat)
    case atStart => exact ⟨0, N, at0, none, 0, [], by omega, rfl, rfl, by omega, by omega, rfl, World.ownsRow_nil _ _ _ _, HC4.out, HW4.out⟩
    case round =>
      clear HC4 HW4
      obtain ⟨k, j, a, A, c, zs, hkj, rfl, rfl, ha0, ha1, rfl, ho, hcu, hch⟩ := hrel
      have hsz := hch.size
      have HO := Lib.hid ho
      have HC := Lib.hid hcu
      have HW := Lib.hid hch
      clear ho hcu hch
      have hkj' : k + j ≤ N := by omega
      have HKJ := Lib.hid hkj
      clear hkj
      by_cases hlt : 0 < j
      · go_wp2_with (at_builtin; refine wpList_append_own _ rfl (.tmp 19) (.tmp 21) 22 rfl w.heap.size 3 i0 (.int .i64 0) 1 8 Try.underlying22 HI.out.1 HI.out.2.1 HI.out.2.2.1 HI.out.2.2.2 rfl (by decide) _ _ _ rfl (HO.out.alloc _) ⟨wr.heap.size, 0, none⟩ 1 1 [.int .i64 a] rfl rfl ?c1 ?c2 ?c3 ?c4 ?c5 ?_)
        case c1 =>
          intro i q hq
          match i, hq with
          | 0, hq => simp at hq; subst hq; simp [Addr.add]
        case c2 => intro q hq; simp at hq; subst hq; rfl
        case c3 => unfold maxLen; omega
        case c4 => omega
        case c5 => simp; omega
        intro v' w5 ho5 hg5 _
        obtain ⟨A5, c5, rfl⟩ := own_slice ho5
        have HO5 := Lib.hid (show w5.ownsRow w.heap.size 3 1 (.slice A5 (k + 1) c5) (k + 1) (ints (zs ++ [a])) by rw [ints_app]; exact ho5)
        have hb5 : Below w.heap.size (wr.alloc (.cells #[.int .i64 a] 3)) w5 := (Below.refl _ _).grown hg5 (by simp; omega) (fun k hk => (HO.out.lt k hk).1)
        have HC5 := Lib.hid ((HC.out.alloc (.cells #[.int .i64 a] 3)).below (hb5.mono (by omega)))
        have HW5 := Lib.hid ((HW.out.trans (Ch.alloc wr (.cells #[.int .i64 a] 3)).zero).growP w.heap.size hb5 (by omega))
        clear ho5 hg5 hb5
        go_wp2_with fail
        refine (pick_any u (m + 8 + 2 * k) 4 _ HC5.out (by omega) (by omega)).mono ?_
        rintro e w6 ⟨_, rfl, ⟨d, rfl, hd0, hd1⟩, hcu, hch⟩
        have HO6 := Lib.hid (own_chP HO5.out hch (by omega))
        have HC6 := Lib.hid (show CurAt u (m + 8 + 2 * (k + 1)) w6 from hcu.more (by omega))
        have HW6 := Lib.hid (HW5.out.trans hch)
        clear hcu hch HO HC HW
        have hd2 : d ≤ 3 := by omega
        clear hd1
        go_wp2
        go_roundw
        case rel => exact ⟨k + 1, j - 1, a + (1 + d), A5, c5, zs ++ [a], by have := HKJ.out; omega, by go_num, by go_num, by omega, by omega, rfl, HO6.out, HC6.out, HW6.out⟩
        case measure => simp [intOf]; omega
      · obtain rfl : j = 0 := by omega
        have hkN : k ≤ 61 := by omega
        by_cases hk0 : k = 0
        · subst hk0
          go_wp2
          go_ret
          exact ⟨_, rfl, ⟨A, c, 0, zs, rfl, by omega, HO.out⟩, HC.out.more (by omega), HW.out⟩
        · have hk0' : (0 : Int) < (k : Int) := by omega
          go_wp2_with fail
          refine (one_any u (m + 8 + 2 * k) 30 _ HC.out (by omega) (by omega)).mono ?_
          rintro e w5 ⟨_, rfl, ⟨r, rfl⟩, hcu, hch⟩
          have hs5 := hch.size
          have HO5 := Lib.hid (own_chP HO.out hch (by omega))
          have HC5 := Lib.hid hcu
          have HW5 := Lib.hid (HW.out.trans hch)
          clear hcu hch HO HC HW
          cases r with
          | false =>
            go_wp2
            go_ret
            exact ⟨_, rfl, ⟨A, c, k, zs, rfl, by omega, HO5.out⟩, HC5.out.more (by omega), HW5.out⟩
          | true =>
            go_wp2_with fail
            refine (among_any u (m + 10 + 2 * k) w5.heap.size 3 3 [-1, 9999, 10000] _ ((HC5.out.more (by omega)).alloc _) (by omega) (by have := HC5.out.hb; omega) rfl (by omega) (by omega) (fun j x h => lit_cellP h) (by simp)).mono ?_
            rintro e w6 ⟨_, rfl, ⟨x, hx, rfl⟩, hcu, hch⟩
            have ho6 := own_chP (HO5.out.alloc (.cells #[.int .i64 (-1), .int .i64 9999, .int .i64 10000] 3)) hch (by omega)
            have HC6 := Lib.hid hcu
            have HW6 := Lib.hid ((HW5.out.trans (Ch.alloc _ _).zero).trans hch)
            clear hcu hch hx
            obtain ⟨g, cap, e6, hbg, hgl, hnc, _⟩ := own_form ho6 (by omega)
            obtain ⟨rfl, rfl⟩ : A = some ⟨g, 0, none⟩ ∧ c = cap := by simpa using e6
            have hs := ho6.stored 0 (.int .i64 x)
            have hf : w6.frozen? ⟨g, 0, none⟩ = false := ho6.frozenAt 0
            obtain ⟨y, hy⟩ : ∃ y, w6.cell? ⟨g, 0, none⟩ = some y := by
              rw [ho6.cellAt 0 (by omega)]
              exact ⟨_, List.getElem?_eq_getElem (by have := ho6.1; omega)⟩
            have hset : (ints zs).set 0 (.int .i64 x) = ints (zs.set 0 x) := by simp [ints, List.map_set]
            rw [hset] at hs
            have HS := Lib.hid hs.1
            have hne : g ≠ u.b := by omega
            clear hs ho6 e6 hset
            go_wp2
            go_ret
            refine ⟨_, rfl, ⟨_, c, k, zs.set 0 x, rfl, by omega, HS.out⟩, ?_, ?_⟩
            · exact (HC6.out.more (by omega)).below ((Below.refl _ _).setCell (by simp; omega) _)
            · exact HW6.out.growP w.heap.size ((Below.refl _ _).setCell (by simpa using hbg) _) (Nat.le_refl _)
end Go.Proofs.Ytjadjkdihjddoaa
