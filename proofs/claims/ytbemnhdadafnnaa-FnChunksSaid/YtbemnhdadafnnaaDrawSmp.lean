/- The generators of samples and of chunks. -/
import Derived.Test.YtbemnhdadafnnaaCurVal
import Derived.Test.YtbemnhdadafnnaaDrawPost0
import Derived.Test.YtbemnhdadafnnaaDecS
import Derived.Test.YtbemnhdadafnnaaEncLaw
namespace Go.Proofs.Ytbemnhdadafnnaa
set_option linter.unusedVariables false
set_option linter.unusedSimpArgs false
open Go.RowKit

/-- Drawn samples, in new memory. -/
def SmpV (base : Nat) (w : World) (v : Value) : Prop := ∃ A c k l, v = .slice A k c ∧ k ≤ 41 ∧ w.ownsRow base 31 2 (.slice A k c) k (smps l)
theorem own_casesS {w : World} {base e size n c : Nat} {A : Option Addr} {xs : List Value} (h : w.ownsRow base e size (.slice A n c) n xs) (hn : 0 < n) : ∃ g, A = some ⟨g, 0, none⟩ := by
  rcases h.2 with ⟨_, rfl⟩ | ⟨g, cap, cur, hv, _⟩
  · omega
  · injection hv with e1 _ e3
    exact ⟨g, e1⟩
theorem smps_setP (l : List (Int × Int)) : ∀ (R : Nat) (x y : Int), R < l.length → ((smps l).set (R * 2) (.int .i64 x)).set (R * 2 + 1) (.int .i64 y) = smps (l.set R (x, y)) := by
  induction l with
  | nil => intro R x y h; simp at h
  | cons p l ih =>
    intro R x y h
    cases R with
    | zero => simp [smps]
    | succ R =>
      have e := ih R x y (by simpa using h)
      have e1 : (R + 1) * 2 = R * 2 + 1 + 1 := by omega
      rw [e1]
      show ((Value.int .i64 p.1 :: .int .i64 p.2 :: smps l).set (R * 2 + 1 + 1) _).set (R * 2 + 1 + 1 + 1) _ = _
      simp only [List.set_cons_succ]
      rw [e]
      rfl
set_option maxRecDepth 100000 in
set_option maxHeartbeats 16000000 in
theorem samples_any (u : CU) (m : Nat) (w : World) (h : CurAt u m w) (hm : m ≤ 549755800000) :
    Calls Try.prog 37 #[.pointer (some ⟨u.b, 0, none⟩)] w (Drew u (m + 200) w (SmpV w.heap.size)) := by
  obtain ⟨i0, hi, hi0, hi1, hi2⟩ := info_parts infoSmp
  have HI := Lib.hid (And.intro hi (And.intro hi0 (And.intro hi1 hi2)))
  clear hi hi0 hi1 hi2
  have hub := h.hb
  have HH := Lib.hid h
  clear h
  go_enter Try.func37, Try.ntmps37
  go_wp2_with fail
  refine (pick_any u m 8 _ HH.out (by omega) (by omega)).mono ?_
  rintro e w1 ⟨_, rfl, ⟨r, rfl, hr0, hr⟩, hcu, hch⟩
  have hs1 := hch.size
  have HC1 := Lib.hid hcu
  have HW1 := Lib.hid hch
  clear hcu hch HH
  obtain ⟨N1, rfl⟩ := Int.eq_ofNat_of_zero_le hr0
  have hN1 : N1 ≤ 7 := by omega
  clear hr0 hr
  go_wp2_with fail
  refine (one_any u (m + 2) 20 _ HC1.out (by omega) (by omega)).mono ?_
  rintro e w2 ⟨_, rfl, ⟨q, rfl⟩, hcu, hch⟩
  have hs2 := hch.size
  have HC2 := Lib.hid hcu
  have HW2 := Lib.hid (HW1.out.trans hch)
  clear hcu hch HC1 HW1
  cases q with
  | true =>
    go_wp2_with fail
    refine (pick_any u (m + 4) 3 _ (HC2.out.more (by omega)) (by omega) (by omega)).mono ?_
    rintro e w3 ⟨_, rfl, ⟨r, rfl, hr0, hr⟩, hcu, hch⟩
    have HC3 := Lib.hid hcu
    have HW3 := Lib.hid (HW2.out.trans hch)
    have hs3 := hch.size
    clear hcu hch HC2 HW2
    obtain ⟨N, hN⟩ : ∃ N : Nat, 39 + r = (N : Int) := ⟨(39 + r).toNat, by omega⟩
    have hN41 : N ≤ 41 := by omega
    go_wp2_with fail
    try rw [hN]
    clear hN hr0 hr
    refine (pick_any u (m + 6) 50 _ HC3.out (by omega) (by omega)).mono ?_
    rintro e w4 ⟨_, rfl, ⟨at0, rfl, hat0, hat1⟩, hcu, hch⟩
    have hs4 := hch.size
    have HC4 := Lib.hid hcu
    have HW4 := Lib.hid (HW3.out.trans hch)
    clear hcu hch HC3 HW3
    have hat2 : at0 ≤ 49 := by omega
    clear hat1
    go_wp2_with fail
    refine (pick_any u (m + 6 + 2) 100 _ HC4.out (by omega) (by omega)).mono ?_
    rintro e w5 ⟨_, rfl, ⟨v0, rfl, hv0, hv1⟩, hcu, hch⟩
    have hs5 := hch.size
    have HC5 := Lib.hid (show CurAt u (m + 10) w5 from hcu.more (by omega))
    have HW5 := Lib.hid (HW4.out.trans hch)
    clear hcu hch HC4 HW4
    have hv2 : v0 ≤ 99 := by omega
    clear hv1
    go_wp2_with fail
    go_loopw [3, 4, 5, 6] (fun v i p q wr => ∃ (k j : Nat) (a b : Int) (A : Option Addr) (c : Nat) (l : List (Int × Int)), k + j = N ∧ i = .int .i64 j ∧ p = .int .i64 a ∧ q = .int .i64 b ∧ 0 ≤ a ∧ a ≤ 49 + 300 * k ∧ 0 - 3 * k ≤ b ∧ b ≤ 99 + 1000 * k ∧ v = .slice A k c ∧ wr.ownsRow w.heap.size 31 2 (.slice A k c) k (smps l) ∧ CurAt u (m + 10 + 4 * k) wr ∧ Ch u.b (u.b + 1) w wr) (fun _ i _ _ _ => (intOf i).toNat)
    case atStart => exact ⟨0, N, at0, v0, none, 0, [], by omega, rfl, rfl, rfl, by omega, by omega, by omega, by omega, rfl, World.ownsRow_nil _ _ _ _, HC5.out, HW5.out⟩
    case round =>
      clear HC5 HW5
      obtain ⟨k, j, a, b, A, c, l, hkj, rfl, rfl, rfl, ha0, ha1, hb0, hb1, rfl, ho, hcu, hch⟩ := hrel
      have hsz := hch.size
      have HO := Lib.hid ho
      have HC := Lib.hid hcu
      have HW := Lib.hid hch
      clear ho hcu hch
      have hkj' : k + j ≤ N := by omega
      have HKJ := Lib.hid hkj
      clear hkj
      by_cases hlt : 0 < j
      · go_wp2_with (at_builtin; refine wpList_append_own _ rfl (.tmp 22) (.tmp 26) 25 rfl w.heap.size 31 i0 (.agg #[.int .i64 0, .int .i64 0]) 2 16 Try.underlying25 HI.out.1 HI.out.2.1 HI.out.2.2.1 HI.out.2.2.2 rfl (by decide) _ _ _ rfl (HO.out.alloc _) ⟨wr.heap.size, 0, none⟩ 1 1 [.int .i64 a, .int .i64 b] rfl rfl ?c1 (by simp [Value.oneCell']) ?c3 ?c4 ?c5 ?_)
        case c1 =>
          intro i q hq
          match i, hq with
          | 0, hq => simp at hq; subst hq; simp [Addr.add]
          | 1, hq => simp at hq; subst hq; simp [Addr.add]
        case c3 => unfold maxLen; omega
        case c4 => omega
        case c5 => simp; omega
        intro v' w6 ho6 hg6 _
        obtain ⟨A6, c6, rfl⟩ := own_slice ho6
        have HO6 := Lib.hid (show w6.ownsRow w.heap.size 31 2 (.slice A6 (k + 1) c6) (k + 1) (smps (l ++ [(a, b)])) by rw [smps_app]; exact ho6)
        have hb6 : Below w.heap.size (wr.alloc (.cells #[.int .i64 a, .int .i64 b] 31)) w6 := (Below.refl _ _).grown hg6 (by simp; omega) (fun k hk => (HO.out.lt k hk).1)
        have HC6 := Lib.hid ((HC.out.alloc (.cells #[.int .i64 a, .int .i64 b] 31)).below (hb6.mono (by omega)))
        have HW6 := Lib.hid ((HW.out.trans (Ch.alloc wr (.cells #[.int .i64 a, .int .i64 b] 31)).zero).growP w.heap.size hb6 (by omega))
        have hs6 := HW6.out.size
        clear ho6 hg6 hb6 HO HC HW
        go_wp2_with fail
        refine (among_any u (m + 10 + 4 * k) w6.heap.size 5 5 [10, 10, 10, 1, 300] _ (HC6.out.alloc _) (by omega) (by have := HC6.out.hb; omega) rfl (by omega) (by omega) (fun j x h => lit_cellP h) (by simp)).mono ?_
        rintro e w7 ⟨_, rfl, ⟨x, hx, rfl⟩, hcu, hch⟩
        have HO7 := Lib.hid (own_chP (HO6.out.alloc (.cells #[.int .i64 10, .int .i64 10, .int .i64 10, .int .i64 1, .int .i64 300] 3)) hch (by omega))
        have HC7 := Lib.hid hcu
        have HW7 := Lib.hid ((HW6.out.trans (Ch.alloc _ _).zero).trans hch)
        have hx0 : 0 ≤ x ∧ x ≤ 300 := by simp at hx; omega
        have hs7 := HW7.out.size
        clear hcu hch hx HO6 HC6 HW6
        go_wp2_with fail
        refine (among_any u (m + 10 + 4 * k + 2) w7.heap.size 6 6 [0, 0, 1, 5, -3, 1000] _ (HC7.out.alloc _) (by omega) (by have := HC7.out.hb; omega) rfl (by omega) (by omega) (fun j x h => lit_cellP h) (by simp)).mono ?_
        rintro e w8 ⟨_, rfl, ⟨y, hy, rfl⟩, hcu, hch⟩
        have HO8 := Lib.hid (own_chP (HO7.out.alloc (.cells #[.int .i64 0, .int .i64 0, .int .i64 1, .int .i64 5, .int .i64 (-3), .int .i64 1000] 3)) hch (by omega))
        have HC8 := Lib.hid (show CurAt u (m + 10 + 4 * (k + 1)) w8 from hcu.more (by omega))
        have HW8 := Lib.hid ((HW7.out.trans (Ch.alloc _ _).zero).trans hch)
        have hy0 : -3 ≤ y ∧ y ≤ 1000 := by simp at hy; omega
        clear hcu hch hy HO7 HC7 HW7
        go_wp2
        go_roundw
        case rel => exact ⟨k + 1, j - 1, a + x, b + y, A6, c6, l ++ [(a, b)], by have := HKJ.out; omega, by go_num, by go_num, by go_num, by omega, by omega, by omega, by omega, rfl, HO8.out, HC8.out, HW8.out⟩
        case measure => simp [intOf]; omega
      · obtain rfl : j = 0 := by omega
        have hkN : k ≤ 41 := by omega
        by_cases hk0 : k = 0
        · subst hk0
          go_wp2
          go_ret
          exact ⟨_, rfl, ⟨A, c, 0, l, rfl, by omega, HO.out⟩, HC.out.more (by omega), HW.out⟩
        · have hk0' : (0 : Int) < (k : Int) := by omega
          obtain ⟨g, rfl⟩ := own_casesS HO.out (by omega)
          go_wp2_with fail
          refine (one_any u (m + 10 + 4 * k) 20 _ HC.out (by omega) (by omega)).mono ?_
          rintro e w6 ⟨_, rfl, ⟨q, rfl⟩, hcu, hch⟩
          have HO6 := Lib.hid (own_chP HO.out hch (by omega))
          have HC6 := Lib.hid hcu
          have HW6 := Lib.hid (HW.out.trans hch)
          clear hcu hch HO HC HW
          cases q with
          | false =>
            go_wp2
            go_ret
            exact ⟨_, rfl, ⟨_, c, k, l, rfl, hkN, HO6.out⟩, HC6.out.more (by omega), HW6.out⟩
          | true =>
            go_wp2_with fail
            refine (pick_any u (m + 12 + 4 * k) k _ (HC6.out.more (by omega)) (by omega) (by omega)).mono ?_
            rintro e w7 ⟨_, rfl, ⟨r, rfl, hr0, hr1⟩, hcu, hch⟩
            obtain ⟨R, rfl⟩ := Int.eq_ofNat_of_zero_le hr0
            have hR : R < k := by omega
            have HO7 := Lib.hid (own_chP HO6.out hch (by omega))
            have HC7 := Lib.hid hcu
            have HW7 := Lib.hid (HW6.out.trans hch)
            have hs7 := HW7.out.size
            clear hcu hch HO6 HC6 HW6 hr0 hr1
            go_wp2_with fail
            refine (among_any u (m + 14 + 4 * k) w7.heap.size 4 4 [-1, 0, 1000000000, 1000000001] _ ((HC7.out.more (by omega)).alloc _) (by omega) (by have := HC7.out.hb; omega) rfl (by omega) (by omega) (fun j x h => lit_cellP h) (by simp)).mono ?_
            rintro e w8 ⟨_, rfl, ⟨x, hx, rfl⟩, hcu, hch⟩
            have HO8 := Lib.hid (own_chP (HO7.out.alloc (.cells #[.int .i64 (-1), .int .i64 0, .int .i64 1000000000, .int .i64 1000000001] 3)) hch (by omega))
            have HC8 := Lib.hid hcu
            have HW8 := Lib.hid ((HW7.out.trans (Ch.alloc _ _).zero).trans hch)
            have hs8 := HW8.out.size
            clear hcu hch hx HO7 HC7 HW7
            go_wp2_with fail
            refine (among_any u (m + 14 + 4 * k + 2) w8.heap.size 3 3 [1000000000, -1000000000, 1000000001] _ (HC8.out.alloc _) (by omega) (by have := HC8.out.hb; omega) rfl (by omega) (by omega) (fun j x h => lit_cellP h) (by simp)).mono ?_
            rintro e w9 ⟨_, rfl, ⟨y, hy, rfl⟩, hcu, hch⟩
            have ho9 := own_chP (HO8.out.alloc (.cells #[.int .i64 1000000000, .int .i64 (-1000000000), .int .i64 1000000001] 3)) hch (by omega)
            have HC9 := Lib.hid hcu
            have HW9 := Lib.hid ((HW8.out.trans (Ch.alloc _ _).zero).trans hch)
            have hs9 := HW9.out.size
            clear hcu hch hy HO8 HC8 HW8
            have hgB : w.heap.size ≤ g := (ho9.lt g rfl).1
            have hll : k ≤ l.length := by have := (Rd.of_own ho9).smp_len; omega
            have s0 := (World.ownsRow.stored ho9 (R * 2) (.int .i64 x)).1
            have s1 := (World.ownsRow.stored s0 (R * 2 + 1) (.int .i64 y)).1
            obtain ⟨y0, hy0⟩ : ∃ y, w9.cell? ⟨g, R * 2, none⟩ = some y := by
              rw [ho9.cellAt (R * 2) (by omega)]
              exact ⟨_, List.getElem?_eq_getElem (by have := ho9.1; omega)⟩
            obtain ⟨y1, hy1⟩ : ∃ y, w9.cell? ⟨g, R * 2 + 1, none⟩ = some y := by
              rw [ho9.cellAt (R * 2 + 1) (by omega)]
              exact ⟨_, List.getElem?_eq_getElem (by have := ho9.1; omega)⟩
            have hf0 : w9.frozen? ⟨g, R * 2, none⟩ = false := ho9.frozenAt _
            have hf1 : w9.frozen? ⟨g, R * 2 + 1, none⟩ = false := ho9.frozenAt _
            have hset : ((smps l).set (R * 2) (.int .i64 x)).set (R * 2 + 1) (.int .i64 y) = smps (l.set R (x, y)) := smps_setP l R x y (by omega)
            rw [hset] at s1
            have HS := Lib.hid s1
            clear s0 s1 ho9 hset
            go_wp2
            go_ret
            refine ⟨_, rfl, ⟨_, c, k, _, rfl, hkN, HS.out⟩, ?_, ?_⟩
            · exact (HC9.out.more (by omega)).below (((Below.refl _ _).setCell (by simp; omega) _).setCell (by simp; omega) _)
            · exact HW9.out.growP w.heap.size (((Below.refl _ _).setCell (by simpa using hgB) _).setCell (by simpa using hgB) _) (Nat.le_refl _)
  | false =>
    have hN41 : N1 ≤ 41 := by omega
    go_wp2_with fail
    refine (pick_any u (m + 2 + 2) 50 _ HC2.out (by omega) (by omega)).mono ?_
    rintro e w4 ⟨_, rfl, ⟨at0, rfl, hat0, hat1⟩, hcu, hch⟩
    have hs4 := hch.size
    have HC4 := Lib.hid hcu
    have HW4 := Lib.hid (HW2.out.trans hch)
    clear hcu hch HC2 HW2
    have hat2 : at0 ≤ 49 := by omega
    clear hat1
    go_wp2_with fail
    refine (pick_any u (m + 2 + 2 + 2) 100 _ HC4.out (by omega) (by omega)).mono ?_
    rintro e w5 ⟨_, rfl, ⟨v0, rfl, hv0, hv1⟩, hcu, hch⟩
    have hs5 := hch.size
    have HC5 := Lib.hid (show CurAt u (m + 10) w5 from hcu.more (by omega))
    have HW5 := Lib.hid (HW4.out.trans hch)
    clear hcu hch HC4 HW4
    have hv2 : v0 ≤ 99 := by omega
    clear hv1
    go_wp2_with fail
    go_loopw [3, 4, 5, 6] (fun v i p q wr => ∃ (k j : Nat) (a b : Int) (A : Option Addr) (c : Nat) (l : List (Int × Int)), k + j = N1 ∧ i = .int .i64 j ∧ p = .int .i64 a ∧ q = .int .i64 b ∧ 0 ≤ a ∧ a ≤ 49 + 300 * k ∧ 0 - 3 * k ≤ b ∧ b ≤ 99 + 1000 * k ∧ v = .slice A k c ∧ wr.ownsRow w.heap.size 31 2 (.slice A k c) k (smps l) ∧ CurAt u (m + 10 + 4 * k) wr ∧ Ch u.b (u.b + 1) w wr) (fun _ i _ _ _ => (intOf i).toNat)
    case atStart => exact ⟨0, N1, at0, v0, none, 0, [], by omega, rfl, rfl, rfl, by omega, by omega, by omega, by omega, rfl, World.ownsRow_nil _ _ _ _, HC5.out, HW5.out⟩
    case round =>
      clear HC5 HW5
      obtain ⟨k, j, a, b, A, c, l, hkj, rfl, rfl, rfl, ha0, ha1, hb0, hb1, rfl, ho, hcu, hch⟩ := hrel
      have hsz := hch.size
      have HO := Lib.hid ho
      have HC := Lib.hid hcu
      have HW := Lib.hid hch
      clear ho hcu hch
      have hkj' : k + j ≤ N1 := by omega
      have HKJ := Lib.hid hkj
      clear hkj
      by_cases hlt : 0 < j
      · go_wp2_with (at_builtin; refine wpList_append_own _ rfl (.tmp 22) (.tmp 26) 25 rfl w.heap.size 31 i0 (.agg #[.int .i64 0, .int .i64 0]) 2 16 Try.underlying25 HI.out.1 HI.out.2.1 HI.out.2.2.1 HI.out.2.2.2 rfl (by decide) _ _ _ rfl (HO.out.alloc _) ⟨wr.heap.size, 0, none⟩ 1 1 [.int .i64 a, .int .i64 b] rfl rfl ?c1 (by simp [Value.oneCell']) ?c3 ?c4 ?c5 ?_)
        case c1 =>
          intro i q hq
          match i, hq with
          | 0, hq => simp at hq; subst hq; simp [Addr.add]
          | 1, hq => simp at hq; subst hq; simp [Addr.add]
        case c3 => unfold maxLen; omega
        case c4 => omega
        case c5 => simp; omega
        intro v' w6 ho6 hg6 _
        obtain ⟨A6, c6, rfl⟩ := own_slice ho6
        have HO6 := Lib.hid (show w6.ownsRow w.heap.size 31 2 (.slice A6 (k + 1) c6) (k + 1) (smps (l ++ [(a, b)])) by rw [smps_app]; exact ho6)
        have hb6 : Below w.heap.size (wr.alloc (.cells #[.int .i64 a, .int .i64 b] 31)) w6 := (Below.refl _ _).grown hg6 (by simp; omega) (fun k hk => (HO.out.lt k hk).1)
        have HC6 := Lib.hid ((HC.out.alloc (.cells #[.int .i64 a, .int .i64 b] 31)).below (hb6.mono (by omega)))
        have HW6 := Lib.hid ((HW.out.trans (Ch.alloc wr (.cells #[.int .i64 a, .int .i64 b] 31)).zero).growP w.heap.size hb6 (by omega))
        have hs6 := HW6.out.size
        clear ho6 hg6 hb6 HO HC HW
        go_wp2_with fail
        refine (among_any u (m + 10 + 4 * k) w6.heap.size 5 5 [10, 10, 10, 1, 300] _ (HC6.out.alloc _) (by omega) (by have := HC6.out.hb; omega) rfl (by omega) (by omega) (fun j x h => lit_cellP h) (by simp)).mono ?_
        rintro e w7 ⟨_, rfl, ⟨x, hx, rfl⟩, hcu, hch⟩
        have HO7 := Lib.hid (own_chP (HO6.out.alloc (.cells #[.int .i64 10, .int .i64 10, .int .i64 10, .int .i64 1, .int .i64 300] 3)) hch (by omega))
        have HC7 := Lib.hid hcu
        have HW7 := Lib.hid ((HW6.out.trans (Ch.alloc _ _).zero).trans hch)
        have hx0 : 0 ≤ x ∧ x ≤ 300 := by simp at hx; omega
        have hs7 := HW7.out.size
        clear hcu hch hx HO6 HC6 HW6
        go_wp2_with fail
        refine (among_any u (m + 10 + 4 * k + 2) w7.heap.size 6 6 [0, 0, 1, 5, -3, 1000] _ (HC7.out.alloc _) (by omega) (by have := HC7.out.hb; omega) rfl (by omega) (by omega) (fun j x h => lit_cellP h) (by simp)).mono ?_
        rintro e w8 ⟨_, rfl, ⟨y, hy, rfl⟩, hcu, hch⟩
        have HO8 := Lib.hid (own_chP (HO7.out.alloc (.cells #[.int .i64 0, .int .i64 0, .int .i64 1, .int .i64 5, .int .i64 (-3), .int .i64 1000] 3)) hch (by omega))
        have HC8 := Lib.hid (show CurAt u (m + 10 + 4 * (k + 1)) w8 from hcu.more (by omega))
        have HW8 := Lib.hid ((HW7.out.trans (Ch.alloc _ _).zero).trans hch)
        have hy0 : -3 ≤ y ∧ y ≤ 1000 := by simp at hy; omega
        clear hcu hch hy HO7 HC7 HW7
        go_wp2
        go_roundw
        case rel => exact ⟨k + 1, j - 1, a + x, b + y, A6, c6, l ++ [(a, b)], by have := HKJ.out; omega, by go_num, by go_num, by go_num, by omega, by omega, by omega, by omega, rfl, HO8.out, HC8.out, HW8.out⟩
        case measure => simp [intOf]; omega
      · obtain rfl : j = 0 := by omega
        have hkN : k ≤ 41 := by omega
        by_cases hk0 : k = 0
        · subst hk0
          go_wp2
          go_ret
          exact ⟨_, rfl, ⟨A, c, 0, l, rfl, by omega, HO.out⟩, HC.out.more (by omega), HW.out⟩
        · have hk0' : (0 : Int) < (k : Int) := by omega
          obtain ⟨g, rfl⟩ := own_casesS HO.out (by omega)
          go_wp2_with fail
          refine (one_any u (m + 10 + 4 * k) 20 _ HC.out (by omega) (by omega)).mono ?_
          rintro e w6 ⟨_, rfl, ⟨q, rfl⟩, hcu, hch⟩
          have HO6 := Lib.hid (own_chP HO.out hch (by omega))
          have HC6 := Lib.hid hcu
          have HW6 := Lib.hid (HW.out.trans hch)
          clear hcu hch HO HC HW
          cases q with
          | false =>
            go_wp2
            go_ret
            exact ⟨_, rfl, ⟨_, c, k, l, rfl, hkN, HO6.out⟩, HC6.out.more (by omega), HW6.out⟩
          | true =>
            go_wp2_with fail
            refine (pick_any u (m + 12 + 4 * k) k _ (HC6.out.more (by omega)) (by omega) (by omega)).mono ?_
            rintro e w7 ⟨_, rfl, ⟨r, rfl, hr0, hr1⟩, hcu, hch⟩
            obtain ⟨R, rfl⟩ := Int.eq_ofNat_of_zero_le hr0
            have hR : R < k := by omega
            have HO7 := Lib.hid (own_chP HO6.out hch (by omega))
            have HC7 := Lib.hid hcu
            have HW7 := Lib.hid (HW6.out.trans hch)
            have hs7 := HW7.out.size
            clear hcu hch HO6 HC6 HW6 hr0 hr1
            go_wp2_with fail
            refine (among_any u (m + 14 + 4 * k) w7.heap.size 4 4 [-1, 0, 1000000000, 1000000001] _ ((HC7.out.more (by omega)).alloc _) (by omega) (by have := HC7.out.hb; omega) rfl (by omega) (by omega) (fun j x h => lit_cellP h) (by simp)).mono ?_
            rintro e w8 ⟨_, rfl, ⟨x, hx, rfl⟩, hcu, hch⟩
            have HO8 := Lib.hid (own_chP (HO7.out.alloc (.cells #[.int .i64 (-1), .int .i64 0, .int .i64 1000000000, .int .i64 1000000001] 3)) hch (by omega))
            have HC8 := Lib.hid hcu
            have HW8 := Lib.hid ((HW7.out.trans (Ch.alloc _ _).zero).trans hch)
            have hs8 := HW8.out.size
            clear hcu hch hx HO7 HC7 HW7
            go_wp2_with fail
            refine (among_any u (m + 14 + 4 * k + 2) w8.heap.size 3 3 [1000000000, -1000000000, 1000000001] _ (HC8.out.alloc _) (by omega) (by have := HC8.out.hb; omega) rfl (by omega) (by omega) (fun j x h => lit_cellP h) (by simp)).mono ?_
            rintro e w9 ⟨_, rfl, ⟨y, hy, rfl⟩, hcu, hch⟩
            have ho9 := own_chP (HO8.out.alloc (.cells #[.int .i64 1000000000, .int .i64 (-1000000000), .int .i64 1000000001] 3)) hch (by omega)
            have HC9 := Lib.hid hcu
            have HW9 := Lib.hid ((HW8.out.trans (Ch.alloc _ _).zero).trans hch)
            have hs9 := HW9.out.size
            clear hcu hch hy HO8 HC8 HW8
            have hgB : w.heap.size ≤ g := (ho9.lt g rfl).1
            have hll : k ≤ l.length := by have := (Rd.of_own ho9).smp_len; omega
            have s0 := (World.ownsRow.stored ho9 (R * 2) (.int .i64 x)).1
            have s1 := (World.ownsRow.stored s0 (R * 2 + 1) (.int .i64 y)).1
            obtain ⟨y0, hy0⟩ : ∃ y, w9.cell? ⟨g, R * 2, none⟩ = some y := by
              rw [ho9.cellAt (R * 2) (by omega)]
              exact ⟨_, List.getElem?_eq_getElem (by have := ho9.1; omega)⟩
            obtain ⟨y1, hy1⟩ : ∃ y, w9.cell? ⟨g, R * 2 + 1, none⟩ = some y := by
              rw [ho9.cellAt (R * 2 + 1) (by omega)]
              exact ⟨_, List.getElem?_eq_getElem (by have := ho9.1; omega)⟩
            have hf0 : w9.frozen? ⟨g, R * 2, none⟩ = false := ho9.frozenAt _
            have hf1 : w9.frozen? ⟨g, R * 2 + 1, none⟩ = false := ho9.frozenAt _
            have hset : ((smps l).set (R * 2) (.int .i64 x)).set (R * 2 + 1) (.int .i64 y) = smps (l.set R (x, y)) := smps_setP l R x y (by omega)
            rw [hset] at s1
            have HS := Lib.hid s1
            clear s0 s1 ho9 hset
            go_wp2
            go_ret
            refine ⟨_, rfl, ⟨_, c, k, _, rfl, hkN, HS.out⟩, ?_, ?_⟩
            · exact (HC9.out.more (by omega)).below (((Below.refl _ _).setCell (by simp; omega) _).setCell (by simp; omega) _)
            · exact HW9.out.growP w.heap.size (((Below.refl _ _).setCell (by simpa using hgB) _).setCell (by simpa using hgB) _) (Nat.le_refl _)
end Go.Proofs.Ytbemnhdadafnnaa
