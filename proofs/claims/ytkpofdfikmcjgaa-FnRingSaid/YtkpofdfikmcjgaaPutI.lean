/- The reference's putting of a number to its place, on a row of the call's own. -/
import Derived.Test.YtkpofdfikmcjgaaPostPlain
import Derived.Test.YtkpofdfikmcjgaaAppR
import Derived.Test.YtkpofdfikmcjgaaRowInts
namespace Go.Proofs.Ytkpofdfikmcjgaa
set_option linter.unusedVariables false
set_option linter.unusedSimpArgs false
open Go.RowKit

theorem own_capI {w : World} {base e size n c : Nat} {A : Option Addr} {xs : List Value} (h : w.ownsRow base e size (.slice A n c) n xs) : n ≤ c := by
  rcases h.2 with ⟨h1, rfl⟩ | ⟨g, cap, cur, hv, _, _, hn, _⟩
  · exact Nat.zero_le _
  · injection hv with _ _ e
    omega
theorem own_casesI {w : World} {base e size n c : Nat} {A : Option Addr} {xs : List Value} (h : w.ownsRow base e size (.slice A n c) n xs) : (A = none ∧ n = 0 ∧ c = 0) ∨ ∃ g, A = some ⟨g, 0, none⟩ := by
  rcases h.2 with ⟨h1, rfl⟩ | ⟨g, cap, cur, hv, _⟩
  · injection h1 with e1 _ e3
    exact .inl ⟨e1, rfl, e3⟩
  · injection hv with e1 _ e3
    exact .inr ⟨g, e1⟩
theorem ints_take (l : List Int) (k : Nat) : (ints l).take k = ints (l.take k) := by simp [ints, List.map_take]
theorem ints_drop (l : List Int) (k : Nat) : (ints l).drop k = ints (l.drop k) := by simp [ints, List.map_drop]
theorem put_here {l : List Int} {n : Int} {k : Nat} (hk : k ≤ l.length) (h1 : ∀ j y, j < k → l[j]? = some y → y < n) (h2 : l[k]? = some n) : put l n = l := by
  rw [put_at l n k hk h1 (fun x hx => by rw [h2] at hx; injection hx with hx; omega), if_pos h2]
theorem put_new {l : List Int} {n : Int} {k : Nat} (hk : k ≤ l.length) (h1 : ∀ j y, j < k → l[j]? = some y → y < n) (h2 : ∀ x, l[k]? = some x → n < x) : put l n = l.take k ++ [n] ++ l.drop k := by
  rw [put_at l n k hk h1 (fun x hx => by have := h2 x hx; omega), if_neg (fun e => by have := h2 n e; omega), List.append_assoc]; rfl
/-- What such a function hands back: a row in new memory. -/
def OwnV (base : Nat) (w : World) (zs : List Int) (e : Ending) (w' : World) : Prop :=
  ∃ A c, e = .returned (.slice A zs.length c) ∧ w'.ownsRow base 3 1 (.slice A zs.length c) zs.length (ints zs) ∧ Below w.heap.size w w'
set_option maxRecDepth 100000 in
set_option maxHeartbeats 8000000 in
theorem l1Put_any (base : Nat) (A : Option Addr) (n c : Nat) (l : List Int) (x : Int) (w : World) (ho : w.ownsRow base 3 1 (.slice A n c) n (ints l)) (hb : base ≤ w.heap.size) (hn : n ≤ 1000000) :
    Calls Try.prog 77 #[.slice A n c, .int .i64 x] w (OwnV base w (put l x)) := by
  obtain ⟨i0, hi, hi0, hi1, hi2⟩ := info_parts infoInt
  have HI := Lib.hid (And.intro hi (And.intro hi0 (And.intro hi1 hi2)))
  clear hi hi0 hi1 hi2
  have hcap := own_capI ho
  have hlen := (Rd.of_own ho).int_len
  have HL := Lib.hid hlen
  have HO := Lib.hid ho
  clear ho hlen
  go_enter Try.func77, Try.ntmps77
  go_wp2
  go_loop [5] (fun q => ∃ k : Nat, k ≤ n ∧ q = .int .i64 k ∧ (∀ j y, j < k → l[j]? = some y → y < x)) (fun q => n - (intOf q).toNat)
  case atStart => exact ⟨0, Nat.zero_le _, rfl, fun i p h => absurd h (by omega)⟩
  case round =>
    obtain ⟨k, hk, rfl, hkl⟩ := hrel
    have HJ := Lib.hid hkl
    clear hkl
    by_cases hlt : k < n
    · obtain ⟨b2, off2, y, rfl, hb2, hy, hc0⟩ := (Rd.of_own HO.out).int_at hlt
      have HY := Lib.hid hy
      clear hy
      by_cases hyx : y < x
      · go_wp2
        go_round
        case rel => exact ⟨k + 1, by omega, by go_num, fun i p hi hp => by
                            rcases (show i < k ∨ i = k by omega) with h | rfl
                            · exact HJ.out i p h hp
                            · rw [HY.out] at hp; injection hp with hp; subst hp; exact hyx⟩
        case measure => simp [intOf]; omega
      · by_cases hyx2 : y = x
        · subst hyx2
          have HE := Lib.hid (put_here (by rw [HL.out]; exact hk) HJ.out HY.out)
          go_wp2
          go_ret
          rw [HE.out]
          have e := HL.out
          subst e
          exact ⟨_, _, rfl, HO.out, Below.refl _ _⟩
        · have HE := Lib.hid (put_new (n := x) (by rw [HL.out]; exact hk) HJ.out (fun z hz => by rw [HY.out] at hz; injection hz with hz; omega))
          have hcz : ¬ c = k := by omega
          clear HY
          have hsd := (Rd.of_own HO.out).cut (k := k) (cap := c) (by omega) hcap
          simp only [hcz, if_true, if_false, Option.map_some, Option.map_none, Addr.add_lit, Nat.mul_one] at hsd
          have HSD := Lib.hid hsd
          clear hsd
          have hsp := (Rd.of_own HO.out).pre (k := k) (by omega)
          simp only [Nat.mul_one] at hsp
          have HSP := Lib.hid hsp
          clear hsp
          go_wp2_with (at_builtin; refine wpList_append_rd rfl (.tmp 34) (.tmp 37) 40 rfl w.heap.size 3 i0 (.int .i64 0) 1 8 Try.underlying40 HI.out.1 HI.out.2.1 HI.out.2.2.1 HI.out.2.2.2 rfl (by decide) _ 0 [] rfl (World.ownsRow_nil _ _ _ _) _ k _ w.heap.size _ rfl HSP.out ?c1 ?c2 (by omega) (Nat.le_refl _) ?_)
          case c1 => rw [ints_take]; exact ints_one _
          case c2 => unfold maxLen; omega
          intro v1 w4 ho4 hg4
          have HB4 := Lib.hid ((Below.refl w.heap.size w).grown hg4 (Nat.le_refl _) (fun k hk => by simp [Value.ownBlock] at hk))
          obtain ⟨A5, c5, rfl⟩ := own_slice ho4
          have HO4 := Lib.hid (show w4.ownsRow w.heap.size 3 1 (.slice A5 k c5) k (ints (l.take k)) by rw [← ints_take]; simpa using ho4)
          have hs4 := HB4.out.size
          clear ho4 hg4 HSP
          go_wp2_with (at_builtin; refine wpList_append_own _ rfl (.tmp 39) (.tmp 41) 40 rfl w.heap.size 3 i0 (.int .i64 0) 1 8 Try.underlying40 HI.out.1 HI.out.2.1 HI.out.2.2.1 HI.out.2.2.2 rfl (by decide) _ k _ rfl (HO4.out.alloc _) ⟨w4.heap.size, 0, none⟩ 1 1 [.int .i64 x] rfl rfl ?d1 (by simp [Value.oneCell']) ?d3 ?d4 ?d5 ?_)
          case d1 =>
            intro i u hj
            match i, hj with
            | 0, hj => simp at hj; subst hj; simp [Addr.add]
          case d3 => unfold maxLen; omega
          case d4 => omega
          case d5 => simp; omega
          intro v2 w5 ho5 hg5 _
          have HB5 := Lib.hid ((HB4.out.alloc hs4 (.cells #[.int .i64 x] 3)).grown hg5 (by simp; omega) (fun k hk => (HO4.out.lt k hk).1))
          obtain ⟨A6, c6, rfl⟩ := own_slice ho5
          have HO5 := Lib.hid (show w5.ownsRow w.heap.size 3 1 (.slice A6 (k + 1) c6) (k + 1) (ints (l.take k ++ [x])) by rw [ints_app]; exact ho5)
          have hs5 := HB5.out.size
          clear ho5 hg5 HO4 HB4
          go_wp2_with (at_builtin; refine wpList_append_rd rfl (.tmp 43) (.tmp 46) 40 rfl w.heap.size 3 i0 (.int .i64 0) 1 8 Try.underlying40 HI.out.1 HI.out.2.1 HI.out.2.2.1 HI.out.2.2.2 rfl (by decide) _ (k + 1) _ rfl HO5.out _ (n - k) _ w.heap.size ((ints l).drop k) rfl ?e0 ?e1 ?e2 (by omega) hs5 ?_)
          case e0 => first | exact HSD.out.below HB5.out | simpa using HSD.out.below HB5.out
          case e1 => rw [ints_drop]; exact ints_one _
          case e2 => unfold maxLen; omega
          intro v3 w6 ho6 hg6
          have HB6 := Lib.hid (HB5.out.grown hg6 hs5 (fun k hk => (HO5.out.lt k hk).1))
          obtain ⟨A7, c7, rfl⟩ := own_slice ho6
          have HO6 := Lib.hid (show w6.ownsRow base 3 1 (.slice A7 (k + 1 + (n - k)) c7) (k + 1 + (n - k)) (ints (l.take k ++ [x] ++ l.drop k)) by
            rw [ints_app (l.take k ++ [x]), ← ints_drop]
            exact own_mono ho6 hb)
          clear ho6 hg6 HO5 HB5 HSD
          go_wp2
          go_ret
          have hnn : (put l x).length = k + 1 + (n - k) := by rw [HE.out]; simp; have := HL.out; omega
          refine ⟨A7, c7, by rw [hnn]; rfl, ?_, HB6.out⟩
          rw [hnn, HE.out]
          exact HO6.out
    · have HE := Lib.hid (put_new (n := x) (k := k) (by rw [HL.out]; exact hk) HJ.out (fun z hz => by rw [List.getElem?_eq_none (by rw [HL.out]; omega)] at hz; cases hz))
      rcases own_casesI HO.out with ⟨rfl, hN0, hc40⟩ | ⟨g, rfl⟩
      · have hcz : c = k := by omega
        clear hN0 hc40
        have hsd := (Rd.of_own HO.out).cut (k := k) (cap := c) (by omega) hcap
        simp only [hcz, if_true, if_false, Option.map_some, Option.map_none, Addr.add_lit, Nat.mul_one] at hsd
        have HSD := Lib.hid hsd
        clear hsd
        have hsp := (Rd.of_own HO.out).pre (k := k) (by omega)
        simp only [Nat.mul_one] at hsp
        have HSP := Lib.hid hsp
        clear hsp
        go_wp2_with (at_builtin; refine wpList_append_rd rfl (.tmp 34) (.tmp 37) 40 rfl w.heap.size 3 i0 (.int .i64 0) 1 8 Try.underlying40 HI.out.1 HI.out.2.1 HI.out.2.2.1 HI.out.2.2.2 rfl (by decide) _ 0 [] rfl (World.ownsRow_nil _ _ _ _) _ k _ w.heap.size _ rfl HSP.out ?c1 ?c2 (by omega) (Nat.le_refl _) ?_)
        case c1 => rw [ints_take]; exact ints_one _
        case c2 => unfold maxLen; omega
        intro v1 w4 ho4 hg4
        have HB4 := Lib.hid ((Below.refl w.heap.size w).grown hg4 (Nat.le_refl _) (fun k hk => by simp [Value.ownBlock] at hk))
        obtain ⟨A5, c5, rfl⟩ := own_slice ho4
        have HO4 := Lib.hid (show w4.ownsRow w.heap.size 3 1 (.slice A5 k c5) k (ints (l.take k)) by rw [← ints_take]; simpa using ho4)
        have hs4 := HB4.out.size
        clear ho4 hg4 HSP
        go_wp2_with (at_builtin; refine wpList_append_own _ rfl (.tmp 39) (.tmp 41) 40 rfl w.heap.size 3 i0 (.int .i64 0) 1 8 Try.underlying40 HI.out.1 HI.out.2.1 HI.out.2.2.1 HI.out.2.2.2 rfl (by decide) _ k _ rfl (HO4.out.alloc _) ⟨w4.heap.size, 0, none⟩ 1 1 [.int .i64 x] rfl rfl ?d1 (by simp [Value.oneCell']) ?d3 ?d4 ?d5 ?_)
        case d1 =>
          intro i u hj
          match i, hj with
          | 0, hj => simp at hj; subst hj; simp [Addr.add]
        case d3 => unfold maxLen; omega
        case d4 => omega
        case d5 => simp; omega
        intro v2 w5 ho5 hg5 _
        have HB5 := Lib.hid ((HB4.out.alloc hs4 (.cells #[.int .i64 x] 3)).grown hg5 (by simp; omega) (fun k hk => (HO4.out.lt k hk).1))
        obtain ⟨A6, c6, rfl⟩ := own_slice ho5
        have HO5 := Lib.hid (show w5.ownsRow w.heap.size 3 1 (.slice A6 (k + 1) c6) (k + 1) (ints (l.take k ++ [x])) by rw [ints_app]; exact ho5)
        have hs5 := HB5.out.size
        clear ho5 hg5 HO4 HB4
        go_wp2_with (at_builtin; refine wpList_append_rd rfl (.tmp 43) (.tmp 46) 40 rfl w.heap.size 3 i0 (.int .i64 0) 1 8 Try.underlying40 HI.out.1 HI.out.2.1 HI.out.2.2.1 HI.out.2.2.2 rfl (by decide) _ (k + 1) _ rfl HO5.out _ (n - k) _ w.heap.size ((ints l).drop k) rfl ?e0 ?e1 ?e2 (by omega) hs5 ?_)
        case e0 => first | exact HSD.out.below HB5.out | simpa using HSD.out.below HB5.out
        case e1 => rw [ints_drop]; exact ints_one _
        case e2 => unfold maxLen; omega
        intro v3 w6 ho6 hg6
        have HB6 := Lib.hid (HB5.out.grown hg6 hs5 (fun k hk => (HO5.out.lt k hk).1))
        obtain ⟨A7, c7, rfl⟩ := own_slice ho6
        have HO6 := Lib.hid (show w6.ownsRow base 3 1 (.slice A7 (k + 1 + (n - k)) c7) (k + 1 + (n - k)) (ints (l.take k ++ [x] ++ l.drop k)) by
          rw [ints_app (l.take k ++ [x]), ← ints_drop]
          exact own_mono ho6 hb)
        clear ho6 hg6 HO5 HB5 HSD
        go_wp2
        go_ret
        have hnn : (put l x).length = k + 1 + (n - k) := by rw [HE.out]; simp; have := HL.out; omega
        refine ⟨A7, c7, by rw [hnn]; rfl, ?_, HB6.out⟩
        rw [hnn, HE.out]
        exact HO6.out
      · by_cases hcz : c = k
        · skip
          have hsd := (Rd.of_own HO.out).cut (k := k) (cap := c) (by omega) hcap
          simp only [hcz, if_true, if_false, Option.map_some, Option.map_none, Addr.add_lit, Nat.mul_one] at hsd
          have HSD := Lib.hid hsd
          clear hsd
          have hsp := (Rd.of_own HO.out).pre (k := k) (by omega)
          simp only [Nat.mul_one] at hsp
          have HSP := Lib.hid hsp
          clear hsp
          go_wp2_with (at_builtin; refine wpList_append_rd rfl (.tmp 34) (.tmp 37) 40 rfl w.heap.size 3 i0 (.int .i64 0) 1 8 Try.underlying40 HI.out.1 HI.out.2.1 HI.out.2.2.1 HI.out.2.2.2 rfl (by decide) _ 0 [] rfl (World.ownsRow_nil _ _ _ _) _ k _ w.heap.size _ rfl HSP.out ?c1 ?c2 (by omega) (Nat.le_refl _) ?_)
          case c1 => rw [ints_take]; exact ints_one _
          case c2 => unfold maxLen; omega
          intro v1 w4 ho4 hg4
          have HB4 := Lib.hid ((Below.refl w.heap.size w).grown hg4 (Nat.le_refl _) (fun k hk => by simp [Value.ownBlock] at hk))
          obtain ⟨A5, c5, rfl⟩ := own_slice ho4
          have HO4 := Lib.hid (show w4.ownsRow w.heap.size 3 1 (.slice A5 k c5) k (ints (l.take k)) by rw [← ints_take]; simpa using ho4)
          have hs4 := HB4.out.size
          clear ho4 hg4 HSP
          go_wp2_with (at_builtin; refine wpList_append_own _ rfl (.tmp 39) (.tmp 41) 40 rfl w.heap.size 3 i0 (.int .i64 0) 1 8 Try.underlying40 HI.out.1 HI.out.2.1 HI.out.2.2.1 HI.out.2.2.2 rfl (by decide) _ k _ rfl (HO4.out.alloc _) ⟨w4.heap.size, 0, none⟩ 1 1 [.int .i64 x] rfl rfl ?d1 (by simp [Value.oneCell']) ?d3 ?d4 ?d5 ?_)
          case d1 =>
            intro i u hj
            match i, hj with
            | 0, hj => simp at hj; subst hj; simp [Addr.add]
          case d3 => unfold maxLen; omega
          case d4 => omega
          case d5 => simp; omega
          intro v2 w5 ho5 hg5 _
          have HB5 := Lib.hid ((HB4.out.alloc hs4 (.cells #[.int .i64 x] 3)).grown hg5 (by simp; omega) (fun k hk => (HO4.out.lt k hk).1))
          obtain ⟨A6, c6, rfl⟩ := own_slice ho5
          have HO5 := Lib.hid (show w5.ownsRow w.heap.size 3 1 (.slice A6 (k + 1) c6) (k + 1) (ints (l.take k ++ [x])) by rw [ints_app]; exact ho5)
          have hs5 := HB5.out.size
          clear ho5 hg5 HO4 HB4
          go_wp2_with (at_builtin; refine wpList_append_rd rfl (.tmp 43) (.tmp 46) 40 rfl w.heap.size 3 i0 (.int .i64 0) 1 8 Try.underlying40 HI.out.1 HI.out.2.1 HI.out.2.2.1 HI.out.2.2.2 rfl (by decide) _ (k + 1) _ rfl HO5.out _ (n - k) _ w.heap.size ((ints l).drop k) rfl ?e0 ?e1 ?e2 (by omega) hs5 ?_)
          case e0 => first | exact HSD.out.below HB5.out | simpa using HSD.out.below HB5.out
          case e1 => rw [ints_drop]; exact ints_one _
          case e2 => unfold maxLen; omega
          intro v3 w6 ho6 hg6
          have HB6 := Lib.hid (HB5.out.grown hg6 hs5 (fun k hk => (HO5.out.lt k hk).1))
          obtain ⟨A7, c7, rfl⟩ := own_slice ho6
          have HO6 := Lib.hid (show w6.ownsRow base 3 1 (.slice A7 (k + 1 + (n - k)) c7) (k + 1 + (n - k)) (ints (l.take k ++ [x] ++ l.drop k)) by
            rw [ints_app (l.take k ++ [x]), ← ints_drop]
            exact own_mono ho6 hb)
          clear ho6 hg6 HO5 HB5 HSD
          go_wp2
          go_ret
          have hnn : (put l x).length = k + 1 + (n - k) := by rw [HE.out]; simp; have := HL.out; omega
          refine ⟨A7, c7, by rw [hnn]; rfl, ?_, HB6.out⟩
          rw [hnn, HE.out]
          exact HO6.out
        · skip
          have hsd := (Rd.of_own HO.out).cut (k := k) (cap := c) (by omega) hcap
          simp only [hcz, if_true, if_false, Option.map_some, Option.map_none, Addr.add_lit, Nat.mul_one] at hsd
          have HSD := Lib.hid hsd
          clear hsd
          have hsp := (Rd.of_own HO.out).pre (k := k) (by omega)
          simp only [Nat.mul_one] at hsp
          have HSP := Lib.hid hsp
          clear hsp
          go_wp2_with (at_builtin; refine wpList_append_rd rfl (.tmp 34) (.tmp 37) 40 rfl w.heap.size 3 i0 (.int .i64 0) 1 8 Try.underlying40 HI.out.1 HI.out.2.1 HI.out.2.2.1 HI.out.2.2.2 rfl (by decide) _ 0 [] rfl (World.ownsRow_nil _ _ _ _) _ k _ w.heap.size _ rfl HSP.out ?c1 ?c2 (by omega) (Nat.le_refl _) ?_)
          case c1 => rw [ints_take]; exact ints_one _
          case c2 => unfold maxLen; omega
          intro v1 w4 ho4 hg4
          have HB4 := Lib.hid ((Below.refl w.heap.size w).grown hg4 (Nat.le_refl _) (fun k hk => by simp [Value.ownBlock] at hk))
          obtain ⟨A5, c5, rfl⟩ := own_slice ho4
          have HO4 := Lib.hid (show w4.ownsRow w.heap.size 3 1 (.slice A5 k c5) k (ints (l.take k)) by rw [← ints_take]; simpa using ho4)
          have hs4 := HB4.out.size
          clear ho4 hg4 HSP
          go_wp2_with (at_builtin; refine wpList_append_own _ rfl (.tmp 39) (.tmp 41) 40 rfl w.heap.size 3 i0 (.int .i64 0) 1 8 Try.underlying40 HI.out.1 HI.out.2.1 HI.out.2.2.1 HI.out.2.2.2 rfl (by decide) _ k _ rfl (HO4.out.alloc _) ⟨w4.heap.size, 0, none⟩ 1 1 [.int .i64 x] rfl rfl ?d1 (by simp [Value.oneCell']) ?d3 ?d4 ?d5 ?_)
          case d1 =>
            intro i u hj
            match i, hj with
            | 0, hj => simp at hj; subst hj; simp [Addr.add]
          case d3 => unfold maxLen; omega
          case d4 => omega
          case d5 => simp; omega
          intro v2 w5 ho5 hg5 _
          have HB5 := Lib.hid ((HB4.out.alloc hs4 (.cells #[.int .i64 x] 3)).grown hg5 (by simp; omega) (fun k hk => (HO4.out.lt k hk).1))
          obtain ⟨A6, c6, rfl⟩ := own_slice ho5
          have HO5 := Lib.hid (show w5.ownsRow w.heap.size 3 1 (.slice A6 (k + 1) c6) (k + 1) (ints (l.take k ++ [x])) by rw [ints_app]; exact ho5)
          have hs5 := HB5.out.size
          clear ho5 hg5 HO4 HB4
          go_wp2_with (at_builtin; refine wpList_append_rd rfl (.tmp 43) (.tmp 46) 40 rfl w.heap.size 3 i0 (.int .i64 0) 1 8 Try.underlying40 HI.out.1 HI.out.2.1 HI.out.2.2.1 HI.out.2.2.2 rfl (by decide) _ (k + 1) _ rfl HO5.out _ (n - k) _ w.heap.size ((ints l).drop k) rfl ?e0 ?e1 ?e2 (by omega) hs5 ?_)
          case e0 => first | exact HSD.out.below HB5.out | simpa using HSD.out.below HB5.out
          case e1 => rw [ints_drop]; exact ints_one _
          case e2 => unfold maxLen; omega
          intro v3 w6 ho6 hg6
          have HB6 := Lib.hid (HB5.out.grown hg6 hs5 (fun k hk => (HO5.out.lt k hk).1))
          obtain ⟨A7, c7, rfl⟩ := own_slice ho6
          have HO6 := Lib.hid (show w6.ownsRow base 3 1 (.slice A7 (k + 1 + (n - k)) c7) (k + 1 + (n - k)) (ints (l.take k ++ [x] ++ l.drop k)) by
            rw [ints_app (l.take k ++ [x]), ← ints_drop]
            exact own_mono ho6 hb)
          clear ho6 hg6 HO5 HB5 HSD
          go_wp2
          go_ret
          have hnn : (put l x).length = k + 1 + (n - k) := by rw [HE.out]; simp; have := HL.out; omega
          refine ⟨A7, c7, by rw [hnn]; rfl, ?_, HB6.out⟩
          rw [hnn, HE.out]
          exact HO6.out
end Go.Proofs.Ytkpofdfikmcjgaa
