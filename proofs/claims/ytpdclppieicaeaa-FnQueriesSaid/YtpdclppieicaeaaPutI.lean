/- The reference's putting of a number to its place, on a row of the call's own. -/
import Derived.Test.YtpdclppieicaeaaPostPlain
import Derived.Test.YtpdclppieicaeaaAppR
import Derived.Test.YtpdclppieicaeaaRowInts
namespace Go.Proofs.Ytpdclppieicaeaa
set_option linter.unusedVariables false
set_option linter.unusedSimpArgs false
open Go.RowKit

theorem own_capI {w : World} {base e size n c : Nat} {A : Option Addr} {xs : List Value} (h : w.ownsRow base e size (.slice A n c) n xs) : n ≤ c := by
  rcases h.2 with ⟨h1, rfl⟩ | ⟨g, cap, cur, hv, _, _, hn, _⟩
  · exact Nat.zero_le _
  · injection hv with _ _ e
    omega
theorem own_casesI {w : World} {base e size n c : Nat} {A : Option Addr} {xs : List Value} (h : w.ownsRow base e size (.slice A n c) n xs) : (A = none ∧ n = 0 ∧ c = 0) ∨ ∃ g, A = some ⟨g, 0, none⟩ := by
  rcases h.2 with ⟨h1, rfl⟩ | ⟨g, cap, cur, hv, _⟩
  · injection h1 with e1 _ e3
    exact .inl ⟨e1, rfl, e3⟩
  · injection hv with e1 _ e3
    exact .inr ⟨g, e1⟩
theorem ints_take (l : List Int) (k : Nat) : (ints l).take k = ints (l.take k) := by simp [ints, List.map_take]
theorem ints_drop (l : List Int) (k : Nat) : (ints l).drop k = ints (l.drop k) := by simp [ints, List.map_drop]
theorem put_here {l : List Int} {n : Int} {k : Nat} (hk : k ≤ l.length) (h1 : ∀ j y, j < k → l[j]? = some y → y < n) (h2 : l[k]? = some n) : put l n = l := by
  rw [put_at l n k hk h1 (fun x hx => by rw [h2] at hx; injection hx with hx; omega), if_pos h2]
theorem put_new {l : List Int} {n : Int} {k : Nat} (hk : k ≤ l.length) (h1 : ∀ j y, j < k → l[j]? = some y → y < n) (h2 : ∀ x, l[k]? = some x → n < x) : put l n = l.take k ++ [n] ++ l.drop k := by
  rw [put_at l n k hk h1 (fun x hx => by have := h2 x hx; omega), if_neg (fun e => by have := h2 n e; omega), List.append_assoc]; rfl
/-- What such a function hands back: a row in new memory. -/
def OwnV (base : Nat) (w : World) (zs : List Int) (e : Ending) (w' : World) : Prop :=
  ∃ A c, e = .returned (.slice A zs.length c) ∧ w'.ownsRow base 3 1 (.slice A zs.length c) zs.length (ints zs) ∧ Below w.heap.size w w'
set_option maxRecDepth 100000 in
set_option maxHeartbeats 8000000 in
theorem l1Put_any (base : Nat) (A : Option Addr) (n c : Nat) (l : List Int) (x : Int) (w : World) (ho : w.ownsRow base 3 1 (.slice A n c) n (ints l)) (hb : base ≤ w.heap.size) (hn : n ≤ 1000000) :
    Calls Try.prog 83 #[.slice A n c, .int .i64 x] w (OwnV base w (put l x)) := by
  obtain ⟨i0, hi, hi0, hi1, hi2⟩ := info_parts infoInt
  have HI := Lib.hid (And.intro hi (And.intro hi0 (And.intro hi1 hi2)))
  clear hi hi0 hi1 hi2
  have hcap := own_capI ho
  have hlen := (Rd.of_own ho).int_len
  have HL := Lib.hid hlen
  have HO := Lib.hid ho
  clear ho hlen
  go_enter Try.func83, Try.ntmps83
  go_wp2
  go_loop [5] (fun q => ∃ k : Nat, k ≤ n ∧ q = .int .i64 k ∧ (∀ j y, j < k → l[j]? = some y → y < x)) (fun q => n - (intOf q).toNat)
  case atStart => exact ⟨0, Nat.zero_le _, rfl, fun i p h => absurd h (by omega)⟩
  case round =>
    obtain ⟨k, hk, rfl, hkl⟩ := hrel
    have HJ := Lib.hid hkl
    clear hkl
    by_cases hlt : k < n
    · obtain ⟨b2, off2, y, rfl, hb2, hy, hc0⟩ := (Rd.of_own HO.out).int_at hlt
      have HY := Lib.hid hy
      clear hy
      by_cases hyx : y < x
      · go_wp2
        go_round
        case rel => exact ⟨k + 1, by omega, by go_num, fun i p hi hp => by
                            rcases (show i < k ∨ i = k by omega) with h | rfl
                            · exact HJ.out i p h hp
                            · rw [HY.out] at hp; injection hp with hp; subst hp; exact hyx⟩
        case measure => simp [intOf]; omega
      · by_cases hyx2 : y = x
        · subst hyx2
          have HE := Lib.hid (put_here (by rw [HL.out]; exact hk) HJ.out HY.out)
          go_wp2
          go_ret
          rw [HE.out]
          have e := HL.out
          subst e
          exact ⟨_, _, rfl, HO.out, Below.refl _ _⟩
        · have HE := Lib.hid (put_new (n := x) (by rw [HL.out]; exact hk) HJ.out (fun z hz => by rw [HY.out] at hz; injection hz with hz; omega))
          have hcz : ¬ c = k := by omega
          clear HY
          have hsd := (Rd.of_own HO.out).cut (k := k) (cap := c) (by omega) hcap
          simp only [hcz, if_true, if_false, Option.map_some, Option.map_none, Addr.add_lit, Nat.mul_one] at hsd
          have HSD := Lib.hid hsd
          clear hsd
          have hsp := (Rd.of_own HO.out).pre (k := k) (by omega)
          simp only [Nat.mul_one] at hsp
          have HSP := Lib.hid hsp
          clear hsp
          go_wp2_with (at_builtin; refine wpList_append_rd rfl (.tmp 34) (.tmp 37) 27 rfl w.heap.size 3 i0 (.int .i64 0) 1 8 Try.underlying27 HI.out.1 HI.out.2.1 HI.out.2.2.1 HI.out.2.2.2 rfl (by decide) _ 0 [] rfl (World.ownsRow_nil _ _ _ _) _ k _ w.heap.size _ rfl HSP.out ?c1 ?c2 (by omega) (Nat.le_refl _) ?_)
          case c1 => rw [ints_take]; exact ints_one _
          case c2 => unfold maxLen; omega
          intro v1 w4 ho4 hg4
          have HB4 := Lib.hid ((Below.refl w.heap.size w).grown hg4 (Nat.le_refl _) (fun k hk => by simp [Value.ownBlock] at hk))
          obtain ⟨A5, c5, rfl⟩ := own_slice ho4
          have HO4 := Lib.hid (show w4.ownsRow w.heap.size 3 1 (.slice A5 k c5) k (ints (l.take k)) by rw [← ints_take]; simpa using ho4)
          have hs4 := HB4.out.size
          clear ho4 hg4 HSP
          go_wp2_with (at_builtin; refine wpList_append_own _ rfl (.tmp 39) (.tmp 41) 27 rfl w.heap.size 3 i0 (.int .i64 0) 1 8 Try.underlying27 HI.out.1 HI.out.2.1 HI.out.2.2.1 HI.out.2.2.2 rfl (by decide) _ k _ rfl (HO4.out.alloc _) ⟨w4.heap.size, 0, none⟩ 1 1 [.int .i64 x] rfl rfl ?d1 (by simp [Value.oneCell']) ?d3 ?d4 ?d5 ?_)
          case d1 =>
            intro i u hj
            match i, hj with
            | 0, hj => simp at hj; subst hj; simp [Addr.add]
          case d3 => unfold maxLen; omega
          case d4 => omega
          case d5 => simp; omega
          intro v2 w5 ho5 hg5 _
          have HB5 := Lib.hid ((HB4.out.alloc hs4 (.cells #[.int .i64 x] 3)).grown hg5 (by simp; omega) (fun k hk => (HO4.out.lt k hk).1))
          obtain ⟨A6, c6, rfl⟩ := own_slice ho5
          have HO5 := Lib.hid (show w5.ownsRow w.heap.size 3 1 (.slice A6 (k + 1) c6) (k + 1) (ints (l.take k ++ [x])) by rw [ints_app]; exact ho5)
          have hs5 := HB5.out.size
          clear ho5 hg5 HO4 HB4
          go_wp2_with (at_builtin; refine wpList_append_rd rfl (.tmp 43) (.tmp 46) 27 rfl w.heap.size 3 i0 (.int .i64 0) 1 8 Try.underlying27 HI.out.1 HI.out.2.1 HI.out.2.2.1 HI.out.2.2.2 rfl (by decide) _ (k + 1) _ rfl HO5.out _ (n - k) _ w.heap.size ((ints l).drop k) rfl ?e0 ?e1 ?e2 (by omega) hs5 ?_)
          case e0 => first | exact HSD.out.below HB5.out | simpa using HSD.out.below HB5.out
          case e1 => rw [ints_drop]; exact ints_one _
          case e2 => unfold maxLen; omega
          intro v3 w6 ho6 hg6
          have HB6 := Lib.hid (HB5.out.grown hg6 hs5 (fun k hk => (HO5.out.lt k hk).1))
          obtain ⟨A7, c7, rfl⟩ := own_slice ho6
          have HO6 := Lib.hid (show w6.ownsRow base 3 1 (.slice A7 (k + 1 + (n - k)) c7) (k + 1 + (n - k)) (ints (l.take k ++ [x] ++ l.drop k)) by
            rw [ints_app (l.take k ++ [x]), ← ints_drop]
            exact own_mono ho6 hb)
          clear ho6 hg6 HO5 HB5 HSD
          go_wp2
          go_ret
          have hnn : (put l x).length = k + 1 + (n - k) := by rw [HE.out]; simp; have := HL.out; omega
          refine ⟨A7, c7, by rw [hnn]; rfl, ?_, HB6.out⟩
          rw [hnn, HE.out]
          exact HO6.out
    · have HE := Lib.hid (put_new (n := x) (k := k) (by rw [HL.out]; exact hk) HJ.out (fun z hz => by rw [List.getElem?_eq_none (by rw [HL.out]; omega)] at hz; cases hz))
      rcases own_casesI HO.out with ⟨rfl, hN0, hc40⟩ | ⟨g, rfl⟩
      · have hcz : c = k := by omega
        clear hN0 hc40
        have hsd := (Rd.of_own HO.out).cut (k := k) (cap := c) (by omega) hcap
        simp only [hcz, if_true, if_false, Option.map_some, Option.map_none, Addr.add_lit, Nat.mul_one] at hsd
        have HSD := Lib.hid hsd
        clear hsd
        have hsp := (Rd.of_own HO.out).pre (k := k) (by omega)
        simp only [Nat.mul_one] at hsp
        have HSP := Lib.hid hsp
        clear hsp
        go_wp2_with (at_builtin; refine wpList_append_rd rfl (.tmp 34) (.tmp 37) 27 rfl w.heap.size 3 i0 (.int .i64 0) 1 8 Try.underlying27 HI.out.1 HI.out.2.1 HI.out.2.2.1 HI.out.2.2.2 rfl (by decide) _ 0 [] rfl (World.ownsRow_nil _ _ _ _) _ k _ w.heap.size _ rfl HSP.out ?c1 ?c2 (by omega) (Nat.le_refl _) ?_)
        case c1 => rw [ints_take]; exact ints_one _
        case c2 => unfold maxLen; omega
        intro v1 w4 ho4 hg4
        have HB4 := Lib.hid ((Below.refl w.heap.size w).grown hg4 (Nat.le_refl _) (fun k hk => by simp [Value.ownBlock] at hk))
        obtain ⟨A5, c5, rfl⟩ := own_slice ho4
        have HO4 := Lib.hid (show w4.ownsRow w.heap.size 3 1 (.slice A5 k c5) k (ints (l.take k)) by rw [← ints_take]; simpa using ho4)
        have hs4 := HB4.out.size
        clear ho4 hg4 HSP
        go_wp2_with (at_builtin; refine wpList_append_own _ rfl (.tmp 39) (.tmp 41) 27 rfl w.heap.size 3 i0 (.int .i64 0) 1 8 Try.underlying27 HI.out.1 HI.out.2.1 HI.out.2.2.1 HI.out.2.2.2 rfl (by decide) _ k _ rfl (HO4.out.alloc _) ⟨w4.heap.size, 0, none⟩ 1 1 [.int .i64 x] rfl rfl ?d1 (by simp [Value.oneCell']) ?d3 ?d4 ?d5 ?_)
        case d1 =>
          intro i u hj
          match i, hj with
          | 0, hj => simp at hj; subst hj; simp [Addr.add]
        case d3 => unfold maxLen; omega
        case d4 => omega
        case d5 => simp; omega
        intro v2 w5 ho5 hg5 _
        have HB5 := Lib.hid ((HB4.out.alloc hs4 (.cells #[.int .i64 x] 3)).grown hg5 (by simp; omega) (fun k hk => (HO4.out.lt k hk).1))
        obtain ⟨A6, c6, rfl⟩ := own_slice ho5
        have HO5 := Lib.hid (show w5.ownsRow w.heap.size 3 1 (.slice A6 (k + 1) c6) (k + 1) (ints (l.take k ++ [x])) by rw [ints_app]; exact ho5)
        have hs5 := HB5.out.size
        clear ho5 hg5 HO4 HB4
        go_wp2_with (at_builtin; refine wpList_append_rd rfl (.tmp 43) (.tmp 46) 27 rfl w.heap.size 3 i0 (.int .i64 0) 1 8 Try.underlying27 HI.out.1 HI.out.2.1 HI.out.2.2.1 HI.out.2.2.2 rfl (by decide) _ (k + 1) _ rfl HO5.out _ (n - k) _ w.heap.size ((ints l).drop k) rfl ?e0 ?e1 ?e2 (by omega) hs5 ?_)
        case e0 => first | exact HSD.out.below HB5.out | simpa using HSD.out.below HB5.out
        case e1 => rw [ints_drop]; exact ints_one _
        case e2 => unfold maxLen; omega
        intro v3 w6 ho6 hg6
        have HB6 := Lib.hid (HB5.out.grown hg6 hs5 (fun k hk => (HO5.out.lt k hk).1))
        obtain ⟨A7, c7, rfl⟩ := own_slice ho6
        have HO6 := Lib.hid (show w6.ownsRow base 3 1 (.slice A7 (k + 1 + (n - k)) c7) (k + 1 + (n - k)) (ints (l.take k ++ [x] ++ l.drop k)) by
          rw [ints_app (l.take k ++ [x]), ← ints_drop]
          exact own_mono ho6 hb)
        clear ho6 hg6 HO5 HB5 HSD
        go_wp2
        go_ret
        have hnn : (put l x).length = k + 1 + (n - k) := by rw [HE.out]; simp; have := HL.out; omega
        refine ⟨A7, c7, by rw [hnn]; rfl, ?_, HB6.out⟩
        rw [hnn, HE.out]
        exact HO6.out
      · by_cases hcz : c = k
        · skip
          have hsd := (Rd.of_own HO.out).cut (k := k) (cap := c) (by omega) hcap
          simp only [hcz, if_true, if_false, Option.map_some, Option.map_none, Addr.add_lit, Nat.mul_one] at hsd
          have HSD := Lib.hid hsd
          clear hsd
          have hsp := (Rd.of_own HO.out).pre (k := k) (by omega)
          simp only [Nat.mul_one] at hsp
          have HSP := Lib.hid hsp
          clear hsp
          go_wp2_with (at_builtin; refine wpList_append_rd rfl (.tmp 34) (.tmp 37) 27 rfl w.heap.size 3 i0 (.int .i64 0) 1 8 Try.underlying27 HI.out.1 HI.out.2.1 HI.out.2.2.1 HI.out.2.2.2 rfl (by decide) _ 0 [] rfl (World.ownsRow_nil _ _ _ _) _ k _ w.heap.size _ rfl HSP.out ?c1 ?c2 (by omega) (Nat.le_refl _) ?_)
          case c1 => rw [ints_take]; exact ints_one _
          case c2 => unfold maxLen; omega
          intro v1 w4 ho4 hg4
          have HB4 := Lib.hid ((Below.refl w.heap.size w).grown hg4 (Nat.le_refl _) (fun k hk => by simp [Value.ownBlock] at hk))
          obtain ⟨A5, c5, rfl⟩ := own_slice ho4
          have HO4 := Lib.hid (show w4.ownsRow w.heap.size 3 1 (.slice A5 k c5) k (ints (l.take k)) by rw [← ints_take]; simpa using ho4)
          have hs4 := HB4.out.size
          clear ho4 hg4 HSP
          go_wp2_with (at_builtin; refine wpList_append_own _ rfl (.tmp 39) (.tmp 41) 27 rfl w.heap.size 3 i0 (.int .i64 0) 1 8 Try.underlying27 HI.out.1 HI.out.2.1 HI.out.2.2.1 HI.out.2.2.2 rfl (by decide) _ k _ rfl (HO4.out.alloc _) ⟨w4.heap.size, 0, none⟩ 1 1 [.int .i64 x] rfl rfl ?d1 (by simp [Value.oneCell']) ?d3 ?d4 ?d5 ?_)
          case d1 =>
            intro i u hj
            match i, hj with
            | 0, hj => simp at hj; subst hj; simp [Addr.add]
          case d3 => unfold maxLen; omega
          case d4 => omega
          case d5 => simp; omega
          intro v2 w5 ho5 hg5 _
          have HB5 := Lib.hid ((HB4.out.alloc hs4 (.cells #[.int .i64 x] 3)).grown hg5 (by simp; omega) (fun k hk => (HO4.out.lt k hk).1))
          obtain ⟨A6, c6, rfl⟩ := own_slice ho5
          have HO5 := Lib.hid (show w5.ownsRow w.heap.size 3 1 (.slice A6 (k + 1) c6) (k + 1) (ints (l.take k ++ [x])) by rw [ints_app]; exact ho5)
          have hs5 := HB5.out.size
          clear ho5 hg5 HO4 HB4
          go_wp2_with (at_builtin; refine wpList_append_rd rfl (.tmp 43) (.tmp 46) 27 rfl w.heap.size 3 i0 (.int .i64 0) 1 8 Try.underlying27 HI.out.1 HI.out.2.1 HI.out.2.2.1 HI.out.2.2.2 rfl (by decide) _ (k + 1) _ rfl HO5.out _ (n - k) _ w.heap.size ((ints l).drop k) rfl ?e0 ?e1 ?e2 (by omega) hs5 ?_)
          case e0 => first | exact HSD.out.below HB5.out | simpa using HSD.out.below HB5.out
          case e1 => rw [ints_drop]; exact ints_one _
          case e2 => unfold maxLen; omega
          intro v3 w6 ho6 hg6
          have HB6 := Lib.hid (HB5.out.grown hg6 hs5 (fun k hk => (HO5.out.lt k hk).1))
          obtain ⟨A7, c7, rfl⟩ := own_slice ho6
          have HO6 := Lib.hid (show w6.ownsRow base 3 1 (.slice A7 (k + 1 + (n - k)) c7) (k + 1 + (n - k)) (ints (l.take k ++ [x] ++ l.drop k)) by
            rw [ints_app (l.take k ++ [x]), ← ints_drop]
            exact own_mono ho6 hb)
          clear ho6 hg6 HO5 HB5 HSD
          go_wp2
          go_ret
          have hnn : (put l x).length = k + 1 + (n - k) := by rw [HE.out]; simp; have := HL.out; omega
          refine ⟨A7, c7, by rw [hnn]; rfl, ?_, HB6.out⟩
          rw [hnn, HE.out]
          exact HO6.out
        · skip
          have hsd := (Rd.of_own HO.out).cut (k := k) (cap := c) (by omega) hcap
          simp only [hcz, if_true, if_false, Option.map_some, Option.map_none, Addr.add_lit, Nat.mul_one] at hsd
          have HSD := Lib.hid hsd
          clear hsd
          have hsp := (Rd.of_own HO.out).pre (k := k) (by omega)
          simp only [Nat.mul_one] at hsp
          have HSP := Lib.hid hsp
          clear hsp
          go_wp2_with (at_builtin; refine wpList_append_rd rfl (.tmp 34) (.tmp 37) 27 rfl w.heap.size 3 i0 (.int .i64 0) 1 8 Try.underlying27 HI.out.1 HI.out.2.1 HI.out.2.2.1 HI.out.2.2.2 rfl (by decide) _ 0 [] rfl (World.ownsRow_nil _ _ _ _) _ k _ w.heap.size _ rfl HSP.out ?c1 ?c2 (by omega) (Nat.le_refl _) ?_)
          case c1 => rw [ints_take]; exact ints_one _
          case c2 => unfold maxLen; omega
          intro v1 w4 ho4 hg4
          have HB4 := Lib.hid ((Below.refl w.heap.size w).grown hg4 (Nat.le_refl _) (fun k hk => by simp [Value.ownBlock] at hk))
          obtain ⟨A5, c5, rfl⟩ := own_slice ho4
          have HO4 := Lib.hid (show w4.ownsRow w.heap.size 3 1 (.slice A5 k c5) k (ints (l.take k)) by rw [← ints_take]; simpa using ho4)
          have hs4 := HB4.out.size
          clear ho4 hg4 HSP
          go_wp2_with (at_builtin; refine wpList_append_own _ rfl (.tmp 39) (.tmp 41) 27 rfl w.heap.size 3 i0 (.int .i64 0) 1 8 Try.underlying27 HI.out.1 HI.out.2.1 HI.out.2.2.1 HI.out.2.2.2 rfl (by decide) _ k _ rfl (HO4.out.alloc _) ⟨w4.heap.size, 0, none⟩ 1 1 [.int .i64 x] rfl rfl ?d1 (by simp [Value.oneCell']) ?d3 ?d4 ?d5 ?_)
          case d1 =>
            intro i u hj
            match i, hj with
            | 0, hj => simp at hj; subst hj; simp [Addr.add]
          case d3 => unfold maxLen; omega
          case d4 => omega
          case d5 => simp; omega
          intro v2 w5 ho5 hg5 _
          have HB5 := Lib.hid ((HB4.out.alloc hs4 (.cells #[.int .i64 x] 3)).grown hg5 (by simp; omega) (fun k hk => (HO4.out.lt k hk).1))
          obtain ⟨A6, c6, rfl⟩ := own_slice ho5
          have HO5 := Lib.hid (show w5.ownsRow w.heap.size 3 1 (.slice A6 (k + 1) c6) (k + 1) (ints (l.take k ++ [x])) by rw [ints_app]; exact ho5)
          have hs5 := HB5.out.size
          clear ho5 hg5 HO4 HB4
          go_wp2_with (at_builtin; refine wpList_append_rd rfl (.tmp 43) (.tmp 46) 27 rfl w.heap.size 3 i0 (.int .i64 0) 1 8 Try.underlying27 HI.out.1 HI.out.2.1 HI.out.2.2.1 HI.out.2.2.2 rfl (by decide) _ (k + 1) _ rfl HO5.out _ (n - k) _ w.heap.size ((ints l).drop k) rfl ?e0 ?e1 ?e2 (by omega) hs5 ?_)
          case e0 => first | exact HSD.out.below HB5.out | simpa using HSD.out.below HB5.out
          case e1 => rw [ints_drop]; exact ints_one _
          case e2 => unfold maxLen; omega
          intro v3 w6 ho6 hg6
          have HB6 := Lib.hid (HB5.out.grown hg6 hs5 (fun k hk => (HO5.out.lt k hk).1))
          obtain ⟨A7, c7, rfl⟩ := own_slice ho6
          have HO6 := Lib.hid (show w6.ownsRow base 3 1 (.slice A7 (k + 1 + (n - k)) c7) (k + 1 + (n - k)) (ints (l.take k ++ [x] ++ l.drop k)) by
            rw [ints_app (l.take k ++ [x]), ← ints_drop]
            exact own_mono ho6 hb)
          clear ho6 hg6 HO5 HB5 HSD
          go_wp2
          go_ret
          have hnn : (put l x).length = k + 1 + (n - k) := by rw [HE.out]; simp; have := HL.out; omega
          refine ⟨A7, c7, by rw [hnn]; rfl, ?_, HB6.out⟩
          rw [hnn, HE.out]
          exact HO6.out
set_option maxRecDepth 100000 in
set_option maxHeartbeats 8000000 in
theorem l4Join_any (B : Nat) (A A' : Option Addr) (n c n' c' : Nat) (za zb : List Int) (w : World) (hBw : B ≤ w.heap.size) (h : Rd w B 1 A n (ints za)) (hn : n ≤ 100) (h' : Rd w B 1 A' n' (ints zb)) (hn' : n' ≤ 100) :
    Calls Try.prog 68 #[.slice A n c, .slice A' n' c'] w (OwnV w.heap.size w (joinP za zb)) := by
  obtain ⟨i0, hi, hi0, hi1, hi2⟩ := info_parts infoInt
  have HI := Lib.hid (And.intro hi (And.intro hi0 (And.intro hi1 hi2)))
  clear hi hi0 hi1 hi2
  have HLA := Lib.hid h.int_len
  have HLB := Lib.hid h'.int_len
  have HLJ := Lib.hid (fun k => joinP_len (zb.take k) za)
  have H := Lib.hid h
  have H' := Lib.hid h'
  clear h h'
  go_enter Try.func68, Try.ntmps68
  go_wp2_with (at_builtin; refine wpList_append_rd rfl (.tmp 8) (.tmp 9) 27 rfl w.heap.size 3 i0 (.int .i64 0) 1 8 Try.underlying27 HI.out.1 HI.out.2.1 HI.out.2.2.1 HI.out.2.2.2 rfl (by decide) _ 0 [] rfl (World.ownsRow_lit w #[] 0 (Nat.le_refl _) (by unfold maxLen; omega) rfl) A n c B (ints za) rfl ?c0 (ints_one za) (by unfold maxLen; omega) (by omega) (by simp) ?_)
  case c0 => exact H.out.below ((Below.refl _ _).alloc hBw _)
  intro v' w3 ho3 hg3
  obtain ⟨A3, c3, rfl⟩ := own_slice ho3
  have HB3 := Lib.hid (((Below.refl w.heap.size w).alloc (Nat.le_refl _) (.cells #[] 3)).grown hg3 (by simp) (fun k hk => by simp [Value.ownBlock] at hk; omega))
  have HO3 := Lib.hid (show w3.ownsRow w.heap.size 3 1 (.slice A3 n c3) n (ints za) by simpa using ho3)
  clear ho3 hg3
  go_wp2
  go_loopw [5, 13] (fun out i wr => ∃ (k m : Nat) (A4 : Option Addr) (c4 : Nat), k ≤ n' ∧ i = .int .i64 k ∧ m = (joinP za (zb.take k)).length ∧ out = .slice A4 m c4 ∧ wr.ownsRow w.heap.size 3 1 (.slice A4 m c4) m (ints (joinP za (zb.take k))) ∧ Below w.heap.size w wr) (fun _ i _ => n' - (intOf i).toNat)
  case atStart =>
    have e := HLA.out
    exact ⟨0, n, A3, c3, Nat.zero_le _, rfl, by simp [joinP, e], rfl, by simpa [joinP] using HO3.out, HB3.out⟩
  case round =>
    clear HB3 HO3
    obtain ⟨k, m, A4, c4, hk, rfl, hm, rfl, ho, hb⟩ := hrel
    have HM := Lib.hid hm
    have hm2 : m ≤ 200 := by
      have h1 := HLJ.out k
      have h2 := HLA.out
      have h3 : (zb.take k).length ≤ k := by rw [List.length_take]; omega
      omega
    have HO := Lib.hid ho
    have HB := Lib.hid hb
    have hsz := hb.size
    clear ho hb hm
    by_cases hlt : k < n'
    · obtain ⟨b1, off1, x, rfl, hb1, hx, hcx⟩ := H'.out.int_at hlt
      have hdx : wr.cell? ⟨b1, off1 + k, none⟩ = some (.int .i64 x) := (bcell HB.out _ _ (by omega)).trans hcx
      have HX := Lib.hid (show joinP za (zb.take (k + 1)) = put (joinP za (zb.take k)) x by rw [take_snoc' _ _ _ hx, joinP_snoc])
      clear hx hcx
      go_wp2_with fail
      refine (l1Put_any w.heap.size A4 m c4 _ x wr HO.out hsz (by omega)).mono ?_
      rintro e w4 ⟨A5, c5, rfl, ho5, hb5⟩
      rw [← HX.out] at ho5 ⊢
      have HO5 := Lib.hid ho5
      have HB5 := Lib.hid (HB.out.trans (hb5.mono hsz))
      clear ho5 hb5
      go_wp2
      go_roundw
      case rel => exact ⟨k + 1, _, A5, c5, by omega, by go_num, rfl, rfl, HO5.out, HB5.out⟩
      case measure => simp [intOf]; omega
    · have ht : zb.take k = zb := List.take_of_length_le (by rw [HLB.out]; omega)
      have ho := HO.out
      have hm := HM.out
      rw [ht] at ho hm
      subst hm
      have HO1 := Lib.hid ho
      clear ho
      go_wp2
      go_ret
      exact ⟨A4, c4, rfl, HO1.out, HB.out⟩
end Go.Proofs.Ytpdclppieicaeaa
