/- WordsOf: the reference's walk. -/
import Derived.Test.YtbpeceejboojoaaWordP
import Derived.Test.YtbpeceejboojoaaLFits
import Derived.Test.YtbpeceejboojoaaTreeS
import Derived.Test.YtbpeceejboojoaaFormS
import Derived.Test.YtbpeceejboojoaaFormLaw
import Derived.Test.YtbpeceejboojoaaGotR
namespace Go.Proofs.Ytbpeceejboojoaa
set_option linter.unusedVariables false
set_option linter.unusedSimpArgs false
open Go.RowKit

def okWo (l : List Prt) (z : Int) : Bool := goodPrt l && inB z 0 3
def woR (l : List Prt) (z : Int) : List ByteArray := if okWo l z then accW (tr l (l.length - 1)) (z.toNat + 1) 0 else []
theorem woR_no {l : List Prt} {z : Int} (h : okWo l z = false) : woR l z = [] := by unfold woR; rw [h]; rfl
theorem woR_yes {l : List Prt} {z : Int} (h : okWo l z = true) : woR l z = accW (tr l (l.length - 1)) (z.toNat + 1) 0 := by unfold woR; rw [h]; rfl
theorem woR_len (l : List Prt) (z : Int) : (woR l z).length ≤ 1048576 := by
  unfold woR
  split
  · rename_i h
    unfold okWo at h
    simp only [Bool.and_eq_true] at h
    have hz := inB_iff.1 h.2
    have h1 := accW_len (tr l (l.length - 1)) (z.toNat + 1) 0
    have h2 : 2 ^ (z.toNat + 1) ≤ 2 ^ 4 := Nat.pow_le_pow_right (by omega) (by omega)
    omega
  · simp
set_option maxRecDepth 100000 in
set_option maxHeartbeats 8000000 in
theorem sWordsOf_any (B : Nat) (A : Option Addr) (n c : Nat) (l : List Prt) (z : Int) (w : World) (hBw : B ≤ w.heap.size) (h : Rd w B 4 A n (prts l)) (hn : n ≤ 1048576) (hok : ∀ p ∈ l, p.text.size ≤ 1048576) :
    Calls Try.prog 6 #[.slice A n c, .int .i64 z] w (GotR 9 1 w (woR l z).length (strs (woR l z)) (okWo l z)) := by
  have C1 := Lib.hid (sGoodForm_any B A n c l w hBw h hn hok)
  have C2 := Lib.hid (fun w => l1In_any z 0 3 w)
  have hlen := h.prt_len
  cases hg : goodPrt l with
  | false =>
    have hk : okWo l z = false := by unfold okWo; rw [hg]; rfl
    rw [woR_no hk, hk]
    rw [hg] at C1
    clear hg h hok hk
    go_enter Try.func6, Try.ntmps6
    go_wp2_with fail
    refine C1.out.mono ?_
    rintro e w1 ⟨rfl, hb⟩
    have HB := Lib.hid hb
    clear hb
    go_wp2
    go_ret2
    exact GotR.no_ HB.out
  | true =>
    rw [hg] at C1
    cases hw : inB z 0 3 with
    | false =>
      have hk : okWo l z = false := by unfold okWo; rw [hw, Bool.and_false]
      rw [woR_no hk, hk]
      rw [hw] at C2
      clear hg hw h hok hk
      go_enter Try.func6, Try.ntmps6
      go_wp2_with fail
      refine C1.out.mono ?_
      rintro e w1 ⟨rfl, hb⟩
      have HB := Lib.hid hb
      clear hb
      go_wp2_with fail
      refine (C2.out _).mono ?_
      rintro e w' ⟨rfl, rfl⟩
      go_wp2
      go_ret2
      exact GotR.no_ HB.out
    | true =>
      have hk : okWo l z = true := by unfold okWo; rw [hg, hw]; rfl
      rw [hw] at C2
      obtain ⟨hz0, hz3⟩ := inB_iff.1 hw
      obtain ⟨L, rfl⟩ : ∃ L : Nat, z = L := ⟨z.toNat, by omega⟩
      have hL3 : L ≤ 3 := by omega
      have hn24 : 1 ≤ n ∧ n ≤ 24 := by
        have := good_len hg
        omega
      obtain ⟨m0, rfl⟩ : ∃ m, n = m + 1 := ⟨n - 1, by omega⟩
      have hmi : (((m0 + 1 : Nat) : Int) - 1) = (m0 : Int) := by omega
      obtain ⟨t, ht⟩ : ∃ t, tr l m0 = t := ⟨_, rfl⟩
      have hR := woR_yes hk
      rw [hlen, Nat.add_sub_cancel, ht, Int.toNat_natCast] at hR
      obtain ⟨R, hRR⟩ : ∃ R, woR l (L : Int) = R := ⟨_, rfl⟩
      rw [hk, hRR]
      rw [hRR] at hR
      have HR := Lib.hid hR
      have C3 := Lib.hid (fun w1 (hb : Below w.heap.size w w1) => ht ▸ l5Tree_any B A (m0 + 1) c l hn24.2 hg m0 (by omega) w1 (Nat.le_trans hBw hb.size) (h.below (hb.mono hBw)))
      obtain ⟨i0, hi, hi0, hi1, hi2⟩ := info_parts infoStr
      have HI := Lib.hid (And.intro hi (And.intro hi0 (And.intro hi1 hi2)))
      clear hi hi0 hi1 hi2 hg hw h hok hlen hk hRR hR ht hz0 hz3
      go_enter Try.func6, Try.ntmps6
      go_wp2_with fail
      refine C1.out.mono ?_
      rintro e w1 ⟨rfl, hb⟩
      have HB := Lib.hid hb
      clear hb
      go_wp2_with fail
      refine (C2.out _).mono ?_
      rintro e w' ⟨rfl, rfl⟩
      go_wp2_with fail
      refine (C3.out _ HB.out).mono ?_
      rintro e wt ⟨b, rfl, ht, hb⟩
      have HB3 := Lib.hid (HB.out.trans (hb.mono HB.out.size))
      have HT := Lib.hid (TA.of ht (Nat.le_refl _))
      obtain ⟨lo, hlo⟩ : ∃ lo, w1.heap.size = lo := ⟨_, rfl⟩
      rw [hlo] at HT
      have hs3 := HB3.out.size
      clear hb ht hlo C1 C2 C3
      go_wp2_with fail
      go_loopw [7, 8, 9] (fun r o i wr => ∃ (k N m : Nat) (A1 A2 : Option Addr) (c1 c2 : Nat), k ≤ L + 1 ∧ N ≤ 16 ∧ i = .int .i64 k ∧ r = .slice A1 N c1 ∧ o = .slice A2 m c2 ∧ Hid (N = 2 ^ k) ∧ Hid (m = (accW t k 0).length) ∧
        wr.ownsRow wt.heap.size 9 1 (.slice A1 N c1) N (strs (rowW k)) ∧ wr.ownsRow wt.heap.size 9 1 (.slice A2 m c2) m (strs (accW t k 0)) ∧ Dj (.slice A1 N c1) (.slice A2 m c2) ∧ Below wt.heap.size wt wr) (fun _ _ i _ => L + 1 - (intOf i).toNat)
      case atStart => exact ⟨0, 1, 0, _, none, 1, 0, Nat.zero_le _, by omega, rfl, rfl, rfl, Lib.hid rfl, Lib.hid (by rw [accW_zero]; rfl), by rw [rowW_zero]; exact World.ownsRow_lit wt #[.string ⟨#[]⟩] 1 (Nat.le_refl _) (by unfold maxLen; omega) rfl, by rw [accW_zero]; exact World.ownsRow_nil _ _ _ _, (Dj.nil_ _).symm, (Below.refl _ _).alloc (Nat.le_refl _) _⟩
      case round =>
        obtain ⟨k, N, m, A1, A2, c1, c2, hk, hN16, rfl, rfl, rfl, HN, HM, hor, hoo, hd, hb⟩ := hrel
        have HOR := Lib.hid hor
        have HOO := Lib.hid hoo
        have HD := Lib.hid hd
        have HB := Lib.hid hb
        have hsw := hb.size
        clear hor hoo hd hb
        by_cases hlt : k ≤ L
        · go_wp2_with fail
          go_loopw [8, 10, 34] (fun o x i w2 => ∃ (j m q : Nat) (A2 A3 : Option Addr) (c2 c3 : Nat), j ≤ N ∧ i = .int .i64 j ∧ o = .slice A2 m c2 ∧ x = .slice A3 q c3 ∧ q ≤ 2 * j ∧ Hid (q = 2 * j) ∧ Hid (m = (accW t k j).length) ∧
            w2.ownsRow wt.heap.size 9 1 (.slice A1 N c1) N (strs (rowW k)) ∧ w2.ownsRow wt.heap.size 9 1 (.slice A2 m c2) m (strs (accW t k j)) ∧ w2.ownsRow wt.heap.size 9 1 (.slice A3 q c3) q (strs (nextW k j)) ∧ Dj (.slice A1 N c1) (.slice A2 m c2) ∧ Dj (.slice A1 N c1) (.slice A3 q c3) ∧ Dj (.slice A2 m c2) (.slice A3 q c3) ∧ Below wt.heap.size wt w2) (fun _ _ i _ => N - (intOf i).toNat)
          case atStart => exact ⟨0, m, 0, A2, none, c2, 0, Nat.zero_le _, rfl, rfl, rfl, Nat.le_refl _, Lib.hid rfl, HM, HOR.out, HOO.out, by rw [nextW_zero]; exact World.ownsRow_nil _ _ _ _, HD.out, (Dj.nil_ _).symm, (Dj.nil_ _).symm, HB.out⟩
          case round =>
            clear HOR HOO HD HB hsw HM
            obtain ⟨j, m, q, A2, A3, c2, c3, hj, rfl, rfl, rfl, hq2, HQ, HM, hor, hoo, hox, hd1, hd2, hd3, hb⟩ := hrel
            have hN8 : N ≤ 8 := by rw [HN.out]; exact pow_le8 (by omega)
            have hm24 : m ≤ 24 := by
              have h1 := accW_len t k j
              have h2 := HN.out
              rw [HM.out]
              omega
            have HOR := Lib.hid hor
            have HOO := Lib.hid hoo
            have HOX := Lib.hid hox
            have HD1 := Lib.hid hd1
            have HD2 := Lib.hid hd2
            have HD3 := Lib.hid hd3
            have HB := Lib.hid hb
            have hsw := hb.size
            clear hor hoo hox hd1 hd2 hd3 hb
            by_cases hlt2 : j < N
            · obtain ⟨b1, off1, s, rfl, hb1, hx, hc⟩ := (Rd.of_own HOR.out).str_at hlt2
              have hss : s.size ≤ 3 := by have := rowW_size hx; omega
              obtain ⟨v, hv⟩ : ∃ v, mt t s.data.toList = v := ⟨_, rfl⟩
              have CF := Lib.hid (l5Fits_any t s lo b wr (HT.out.bel HB.out (Nat.le_refl _)) (by omega))
              rw [hv] at CF
              have HNX := Lib.hid (nextW_step hx)
              have HAY := Lib.hid (fun e => accW_yes (t := t) hx e)
              have HAN := Lib.hid (fun e => accW_no (t := t) hx e)
              rw [hv] at HAY HAN
              obtain ⟨sa, hsa⟩ : ∃ a, sA s = a := ⟨_, rfl⟩
              obtain ⟨sb, hsb⟩ : ∃ a, sB s = a := ⟨_, rfl⟩
              rw [hsa, hsb] at HNX
              have hcat1 : ∀ w, (Op.stringOp .add s ⟨#[97]⟩).run Try.prog w = .ok (.string sa) w := fun w => hsa ▸ run_string_add_sum w s ⟨#[97]⟩ (by show s.size + 1 ≤ _; omega)
              have hcat2 : ∀ w, (Op.stringOp .add s ⟨#[98]⟩).run Try.prog w = .ok (.string sb) w := fun w => hsb ▸ run_string_add_sum w s ⟨#[98]⟩ (by show s.size + 1 ≤ _; omega)
              clear hv hx hsa hsb
              go_wp2_with fail
              refine CF.out.mono ?_
              rintro e w4 ⟨rfl, hb4⟩
              have HOR4 := Lib.hid (own_below HOR.out hb4 (Nat.le_refl _))
              have HOO4 := Lib.hid (own_below HOO.out hb4 (Nat.le_refl _))
              have HOX4 := Lib.hid (own_below HOX.out hb4 (Nat.le_refl _))
              have HB4 := Lib.hid (HB.out.trans (hb4.mono hsw))
              have hs4 : wt.heap.size ≤ w4.heap.size := HB4.out.size
              clear hb4 hc hb1 HOR HOO HOX HB CF hsw
              cases v with
              | false =>
                have HMv := Lib.hid (show m = (accW t k (j + 1)).length by rw [HAN.out rfl]; exact HM.out)
                have HOOv := Lib.hid (show w4.ownsRow wt.heap.size 9 1 (.slice A2 m c2) m (strs (accW t k (j + 1))) by rw [HAN.out rfl]; exact HOO4.out)
                have HORv := HOR4
                have HOXv := HOX4
                have HD1v := HD1
                have HD2v := HD2
                have HD3v := HD3
                have HBv := HB4
                clear HOR4 HOO4 HOX4 HD1 HD2 HD3 HB4 HAN HAY HM
                have hsv : wt.heap.size ≤ w4.heap.size := HBv.out.size
                go_wp2_with (at_builtin; refine wpList_append_lies _ rfl (.tmp 45) (.tmp 50) 24 rfl wt.heap.size 9 i0 (.string .empty) 1 16 Try.underlying24 HI.out.1 HI.out.2.1 HI.out.2.2.1 HI.out.2.2.2 rfl (by decide) _ q _ rfl (HOXv.out.alloc _) ⟨w4.heap.size, 0, none⟩ 2 2 [.string sa, .string sb] rfl rfl ?d1 ?d2 (by decide) ?d3 ?d4 ?d5 (w4.heap.size + 1) (by simp) ?_)
                case d1 =>
                  intro i u hj
                  match i, hj with
                  | 0, hj => simp at hj; subst hj; simp [Addr.add]
                  | 1, hj => simp at hj; subst hj; simp [Addr.add]
                  | i + 2, hj => simp at hj
                case d2 => intro u hu; simp at hu; rcases hu with rfl | rfl <;> rfl
                case d3 => unfold maxLen; omega
                case d4 => omega
                case d5 => simp; omega
                intro g9 c9 w9 ho9 hg9 hat9 hlt9
                have HB9 := Lib.hid ((HBv.out.alloc hsv (.cells #[.string sa, .string sb] 9)).grown hg9 (by simp; omega) (fun k hk => (HOXv.out.lt k hk).1))
                have HOR9 := Lib.hid (own_far (HORv.out.alloc _) hg9 HD2v.out.symm)
                have HOO9 := Lib.hid (own_far (HOOv.out.alloc _) hg9 HD3v.out.symm)
                have HD29 := Lib.hid (Dj.symm (Dj.far (m := q + 2) (cap := c9) HD2v.out.symm HORv.out hat9 (by omega)))
                have HD39 := Lib.hid (Dj.symm (Dj.far (m := q + 2) (cap := c9) HD3v.out.symm HOOv.out hat9 (by omega)))
                have HOX9 := Lib.hid (show w9.ownsRow wt.heap.size 9 1 (.slice (some ⟨g9, 0, none⟩) (q + 2) c9) (q + 2) (strs (nextW k (j + 1))) by rw [HNX.out, strs_app]; exact ho9)
                clear ho9 hg9 hat9 hlt9 HORv HOOv HOXv HD2v HD3v HBv HNX hsv
                go_wp2
                go_roundw
                case rel => exact ⟨j + 1, m, q + 2, A2, _, c2, c9, by omega, by go_num, rfl, rfl, by omega, Lib.hid (by have := HQ.out; omega), HMv, HOR9.out, HOO9.out, HOX9.out, HD1v.out, HD29.out, HD39.out, HB9.out⟩
                case measure => simp [intOf]; omega
              | true =>
                have HAZ := Lib.hid (show accW t k (j + 1) = accW t k j ++ [s] from HAY.out rfl)
                go_wp2_with (at_builtin; refine wpList_append_lies _ rfl (.tmp 41) (.tmp 43) 24 rfl wt.heap.size 9 i0 (.string .empty) 1 16 Try.underlying24 HI.out.1 HI.out.2.1 HI.out.2.2.1 HI.out.2.2.2 rfl (by decide) _ m _ rfl (HOO4.out.alloc _) ⟨w4.heap.size, 0, none⟩ 1 1 [.string s] rfl rfl ?c1 ?c2 (by decide) ?c3 ?c4 ?c5 (w4.heap.size + 1) (by simp) ?_)
                case c1 =>
                  intro i u hj
                  match i, hj with
                  | 0, hj => simp at hj; subst hj; simp [Addr.add]
                  | i + 1, hj => simp at hj
                case c2 => intro u hu; simp at hu; subst hu; rfl
                case c3 => unfold maxLen; omega
                case c4 => omega
                case c5 => simp; omega
                intro g8 c8 w8 ho8 hg8 hat8 hlt8
                have HBv := Lib.hid ((HB4.out.alloc hs4 (.cells #[.string s] 9)).grown hg8 (by simp; omega) (fun k hk => (HOO4.out.lt k hk).1))
                have HORv := Lib.hid (own_far (HOR4.out.alloc _) hg8 HD1.out.symm)
                have HOXv := Lib.hid (own_far (HOX4.out.alloc _) hg8 HD3.out)
                have HD1v := Lib.hid (Dj.symm (Dj.far (m := m + 1) (cap := c8) HD1.out.symm HOR4.out hat8 (by omega)))
                have HD3v := Lib.hid (Dj.far (m := m + 1) (cap := c8) HD3.out HOX4.out hat8 (by omega))
                have HD2v := HD2
                have HMv := Lib.hid (show m + 1 = (accW t k (j + 1)).length by rw [HAZ.out, List.length_append, ← HM.out]; rfl)
                have HOOv := Lib.hid (show w8.ownsRow wt.heap.size 9 1 (.slice (some ⟨g8, 0, none⟩) (m + 1) c8) (m + 1) (strs (accW t k (j + 1))) by rw [HAZ.out, strs_app]; exact ho8)
                clear HOR4 HOO4 HOX4 HD1 HD2 HD3 HB4 HAN HAY HM ho8 hg8 hat8 hlt8 hs4
                have hsv : wt.heap.size ≤ w8.heap.size := HBv.out.size
                go_wp2_with (at_builtin; refine wpList_append_lies _ rfl (.tmp 45) (.tmp 50) 24 rfl wt.heap.size 9 i0 (.string .empty) 1 16 Try.underlying24 HI.out.1 HI.out.2.1 HI.out.2.2.1 HI.out.2.2.2 rfl (by decide) _ q _ rfl (HOXv.out.alloc _) ⟨w8.heap.size, 0, none⟩ 2 2 [.string sa, .string sb] rfl rfl ?d1 ?d2 (by decide) ?d3 ?d4 ?d5 (w8.heap.size + 1) (by simp) ?_)
                case d1 =>
                  intro i u hj
                  match i, hj with
                  | 0, hj => simp at hj; subst hj; simp [Addr.add]
                  | 1, hj => simp at hj; subst hj; simp [Addr.add]
                  | i + 2, hj => simp at hj
                case d2 => intro u hu; simp at hu; rcases hu with rfl | rfl <;> rfl
                case d3 => unfold maxLen; omega
                case d4 => omega
                case d5 => simp; omega
                intro g9 c9 w9 ho9 hg9 hat9 hlt9
                have HB9 := Lib.hid ((HBv.out.alloc hsv (.cells #[.string sa, .string sb] 9)).grown hg9 (by simp; omega) (fun k hk => (HOXv.out.lt k hk).1))
                have HOR9 := Lib.hid (own_far (HORv.out.alloc _) hg9 HD2v.out.symm)
                have HOO9 := Lib.hid (own_far (HOOv.out.alloc _) hg9 HD3v.out.symm)
                have HD29 := Lib.hid (Dj.symm (Dj.far (m := q + 2) (cap := c9) HD2v.out.symm HORv.out hat9 (by omega)))
                have HD39 := Lib.hid (Dj.symm (Dj.far (m := q + 2) (cap := c9) HD3v.out.symm HOOv.out hat9 (by omega)))
                have HOX9 := Lib.hid (show w9.ownsRow wt.heap.size 9 1 (.slice (some ⟨g9, 0, none⟩) (q + 2) c9) (q + 2) (strs (nextW k (j + 1))) by rw [HNX.out, strs_app]; exact ho9)
                clear ho9 hg9 hat9 hlt9 HORv HOOv HOXv HD2v HD3v HBv HNX hsv
                go_wp2
                go_roundw
                case rel => exact ⟨j + 1, m + 1, q + 2, some ⟨g8, 0, none⟩, _, c8, c9, by omega, by go_num, rfl, rfl, by omega, Lib.hid (by have := HQ.out; omega), HMv, HOR9.out, HOO9.out, HOX9.out, HD1v.out, HD29.out, HD39.out, HB9.out⟩
                case measure => simp [intOf]; omega
            · have hjN : j = N := by omega
              have HQ2 := Lib.hid (show q = 2 ^ (k + 1) by rw [HQ.out, hjN, HN.out, Nat.pow_succ]; omega)
              have HM2 := Lib.hid (show m = (accW t (k + 1) 0).length by rw [← accW_next t (Nat.le_of_eq (show 2 ^ k = j by rw [hjN, HN.out]))]; exact HM.out)
              have HOO2 := Lib.hid (show wr.ownsRow wt.heap.size 9 1 (.slice A2 m c2) m (strs (accW t (k + 1) 0)) by rw [← accW_next t (Nat.le_of_eq (show 2 ^ k = j by rw [hjN, HN.out]))]; exact HOO.out)
              have HOX2 := Lib.hid (show wr.ownsRow wt.heap.size 9 1 (.slice A3 q c3) q (strs (rowW (k + 1))) by rw [← nextW_all (Nat.le_of_eq (show 2 ^ k = j by rw [hjN, HN.out]))]; exact HOX.out)
              clear hjN HM HQ HN
              go_wp2
              go_roundw
              case rel => exact ⟨k + 1, q, m, A3, A2, c3, c2, by omega, by omega, by go_num, rfl, rfl, HQ2, HM2, HOX2.out, HOO2.out, HD3.out.symm, HB.out⟩
              case measure => simp [intOf]; omega
        · have hkL : k = L + 1 := by omega
          have HE := Lib.hid (show R = accW t k 0 by rw [hkL]; exact HR.out)
          clear hkL
          go_wp2
          go_ret2
          rw [HE.out, ← HM.out]
          exact GotR.own_ (own_mono HOO.out hs3) (HB3.out.trans (HB.out.mono hs3))
end Go.Proofs.Ytbpeceejboojoaa
