/- AddOwner: the reference's walk, and the law. -/
import Derived.Test.YtkpofdfikmcjgaaRing5
import Derived.Test.YtkpofdfikmcjgaaAppR
namespace Go.Proofs.Ytkpofdfikmcjgaa
set_option linter.unusedVariables false
set_option linter.unusedSimpArgs false
open Go.RowKit

theorem own_cap {w : World} {base e size n c : Nat} {A : Option Addr} {xs : List Value} (h : w.ownsRow base e size (.slice A n c) n xs) : n ≤ c := by
  rcases h.2 with ⟨h1, rfl⟩ | ⟨g, cap, cur, hv, _, _, hn, _⟩
  · exact Nat.zero_le _
  · injection hv with _ _ e
    omega
theorem own_cases {w : World} {base e size n c : Nat} {A : Option Addr} {xs : List Value} (h : w.ownsRow base e size (.slice A n c) n xs) : (A = none ∧ n = 0 ∧ c = 0) ∨ ∃ g, A = some ⟨g, 0, none⟩ := by
  rcases h.2 with ⟨h1, rfl⟩ | ⟨g, cap, cur, hv, _⟩
  · injection h1 with e1 _ e3
    exact .inl ⟨e1, rfl, e3⟩
  · injection hv with e1 _ e3
    exact .inr ⟨g, e1⟩
theorem addT_zero (l : List Tok) (o : Int) : addT l o [] = l := rfl
theorem smps_take (l : List Tok) (k : Nat) : (smps l).take (k * 2) = smps (l.take k) := by
  induction l generalizing k with
  | nil => simp [smps]
  | cons p l ih =>
    cases k with
    | zero => simp [smps]
    | succ k =>
      have e : (k + 1) * 2 = k * 2 + 2 := by omega
      rw [e]
      show Value.int .i64 p.1 :: Value.int .i64 p.2 :: (smps l).take (k * 2) = _
      rw [ih]
      rfl
theorem smps_drop (l : List Tok) (k : Nat) : (smps l).drop (k * 2) = smps (l.drop k) := by
  induction l generalizing k with
  | nil => simp [smps]
  | cons p l ih =>
    cases k with
    | zero => simp [smps]
    | succ k =>
      have e : (k + 1) * 2 = k * 2 + 2 := by omega
      rw [e]
      show (smps l).drop (k * 2) = _
      rw [ih]
      rfl
theorem add_step {l T : List Tok} {o : Int} {a : List Int} {k j : Nat} {x : Int} (hT : addT l o (a.take k) = T) (hx : a[k]? = some x) (hj : j ≤ T.length)
    (h1 : ∀ i p, i < j → T[i]? = some p → p.1 < x) (h2 : ∀ p, T[j]? = some p → ¬ p.1 < x) :
    addT l o (a.take (k + 1)) = T.take j ++ [(x, o)] ++ T.drop j := by
  subst hT
  rw [take_snoc' _ _ _ hx, addT_snoc, insT_at _ x o j hj h1 h2, List.append_assoc]; rfl
set_option maxRecDepth 100000 in
set_option maxHeartbeats 8000000 in
theorem sAddOwner_any (B : Nat) (A A' : Option Addr) (n c n' c' : Nat) (l : List Tok) (o : Int) (a : List Int) (w : World) (hBw : B ≤ w.heap.size) (h : Rd w B 2 A n (smps l)) (hn : n ≤ 1048576) (h' : Rd w B 1 A' n' (ints a)) (hn' : n' ≤ 1048576) :
    Calls Try.prog 32 #[.slice A n c, .int .i64 o, .slice A' n' c'] w (GotR 75 2 w (addL l o a).length (smps (addL l o a)) (okAdd l o a)) := by
  have C1 := Lib.hid (sGoodRing_any B A n c l w hBw h hn)
  have C3 := Lib.hid (fun w1 (hb : Below w.heap.size w w1) => l3Owns_any B A n c l o w1 (Nat.le_trans hBw hb.size) (h.below (hb.mono hBw)) hn)
  have hal := h'.int_len
  rcases head_cases l o a.length with hh | ⟨hh, hf⟩
  · obtain ⟨hg, hio, hw, hm⟩ := head_good hh
    have hm2 := inB_iff.1 hm
    rw [hal] at hm2
    obtain ⟨i0, hi, hi0, hi1, hi2⟩ := info_parts infoToken
    have HI := Lib.hid (And.intro hi (And.intro hi0 (And.intro hi1 hi2)))
    clear hi hi0 hi1 hi2
    rw [hg] at C1
    rw [hw] at C3
    have C2 := Lib.hid (fun w1 => l1In_any o 0 7 w1)
    rw [hio] at C2
    have C4 := Lib.hid (fun w1 => l1In_any n' 1 8 w1)
    rw [← hal, hm] at C4
    rw [hal] at C4
    have HN := Lib.hid (show ∀ k : Nat, k < n' → incAt a k = false → okAdd l o a = false from fun k hk e => add_inc (by omega) e)
    have HE := Lib.hid (fun hi => okAdd_eq (l := l) (o := o) (a := a) hh hi)
    have HG := Lib.hid hg
    have HAL := Lib.hid hal
    have H := Lib.hid h
    have H' := Lib.hid h'
    have hnl := h.smp_len
    have HL := Lib.hid hnl
    have hnL : n ≤ 40 := by have := (goodTok_iff.1 hg).2.2; omega
    clear h h' hal hg hio hw hm hh hnl
    go_enter Try.func32, Try.ntmps32
    go_wp2_with fail
    refine C1.out.mono ?_
    rintro e w1 ⟨rfl, hb1⟩
    have HB := Lib.hid hb1
    clear hb1
    go_wp2_with fail
    refine (C2.out _).mono ?_
    rintro e w' ⟨rfl, rfl⟩
    go_wp2_with fail
    refine (C3.out _ HB.out).mono ?_
    rintro e w2 ⟨rfl, hb2⟩
    have HB2 := Lib.hid (HB.out.trans (hb2.mono HB.out.size))
    have hs2 : w.heap.size ≤ w2.heap.size := HB2.out.size
    clear hb2
    go_wp2_with fail
    refine (C4.out _).mono ?_
    rintro e w' ⟨rfl, rfl⟩
    go_wp2_with (at_builtin; refine wpList_append_rd rfl (.tmp 32) (.tmp 33) 33 rfl w.heap.size 75 i0 (.agg #[.int .i64 0, .int .i64 0]) 2 16 Try.underlying33 HI.out.1 HI.out.2.1 HI.out.2.2.1 HI.out.2.2.2 rfl (by decide) _ 0 [] rfl (World.ownsRow_lit w2 #[] 0 hs2 (by unfold maxLen; omega) rfl) A n c B (smps l) rfl ?c0 (smps_one l) (by unfold maxLen; omega) (by omega) (by simp; omega) ?_)
    case c0 => exact H.out.below ((HB2.out.alloc hs2 _).mono hBw)
    intro v' w3 ho3 hg3
    obtain ⟨A3, c3, rfl⟩ := own_slice ho3
    have HB3 := Lib.hid ((HB2.out.alloc hs2 (.cells #[] 75)).grown hg3 (by simp; omega) (fun k hk => by simp [Value.ownBlock] at hk; omega))
    have HO3 := Lib.hid (show w3.ownsRow w.heap.size 75 2 (.slice A3 n c3) n (smps l) by simpa using ho3)
    clear ho3 hg3 C1 C2 C3 C4
    go_wp2
    go_loopw [8, 37] (fun out i wr => ∃ (k : Nat) (A4 : Option Addr) (c4 : Nat), k ≤ n' ∧ i = .int .i64 k ∧ out = .slice A4 (n + k) c4 ∧ (∀ j, j < k → incAt a j = true) ∧
      wr.ownsRow w.heap.size 75 2 (.slice A4 (n + k) c4) (n + k) (smps (addT l o (a.take k))) ∧ Below w.heap.size w wr) (fun _ i _ => n' - (intOf i).toNat)
    case atStart => exact ⟨0, A3, c3, Nat.zero_le _, rfl, rfl, fun j hj => absurd hj (by omega), by simpa [addT] using HO3.out, HB3.out⟩
    case round =>
      clear HB HB2 HB3 HO3
      obtain ⟨k, A4, c4, hk, rfl, rfl, hinc, ho, hb⟩ := hrel
      obtain ⟨wo, rfl⟩ : ∃ wo : World, wo = wr := ⟨_, rfl⟩
      have HC := Lib.hid hinc
      have HO := Lib.hid ho
      have HB := Lib.hid hb
      have hsz := hb.size
      have HAT := Lib.hid (Rd.of_own ho).smp_len
      clear hinc ho hb
      by_cases hlt : k < n'
      · obtain ⟨b1, off1, x, rfl, hb1, hx, hcx⟩ := H'.out.int_at hlt
        have hdx : wo.cell? ⟨b1, off1 + k, none⟩ = some (.int .i64 x) := (bcell HB.out _ _ (by omega)).trans hcx
        have HX := Lib.hid hx
        clear hx hcx
        have hcap := own_cap HO.out
        generalize hT : addT l o (a.take k) = T at *
        generalize hN : n + k = N at *
        have HT := Lib.hid hT
        clear hT
        rcases k with _ | m
        · simp only [Nat.add_zero] at hdx
          have hin : incAt a 0 = true := rfl
          go_wp2
          go_loop [11] (fun q => ∃ j : Nat, j ≤ N ∧ q = .int .i64 j ∧ (∀ i p, i < j → T[i]? = some p → p.1 < x)) (fun q => N - (intOf q).toNat)
          case atStart => exact ⟨0, Nat.zero_le _, rfl, fun i p h => absurd h (by omega)⟩
          case round =>
            obtain ⟨j, hj, rfl, hjl⟩ := hrel
            have HJ := Lib.hid hjl
            clear hjl
            by_cases hlj : j < N
            · obtain ⟨b2, off2, y, z, rfl, hb2, hy, hc0, hc1⟩ := (Rd.of_own HO.out).smp_at hlj
              have HY := Lib.hid hy
              clear hy hc1
              by_cases hyx : y < x
              · go_wp2
                go_round
                case rel => exact ⟨j + 1, by omega, by go_num, fun i p hi hp => by
                                    rcases (show i < j ∨ i = j by omega) with h | rfl
                                    · exact HJ.out i p h hp
                                    · rw [HY.out] at hp; injection hp with hp; subst hp; exact hyx⟩
                case measure => simp [intOf]; omega
              · have hstop : ∀ p, T[j]? = some p → ¬ p.1 < x := by
                  intro p hp; rw [HY.out] at hp; injection hp with hp; subst hp; exact hyx
                clear HY
                have hcz : ¬ c4 = j := by omega
                have HST := Lib.hid (add_step HT.out HX.out (by rw [HAT.out]; omega) (fun i p hi hp => HJ.out i p hi hp) hstop)
                have hll := HAT.out
                clear hstop
                have HSP := Lib.hid ((Rd.of_own HO.out).pre (k := j) (by omega))
                have hsd := (Rd.of_own HO.out).cut (k := j) (cap := c4) (by omega) hcap
                simp only [hcz, if_true, if_false, Option.map_some, Option.map_none, Addr.add_lit] at hsd
                have HSD := Lib.hid hsd
                clear hsd
                go_wp2_with (at_builtin; refine wpList_append_rd rfl (.tmp 68) (.tmp 71) 33 rfl wo.heap.size 75 i0 (.agg #[.int .i64 0, .int .i64 0]) 2 16 Try.underlying33 HI.out.1 HI.out.2.1 HI.out.2.2.1 HI.out.2.2.2 rfl (by decide) _ 0 [] rfl (World.ownsRow_lit wo #[] 0 (Nat.le_refl _) (by unfold maxLen; omega) rfl) _ j _ wo.heap.size _ rfl (HSP.out.below ((Below.refl _ _).alloc (Nat.le_refl _) _)) ?c1 ?c2 (by omega) (by simp) ?_)
                case c1 => rw [smps_take]; exact smps_one _
                case c2 => unfold maxLen; omega
                intro v1 w4 ho4 hg4
                have HB4 := Lib.hid (((Below.refl wo.heap.size wo).alloc (Nat.le_refl _) (.cells #[] 75)).grown hg4 (by simp) (fun k hk => by simp [Value.ownBlock] at hk; omega))
                obtain ⟨A5, c5, rfl⟩ := own_slice ho4
                have HO4 := Lib.hid (show w4.ownsRow wo.heap.size 75 2 (.slice A5 j c5) j (smps (T.take j)) by rw [← smps_take]; simpa using ho4)
                have hs4 := HB4.out.size
                clear ho4 hg4 HSP
                go_wp2_with (at_builtin; refine wpList_append_own _ rfl (.tmp 73) (.tmp 77) 33 rfl wo.heap.size 75 i0 (.agg #[.int .i64 0, .int .i64 0]) 2 16 Try.underlying33 HI.out.1 HI.out.2.1 HI.out.2.2.1 HI.out.2.2.2 rfl (by decide) _ j _ rfl (HO4.out.alloc _) ⟨w4.heap.size, 0, none⟩ 1 1 [.int .i64 x, .int .i64 o] rfl rfl ?d1 (by simp [Value.oneCell']) ?d3 ?d4 ?d5 ?_)
                case d1 =>
                  intro i u hj
                  match i, hj with
                  | 0, hj => simp at hj; subst hj; simp [Addr.add]
                  | 1, hj => simp at hj; subst hj; simp [Addr.add]
                case d3 => unfold maxLen; omega
                case d4 => omega
                case d5 => simp; omega
                intro v2 w5 ho5 hg5 _
                have HB5 := Lib.hid ((HB4.out.alloc hs4 (.cells #[.int .i64 x, .int .i64 o] 75)).grown hg5 (by simp; omega) (fun k hk => (HO4.out.lt k hk).1))
                obtain ⟨A6, c6, rfl⟩ := own_slice ho5
                have HO5 := Lib.hid (show w5.ownsRow wo.heap.size 75 2 (.slice A6 (j + 1) c6) (j + 1) (smps (T.take j ++ [(x, o)])) by rw [smps_app]; exact ho5)
                have hs5 := HB5.out.size
                clear ho5 hg5 HO4 HB4
                go_wp2_with (at_builtin; refine wpList_append_rd rfl (.tmp 79) (.tmp 82) 33 rfl wo.heap.size 75 i0 (.agg #[.int .i64 0, .int .i64 0]) 2 16 Try.underlying33 HI.out.1 HI.out.2.1 HI.out.2.2.1 HI.out.2.2.2 rfl (by decide) _ (j + 1) _ rfl HO5.out _ (N - j) _ wo.heap.size ((smps T).drop (j * 2)) rfl ?e0 ?e1 ?e2 (by omega) hs5 ?_)
                case e0 => first | exact HSD.out.below HB5.out | simpa using HSD.out.below HB5.out
                case e1 => rw [smps_drop]; exact smps_one _
                case e2 => unfold maxLen; omega
                intro v3 w6 ho6 hg6
                have HB6 := Lib.hid (HB.out.trans ((HB5.out.grown hg6 hs5 (fun k hk => (HO5.out.lt k hk).1)).mono hsz))
                obtain ⟨A7, c7, rfl⟩ := own_slice ho6
                have HO6 := Lib.hid (show w6.ownsRow w.heap.size 75 2 (.slice A7 (N + 1) c7) (N + 1) (smps (addT l o (a.take (0 + 1)))) by
                  rw [HST.out, smps_app, ← smps_drop]
                  have e : j + 1 + (N - j) = N + 1 := by omega
                  rw [e] at ho6
                  exact own_mono ho6 hsz)
                have hnn : j + 1 + (N - j) = N + 1 := by omega
                rw [hnn]
                clear ho6 hg6 HO5 HB5 HSD
                go_wp2
                go_roundw
                case rel => exact ⟨0 + 1, A7, c7, by omega, by go_num, by rw [show n + (0 + 1) = N + 1 by omega], fun i hi => by
                                    rcases (show i < 0 ∨ i = 0 by omega) with h | rfl
                                    · exact HC.out i h
                                    · exact hin, by rw [show n + (0 + 1) = N + 1 by omega]; exact HO6.out, HB6.out⟩
                case measure => simp [intOf]; omega
            · have hstop : ∀ p, T[j]? = some p → ¬ p.1 < x := by
                intro p hp; rw [List.getElem?_eq_none (by rw [HAT.out]; omega)] at hp; cases hp
              rcases own_cases HO.out with ⟨rfl, hN0, hc40⟩ | ⟨g, rfl⟩
              · have hcz : c4 = j := by omega
                clear hN0 hc40
                have HST := Lib.hid (add_step HT.out HX.out (by rw [HAT.out]; omega) (fun i p hi hp => HJ.out i p hi hp) hstop)
                have hll := HAT.out
                clear hstop
                have HSP := Lib.hid ((Rd.of_own HO.out).pre (k := j) (by omega))
                have hsd := (Rd.of_own HO.out).cut (k := j) (cap := c4) (by omega) hcap
                simp only [hcz, if_true, if_false, Option.map_some, Option.map_none, Addr.add_lit] at hsd
                have HSD := Lib.hid hsd
                clear hsd
                go_wp2_with (at_builtin; refine wpList_append_rd rfl (.tmp 68) (.tmp 71) 33 rfl wo.heap.size 75 i0 (.agg #[.int .i64 0, .int .i64 0]) 2 16 Try.underlying33 HI.out.1 HI.out.2.1 HI.out.2.2.1 HI.out.2.2.2 rfl (by decide) _ 0 [] rfl (World.ownsRow_lit wo #[] 0 (Nat.le_refl _) (by unfold maxLen; omega) rfl) _ j _ wo.heap.size _ rfl (HSP.out.below ((Below.refl _ _).alloc (Nat.le_refl _) _)) ?c1 ?c2 (by omega) (by simp) ?_)
                case c1 => rw [smps_take]; exact smps_one _
                case c2 => unfold maxLen; omega
                intro v1 w4 ho4 hg4
                have HB4 := Lib.hid (((Below.refl wo.heap.size wo).alloc (Nat.le_refl _) (.cells #[] 75)).grown hg4 (by simp) (fun k hk => by simp [Value.ownBlock] at hk; omega))
                obtain ⟨A5, c5, rfl⟩ := own_slice ho4
                have HO4 := Lib.hid (show w4.ownsRow wo.heap.size 75 2 (.slice A5 j c5) j (smps (T.take j)) by rw [← smps_take]; simpa using ho4)
                have hs4 := HB4.out.size
                clear ho4 hg4 HSP
                go_wp2_with (at_builtin; refine wpList_append_own _ rfl (.tmp 73) (.tmp 77) 33 rfl wo.heap.size 75 i0 (.agg #[.int .i64 0, .int .i64 0]) 2 16 Try.underlying33 HI.out.1 HI.out.2.1 HI.out.2.2.1 HI.out.2.2.2 rfl (by decide) _ j _ rfl (HO4.out.alloc _) ⟨w4.heap.size, 0, none⟩ 1 1 [.int .i64 x, .int .i64 o] rfl rfl ?d1 (by simp [Value.oneCell']) ?d3 ?d4 ?d5 ?_)
                case d1 =>
                  intro i u hj
                  match i, hj with
                  | 0, hj => simp at hj; subst hj; simp [Addr.add]
                  | 1, hj => simp at hj; subst hj; simp [Addr.add]
                case d3 => unfold maxLen; omega
                case d4 => omega
                case d5 => simp; omega
                intro v2 w5 ho5 hg5 _
                have HB5 := Lib.hid ((HB4.out.alloc hs4 (.cells #[.int .i64 x, .int .i64 o] 75)).grown hg5 (by simp; omega) (fun k hk => (HO4.out.lt k hk).1))
                obtain ⟨A6, c6, rfl⟩ := own_slice ho5
                have HO5 := Lib.hid (show w5.ownsRow wo.heap.size 75 2 (.slice A6 (j + 1) c6) (j + 1) (smps (T.take j ++ [(x, o)])) by rw [smps_app]; exact ho5)
                have hs5 := HB5.out.size
                clear ho5 hg5 HO4 HB4
                go_wp2_with (at_builtin; refine wpList_append_rd rfl (.tmp 79) (.tmp 82) 33 rfl wo.heap.size 75 i0 (.agg #[.int .i64 0, .int .i64 0]) 2 16 Try.underlying33 HI.out.1 HI.out.2.1 HI.out.2.2.1 HI.out.2.2.2 rfl (by decide) _ (j + 1) _ rfl HO5.out _ (N - j) _ wo.heap.size ((smps T).drop (j * 2)) rfl ?e0 ?e1 ?e2 (by omega) hs5 ?_)
                case e0 => first | exact HSD.out.below HB5.out | simpa using HSD.out.below HB5.out
                case e1 => rw [smps_drop]; exact smps_one _
                case e2 => unfold maxLen; omega
                intro v3 w6 ho6 hg6
                have HB6 := Lib.hid (HB.out.trans ((HB5.out.grown hg6 hs5 (fun k hk => (HO5.out.lt k hk).1)).mono hsz))
                obtain ⟨A7, c7, rfl⟩ := own_slice ho6
                have HO6 := Lib.hid (show w6.ownsRow w.heap.size 75 2 (.slice A7 (N + 1) c7) (N + 1) (smps (addT l o (a.take (0 + 1)))) by
                  rw [HST.out, smps_app, ← smps_drop]
                  have e : j + 1 + (N - j) = N + 1 := by omega
                  rw [e] at ho6
                  exact own_mono ho6 hsz)
                have hnn : j + 1 + (N - j) = N + 1 := by omega
                rw [hnn]
                clear ho6 hg6 HO5 HB5 HSD
                go_wp2
                go_roundw
                case rel => exact ⟨0 + 1, A7, c7, by omega, by go_num, by rw [show n + (0 + 1) = N + 1 by omega], fun i hi => by
                                    rcases (show i < 0 ∨ i = 0 by omega) with h | rfl
                                    · exact HC.out i h
                                    · exact hin, by rw [show n + (0 + 1) = N + 1 by omega]; exact HO6.out, HB6.out⟩
                case measure => simp [intOf]; omega
              · skip
                by_cases hcz : c4 = j
                · skip
                  have HST := Lib.hid (add_step HT.out HX.out (by rw [HAT.out]; omega) (fun i p hi hp => HJ.out i p hi hp) hstop)
                  have hll := HAT.out
                  clear hstop
                  have HSP := Lib.hid ((Rd.of_own HO.out).pre (k := j) (by omega))
                  have hsd := (Rd.of_own HO.out).cut (k := j) (cap := c4) (by omega) hcap
                  simp only [hcz, if_true, if_false, Option.map_some, Option.map_none, Addr.add_lit] at hsd
                  have HSD := Lib.hid hsd
                  clear hsd
                  go_wp2_with (at_builtin; refine wpList_append_rd rfl (.tmp 68) (.tmp 71) 33 rfl wo.heap.size 75 i0 (.agg #[.int .i64 0, .int .i64 0]) 2 16 Try.underlying33 HI.out.1 HI.out.2.1 HI.out.2.2.1 HI.out.2.2.2 rfl (by decide) _ 0 [] rfl (World.ownsRow_lit wo #[] 0 (Nat.le_refl _) (by unfold maxLen; omega) rfl) _ j _ wo.heap.size _ rfl (HSP.out.below ((Below.refl _ _).alloc (Nat.le_refl _) _)) ?c1 ?c2 (by omega) (by simp) ?_)
                  case c1 => rw [smps_take]; exact smps_one _
                  case c2 => unfold maxLen; omega
                  intro v1 w4 ho4 hg4
                  have HB4 := Lib.hid (((Below.refl wo.heap.size wo).alloc (Nat.le_refl _) (.cells #[] 75)).grown hg4 (by simp) (fun k hk => by simp [Value.ownBlock] at hk; omega))
                  obtain ⟨A5, c5, rfl⟩ := own_slice ho4
                  have HO4 := Lib.hid (show w4.ownsRow wo.heap.size 75 2 (.slice A5 j c5) j (smps (T.take j)) by rw [← smps_take]; simpa using ho4)
                  have hs4 := HB4.out.size
                  clear ho4 hg4 HSP
                  go_wp2_with (at_builtin; refine wpList_append_own _ rfl (.tmp 73) (.tmp 77) 33 rfl wo.heap.size 75 i0 (.agg #[.int .i64 0, .int .i64 0]) 2 16 Try.underlying33 HI.out.1 HI.out.2.1 HI.out.2.2.1 HI.out.2.2.2 rfl (by decide) _ j _ rfl (HO4.out.alloc _) ⟨w4.heap.size, 0, none⟩ 1 1 [.int .i64 x, .int .i64 o] rfl rfl ?d1 (by simp [Value.oneCell']) ?d3 ?d4 ?d5 ?_)
                  case d1 =>
                    intro i u hj
                    match i, hj with
                    | 0, hj => simp at hj; subst hj; simp [Addr.add]
                    | 1, hj => simp at hj; subst hj; simp [Addr.add]
                  case d3 => unfold maxLen; omega
                  case d4 => omega
                  case d5 => simp; omega
                  intro v2 w5 ho5 hg5 _
                  have HB5 := Lib.hid ((HB4.out.alloc hs4 (.cells #[.int .i64 x, .int .i64 o] 75)).grown hg5 (by simp; omega) (fun k hk => (HO4.out.lt k hk).1))
                  obtain ⟨A6, c6, rfl⟩ := own_slice ho5
                  have HO5 := Lib.hid (show w5.ownsRow wo.heap.size 75 2 (.slice A6 (j + 1) c6) (j + 1) (smps (T.take j ++ [(x, o)])) by rw [smps_app]; exact ho5)
                  have hs5 := HB5.out.size
                  clear ho5 hg5 HO4 HB4
                  go_wp2_with (at_builtin; refine wpList_append_rd rfl (.tmp 79) (.tmp 82) 33 rfl wo.heap.size 75 i0 (.agg #[.int .i64 0, .int .i64 0]) 2 16 Try.underlying33 HI.out.1 HI.out.2.1 HI.out.2.2.1 HI.out.2.2.2 rfl (by decide) _ (j + 1) _ rfl HO5.out _ (N - j) _ wo.heap.size ((smps T).drop (j * 2)) rfl ?e0 ?e1 ?e2 (by omega) hs5 ?_)
                  case e0 => first | exact HSD.out.below HB5.out | simpa using HSD.out.below HB5.out
                  case e1 => rw [smps_drop]; exact smps_one _
                  case e2 => unfold maxLen; omega
                  intro v3 w6 ho6 hg6
                  have HB6 := Lib.hid (HB.out.trans ((HB5.out.grown hg6 hs5 (fun k hk => (HO5.out.lt k hk).1)).mono hsz))
                  obtain ⟨A7, c7, rfl⟩ := own_slice ho6
                  have HO6 := Lib.hid (show w6.ownsRow w.heap.size 75 2 (.slice A7 (N + 1) c7) (N + 1) (smps (addT l o (a.take (0 + 1)))) by
                    rw [HST.out, smps_app, ← smps_drop]
                    have e : j + 1 + (N - j) = N + 1 := by omega
                    rw [e] at ho6
                    exact own_mono ho6 hsz)
                  have hnn : j + 1 + (N - j) = N + 1 := by omega
                  rw [hnn]
                  clear ho6 hg6 HO5 HB5 HSD
                  go_wp2
                  go_roundw
                  case rel => exact ⟨0 + 1, A7, c7, by omega, by go_num, by rw [show n + (0 + 1) = N + 1 by omega], fun i hi => by
                                      rcases (show i < 0 ∨ i = 0 by omega) with h | rfl
                                      · exact HC.out i h
                                      · exact hin, by rw [show n + (0 + 1) = N + 1 by omega]; exact HO6.out, HB6.out⟩
                  case measure => simp [intOf]; omega
                · skip
                  have HST := Lib.hid (add_step HT.out HX.out (by rw [HAT.out]; omega) (fun i p hi hp => HJ.out i p hi hp) hstop)
                  have hll := HAT.out
                  clear hstop
                  have HSP := Lib.hid ((Rd.of_own HO.out).pre (k := j) (by omega))
                  have hsd := (Rd.of_own HO.out).cut (k := j) (cap := c4) (by omega) hcap
                  simp only [hcz, if_true, if_false, Option.map_some, Option.map_none, Addr.add_lit] at hsd
                  have HSD := Lib.hid hsd
                  clear hsd
                  go_wp2_with (at_builtin; refine wpList_append_rd rfl (.tmp 68) (.tmp 71) 33 rfl wo.heap.size 75 i0 (.agg #[.int .i64 0, .int .i64 0]) 2 16 Try.underlying33 HI.out.1 HI.out.2.1 HI.out.2.2.1 HI.out.2.2.2 rfl (by decide) _ 0 [] rfl (World.ownsRow_lit wo #[] 0 (Nat.le_refl _) (by unfold maxLen; omega) rfl) _ j _ wo.heap.size _ rfl (HSP.out.below ((Below.refl _ _).alloc (Nat.le_refl _) _)) ?c1 ?c2 (by omega) (by simp) ?_)
                  case c1 => rw [smps_take]; exact smps_one _
                  case c2 => unfold maxLen; omega
                  intro v1 w4 ho4 hg4
                  have HB4 := Lib.hid (((Below.refl wo.heap.size wo).alloc (Nat.le_refl _) (.cells #[] 75)).grown hg4 (by simp) (fun k hk => by simp [Value.ownBlock] at hk; omega))
                  obtain ⟨A5, c5, rfl⟩ := own_slice ho4
                  have HO4 := Lib.hid (show w4.ownsRow wo.heap.size 75 2 (.slice A5 j c5) j (smps (T.take j)) by rw [← smps_take]; simpa using ho4)
                  have hs4 := HB4.out.size
                  clear ho4 hg4 HSP
                  go_wp2_with (at_builtin; refine wpList_append_own _ rfl (.tmp 73) (.tmp 77) 33 rfl wo.heap.size 75 i0 (.agg #[.int .i64 0, .int .i64 0]) 2 16 Try.underlying33 HI.out.1 HI.out.2.1 HI.out.2.2.1 HI.out.2.2.2 rfl (by decide) _ j _ rfl (HO4.out.alloc _) ⟨w4.heap.size, 0, none⟩ 1 1 [.int .i64 x, .int .i64 o] rfl rfl ?d1 (by simp [Value.oneCell']) ?d3 ?d4 ?d5 ?_)
                  case d1 =>
                    intro i u hj
                    match i, hj with
                    | 0, hj => simp at hj; subst hj; simp [Addr.add]
                    | 1, hj => simp at hj; subst hj; simp [Addr.add]
                  case d3 => unfold maxLen; omega
                  case d4 => omega
                  case d5 => simp; omega
                  intro v2 w5 ho5 hg5 _
                  have HB5 := Lib.hid ((HB4.out.alloc hs4 (.cells #[.int .i64 x, .int .i64 o] 75)).grown hg5 (by simp; omega) (fun k hk => (HO4.out.lt k hk).1))
                  obtain ⟨A6, c6, rfl⟩ := own_slice ho5
                  have HO5 := Lib.hid (show w5.ownsRow wo.heap.size 75 2 (.slice A6 (j + 1) c6) (j + 1) (smps (T.take j ++ [(x, o)])) by rw [smps_app]; exact ho5)
                  have hs5 := HB5.out.size
                  clear ho5 hg5 HO4 HB4
                  go_wp2_with (at_builtin; refine wpList_append_rd rfl (.tmp 79) (.tmp 82) 33 rfl wo.heap.size 75 i0 (.agg #[.int .i64 0, .int .i64 0]) 2 16 Try.underlying33 HI.out.1 HI.out.2.1 HI.out.2.2.1 HI.out.2.2.2 rfl (by decide) _ (j + 1) _ rfl HO5.out _ (N - j) _ wo.heap.size ((smps T).drop (j * 2)) rfl ?e0 ?e1 ?e2 (by omega) hs5 ?_)
                  case e0 => first | exact HSD.out.below HB5.out | simpa using HSD.out.below HB5.out
                  case e1 => rw [smps_drop]; exact smps_one _
                  case e2 => unfold maxLen; omega
                  intro v3 w6 ho6 hg6
                  have HB6 := Lib.hid (HB.out.trans ((HB5.out.grown hg6 hs5 (fun k hk => (HO5.out.lt k hk).1)).mono hsz))
                  obtain ⟨A7, c7, rfl⟩ := own_slice ho6
                  have HO6 := Lib.hid (show w6.ownsRow w.heap.size 75 2 (.slice A7 (N + 1) c7) (N + 1) (smps (addT l o (a.take (0 + 1)))) by
                    rw [HST.out, smps_app, ← smps_drop]
                    have e : j + 1 + (N - j) = N + 1 := by omega
                    rw [e] at ho6
                    exact own_mono ho6 hsz)
                  have hnn : j + 1 + (N - j) = N + 1 := by omega
                  rw [hnn]
                  clear ho6 hg6 HO5 HB5 HSD
                  go_wp2
                  go_roundw
                  case rel => exact ⟨0 + 1, A7, c7, by omega, by go_num, by rw [show n + (0 + 1) = N + 1 by omega], fun i hi => by
                                      rcases (show i < 0 ∨ i = 0 by omega) with h | rfl
                                      · exact HC.out i h
                                      · exact hin, by rw [show n + (0 + 1) = N + 1 by omega]; exact HO6.out, HB6.out⟩
                  case measure => simp [intOf]; omega
        · obtain ⟨b2, off2, y, he, hb2, hy, hcy⟩ := H'.out.int_at (k := m) (by omega)
          obtain ⟨rfl, rfl⟩ : b1 = b2 ∧ off1 = off2 := by simpa using he
          have hdy : wo.cell? ⟨b1, off1 + m, none⟩ = some (.int .i64 y) := (bcell HB.out _ _ (by omega)).trans hcy
          have HIN := Lib.hid (incAt_succ (a := a) hy HX.out)
          clear hy hcy he
          by_cases hyx : y < x
          · have hin : incAt a (m + 1) = true := by rw [HIN.out]; simpa using hyx
            have hyx' : decide (x ≤ y) = false := by simp; omega
            go_wp2
            go_loop [11] (fun q => ∃ j : Nat, j ≤ N ∧ q = .int .i64 j ∧ (∀ i p, i < j → T[i]? = some p → p.1 < x)) (fun q => N - (intOf q).toNat)
            case atStart => exact ⟨0, Nat.zero_le _, rfl, fun i p h => absurd h (by omega)⟩
            case round =>
              obtain ⟨j, hj, rfl, hjl⟩ := hrel
              have HJ := Lib.hid hjl
              clear hjl
              by_cases hlj : j < N
              · obtain ⟨b2, off2, y, z, rfl, hb2, hy, hc0, hc1⟩ := (Rd.of_own HO.out).smp_at hlj
                have HY := Lib.hid hy
                clear hy hc1
                by_cases hyx : y < x
                · go_wp2
                  go_round
                  case rel => exact ⟨j + 1, by omega, by go_num, fun i p hi hp => by
                                      rcases (show i < j ∨ i = j by omega) with h | rfl
                                      · exact HJ.out i p h hp
                                      · rw [HY.out] at hp; injection hp with hp; subst hp; exact hyx⟩
                  case measure => simp [intOf]; omega
                · have hstop : ∀ p, T[j]? = some p → ¬ p.1 < x := by
                    intro p hp; rw [HY.out] at hp; injection hp with hp; subst hp; exact hyx
                  clear HY
                  have hcz : ¬ c4 = j := by omega
                  have HST := Lib.hid (add_step HT.out HX.out (by rw [HAT.out]; omega) (fun i p hi hp => HJ.out i p hi hp) hstop)
                  have hll := HAT.out
                  clear hstop
                  have HSP := Lib.hid ((Rd.of_own HO.out).pre (k := j) (by omega))
                  have hsd := (Rd.of_own HO.out).cut (k := j) (cap := c4) (by omega) hcap
                  simp only [hcz, if_true, if_false, Option.map_some, Option.map_none, Addr.add_lit] at hsd
                  have HSD := Lib.hid hsd
                  clear hsd
                  go_wp2_with (at_builtin; refine wpList_append_rd rfl (.tmp 68) (.tmp 71) 33 rfl wo.heap.size 75 i0 (.agg #[.int .i64 0, .int .i64 0]) 2 16 Try.underlying33 HI.out.1 HI.out.2.1 HI.out.2.2.1 HI.out.2.2.2 rfl (by decide) _ 0 [] rfl (World.ownsRow_lit wo #[] 0 (Nat.le_refl _) (by unfold maxLen; omega) rfl) _ j _ wo.heap.size _ rfl (HSP.out.below ((Below.refl _ _).alloc (Nat.le_refl _) _)) ?c1 ?c2 (by omega) (by simp) ?_)
                  case c1 => rw [smps_take]; exact smps_one _
                  case c2 => unfold maxLen; omega
                  intro v1 w4 ho4 hg4
                  have HB4 := Lib.hid (((Below.refl wo.heap.size wo).alloc (Nat.le_refl _) (.cells #[] 75)).grown hg4 (by simp) (fun k hk => by simp [Value.ownBlock] at hk; omega))
                  obtain ⟨A5, c5, rfl⟩ := own_slice ho4
                  have HO4 := Lib.hid (show w4.ownsRow wo.heap.size 75 2 (.slice A5 j c5) j (smps (T.take j)) by rw [← smps_take]; simpa using ho4)
                  have hs4 := HB4.out.size
                  clear ho4 hg4 HSP
                  go_wp2_with (at_builtin; refine wpList_append_own _ rfl (.tmp 73) (.tmp 77) 33 rfl wo.heap.size 75 i0 (.agg #[.int .i64 0, .int .i64 0]) 2 16 Try.underlying33 HI.out.1 HI.out.2.1 HI.out.2.2.1 HI.out.2.2.2 rfl (by decide) _ j _ rfl (HO4.out.alloc _) ⟨w4.heap.size, 0, none⟩ 1 1 [.int .i64 x, .int .i64 o] rfl rfl ?d1 (by simp [Value.oneCell']) ?d3 ?d4 ?d5 ?_)
                  case d1 =>
                    intro i u hj
                    match i, hj with
                    | 0, hj => simp at hj; subst hj; simp [Addr.add]
                    | 1, hj => simp at hj; subst hj; simp [Addr.add]
                  case d3 => unfold maxLen; omega
                  case d4 => omega
                  case d5 => simp; omega
                  intro v2 w5 ho5 hg5 _
                  have HB5 := Lib.hid ((HB4.out.alloc hs4 (.cells #[.int .i64 x, .int .i64 o] 75)).grown hg5 (by simp; omega) (fun k hk => (HO4.out.lt k hk).1))
                  obtain ⟨A6, c6, rfl⟩ := own_slice ho5
                  have HO5 := Lib.hid (show w5.ownsRow wo.heap.size 75 2 (.slice A6 (j + 1) c6) (j + 1) (smps (T.take j ++ [(x, o)])) by rw [smps_app]; exact ho5)
                  have hs5 := HB5.out.size
                  clear ho5 hg5 HO4 HB4
                  go_wp2_with (at_builtin; refine wpList_append_rd rfl (.tmp 79) (.tmp 82) 33 rfl wo.heap.size 75 i0 (.agg #[.int .i64 0, .int .i64 0]) 2 16 Try.underlying33 HI.out.1 HI.out.2.1 HI.out.2.2.1 HI.out.2.2.2 rfl (by decide) _ (j + 1) _ rfl HO5.out _ (N - j) _ wo.heap.size ((smps T).drop (j * 2)) rfl ?e0 ?e1 ?e2 (by omega) hs5 ?_)
                  case e0 => first | exact HSD.out.below HB5.out | simpa using HSD.out.below HB5.out
                  case e1 => rw [smps_drop]; exact smps_one _
                  case e2 => unfold maxLen; omega
                  intro v3 w6 ho6 hg6
                  have HB6 := Lib.hid (HB.out.trans ((HB5.out.grown hg6 hs5 (fun k hk => (HO5.out.lt k hk).1)).mono hsz))
                  obtain ⟨A7, c7, rfl⟩ := own_slice ho6
                  have HO6 := Lib.hid (show w6.ownsRow w.heap.size 75 2 (.slice A7 (N + 1) c7) (N + 1) (smps (addT l o (a.take (m + 1 + 1)))) by
                    rw [HST.out, smps_app, ← smps_drop]
                    have e : j + 1 + (N - j) = N + 1 := by omega
                    rw [e] at ho6
                    exact own_mono ho6 hsz)
                  have hnn : j + 1 + (N - j) = N + 1 := by omega
                  rw [hnn]
                  clear ho6 hg6 HO5 HB5 HSD
                  go_wp2
                  go_roundw
                  case rel => exact ⟨m + 1 + 1, A7, c7, by omega, by go_num, by rw [show n + (m + 1 + 1) = N + 1 by omega], fun i hi => by
                                      rcases (show i < m + 1 ∨ i = m + 1 by omega) with h | rfl
                                      · exact HC.out i h
                                      · exact hin, by rw [show n + (m + 1 + 1) = N + 1 by omega]; exact HO6.out, HB6.out⟩
                  case measure => simp [intOf]; omega
              · have hstop : ∀ p, T[j]? = some p → ¬ p.1 < x := by
                  intro p hp; rw [List.getElem?_eq_none (by rw [HAT.out]; omega)] at hp; cases hp
                rcases own_cases HO.out with ⟨rfl, hN0, hc40⟩ | ⟨g, rfl⟩
                · exact absurd hN0 (by omega)
                · skip
                  by_cases hcz : c4 = j
                  · skip
                    have HST := Lib.hid (add_step HT.out HX.out (by rw [HAT.out]; omega) (fun i p hi hp => HJ.out i p hi hp) hstop)
                    have hll := HAT.out
                    clear hstop
                    have HSP := Lib.hid ((Rd.of_own HO.out).pre (k := j) (by omega))
                    have hsd := (Rd.of_own HO.out).cut (k := j) (cap := c4) (by omega) hcap
                    simp only [hcz, if_true, if_false, Option.map_some, Option.map_none, Addr.add_lit] at hsd
                    have HSD := Lib.hid hsd
                    clear hsd
                    go_wp2_with (at_builtin; refine wpList_append_rd rfl (.tmp 68) (.tmp 71) 33 rfl wo.heap.size 75 i0 (.agg #[.int .i64 0, .int .i64 0]) 2 16 Try.underlying33 HI.out.1 HI.out.2.1 HI.out.2.2.1 HI.out.2.2.2 rfl (by decide) _ 0 [] rfl (World.ownsRow_lit wo #[] 0 (Nat.le_refl _) (by unfold maxLen; omega) rfl) _ j _ wo.heap.size _ rfl (HSP.out.below ((Below.refl _ _).alloc (Nat.le_refl _) _)) ?c1 ?c2 (by omega) (by simp) ?_)
                    case c1 => rw [smps_take]; exact smps_one _
                    case c2 => unfold maxLen; omega
                    intro v1 w4 ho4 hg4
                    have HB4 := Lib.hid (((Below.refl wo.heap.size wo).alloc (Nat.le_refl _) (.cells #[] 75)).grown hg4 (by simp) (fun k hk => by simp [Value.ownBlock] at hk; omega))
                    obtain ⟨A5, c5, rfl⟩ := own_slice ho4
                    have HO4 := Lib.hid (show w4.ownsRow wo.heap.size 75 2 (.slice A5 j c5) j (smps (T.take j)) by rw [← smps_take]; simpa using ho4)
                    have hs4 := HB4.out.size
                    clear ho4 hg4 HSP
                    go_wp2_with (at_builtin; refine wpList_append_own _ rfl (.tmp 73) (.tmp 77) 33 rfl wo.heap.size 75 i0 (.agg #[.int .i64 0, .int .i64 0]) 2 16 Try.underlying33 HI.out.1 HI.out.2.1 HI.out.2.2.1 HI.out.2.2.2 rfl (by decide) _ j _ rfl (HO4.out.alloc _) ⟨w4.heap.size, 0, none⟩ 1 1 [.int .i64 x, .int .i64 o] rfl rfl ?d1 (by simp [Value.oneCell']) ?d3 ?d4 ?d5 ?_)
                    case d1 =>
                      intro i u hj
                      match i, hj with
                      | 0, hj => simp at hj; subst hj; simp [Addr.add]
                      | 1, hj => simp at hj; subst hj; simp [Addr.add]
                    case d3 => unfold maxLen; omega
                    case d4 => omega
                    case d5 => simp; omega
                    intro v2 w5 ho5 hg5 _
                    have HB5 := Lib.hid ((HB4.out.alloc hs4 (.cells #[.int .i64 x, .int .i64 o] 75)).grown hg5 (by simp; omega) (fun k hk => (HO4.out.lt k hk).1))
                    obtain ⟨A6, c6, rfl⟩ := own_slice ho5
                    have HO5 := Lib.hid (show w5.ownsRow wo.heap.size 75 2 (.slice A6 (j + 1) c6) (j + 1) (smps (T.take j ++ [(x, o)])) by rw [smps_app]; exact ho5)
                    have hs5 := HB5.out.size
                    clear ho5 hg5 HO4 HB4
                    go_wp2_with (at_builtin; refine wpList_append_rd rfl (.tmp 79) (.tmp 82) 33 rfl wo.heap.size 75 i0 (.agg #[.int .i64 0, .int .i64 0]) 2 16 Try.underlying33 HI.out.1 HI.out.2.1 HI.out.2.2.1 HI.out.2.2.2 rfl (by decide) _ (j + 1) _ rfl HO5.out _ (N - j) _ wo.heap.size ((smps T).drop (j * 2)) rfl ?e0 ?e1 ?e2 (by omega) hs5 ?_)
                    case e0 => first | exact HSD.out.below HB5.out | simpa using HSD.out.below HB5.out
                    case e1 => rw [smps_drop]; exact smps_one _
                    case e2 => unfold maxLen; omega
                    intro v3 w6 ho6 hg6
                    have HB6 := Lib.hid (HB.out.trans ((HB5.out.grown hg6 hs5 (fun k hk => (HO5.out.lt k hk).1)).mono hsz))
                    obtain ⟨A7, c7, rfl⟩ := own_slice ho6
                    have HO6 := Lib.hid (show w6.ownsRow w.heap.size 75 2 (.slice A7 (N + 1) c7) (N + 1) (smps (addT l o (a.take (m + 1 + 1)))) by
                      rw [HST.out, smps_app, ← smps_drop]
                      have e : j + 1 + (N - j) = N + 1 := by omega
                      rw [e] at ho6
                      exact own_mono ho6 hsz)
                    have hnn : j + 1 + (N - j) = N + 1 := by omega
                    rw [hnn]
                    clear ho6 hg6 HO5 HB5 HSD
                    go_wp2
                    go_roundw
                    case rel => exact ⟨m + 1 + 1, A7, c7, by omega, by go_num, by rw [show n + (m + 1 + 1) = N + 1 by omega], fun i hi => by
                                        rcases (show i < m + 1 ∨ i = m + 1 by omega) with h | rfl
                                        · exact HC.out i h
                                        · exact hin, by rw [show n + (m + 1 + 1) = N + 1 by omega]; exact HO6.out, HB6.out⟩
                    case measure => simp [intOf]; omega
                  · skip
                    have HST := Lib.hid (add_step HT.out HX.out (by rw [HAT.out]; omega) (fun i p hi hp => HJ.out i p hi hp) hstop)
                    have hll := HAT.out
                    clear hstop
                    have HSP := Lib.hid ((Rd.of_own HO.out).pre (k := j) (by omega))
                    have hsd := (Rd.of_own HO.out).cut (k := j) (cap := c4) (by omega) hcap
                    simp only [hcz, if_true, if_false, Option.map_some, Option.map_none, Addr.add_lit] at hsd
                    have HSD := Lib.hid hsd
                    clear hsd
                    go_wp2_with (at_builtin; refine wpList_append_rd rfl (.tmp 68) (.tmp 71) 33 rfl wo.heap.size 75 i0 (.agg #[.int .i64 0, .int .i64 0]) 2 16 Try.underlying33 HI.out.1 HI.out.2.1 HI.out.2.2.1 HI.out.2.2.2 rfl (by decide) _ 0 [] rfl (World.ownsRow_lit wo #[] 0 (Nat.le_refl _) (by unfold maxLen; omega) rfl) _ j _ wo.heap.size _ rfl (HSP.out.below ((Below.refl _ _).alloc (Nat.le_refl _) _)) ?c1 ?c2 (by omega) (by simp) ?_)
                    case c1 => rw [smps_take]; exact smps_one _
                    case c2 => unfold maxLen; omega
                    intro v1 w4 ho4 hg4
                    have HB4 := Lib.hid (((Below.refl wo.heap.size wo).alloc (Nat.le_refl _) (.cells #[] 75)).grown hg4 (by simp) (fun k hk => by simp [Value.ownBlock] at hk; omega))
                    obtain ⟨A5, c5, rfl⟩ := own_slice ho4
                    have HO4 := Lib.hid (show w4.ownsRow wo.heap.size 75 2 (.slice A5 j c5) j (smps (T.take j)) by rw [← smps_take]; simpa using ho4)
                    have hs4 := HB4.out.size
                    clear ho4 hg4 HSP
                    go_wp2_with (at_builtin; refine wpList_append_own _ rfl (.tmp 73) (.tmp 77) 33 rfl wo.heap.size 75 i0 (.agg #[.int .i64 0, .int .i64 0]) 2 16 Try.underlying33 HI.out.1 HI.out.2.1 HI.out.2.2.1 HI.out.2.2.2 rfl (by decide) _ j _ rfl (HO4.out.alloc _) ⟨w4.heap.size, 0, none⟩ 1 1 [.int .i64 x, .int .i64 o] rfl rfl ?d1 (by simp [Value.oneCell']) ?d3 ?d4 ?d5 ?_)
                    case d1 =>
                      intro i u hj
                      match i, hj with
                      | 0, hj => simp at hj; subst hj; simp [Addr.add]
                      | 1, hj => simp at hj; subst hj; simp [Addr.add]
                    case d3 => unfold maxLen; omega
                    case d4 => omega
                    case d5 => simp; omega
                    intro v2 w5 ho5 hg5 _
                    have HB5 := Lib.hid ((HB4.out.alloc hs4 (.cells #[.int .i64 x, .int .i64 o] 75)).grown hg5 (by simp; omega) (fun k hk => (HO4.out.lt k hk).1))
                    obtain ⟨A6, c6, rfl⟩ := own_slice ho5
                    have HO5 := Lib.hid (show w5.ownsRow wo.heap.size 75 2 (.slice A6 (j + 1) c6) (j + 1) (smps (T.take j ++ [(x, o)])) by rw [smps_app]; exact ho5)
                    have hs5 := HB5.out.size
                    clear ho5 hg5 HO4 HB4
                    go_wp2_with (at_builtin; refine wpList_append_rd rfl (.tmp 79) (.tmp 82) 33 rfl wo.heap.size 75 i0 (.agg #[.int .i64 0, .int .i64 0]) 2 16 Try.underlying33 HI.out.1 HI.out.2.1 HI.out.2.2.1 HI.out.2.2.2 rfl (by decide) _ (j + 1) _ rfl HO5.out _ (N - j) _ wo.heap.size ((smps T).drop (j * 2)) rfl ?e0 ?e1 ?e2 (by omega) hs5 ?_)
                    case e0 => first | exact HSD.out.below HB5.out | simpa using HSD.out.below HB5.out
                    case e1 => rw [smps_drop]; exact smps_one _
                    case e2 => unfold maxLen; omega
                    intro v3 w6 ho6 hg6
                    have HB6 := Lib.hid (HB.out.trans ((HB5.out.grown hg6 hs5 (fun k hk => (HO5.out.lt k hk).1)).mono hsz))
                    obtain ⟨A7, c7, rfl⟩ := own_slice ho6
                    have HO6 := Lib.hid (show w6.ownsRow w.heap.size 75 2 (.slice A7 (N + 1) c7) (N + 1) (smps (addT l o (a.take (m + 1 + 1)))) by
                      rw [HST.out, smps_app, ← smps_drop]
                      have e : j + 1 + (N - j) = N + 1 := by omega
                      rw [e] at ho6
                      exact own_mono ho6 hsz)
                    have hnn : j + 1 + (N - j) = N + 1 := by omega
                    rw [hnn]
                    clear ho6 hg6 HO5 HB5 HSD
                    go_wp2
                    go_roundw
                    case rel => exact ⟨m + 1 + 1, A7, c7, by omega, by go_num, by rw [show n + (m + 1 + 1) = N + 1 by omega], fun i hi => by
                                        rcases (show i < m + 1 ∨ i = m + 1 by omega) with h | rfl
                                        · exact HC.out i h
                                        · exact hin, by rw [show n + (m + 1 + 1) = N + 1 by omega]; exact HO6.out, HB6.out⟩
                    case measure => simp [intOf]; omega
          · have hin : incAt a (m + 1) = false := by rw [HIN.out]; simpa using hyx
            have hyx' : decide (x ≤ y) = true := by simp; omega
            go_wp2
            go_ret2
            rw [HN.out _ hlt hin, add_no (HN.out _ hlt hin)]
            exact GotR.no_ HB.out
      · have hk' : k = n' := by omega
        subst hk'
        have ht : a.take k = a := List.take_of_length_le (by rw [HAL.out]; exact Nat.le_refl _)
        have ho := HO.out
        rw [ht] at ho
        have HO1 := Lib.hid ho
        have hal' := HAL.out
        have hl' := HL.out
        have HDL := Lib.hid (show (addT l o a).length = n + k by rw [addT_len, hl', hal'])
        have HOK := Lib.hid (HE.out (by rw [HAL.out]; exact HC.out))
        have CR := Lib.hid (sGoodRing_any wo.heap.size A4 (n + k) c4 (addT l o a) wo (Nat.le_refl _) (Rd.of_own ho) (by omega))
        clear ht ho HO HC HN HE HAT
        obtain ⟨r, hr⟩ : ∃ r, goodTok (addT l o a) = r := ⟨_, rfl⟩
        rw [hr] at CR HOK
        clear hr
        cases r with
        | false =>
          go_wp2_with fail
          refine CR.out.mono ?_
          rintro e w6 ⟨rfl, hb6⟩
          have HB6 := Lib.hid (HB.out.trans (hb6.mono HB.out.size))
          clear hb6
          go_wp2
          go_ret2
          rw [HOK.out, add_no HOK.out]
          exact GotR.no_ HB6.out
        | true =>
          go_wp2_with fail
          refine CR.out.mono ?_
          rintro e w6 ⟨rfl, hb6⟩
          have HB6 := Lib.hid (HB.out.trans (hb6.mono HB.out.size))
          have HO6 := Lib.hid (own_below HO1.out hb6 (Nat.le_refl _))
          clear hb6
          go_wp2
          go_ret2
          rw [HOK.out, add_yes HOK.out, HDL.out]
          exact GotR.own_ HO6.out HB6.out
  · rw [add_head hh, add_no (add_head hh)]
    clear hh
    rcases hf with hf | ⟨hf, hf2⟩ | ⟨hf, hf2, hf3⟩ | ⟨hf, hf2, hf3, hf4⟩
    · rw [hf] at C1
      clear h h' hal hf C3
      go_enter Try.func32, Try.ntmps32
      go_wp2_with fail
      refine C1.out.mono ?_
      rintro e w1 ⟨rfl, hb1⟩
      have HB := Lib.hid hb1
      clear hb1
      go_wp2
      go_ret2
      exact GotR.no_ HB.out
    · rw [hf] at C1
      have C2 := Lib.hid (fun w1 => l1In_any o 0 7 w1)
      rw [hf2] at C2
      clear h h' hal hf hf2 C3
      go_enter Try.func32, Try.ntmps32
      go_wp2_with fail
      refine C1.out.mono ?_
      rintro e w1 ⟨rfl, hb1⟩
      have HB := Lib.hid hb1
      clear hb1
      go_wp2_with fail
      refine (C2.out _).mono ?_
      rintro e w' ⟨rfl, rfl⟩
      go_wp2
      go_ret2
      exact GotR.no_ HB.out
    · rw [hf] at C1
      rw [hf3] at C3
      have C2 := Lib.hid (fun w1 => l1In_any o 0 7 w1)
      rw [hf2] at C2
      clear h h' hal hf hf2 hf3
      go_enter Try.func32, Try.ntmps32
      go_wp2_with fail
      refine C1.out.mono ?_
      rintro e w1 ⟨rfl, hb1⟩
      have HB := Lib.hid hb1
      clear hb1
      go_wp2_with fail
      refine (C2.out _).mono ?_
      rintro e w' ⟨rfl, rfl⟩
      go_wp2_with fail
      refine (C3.out _ HB.out).mono ?_
      rintro e w2 ⟨rfl, hb2⟩
      have HB2 := Lib.hid (HB.out.trans (hb2.mono HB.out.size))
      clear hb2
      go_wp2
      go_ret2
      exact GotR.no_ HB2.out
    · rw [hf] at C1
      rw [hf3] at C3
      have C2 := Lib.hid (fun w1 => l1In_any o 0 7 w1)
      rw [hf2] at C2
      have C4 := Lib.hid (fun w1 => l1In_any n' 1 8 w1)
      rw [← hal, hf4] at C4
      rw [hal] at C4
      clear h h' hal hf hf2 hf3 hf4
      go_enter Try.func32, Try.ntmps32
      go_wp2_with fail
      refine C1.out.mono ?_
      rintro e w1 ⟨rfl, hb1⟩
      have HB := Lib.hid hb1
      clear hb1
      go_wp2_with fail
      refine (C2.out _).mono ?_
      rintro e w' ⟨rfl, rfl⟩
      go_wp2_with fail
      refine (C3.out _ HB.out).mono ?_
      rintro e w2 ⟨rfl, hb2⟩
      have HB2 := Lib.hid (HB.out.trans (hb2.mono HB.out.size))
      clear hb2
      go_wp2_with fail
      refine (C4.out _).mono ?_
      rintro e w' ⟨rfl, rfl⟩
      go_wp2
      go_ret2
      exact GotR.no_ HB2.out
theorem both_AddOwner (n : Nat) (l : List Tok) (o : Int) (n' : Nat) (a : List Int) (hn : n ≤ 1048576) (hn' : n' ≤ 1048576) : ∃ (nr : Nat) (lr : List Tok) (r1 : Bool), nr ≤ 1048576 ∧
    (∀ B A c B' A' c' w, B ≤ w.heap.size → Rd w B 2 A n (smps l) → B' ≤ w.heap.size → Rd w B' 1 A' n' (ints a) → Calls Try.prog 32 #[.slice A n c, .int .i64 o, .slice A' n' c'] w (GotR 75 2 w nr (smps lr) r1)) ∧
    (∀ B A c B' A' c' w, B ≤ w.heap.size → Rd w B 2 A n (smps l) → B' ≤ w.heap.size → Rd w B' 1 A' n' (ints a) → Calls Try.prog 34 #[.slice A n c, .int .i64 o, .slice A' n' c'] w (GotR 75 2 w nr (smps lr) r1)) :=
  ⟨(addL l o a).length, addL l o a, _, addL_len l o a,
    fun B A c B' A' c' w hB h hB' h' => sAddOwner_any (max B B') A A' n c n' c' l o a w (Nat.max_le.2 ⟨hB, hB'⟩) (h.more (Nat.le_max_left ..)) hn (h'.more (Nat.le_max_right ..)) hn',
    fun B A c B' A' c' w hB h hB' h' => iAddOwner_any (max B B') A A' n c n' c' l o a w (Nat.max_le.2 ⟨hB, hB'⟩) (h.more (Nat.le_max_left ..)) hn (h'.more (Nat.le_max_right ..)) hn'⟩
end Go.Proofs.Ytkpofdfikmcjgaa
