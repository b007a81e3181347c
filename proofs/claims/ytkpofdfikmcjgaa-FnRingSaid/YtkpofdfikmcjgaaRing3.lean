/- The laws OwnersOf, DropOwner. -/
import Derived.Test.YtkpofdfikmcjgaaRing2
namespace Go.Proofs.Ytkpofdfikmcjgaa
set_option linter.unusedVariables false
set_option linter.unusedSimpArgs false
open Go.RowKit

theorem GotR.no {T s : Nat} {w w' : World} (h : Below w.heap.size w w') : GotR T s w 0 [] false (.returned (.tuple #[.slice none 0 0, .bool false])) w' := GotR.nil_ (Ch.of_below h)
theorem GotR.of_own {T s : Nat} {w w' : World} {A : Option Addr} {n c : Nat} {xs : List Value} (ho : w'.ownsRow w.heap.size T s (.slice A n c) n xs) (hb : Below w.heap.size w w') : GotR T s w n xs true (.returned (.tuple #[.slice A n c, .bool true])) w' :=
  ⟨A, c, rfl, Row.of_own ho, Ch.of_below hb⟩
def okMany (l : List Tok) (v m : Int) : Bool := okOwn l v && inB m 1 8 && decide (m.toNat ≤ (ownT l v).length)
def manyL (l : List Tok) (v m : Int) : List Int := if okMany l v m then (ownT l v).take m.toNat else []
theorem many_no {l : List Tok} {v m : Int} (h : okMany l v m = false) : manyL l v m = [] := by unfold manyL; rw [h]; rfl
set_option maxRecDepth 100000 in
set_option maxHeartbeats 4000000 in
theorem sOwnersOf_any (B : Nat) (A : Option Addr) (n c : Nat) (l : List Tok) (v m : Int) (w : World) (hBw : B ≤ w.heap.size) (h : Rd w B 2 A n (smps l)) (hn : n ≤ 1048576) :
    Calls Try.prog 25 #[.slice A n c, .int .i64 v, .int .i64 m] w (GotR 3 1 w (manyL l v m).length (ints (manyL l v m)) (okMany l v m)) := by
  obtain ⟨i0, hi, hi0, hi1, hi2⟩ := info_parts infoInt
  have HI := Lib.hid (And.intro hi (And.intro hi0 (And.intro hi1 hi2)))
  clear hi hi0 hi1 hi2
  have C1 := Lib.hid (l3Ring_any B A n c l v w hBw h hn)
  cases hg : okOwn l v with
  | false =>
    have hK : okMany l v m = false := by unfold okMany; rw [hg]; rfl
    have HL := Lib.hid (many_no hK)
    rw [hK]
    rw [hg] at C1
    clear hg h hK
    go_enter Try.func25, Try.ntmps25
    go_wp2_with fail
    refine C1.out.mono ?_
    rintro e w1 ⟨rfl, hb⟩
    have HB := Lib.hid hb
    clear hb
    go_wp2
    go_ret2
    rw [HL.out]
    exact GotR.no HB.out
  | true =>
    rw [hg] at C1
    cases hin : inB m 1 8 with
    | false =>
      have hK : okMany l v m = false := by unfold okMany; rw [hin]; simp
      have HL := Lib.hid (many_no hK)
      rw [hK]
      have C2 := Lib.hid (fun w => hin ▸ l1In_any m 1 8 w : ∀ w, Calls Try.prog 66 #[.int .i64 m, .int .i64 1, .int .i64 8] w fun e w' => e = .returned (.bool false) ∧ w = w')
      clear hg h hK hin
      go_enter Try.func25, Try.ntmps25
      go_wp2_with fail
      refine C1.out.mono ?_
      rintro e w1 ⟨rfl, hb⟩
      have HB := Lib.hid hb
      clear hb
      go_wp2_with fail
      refine (C2.out _).mono ?_
      rintro e w' ⟨rfl, rfl⟩
      go_wp2
      go_ret2
      rw [HL.out]
      exact GotR.no HB.out
    | true =>
      obtain ⟨hm0, hm1⟩ := inB_iff.1 hin
      obtain ⟨M, rfl⟩ := Int.eq_ofNat_of_zero_le (show 0 ≤ m by omega)
      have C2 := Lib.hid (fun w => hin ▸ l1In_any (M : Int) 1 8 w : ∀ w, Calls Try.prog 66 #[.int .i64 (M : Int), .int .i64 1, .int .i64 8] w fun e w' => e = .returned (.bool true) ∧ w = w')
      have HK := Lib.hid (show okMany l v M = decide (M ≤ (ownT l v).length) by unfold okMany; rw [hg, hin]; simp)
      have HML := Lib.hid (show ∀ b, okMany l v M = b → manyL l v M = if b = true then (ownT l v).take M else [] from fun b hb => by unfold manyL; rw [hb]; simp)
      obtain ⟨_, h0, _⟩ := okOwn_parts hg
      have hlen := h.smp_len
      have hf := firstT_lt (h := v) h0
      have HOT := Lib.hid (show ownT l v = uniq (turnT l (firstT l v)) from rfl)
      have C3 := Lib.hid (fun w hB h => l3First_any B A n c l v w hB h hn)
      generalize firstT l v = f at C3 hf HOT
      rw [hlen] at hf
      have hn0 : 0 < n := by omega
      have HL := Lib.hid hlen
      have H := Lib.hid h
      have hM1 : M ≤ 8 := by omega
      generalize okMany l v (M : Int) = K at HK HML ⊢
      clear hg h h0 hlen hin
      go_enter Try.func25, Try.ntmps25
      go_wp2_with fail
      refine C1.out.mono ?_
      rintro e w1 ⟨rfl, hb⟩
      have HB := Lib.hid hb
      have hs1 := hb.size
      clear hb
      go_wp2_with fail
      refine (C2.out _).mono ?_
      rintro e w' ⟨rfl, rfl⟩
      go_wp2_with fail
      refine (C3.out _ (by omega) (H.out.below (HB.out.mono hBw))).mono ?_
      rintro e w2 ⟨rfl, hb⟩
      have HB2 := Lib.hid (HB.out.trans (hb.mono hs1))
      have hs2 : w.heap.size ≤ w2.heap.size := (HB.out.trans (hb.mono hs1)).size
      clear hb HB C1 C2 C3
      go_wp2_with fail
      go_loopw [8, 26] (fun o i wr => ∃ (k q : Nat) (acc : List Int), k ≤ n ∧ i = .int .i64 k ∧ q ≤ k ∧ q ≤ M ∧ acc.length = q ∧ acc = (uniq ((turnT l f).take k)).take M ∧ wr.ownsRow w2.heap.size 3 1 o q (ints acc) ∧ Below w2.heap.size w2 wr) (fun _ i _ => n - (intOf i).toNat)
      case atStart => exact ⟨0, 0, [], Nat.zero_le _, rfl, Nat.le_refl _, Nat.zero_le _, rfl, by simp [uniq], World.ownsRow_nil _ _ _ _, Below.refl _ _⟩
      case round =>
        obtain ⟨k, q, acc, hk, rfl, hq, hqM, hml, hacc, ho, hb⟩ := hrel
        have HM := Lib.hid hml
        have HA := Lib.hid hacc
        have HO := Lib.hid ho
        have HBr := Lib.hid hb
        have hsr := hb.size
        obtain ⟨Ao, co, rfl⟩ := own_slice ho
        have HR := Lib.hid (Rd.of_own ho)
        clear hml hacc ho hb
        by_cases hlt : k < n
        · have hjn : (f + k) % n < n := Nat.mod_lt _ hn0
          obtain ⟨b, off, x, y, rfl, hbB, hx, hc0, hc1⟩ := H.out.smp_at hjn
          have hc1' : wr.cell? ⟨b, off + (f + k) % n * 2 + 1, none⟩ = some (.int .i64 y) := (bcell HBr.out _ _ (by omega)).trans ((bcell HB2.out _ _ (by omega)).trans hc1)
          have HTN := Lib.hid (show (turnT l f)[k]? = some y by
            have hl := HL.out
            refine turnT_at (p := (x, y)) (by rw [hl]; exact hlt) ?_
            rw [hl]
            exact hx)
          clear hx hc0 hc1 hjn
          have hm0 : (0 : Int) ≤ ((f : Int) + (k : Int)) % (n : Int) := Int.emod_nonneg _ (by omega)
          have hm1 : ((f : Int) + (k : Int)) % (n : Int) < (n : Int) := Int.emod_lt_of_pos _ (by omega)
          have HST := Lib.hid (show (uniq ((turnT l f).take (k + 1))).take M = if acc.length < M ∧ ¬ acc.contains y = true then acc ++ [y] else acc by rw [take_snoc' _ k y HTN.out, uniq_snoc, take_one1, ← HA.out])
          have HC := Lib.hid (l1Has_any wr.heap.size Ao q co acc y wr HR.out (by omega))
          obtain ⟨r, hr⟩ : ∃ r, acc.contains y = r := ⟨_, rfl⟩
          rw [hr] at HC
          have HRR := Lib.hid hr
          clear hr
          by_cases hqm : q < M
          · cases r with
            | true =>
              have HS := Lib.hid (show acc = (uniq ((turnT l f).take (k + 1))).take M by rw [HST.out, if_neg (fun h => h.2 HRR.out)])
              go_wp2_with fail
              refine HC.out.mono ?_
              rintro e w' ⟨rfl, rfl⟩
              go_wp2
              go_roundw
              case rel => exact ⟨k + 1, q, acc, by omega, by go_num, by omega, by omega, HM.out, HS.out, HO.out, HBr.out⟩
              case measure => simp [intOf]; omega
            | false =>
              have HS := Lib.hid (show acc ++ [y] = (uniq ((turnT l f).take (k + 1))).take M by rw [HST.out, if_pos ⟨by rw [HM.out]; exact hqm, by rw [HRR.out]; simp⟩])
              go_wp2_with fail
              refine HC.out.mono ?_
              rintro e w' ⟨rfl, rfl⟩
              go_wp2_with (at_builtin; refine wpList_append_own _ rfl (.tmp 49) (.tmp 51) 40 rfl w2.heap.size 3 i0 (.int .i64 0) 1 8 Try.underlying40 HI.out.1 HI.out.2.1 HI.out.2.2.1 HI.out.2.2.2 rfl (by decide) _ _ _ rfl (HO.out.alloc _) ⟨wr.heap.size, 0, none⟩ 1 1 [.int .i64 y] rfl rfl ?c1 ?c2 ?c3 ?c4 ?c5 ?_)
              case c1 =>
                intro j u hj
                match j, hj with
                | 0, hj => simp at hj; subst hj; simp [Addr.add]
              case c2 => intro u hu; simp at hu; subst hu; rfl
              case c3 => unfold maxLen; omega
              case c4 => omega
              case c5 => simp; omega
              intro v' w3 ho3 hg3 _
              have HB3 := Lib.hid ((HBr.out.alloc hsr _).grown hg3 (by simp; omega) (fun k hk => (HO.out.lt k hk).1))
              have HO3 := Lib.hid (show w3.ownsRow w2.heap.size 3 1 v' (q + 1) (ints (acc ++ [y])) by rw [ints_app]; exact ho3)
              clear ho3 hg3
              go_wp2
              go_roundw
              case rel => exact ⟨k + 1, q + 1, acc ++ [y], by omega, by go_num, by omega, by omega, by rw [List.length_append, HM.out]; rfl, HS.out, HO3.out, HB3.out⟩
              case measure => simp [intOf]; omega
          · have HS := Lib.hid (show acc = (uniq ((turnT l f).take (k + 1))).take M by rw [HST.out, if_neg (fun h => by have := HM.out; omega)])
            go_wp2
            go_roundw
            case rel => exact ⟨k + 1, q, acc, by omega, by go_num, by omega, by omega, HM.out, HS.out, HO.out, HBr.out⟩
            case measure => simp [intOf]; omega
        · have e : acc = (ownT l v).take M := by
            have := HA.out
            rw [List.take_of_length_le (l := turnT l f) (by rw [turnT_len]; have := HL.out; omega)] at this
            rw [this, HOT.out]
          have hql : q = min M (ownT l v).length := by rw [← HM.out, e, List.length_take]
          have HE := Lib.hid e
          have HQL := Lib.hid hql
          clear e hql
          by_cases hqm : q < M
          · have hk : K = false := by rw [HK.out]; simp; have := HQL.out; omega
            subst hk
            have HLL := Lib.hid (show manyL l v M = [] from (HML.out false rfl).trans (if_neg (by simp)))
            clear HK HML
            go_wp2
            go_ret2
            rw [HLL.out]
            exact GotR.no (HB2.out.trans (HBr.out.mono hs2))
          · have hk : K = true := by rw [HK.out]; simp; have := HQL.out; omega
            subst hk
            have HLL := Lib.hid (show manyL l v M = (ownT l v).take M from (HML.out true rfl).trans (if_pos rfl))
            clear HK HML
            go_wp2
            go_ret2
            rw [HLL.out, ← HE.out, HM.out]
            exact GotR.of_own (own_mono HO.out hs2) (HB2.out.trans (HBr.out.mono hs2))
theorem own_pre {w : World} {base e n c M : Nat} {A : Option Addr} {zs : List Int} (h : w.ownsRow base e 1 (.slice A n c) n (ints zs)) (hM : M ≤ n) (hM0 : 0 < M) : w.ownsRow base e 1 (.slice A M c) M (ints (zs.take M)) := by
  obtain ⟨g, cap, hv, _⟩ := own_form h (by omega)
  obtain ⟨rfl, rfl⟩ : A = some ⟨g, 0, none⟩ ∧ c = cap := by simpa using hv
  have := own_prefix h hM
  rw [Nat.mul_one, ints, ← List.map_take] at this
  exact this
set_option maxRecDepth 100000 in
set_option maxHeartbeats 4000000 in
theorem iOwnersOf_any (B : Nat) (A : Option Addr) (n c : Nat) (l : List Tok) (v m : Int) (w : World) (hBw : B ≤ w.heap.size) (h : Rd w B 2 A n (smps l)) (hn : n ≤ 1048576) :
    Calls Try.prog 26 #[.slice A n c, .int .i64 v, .int .i64 m] w (GotR 3 1 w (manyL l v m).length (ints (manyL l v m)) (okMany l v m)) := by
  have C1 := Lib.hid (isRing_any B A n c l w hBw h hn)
  have hlen := h.smp_len
  cases hgr : goodTok l with
  | false =>
    have hK : okMany l v m = false := by unfold okMany okOwn; rw [hgr]; rfl
    have HL := Lib.hid (many_no hK)
    rw [hK]
    rw [hgr] at C1
    clear hK hgr h hlen
    go_enter Try.func26, Try.ntmps26
    go_wp2_with fail
    refine C1.out.mono ?_
    rintro e w1 ⟨rfl, hb⟩
    have HB := Lib.hid hb
    clear hb
    go_wp2
    go_ret2
    rw [HL.out]
    exact GotR.no HB.out
  | true =>
    rw [hgr] at C1
    by_cases h0 : n = 0
    · have hK : okMany l v m = false := by unfold okMany okOwn; rw [show l.length = 0 by omega]; simp
      have HL := Lib.hid (many_no hK)
      rw [hK]
      subst h0
      clear hK hgr h hlen
      go_enter Try.func26, Try.ntmps26
      go_wp2_with fail
      refine C1.out.mono ?_
      rintro e w1 ⟨rfl, hb⟩
      have HB := Lib.hid hb
      clear hb
      go_wp2
      go_ret2
      rw [HL.out]
      exact GotR.no HB.out
    · have hz0 : ((n : Int) == 0) = false := by simp; omega
      have C2 := Lib.hid (fun w => isPlace_any v w)
      cases hp : inB v 0 1008 with
      | false =>
        have hK : okMany l v m = false := by unfold okMany okOwn; rw [hp]; simp
        have HL := Lib.hid (many_no hK)
        rw [hK]
        rw [hp] at C2
        clear hK hgr h hlen h0 hp
        go_enter Try.func26, Try.ntmps26
        go_wp2_with fail
        refine C1.out.mono ?_
        rintro e w1 ⟨rfl, hb⟩
        have HB := Lib.hid hb
        clear hb
        go_wp2_with fail
        refine (C2.out _).mono ?_
        rintro e w' ⟨rfl, rfl⟩
        go_wp2
        go_ret2
        rw [HL.out]
        exact GotR.no HB.out
      | true =>
        have hg : okOwn l v = true := by unfold okOwn; rw [hgr, hp]; simp; omega
        rw [hp] at C2
        have C4 := Lib.hid (fun w => within_any m 1 8 w)
        cases hin : inB m 1 8 with
        | false =>
          have hK : okMany l v m = false := by unfold okMany; rw [hin]; simp
          have HL := Lib.hid (many_no hK)
          rw [hK]
          rw [hin] at C4
          clear hK hgr h hlen h0 hp hin hg
          go_enter Try.func26, Try.ntmps26
          go_wp2_with fail
          refine C1.out.mono ?_
          rintro e w1 ⟨rfl, hb⟩
          have HB := Lib.hid hb
          clear hb
          go_wp2_with fail
          refine (C2.out _).mono ?_
          rintro e w' ⟨rfl, rfl⟩
          go_wp2_with fail
          refine (C4.out _).mono ?_
          rintro e w' ⟨rfl, rfl⟩
          go_wp2
          go_ret2
          rw [HL.out]
          exact GotR.no HB.out
        | true =>
          obtain ⟨hm0, hm1⟩ := inB_iff.1 hin
          obtain ⟨M, rfl⟩ := Int.eq_ofNat_of_zero_le (show 0 ≤ m by omega)
          have HK := Lib.hid (show okMany l v M = decide (M ≤ (ownT l v).length) by unfold okMany; rw [hg, hin]; simp)
          have HML := Lib.hid (show ∀ b, okMany l v M = b → manyL l v M = if b = true then (ownT l v).take M else [] from fun b hb => by unfold manyL; rw [hb]; simp)
          rw [hin] at C4
          have C3 := Lib.hid (fun w hB h => ownersOf_any B A n c l v w hB h hn (by omega))
          have hle : (ownT l v).length ≤ 1048576 := by have := ownT_len (l := l) (v := v); omega
          have H := Lib.hid h
          obtain ⟨q, hq⟩ : ∃ q, (ownT l v).length = q := ⟨_, rfl⟩
          rw [hq] at C3 hle
          have HQ := Lib.hid hq
          generalize okMany l v (M : Int) = K at HK HML ⊢
          clear hg hgr h hlen h0 hp hin hq
          go_enter Try.func26, Try.ntmps26
          go_wp2_with fail
          refine C1.out.mono ?_
          rintro e w1 ⟨rfl, hb⟩
          have HB := Lib.hid hb
          have hs1 := hb.size
          clear hb
          go_wp2_with fail
          refine (C2.out _).mono ?_
          rintro e w' ⟨rfl, rfl⟩
          go_wp2_with fail
          refine (C4.out _).mono ?_
          rintro e w' ⟨rfl, rfl⟩
          go_wp2_with fail
          refine (C3.out _ (by omega) (H.out.below (HB.out.mono hBw))).mono ?_
          rintro e w2 ⟨A2, c2, rfl, ho, hb⟩
          have HB2 := Lib.hid (HB.out.trans (hb.mono hs1))
          have HO := Lib.hid (own_mono ho hs1)
          have hcap : q ≤ c2 := by
            rcases Nat.eq_zero_or_pos q with h0 | h0
            · omega
            · obtain ⟨g, cap, hv, _, _, hnc, _⟩ := own_form ho h0
              have : c2 = cap := by have := hv; simp at this; exact this.2
              omega
          have hcm : c2 ≤ 9223372036854775807 := by
            rcases ho.2 with ⟨hv, _⟩ | ⟨g, cap, cur, hv, _, _, _, hcm, _⟩
            · have : c2 = 0 := by have := hv; simp at this; exact this.2.2
              omega
            · have : c2 = cap := by have := hv; simp at this; exact this.2
              unfold maxLen at hcm
              omega
          clear ho hb
          by_cases hqm : q < M
          · have hk : K = false := by rw [HK.out]; simp; have := HQ.out; omega
            subst hk
            have HLL := Lib.hid (show manyL l v M = [] from (HML.out false rfl).trans (if_neg (by simp)))
            clear HK HML
            go_wp2
            go_ret2
            rw [HLL.out]
            exact GotR.no HB2.out
          · have hk : K = true := by rw [HK.out]; simp; have := HQ.out; omega
            subst hk
            have HLL := Lib.hid (show manyL l v M = (ownT l v).take M from (HML.out true rfl).trans (if_pos rfl))
            have HPR := Lib.hid (own_pre HO.out (show M ≤ q by omega) (by omega))
            have HLN := Lib.hid (show ((ownT l v).take M).length = M by rw [List.length_take]; have := HQ.out; omega)
            clear HK HML
            go_wp2
            go_ret2
            rw [HLL.out, HLN.out]
            exact GotR.of_own HPR.out HB2.out
theorem both_OwnersOf (n : Nat) (l : List Tok) (v m : Int) (hn : n ≤ 1048576) : ∃ (nr : Nat) (lr : List Int) (r1 : Bool), nr ≤ 1048576 ∧
    (∀ B A c w, B ≤ w.heap.size → Rd w B 2 A n (smps l) → Calls Try.prog 25 #[.slice A n c, .int .i64 v, .int .i64 m] w (GotR 3 1 w nr (ints lr) r1)) ∧
    (∀ B A c w, B ≤ w.heap.size → Rd w B 2 A n (smps l) → Calls Try.prog 26 #[.slice A n c, .int .i64 v, .int .i64 m] w (GotR 3 1 w nr (ints lr) r1)) := by
  refine ⟨(manyL l v m).length, manyL l v m, _, ?_, fun B A c w hB h => sOwnersOf_any B A n c l v m w hB h hn, fun B A c w hB h => iOwnersOf_any B A n c l v m w hB h hn⟩
  unfold manyL
  split
  · rename_i hg
    unfold okMany at hg
    simp only [Bool.and_eq_true] at hg
    have h1 := goodTok_len (okOwn_parts hg.1.1).1
    have h2 := ownT_len (l := l) (v := v)
    rw [List.length_take]
    omega
  · simp
set_option maxRecDepth 100000 in
set_option maxHeartbeats 4000000 in
theorem law_OwnersOf (Aa : Option Addr) (na ca : Nat) (la : List (Int × Int)) (h : Int) (m : Int) (w : World) (ha : Rd w w.heap.size 2 Aa na (smps la)) (hcapa : na ≤ 9223372036854775807) :
    Calls Try.prog 6 #[.slice Aa na ca, .int .i64 h, .int .i64 m] w fun e w' => e = .returned (.bool true) ∧ Below w.heap.size w w' := by
  have Ha := Lib.hid ha
  clear ha
  by_cases hqa : na ≤ 1048576
  · skip
    have hna : na ≤ 1048576 := by omega
    obtain ⟨nr, lr, r1, hnr, hS, hI⟩ := both_OwnersOf na la h m hna
    have HS := Lib.hid hS
    have HI := Lib.hid hI
    clear hS hI
    obtain ⟨kxa, mxa, hkxa0, hkxa1, hMxa, hHxa⟩ := mh_Token na 1 hna (by omega) (by omega)
    have HMxa := Lib.hid hMxa
    clear hMxa hHxa
    obtain ⟨mr, mm, hmr0, hmr1, hMr, hHr⟩ := mh_Int nr 1 (by omega) (by omega) (by omega)
    have HMr := Lib.hid hMr
    have HHr := Lib.hid hHr
    clear hMr hHr
    go_enter Try.func6, Try.ntmps6
    go_wp2_with fail
    refine (sz_Token_ok Aa na ca _ _ (by omega) (by omega)).mono ?_
    rintro e w1 ⟨rfl, hc1⟩
    have hs1 := hc1.size
    have HC1 := Lib.hid hc1
    clear hc1
    go_wp2_with fail
    refine (to_Token w.heap.size Aa na ca la _ (by omega) (Ha.out.keepC HC1.out (by omega) (by omega)) hna).mono ?_
    rintro e w2 ⟨Aas, cas, rfl, hras, hc2⟩
    have hs2 := hc2.size
    have HC2 := Lib.hid hc2
    clear hc2
    have HRas_2 := Lib.hid hras
    clear hras
    go_wp2_with fail
    refine (HS.out _ _ _ _ (by omega) (HRas_2.out).rd).mono ?_
    rintro e w3 ⟨Arw, crw, rfl, hrrw, hc3⟩
    have hs3 := hc3.size
    have HC3 := Lib.hid hc3
    clear hc3
    have HRrw_3 := Lib.hid hrrw
    clear hrrw
    go_wp2_with fail
    refine (to_Token w.heap.size Aa na ca la _ (by omega) (((Ha.out.keepC HC1.out (by omega) (by omega)).keepC HC2.out (by omega) (by omega)).keepC HC3.out (by omega) (by omega)) hna).mono ?_
    rintro e w4 ⟨Aax, cax, rfl, hrax, hc4⟩
    have hs4 := hc4.size
    have HC4 := Lib.hid hc4
    clear hc4
    have HRax_4 := Lib.hid hrax
    clear hrax
    go_wp2_with fail
    refine (HI.out _ _ _ _ (by omega) (HRax_4.out).rd).mono ?_
    rintro e w5 ⟨Arg, crg, rfl, hrrg, hc5⟩
    have hs5 := hc5.size
    have HC5 := Lib.hid hc5
    clear hc5
    have HRrg_5 := Lib.hid hrrg
    clear hrrg
    go_wp2_with fail
    refine (eq_Int _ _ _ _ nr _ _ lr _ (HRrg_5.out).rd (((HRrw_3.out.keep HC4.out (by omega)).keep HC5.out (by omega))).rd (by omega)).mono ?_
    rintro e w6 ⟨rfl, hc6⟩
    have hs6 := hc6.size
    have HC6 := Lib.hid hc6
    clear hc6
    go_wp2_with fail
    refine (to_Token w.heap.size Aa na ca la _ (by omega) ((((((Ha.out.keepC HC1.out (by omega) (by omega)).keepC HC2.out (by omega) (by omega)).keepC HC3.out (by omega) (by omega)).keepC HC4.out (by omega) (by omega)).keepC HC5.out (by omega) (by omega)).keepC HC6.out (by omega) (by omega)) hna).mono ?_
    rintro e w7 ⟨Aay, cay, rfl, hray, hc7⟩
    have hs7 := hc7.size
    have HC7 := Lib.hid hc7
    clear hc7
    have HRay_7 := Lib.hid hray
    clear hray
    go_wp2_with fail
    refine (eq_Token _ _ _ _ na _ _ la _ (by omega) (by omega) ((((HRax_4.out.keep HC5.out (by omega)).keep HC6.out (by omega)).keep HC7.out (by omega))).rd (HRay_7.out).rd hna).mono ?_
    rintro e w8 ⟨rfl, hc8⟩
    have hs8 := hc8.size
    have HC8 := Lib.hid hc8
    clear hc8
    go_wp2_with fail
    refine (HMxa.out _ _ _ _ _ _ ((((HRax_4.out.keep HC5.out (by omega)).keep HC6.out (by omega)).keep HC7.out (by omega)).keep HC8.out (by omega))).mono ?_
    rintro e w9 ⟨rfl, hrax, hc9⟩
    have hs9 := hc9.size
    have HC9 := Lib.hid hc9
    clear hc9
    have HRax_9 := Lib.hid hrax
    clear hrax
    go_wp2_with fail
    refine (eq_Int _ _ _ _ nr _ _ lr _ (((((HRrg_5.out.keep HC6.out (by omega)).keep HC7.out (by omega)).keep HC8.out (by omega)).keep HC9.out (by omega))).rd (((((((HRrw_3.out.keep HC4.out (by omega)).keep HC5.out (by omega)).keep HC6.out (by omega)).keep HC7.out (by omega)).keep HC8.out (by omega)).keep HC9.out (by omega))).rd (by omega)).mono ?_
    rintro e w10 ⟨rfl, hc10⟩
    have hs10 := hc10.size
    have HC10 := Lib.hid hc10
    clear hc10
    go_wp2_with fail
    refine (HMr.out _ _ _ _ _ _ (((((HRrg_5.out.keep HC6.out (by omega)).keep HC7.out (by omega)).keep HC8.out (by omega)).keep HC9.out (by omega)).keep HC10.out (by omega))).mono ?_
    rintro e w11 ⟨rfl, hrrg, hc11⟩
    have hs11 := hc11.size
    have HC11 := Lib.hid hc11
    clear hc11
    have HRrg_11 := Lib.hid hrrg
    clear hrrg
    go_wp2_with fail
    refine (HHr.out _ _ _ _ (HRrg_11.out).rd).mono ?_
    rintro e w12 ⟨rfl, hc12⟩
    have hs12 := hc12.size
    have HC12 := Lib.hid hc12
    clear hc12
    go_wp2_with fail
    refine (to_Token w.heap.size Aa na ca la _ (by omega) ((((((((((((Ha.out.keepC HC1.out (by omega) (by omega)).keepC HC2.out (by omega) (by omega)).keepC HC3.out (by omega) (by omega)).keepC HC4.out (by omega) (by omega)).keepC HC5.out (by omega) (by omega)).keepC HC6.out (by omega) (by omega)).keepC HC7.out (by omega) (by omega)).keepC HC8.out (by omega) (by omega)).keepC HC9.out (by omega) (by omega)).keepC HC10.out (by omega) (by omega)).keepC HC11.out (by omega) (by omega)).keepC HC12.out (by omega) (by omega)) hna).mono ?_
    rintro e w13 ⟨Aaz, caz, rfl, hraz, hc13⟩
    have hs13 := hc13.size
    have HC13 := Lib.hid hc13
    clear hc13
    have HRaz_13 := Lib.hid hraz
    clear hraz
    go_wp2_with fail
    refine (HI.out _ _ _ _ (by omega) (HRaz_13.out).rd).mono ?_
    rintro e w14 ⟨Arh, crh, rfl, hrrh, hc14⟩
    have hs14 := hc14.size
    have HC14 := Lib.hid hc14
    clear hc14
    have HRrh_14 := Lib.hid hrrh
    clear hrrh
    go_wp2_with fail
    refine (eq_Int _ _ _ _ nr _ _ lr _ (HRrh_14.out).rd ((((((((((((HRrw_3.out.keep HC4.out (by omega)).keep HC5.out (by omega)).keep HC6.out (by omega)).keep HC7.out (by omega)).keep HC8.out (by omega)).keep HC9.out (by omega)).keep HC10.out (by omega)).keep HC11.out (by omega)).keep HC12.out (by omega)).keep HC13.out (by omega)).keep HC14.out (by omega))).rd (by omega)).mono ?_
    rintro e w15 ⟨rfl, hc15⟩
    have hs15 := hc15.size
    have HC15 := Lib.hid hc15
    clear hc15
    go_wp2_with fail
    refine (HHr.out _ _ _ _ (((((HRrg_11.out.keep HC12.out (by omega)).keep HC13.out (by omega)).keep HC14.out (by omega)).keep HC15.out (by omega))).rd).mono ?_
    rintro e w16 ⟨rfl, hc16⟩
    have hs16 := hc16.size
    have HC16 := Lib.hid hc16
    clear hc16
    go_wp2
    go_ret
    exact ⟨rfl, (((((((((((((((((Below.refl _ _).trans (HC1.out.below (by omega) (by omega))).trans (HC2.out.below (by omega) (by omega))).trans (HC3.out.below (by omega) (by omega))).trans (HC4.out.below (by omega) (by omega))).trans (HC5.out.below (by omega) (by omega))).trans (HC6.out.below (by omega) (by omega))).trans (HC7.out.below (by omega) (by omega))).trans (HC8.out.below (by omega) (by omega))).trans (HC9.out.below (by omega) (by omega))).trans (HC10.out.below (by omega) (by omega))).trans (HC11.out.below (by omega) (by omega))).trans (HC12.out.below (by omega) (by omega))).trans (HC13.out.below (by omega) (by omega))).trans (HC14.out.below (by omega) (by omega))).trans (HC15.out.below (by omega) (by omega))).trans (HC16.out.below (by omega) (by omega)))⟩
  · go_enter Try.func6, Try.ntmps6
    go_wp2_with fail
    refine (sz_Token_no Aa na ca _ _ (by omega) (by omega) (by omega)).mono ?_
    rintro e w1 ⟨rfl, hc1⟩
    have hs1 := hc1.size
    have HC1 := Lib.hid hc1
    clear hc1
    go_wp2
    go_ret
    exact ⟨rfl, ((Below.refl _ _).trans (HC1.out.below (by omega) (by omega)))⟩
end Go.Proofs.Ytkpofdfikmcjgaa
