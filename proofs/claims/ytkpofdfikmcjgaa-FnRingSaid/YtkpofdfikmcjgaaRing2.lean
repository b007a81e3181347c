/- The laws OwnerOf, OwnersOf, DropOwner. -/
import Derived.Test.YtkpofdfikmcjgaaRing1
namespace Go.Proofs.Ytkpofdfikmcjgaa
set_option linter.unusedVariables false
set_option linter.unusedSimpArgs false
open Go.RowKit

theorem ownT_len {l : List Tok} {v : Int} : (ownT l v).length ≤ l.length := by
  have := uniq_len (turnT l (firstT l v))
  rw [turnT_len] at this
  exact this
theorem okOwn_parts {l : List Tok} {v : Int} (h : okOwn l v = true) : goodTok l = true ∧ 0 < l.length ∧ inB v 0 1008 = true := by
  unfold okOwn at h
  simp only [Bool.and_eq_true, decide_eq_true_eq] at h
  exact ⟨h.1.1, h.1.2, h.2⟩
theorem goodTok_len {l : List Tok} (h : goodTok l = true) : l.length ≤ 40 := (goodTok_iff.1 h).2.2
set_option maxRecDepth 100000 in
set_option maxHeartbeats 4000000 in
theorem ownersOf_any (B : Nat) (A : Option Addr) (n c : Nat) (l : List Tok) (v : Int) (w : World) (hBw : B ≤ w.heap.size) (h : Rd w B 2 A n (smps l)) (hn : n ≤ 1048576) (hn0 : 0 < n) :
    Calls Try.prog 59 #[.slice A n c, .int .i64 v] w fun e w' => ∃ A' c', e = .returned (.slice A' (ownT l v).length c') ∧ w'.ownsRow w.heap.size 3 1 (.slice A' (ownT l v).length c') (ownT l v).length (ints (ownT l v)) ∧ Below w.heap.size w w' := by
  obtain ⟨i0, hi, hi0, hi1, hi2⟩ := info_parts infoInt
  have HI := Lib.hid (And.intro hi (And.intro hi0 (And.intro hi1 hi2)))
  clear hi hi0 hi1 hi2
  have hlen := h.smp_len
  obtain ⟨L, hL⟩ : ∃ L, L = ownT l v := ⟨_, rfl⟩
  rw [← hL]
  obtain ⟨f, hf⟩ : ∃ f, f = firstT l v := ⟨_, rfl⟩
  have hfn : f < n := by rw [hf, ← hlen]; exact firstT_lt (by omega)
  have HF := Lib.hid (show f = match fstAt (fun t : Tok => decide (v ≤ t.1)) l with | some k => k | none => 0 from hf)
  have HT := Lib.hid (show L = uniq (turnT l f) by rw [hL, hf]; rfl)
  obtain ⟨wb, hwb⟩ : ∃ wb, wb = w.alloc (.cells #[.int .i64 v] 3) := ⟨_, rfl⟩
  have hb0 : Below w.heap.size w wb := hwb ▸ (Below.refl _ _).alloc (Nat.le_refl _) _
  have hsz : w.heap.size + 1 ≤ wb.heap.size := by rw [hwb]; simp
  have hcb : wb.cell? ⟨w.heap.size, 0, none⟩ = some (.int .i64 v) := by rw [hwb]; simp
  have HX := Lib.hid (owns_idx wb.heap.size wb (some ⟨w.heap.size, 0, none⟩) (fun t => decide (v ≤ t.1)) (Nat.le_refl _)
    (fun x y w' hw => ownersOf1_any w.heap.size v x y w' ((bcell hw _ _ (by omega)).trans hcb) (by have := hw.size; omega)) B A n c l wb (Below.refl _ _) (by omega) (h.below (hb0.mono hBw)) hn)
  have HL := Lib.hid hlen
  have H := Lib.hid h
  have H0 := Lib.hid hb0
  have HW := Lib.hid hwb
  have hs0 := hb0.size
  clear hL hf hb0 hsz hcb hwb h hlen
  obtain ⟨k0, hk0⟩ : ∃ k, fstAt (fun t : Tok => decide (v ≤ t.1)) l = k := ⟨_, rfl⟩
  rw [hk0] at HX HF
  clear hk0
  -- what follows the search, once
  have tail : ∀ w1 : World, Below w.heap.size w w1 → True := fun _ _ => trivial
  cases k0 with
  | none =>
    obtain rfl : f = 0 := HF.out
    clear HF tail
    go_enter Try.func59, Try.ntmps59
    go_wp2_with fail
    rw [← HW.out]
    refine HX.out.mono ?_
    rintro e w1 ⟨rfl, hb⟩
    have HB1 := Lib.hid (H0.out.trans (hb.mono hs0))
    have hs1 : w.heap.size ≤ w1.heap.size := (H0.out.trans (hb.mono hs0)).size
    clear hb
    simp only [idxZ]
    go_wp2_with fail
    go_loopw [6, 16] (fun o i wr => ∃ (k m : Nat) (acc : List Int), k ≤ n ∧ i = .int .i64 k ∧ m ≤ k ∧ acc.length = m ∧ acc = uniq ((turnT l 0).take k) ∧ wr.ownsRow w1.heap.size 3 1 o m (ints acc) ∧ Below w1.heap.size w1 wr) (fun _ i _ => n - (intOf i).toNat)
    case atStart => exact ⟨0, 0, [], Nat.zero_le _, rfl, Nat.le_refl _, rfl, by simp [uniq], World.ownsRow_nil _ _ _ _, Below.refl _ _⟩
    case round =>
      obtain ⟨k, m, acc, hk, rfl, hm, hml, hacc, ho, hb⟩ := hrel
      have HM := Lib.hid hml
      have HA := Lib.hid hacc
      have HO := Lib.hid ho
      have HB := Lib.hid hb
      have hsr := hb.size
      obtain ⟨Ao, co, rfl⟩ := own_slice ho
      have HR := Lib.hid (Rd.of_own ho)
      clear hml hacc ho hb
      by_cases hlt : k < n
      · have hjn : k % n < n := Nat.mod_lt _ hn0
        obtain ⟨b, off, x, y, rfl, hbB, hx, hc0, hc1⟩ := H.out.smp_at hjn
        have hc1' : wr.cell? ⟨b, off + k % n * 2 + 1, none⟩ = some (.int .i64 y) := (bcell HB.out _ _ (by omega)).trans ((bcell HB1.out _ _ (by omega)).trans hc1)
        have HTN := Lib.hid (show (turnT l 0)[k]? = some y by
          have hl := HL.out
          refine turnT_at (p := (x, y)) (by rw [hl]; exact hlt) ?_
          rw [hl]
          first | exact hx | (rw [Nat.zero_add]; exact hx))
        clear hx hc0 hc1 hjn
        have hm0 : (0 : Int) ≤ (k : Int) % (n : Int) := Int.emod_nonneg _ (by omega)
        have hm1 : (k : Int) % (n : Int) < (n : Int) := Int.emod_lt_of_pos _ (by omega)
        have HC := Lib.hid (contains_any wr.heap.size Ao m co acc y wr HR.out (by omega))
        obtain ⟨r, hr⟩ : ∃ r, acc.contains y = r := ⟨_, rfl⟩
        rw [hr] at HC
        have HRR := Lib.hid hr
        clear hr
        cases r with
        | true =>
          have HS := Lib.hid (show acc = uniq ((turnT l 0).take (k + 1)) by rw [take_snoc' _ k y HTN.out, uniq_snoc, ← HA.out, one1, if_pos HRR.out])
          go_wp2_with fail
          refine HC.out.mono ?_
          rintro e w' ⟨rfl, rfl⟩
          go_wp2
          go_roundw
          case rel => exact ⟨k + 1, m, acc, by omega, by go_num, by omega, HM.out, HS.out, HO.out, HB.out⟩
          case measure => simp [intOf]; omega
        | false =>
          have HS := Lib.hid (show acc ++ [y] = uniq ((turnT l 0).take (k + 1)) by rw [take_snoc' _ k y HTN.out, uniq_snoc, ← HA.out, one1, if_neg (by rw [HRR.out]; simp)])
          go_wp2_with fail
          refine HC.out.mono ?_
          rintro e w' ⟨rfl, rfl⟩
          go_wp2_with (at_builtin; refine wpList_append_own _ rfl (.tmp 33) (.tmp 35) 40 rfl w1.heap.size 3 i0 (.int .i64 0) 1 8 Try.underlying40 HI.out.1 HI.out.2.1 HI.out.2.2.1 HI.out.2.2.2 rfl (by decide) _ _ _ rfl (HO.out.alloc _) ⟨wr.heap.size, 0, none⟩ 1 1 [.int .i64 y] rfl rfl ?c1 ?c2 ?c3 ?c4 ?c5 ?_)
          case c1 =>
            intro j u hj
            match j, hj with
            | 0, hj => simp at hj; subst hj; simp [Addr.add]
          case c2 => intro u hu; simp at hu; subst hu; rfl
          case c3 => unfold maxLen; omega
          case c4 => omega
          case c5 => simp; omega
          intro v' w2 ho2 hg2 _
          have HB2 := Lib.hid ((HB.out.alloc hsr _).grown hg2 (by simp; omega) (fun k hk => (HO.out.lt k hk).1))
          have HO2 := Lib.hid (show w2.ownsRow w1.heap.size 3 1 v' (m + 1) (ints (acc ++ [y])) by rw [ints_app]; exact ho2)
          clear ho2 hg2
          go_wp2
          go_roundw
          case rel => exact ⟨k + 1, m + 1, acc ++ [y], by omega, by go_num, by omega, by rw [List.length_append, HM.out]; rfl, HS.out, HO2.out, HB2.out⟩
          case measure => simp [intOf]; omega
      · have e : L = acc := by
          have := HA.out
          rw [List.take_of_length_le (by rw [turnT_len]; have := HL.out; omega)] at this
          rw [HT.out, this]
        have HE := Lib.hid e
        have hml := HM.out
        clear e
        go_wp2
        go_ret
        rw [HE.out, hml]
        exact ⟨Ao, co, rfl, own_mono HO.out hs1, HB1.out.trans (HB.out.mono hs1)⟩
  | some f0 =>
    obtain rfl : f = f0 := HF.out
    clear HF tail
    go_enter Try.func59, Try.ntmps59
    go_wp2_with fail
    rw [← HW.out]
    refine HX.out.mono ?_
    rintro e w1 ⟨rfl, hb⟩
    have HB1 := Lib.hid (H0.out.trans (hb.mono hs0))
    have hs1 : w.heap.size ≤ w1.heap.size := (H0.out.trans (hb.mono hs0)).size
    clear hb
    simp only [idxZ]
    go_wp2_with fail
    go_loopw [6, 16] (fun o i wr => ∃ (k m : Nat) (acc : List Int), k ≤ n ∧ i = .int .i64 k ∧ m ≤ k ∧ acc.length = m ∧ acc = uniq ((turnT l f).take k) ∧ wr.ownsRow w1.heap.size 3 1 o m (ints acc) ∧ Below w1.heap.size w1 wr) (fun _ i _ => n - (intOf i).toNat)
    case atStart => exact ⟨0, 0, [], Nat.zero_le _, rfl, Nat.le_refl _, rfl, by simp [uniq], World.ownsRow_nil _ _ _ _, Below.refl _ _⟩
    case round =>
      obtain ⟨k, m, acc, hk, rfl, hm, hml, hacc, ho, hb⟩ := hrel
      have HM := Lib.hid hml
      have HA := Lib.hid hacc
      have HO := Lib.hid ho
      have HB := Lib.hid hb
      have hsr := hb.size
      obtain ⟨Ao, co, rfl⟩ := own_slice ho
      have HR := Lib.hid (Rd.of_own ho)
      clear hml hacc ho hb
      by_cases hlt : k < n
      · have hjn : (f + k) % n < n := Nat.mod_lt _ hn0
        obtain ⟨b, off, x, y, rfl, hbB, hx, hc0, hc1⟩ := H.out.smp_at hjn
        have hc1' : wr.cell? ⟨b, off + (f + k) % n * 2 + 1, none⟩ = some (.int .i64 y) := (bcell HB.out _ _ (by omega)).trans ((bcell HB1.out _ _ (by omega)).trans hc1)
        have HTN := Lib.hid (show (turnT l f)[k]? = some y by
          have hl := HL.out
          refine turnT_at (p := (x, y)) (by rw [hl]; exact hlt) ?_
          rw [hl]
          first | exact hx | (rw [Nat.zero_add]; exact hx))
        clear hx hc0 hc1 hjn
        have hm0 : (0 : Int) ≤ ((f : Int) + (k : Int)) % (n : Int) := Int.emod_nonneg _ (by omega)
        have hm1 : ((f : Int) + (k : Int)) % (n : Int) < (n : Int) := Int.emod_lt_of_pos _ (by omega)
        have HC := Lib.hid (contains_any wr.heap.size Ao m co acc y wr HR.out (by omega))
        obtain ⟨r, hr⟩ : ∃ r, acc.contains y = r := ⟨_, rfl⟩
        rw [hr] at HC
        have HRR := Lib.hid hr
        clear hr
        cases r with
        | true =>
          have HS := Lib.hid (show acc = uniq ((turnT l f).take (k + 1)) by rw [take_snoc' _ k y HTN.out, uniq_snoc, ← HA.out, one1, if_pos HRR.out])
          go_wp2_with fail
          refine HC.out.mono ?_
          rintro e w' ⟨rfl, rfl⟩
          go_wp2
          go_roundw
          case rel => exact ⟨k + 1, m, acc, by omega, by go_num, by omega, HM.out, HS.out, HO.out, HB.out⟩
          case measure => simp [intOf]; omega
        | false =>
          have HS := Lib.hid (show acc ++ [y] = uniq ((turnT l f).take (k + 1)) by rw [take_snoc' _ k y HTN.out, uniq_snoc, ← HA.out, one1, if_neg (by rw [HRR.out]; simp)])
          go_wp2_with fail
          refine HC.out.mono ?_
          rintro e w' ⟨rfl, rfl⟩
          go_wp2_with (at_builtin; refine wpList_append_own _ rfl (.tmp 33) (.tmp 35) 40 rfl w1.heap.size 3 i0 (.int .i64 0) 1 8 Try.underlying40 HI.out.1 HI.out.2.1 HI.out.2.2.1 HI.out.2.2.2 rfl (by decide) _ _ _ rfl (HO.out.alloc _) ⟨wr.heap.size, 0, none⟩ 1 1 [.int .i64 y] rfl rfl ?c1 ?c2 ?c3 ?c4 ?c5 ?_)
          case c1 =>
            intro j u hj
            match j, hj with
            | 0, hj => simp at hj; subst hj; simp [Addr.add]
          case c2 => intro u hu; simp at hu; subst hu; rfl
          case c3 => unfold maxLen; omega
          case c4 => omega
          case c5 => simp; omega
          intro v' w2 ho2 hg2 _
          have HB2 := Lib.hid ((HB.out.alloc hsr _).grown hg2 (by simp; omega) (fun k hk => (HO.out.lt k hk).1))
          have HO2 := Lib.hid (show w2.ownsRow w1.heap.size 3 1 v' (m + 1) (ints (acc ++ [y])) by rw [ints_app]; exact ho2)
          clear ho2 hg2
          go_wp2
          go_roundw
          case rel => exact ⟨k + 1, m + 1, acc ++ [y], by omega, by go_num, by omega, by rw [List.length_append, HM.out]; rfl, HS.out, HO2.out, HB2.out⟩
          case measure => simp [intOf]; omega
      · have e : L = acc := by
          have := HA.out
          rw [List.take_of_length_le (by rw [turnT_len]; have := HL.out; omega)] at this
          rw [HT.out, this]
        have HE := Lib.hid e
        have hml := HM.out
        clear e
        go_wp2
        go_ret
        rw [HE.out, hml]
        exact ⟨Ao, co, rfl, own_mono HO.out hs1, HB1.out.trans (HB.out.mono hs1)⟩
theorem fold_head (l : List Int) : ∀ (x : Int) (acc : List Int), (l.foldl one1 (x :: acc))[0]? = some x := by
  induction l with
  | nil => intro x acc; rfl
  | cons y l ih =>
    intro x acc
    rw [List.foldl_cons]
    have : one1 (x :: acc) y = x :: acc ∨ one1 (x :: acc) y = x :: (acc ++ [y]) := by
      unfold one1
      split
      · exact .inl rfl
      · exact .inr rfl
    rcases this with e | e
    · rw [e]; exact ih x acc
    · rw [e]; exact ih x _
/-- The first owner. -/
def ownerT (l : List Tok) (v : Int) : Int := (l.getD (firstT l v) (0, 0)).2
theorem ownT_head {l : List Tok} {v : Int} (h : 0 < l.length) : (ownT l v)[0]? = some (ownerT l v) := by
  have hf := firstT_lt (h := v) h
  have hx : l[firstT l v]? = some l[firstT l v] := List.getElem?_eq_getElem hf
  have ht : (turnT l (firstT l v))[0]? = some (l[firstT l v]).2 := turnT_at h (by rw [Nat.add_zero, Nat.mod_eq_of_lt hf]; exact hx)
  have e : ownerT l v = (l[firstT l v]).2 := by unfold ownerT; simp [List.getD, hx]
  rw [e]
  unfold ownT uniq
  cases hl : turnT l (firstT l v) with
  | nil => rw [hl] at ht; cases ht
  | cons y t =>
    rw [hl] at ht
    injection ht with ht
    rw [List.foldl_cons, show one1 [] y = [y] from rfl, ← ht]
    exact fold_head t y []
def ownV (l : List Tok) (v : Int) : Int := if okOwn l v then ownerT l v else 0
set_option maxRecDepth 100000 in
set_option maxHeartbeats 2000000 in
theorem sOwnerOf_any (B : Nat) (A : Option Addr) (n c : Nat) (l : List Tok) (v : Int) (w : World) (hBw : B ≤ w.heap.size) (h : Rd w B 2 A n (smps l)) (hn : n ≤ 1048576) :
    Calls Try.prog 17 #[.slice A n c, .int .i64 v] w fun e w' => e = .returned (.tuple #[.int .i64 (ownV l v), .bool (okOwn l v)]) ∧ Below w.heap.size w w' := by
  have C1 := Lib.hid (l3Ring_any B A n c l v w hBw h hn)
  cases hg : okOwn l v with
  | false =>
    have HV := Lib.hid (show ownV l v = 0 by unfold ownV; rw [hg]; rfl)
    rw [hg] at C1
    clear hg h
    go_enter Try.func17, Try.ntmps17
    go_wp2_with fail
    refine C1.out.mono ?_
    rintro e w1 ⟨rfl, hb⟩
    have HB := Lib.hid hb
    clear hb
    go_wp2
    go_ret2
    rw [HV.out]
    exact ⟨rfl, HB.out⟩
  | true =>
    have HV := Lib.hid (show ownV l v = ownerT l v by unfold ownV; rw [hg]; rfl)
    obtain ⟨_, h0, _⟩ := okOwn_parts hg
    rw [hg] at C1
    have hlen := h.smp_len
    have hf := firstT_lt (h := v) h0
    have HE := Lib.hid (show ∀ x y, l[firstT l v]? = some (x, y) → ownerT l v = y from fun x y hx => by unfold ownerT; simp [List.getD, hx])
    have C2 := Lib.hid (fun w hB h => l3First_any B A n c l v w hB h hn)
    generalize firstT l v = f at C2 hf HE
    rw [hlen] at hf
    have H := Lib.hid h
    clear hg h h0 hlen
    go_enter Try.func17, Try.ntmps17
    go_wp2_with fail
    refine C1.out.mono ?_
    rintro e w1 ⟨rfl, hb⟩
    have HB := Lib.hid hb
    have hs1 := hb.size
    clear hb
    go_wp2_with fail
    refine (C2.out _ (by omega) (H.out.below (HB.out.mono hBw))).mono ?_
    rintro e w2 ⟨rfl, hb⟩
    have HB2 := Lib.hid (HB.out.trans (hb.mono hs1))
    clear hb
    obtain ⟨b, off, x, y, rfl, hbB, hx, hc0, hc1⟩ := H.out.smp_at hf
    have hc1' : w2.cell? ⟨b, off + f * 2 + 1, none⟩ = some (.int .i64 y) := (bcell HB2.out _ _ (by omega)).trans hc1
    have HY := Lib.hid (HE.out x y hx)
    clear hx hc0 hc1
    go_wp2
    go_ret2
    rw [HV.out, HY.out]
    exact ⟨rfl, HB2.out⟩
set_option maxRecDepth 100000 in
set_option maxHeartbeats 2000000 in
theorem iOwnerOf_any (B : Nat) (A : Option Addr) (n c : Nat) (l : List Tok) (v : Int) (w : World) (hBw : B ≤ w.heap.size) (h : Rd w B 2 A n (smps l)) (hn : n ≤ 1048576) :
    Calls Try.prog 19 #[.slice A n c, .int .i64 v] w fun e w' => e = .returned (.tuple #[.int .i64 (ownV l v), .bool (okOwn l v)]) ∧ Below w.heap.size w w' := by
  have C1 := Lib.hid (isRing_any B A n c l w hBw h hn)
  have hlen := h.smp_len
  cases hgr : goodTok l with
  | false =>
    have hg : okOwn l v = false := by unfold okOwn; rw [hgr]; rfl
    have HV := Lib.hid (show ownV l v = 0 by unfold ownV; rw [hg]; rfl)
    rw [hgr] at C1
    rw [hg]
    clear hg hgr h hlen
    go_enter Try.func19, Try.ntmps19
    go_wp2_with fail
    refine C1.out.mono ?_
    rintro e w1 ⟨rfl, hb⟩
    have HB := Lib.hid hb
    clear hb
    go_wp2
    go_ret2
    rw [HV.out]
    exact ⟨rfl, HB.out⟩
  | true =>
    rw [hgr] at C1
    by_cases h0 : n = 0
    · have hg : okOwn l v = false := by unfold okOwn; rw [show l.length = 0 by omega]; simp
      have HV := Lib.hid (show ownV l v = 0 by unfold ownV; rw [hg]; rfl)
      rw [hg]
      subst h0
      clear hg hgr h hlen
      go_enter Try.func19, Try.ntmps19
      go_wp2_with fail
      refine C1.out.mono ?_
      rintro e w1 ⟨rfl, hb⟩
      have HB := Lib.hid hb
      clear hb
      go_wp2
      go_ret2
      rw [HV.out]
      exact ⟨rfl, HB.out⟩
    · have hz0 : ((n : Int) == 0) = false := by simp; omega
      have C2 := Lib.hid (fun w => isPlace_any v w)
      cases hp : inB v 0 1008 with
      | false =>
        have hg : okOwn l v = false := by unfold okOwn; rw [hp]; simp
        have HV := Lib.hid (show ownV l v = 0 by unfold ownV; rw [hg]; rfl)
        rw [hg]
        rw [hp] at C2
        clear hg hgr h hlen h0 hp
        go_enter Try.func19, Try.ntmps19
        go_wp2_with fail
        refine C1.out.mono ?_
        rintro e w1 ⟨rfl, hb⟩
        have HB := Lib.hid hb
        clear hb
        go_wp2_with fail
        refine (C2.out _).mono ?_
        rintro e w' ⟨rfl, rfl⟩
        go_wp2
        go_ret2
        rw [HV.out]
        exact ⟨rfl, HB.out⟩
      | true =>
        have hg : okOwn l v = true := by unfold okOwn; rw [hgr, hp]; simp; omega
        have HV := Lib.hid (show ownV l v = ownerT l v by unfold ownV; rw [hg]; rfl)
        rw [hg]
        rw [hp] at C2
        have C3 := Lib.hid (fun w hB h => ownersOf_any B A n c l v w hB h hn (by omega))
        have HHD := Lib.hid (ownT_head (l := l) (v := v) (by omega))
        have hpos : 0 < (ownT l v).length := by
          have := HHD.out
          exact (List.getElem?_eq_some_iff.1 this).1
        have hle : (ownT l v).length ≤ 1048576 := by have := ownT_len (l := l) (v := v); omega
        obtain ⟨m, hm⟩ : ∃ m, m = (ownT l v).length := ⟨_, rfl⟩
        rw [← hm] at C3 hpos hle
        generalize ownT l v = L at C3 HHD
        have H := Lib.hid h
        clear hg hgr h hlen h0 hp hm
        go_enter Try.func19, Try.ntmps19
        go_wp2_with fail
        refine C1.out.mono ?_
        rintro e w1 ⟨rfl, hb⟩
        have HB := Lib.hid hb
        have hs1 := hb.size
        clear hb
        go_wp2_with fail
        refine (C2.out _).mono ?_
        rintro e w' ⟨rfl, rfl⟩
        go_wp2_with fail
        refine (C3.out _ (by omega) (H.out.below (HB.out.mono hBw))).mono ?_
        rintro e w2 ⟨A2, c2, rfl, ho, hb⟩
        have HB2 := Lib.hid (HB.out.trans (hb.mono hs1))
        obtain ⟨b, off, x, rfl, hbB, hx, hc⟩ := (Rd.of_own ho).int_at hpos
        simp only [Nat.add_zero] at hc
        have HX := Lib.hid (show ownerT l v = x by have := HHD.out; rw [hx] at this; injection this with this; exact this.symm)
        clear ho hb hx
        go_wp2
        go_ret2
        rw [HV.out, HX.out]
        exact ⟨rfl, HB2.out⟩
theorem both_OwnerOf (n : Nat) (l : List Tok) (v : Int) (hn : n ≤ 1048576) : ∃ (R : Int) (K : Bool),
    (∀ B A c w, B ≤ w.heap.size → Rd w B 2 A n (smps l) → Calls Try.prog 17 #[.slice A n c, .int .i64 v] w fun e w' => e = .returned (.tuple #[.int .i64 R, .bool K]) ∧ Ch 0 0 w w') ∧
    (∀ B A c w, B ≤ w.heap.size → Rd w B 2 A n (smps l) → Calls Try.prog 19 #[.slice A n c, .int .i64 v] w fun e w' => e = .returned (.tuple #[.int .i64 R, .bool K]) ∧ Ch 0 0 w w') :=
  ⟨_, _, fun B A c w hB h => (sOwnerOf_any B A n c l v w hB h hn).mono fun _ _ ⟨he, hb⟩ => ⟨he, Ch.of_below hb⟩, fun B A c w hB h => (iOwnerOf_any B A n c l v w hB h hn).mono fun _ _ ⟨he, hb⟩ => ⟨he, Ch.of_below hb⟩⟩
set_option maxRecDepth 100000 in
set_option maxHeartbeats 4000000 in
theorem law_OwnerOf (Aa : Option Addr) (na ca : Nat) (la : List (Int × Int)) (h : Int) (w : World) (ha : Rd w w.heap.size 2 Aa na (smps la)) (hcapa : na ≤ 9223372036854775807) :
    Calls Try.prog 4 #[.slice Aa na ca, .int .i64 h] w fun e w' => e = .returned (.bool true) ∧ Below w.heap.size w w' := by
  have Ha := Lib.hid ha
  clear ha
  by_cases hqa : na ≤ 1048576
  · skip
    have hna : na ≤ 1048576 := by omega
    obtain ⟨r0, r1, hS, hI⟩ := both_OwnerOf na la h hna
    have HS := Lib.hid hS
    have HI := Lib.hid hI
    clear hS hI
    go_enter Try.func4, Try.ntmps4
    go_wp2_with fail
    refine (sz_Token_ok Aa na ca _ _ (by omega) (by omega)).mono ?_
    rintro e w1 ⟨rfl, hc1⟩
    have hs1 := hc1.size
    have HC1 := Lib.hid hc1
    clear hc1
    go_wp2_with fail
    refine (to_Token w.heap.size Aa na ca la _ (by omega) (Ha.out.keepC HC1.out (by omega) (by omega)) hna).mono ?_
    rintro e w2 ⟨Aas, cas, rfl, hras, hc2⟩
    have hs2 := hc2.size
    have HC2 := Lib.hid hc2
    clear hc2
    have HRas_2 := Lib.hid hras
    clear hras
    go_wp2_with fail
    refine (HS.out _ _ _ _ (by omega) (HRas_2.out).rd).mono ?_
    rintro e w3 ⟨rfl, hc3⟩
    have hs3 := hc3.size
    have HC3 := Lib.hid hc3
    clear hc3
    go_wp2_with fail
    refine (to_Token w.heap.size Aa na ca la _ (by omega) (((Ha.out.keepC HC1.out (by omega) (by omega)).keepC HC2.out (by omega) (by omega)).keepC HC3.out (by omega) (by omega)) hna).mono ?_
    rintro e w4 ⟨Aax, cax, rfl, hrax, hc4⟩
    have hs4 := hc4.size
    have HC4 := Lib.hid hc4
    clear hc4
    have HRax_4 := Lib.hid hrax
    clear hrax
    go_wp2_with fail
    refine (HI.out _ _ _ _ (by omega) (HRax_4.out).rd).mono ?_
    rintro e w5 ⟨rfl, hc5⟩
    have hs5 := hc5.size
    have HC5 := Lib.hid hc5
    clear hc5
    go_wp2_with fail
    refine (to_Token w.heap.size Aa na ca la _ (by omega) (((((Ha.out.keepC HC1.out (by omega) (by omega)).keepC HC2.out (by omega) (by omega)).keepC HC3.out (by omega) (by omega)).keepC HC4.out (by omega) (by omega)).keepC HC5.out (by omega) (by omega)) hna).mono ?_
    rintro e w6 ⟨Aay, cay, rfl, hray, hc6⟩
    have hs6 := hc6.size
    have HC6 := Lib.hid hc6
    clear hc6
    have HRay_6 := Lib.hid hray
    clear hray
    go_wp2_with fail
    refine (eq_Token _ _ _ _ na _ _ la _ (by omega) (by omega) (((HRax_4.out.keep HC5.out (by omega)).keep HC6.out (by omega))).rd (HRay_6.out).rd hna).mono ?_
    rintro e w7 ⟨rfl, hc7⟩
    have hs7 := hc7.size
    have HC7 := Lib.hid hc7
    clear hc7
    go_wp2
    go_ret
    exact ⟨rfl, ((((((((Below.refl _ _).trans (HC1.out.below (by omega) (by omega))).trans (HC2.out.below (by omega) (by omega))).trans (HC3.out.below (by omega) (by omega))).trans (HC4.out.below (by omega) (by omega))).trans (HC5.out.below (by omega) (by omega))).trans (HC6.out.below (by omega) (by omega))).trans (HC7.out.below (by omega) (by omega)))⟩
  · go_enter Try.func4, Try.ntmps4
    go_wp2_with fail
    refine (sz_Token_no Aa na ca _ _ (by omega) (by omega) (by omega)).mono ?_
    rintro e w1 ⟨rfl, hc1⟩
    have hs1 := hc1.size
    have HC1 := Lib.hid hc1
    clear hc1
    go_wp2
    go_ret
    exact ⟨rfl, ((Below.refl _ _).trans (HC1.out.below (by omega) (by omega)))⟩
end Go.Proofs.Ytkpofdfikmcjgaa
