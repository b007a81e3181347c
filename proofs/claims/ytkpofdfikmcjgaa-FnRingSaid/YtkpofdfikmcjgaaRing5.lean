/- AddOwner: plain law; the program's walk. -/
import Derived.Test.YtkpofdfikmcjgaaRing1
import Derived.Test.YtkpofdfikmcjgaaSortTok
namespace Go.Proofs.Ytkpofdfikmcjgaa
set_option linter.unusedVariables false
set_option linter.unusedSimpArgs false
open Go.RowKit

def headT (l : List Tok) (o : Int) (m : Nat) : Bool := goodTok l && inB o 0 7 && !ownsT l o && inB m 1 8
def incAt (l : List Int) (k : Nat) : Bool := k == 0 || decide (l.getD (k - 1) 0 < l.getD k 0)
def okAdd (l : List Tok) (o : Int) (a : List Int) : Bool := headT l o a.length && allAt (incAt a) a.length && goodTok (addT l o a)
def addL (l : List Tok) (o : Int) (a : List Int) : List Tok := if okAdd l o a then addT l o a else []
theorem add_no {l : List Tok} {o : Int} {a : List Int} (h : okAdd l o a = false) : addL l o a = [] := by unfold addL; rw [h]; rfl
theorem add_yes {l : List Tok} {o : Int} {a : List Int} (h : okAdd l o a = true) : addL l o a = addT l o a := by unfold addL; rw [h]; rfl
theorem addL_len (l : List Tok) (o : Int) (a : List Int) : (addL l o a).length ≤ 1048576 := by
  cases h : okAdd l o a
  · rw [add_no h]; exact Nat.zero_le _
  · rw [add_yes h]
    unfold okAdd at h
    simp only [Bool.and_eq_true] at h
    have := (goodTok_iff.1 h.2).2.2
    omega
theorem add_head {l : List Tok} {o : Int} {a : List Int} (h : headT l o a.length = false) : okAdd l o a = false := by unfold okAdd; rw [h]; rfl
theorem add_inc {l : List Tok} {o : Int} {a : List Int} {k : Nat} (hk : k < a.length) (h : incAt a k = false) : okAdd l o a = false := by unfold okAdd; rw [allAt_f k hk h]; simp
theorem mem_addT {l : List Tok} {o : Int} {a : List Int} {x : Int} (hx : x ∈ a) : (x, o) ∈ addT l o a := (addT_perm o a l).mem_iff.2 (List.mem_append_right _ (List.mem_map.2 ⟨x, hx, rfl⟩))
theorem add_place {l : List Tok} {o : Int} {a : List Int} {k : Nat} {x : Int} (hk : a[k]? = some x) (h : inB x 0 1008 = false) : okAdd l o a = false := by
  unfold okAdd
  have : goodTok (addT l o a) = false := by
    rw [← Bool.not_eq_true]
    intro hg
    have := (goodTok_iff.1 hg).2.1 (x, o) (mem_addT (List.mem_of_getElem? hk))
    unfold tokOk at this
    simp only [Bool.and_eq_true] at this
    rw [h] at this
    exact absurd this.1 (by simp)
  rw [this]; simp
theorem incAt_succ {a : List Int} {k : Nat} {p x : Int} (hp : a[k]? = some p) (hx : a[k + 1]? = some x) : incAt a (k + 1) = decide (p < x) := by unfold incAt; simp [List.getD, hp, hx]
theorem incAt_zero {a : List Int} : incAt a 0 = true := rfl
theorem okAdd_eq {l : List Tok} {o : Int} {a : List Int} (h : headT l o a.length = true) (hi : ∀ k, k < a.length → incAt a k = true) : okAdd l o a = goodTok (addT l o a) := by
  unfold okAdd; rw [h, allAt_t hi]; rfl
theorem head_good {l : List Tok} {o : Int} {m : Nat} (h : headT l o m = true) : goodTok l = true ∧ inB o 0 7 = true ∧ ownsT l o = false ∧ inB m 1 8 = true := by
  unfold headT at h
  simp only [Bool.and_eq_true, Bool.not_eq_true'] at h
  exact ⟨h.1.1.1, h.1.1.2, h.1.2, h.2⟩
theorem head_cases (l : List Tok) (o : Int) (m : Nat) : headT l o m = true ∨ (headT l o m = false ∧ (goodTok l = false ∨ (goodTok l = true ∧ inB o 0 7 = false) ∨ (goodTok l = true ∧ inB o 0 7 = true ∧ ownsT l o = true) ∨ (goodTok l = true ∧ inB o 0 7 = true ∧ ownsT l o = false ∧ inB m 1 8 = false))) := by
  unfold headT
  cases goodTok l <;> cases inB o 0 7 <;> cases ownsT l o <;> cases inB (m : Int) 1 8 <;> simp
/-- The row with its new tokens, before it is sorted. -/
def rawT (l : List Tok) (o : Int) (a : List Int) : List Tok := l ++ a.map fun x => (x, o)
theorem raw_bound {l : List Tok} {o : Int} {a : List Int} (hg : goodTok l = true) (ha : ∀ x ∈ a, inB x 0 1008 = true) : ∀ p ∈ rawT l o a, 0 ≤ p.1 ∧ p.1 ≤ 1008 := by
  intro p hp
  rcases List.mem_append.1 hp with h | h
  · have := (goodTok_iff.1 hg).2.1 p h
    obtain ⟨x, y⟩ := p
    exact inB_iff.1 (tokOk_t this).1
  · obtain ⟨x, hx, rfl⟩ := List.mem_map.1 h
    exact inB_iff.1 (ha x hx)
theorem raw_sorted {l d : List Tok} {o : Int} {a : List Int} (hg : goodTok l = true) (hp : d.Perm (rawT l o a)) (hd : Le1 d) : goodTok d = goodTok (addT l o a) ∧ (goodTok d = true → d = addT l o a) :=
  good_perm (hp.trans (addT_perm o a l).symm) hd (addT_le o a l (good_le hg))
theorem raw_snoc {l : List Tok} {o : Int} {a : List Int} {k : Nat} {x : Int} (h : a[k]? = some x) : rawT l o (a.take (k + 1)) = rawT l o (a.take k) ++ [(x, o)] := by
  unfold rawT; rw [take_snoc' _ _ _ h, List.map_append, List.append_assoc]; rfl
theorem raw_len {l : List Tok} {o : Int} {a : List Int} : (rawT l o a).length = l.length + a.length := by simp [rawT]

/-! The program's walk. -/
set_option maxRecDepth 100000 in
set_option maxHeartbeats 8000000 in
theorem iAddOwner_any (B : Nat) (A A' : Option Addr) (n c n' c' : Nat) (l : List Tok) (o : Int) (a : List Int) (w : World) (hBw : B ≤ w.heap.size) (h : Rd w B 2 A n (smps l)) (hn : n ≤ 1048576) (h' : Rd w B 1 A' n' (ints a)) (hn' : n' ≤ 1048576) :
    Calls Try.prog 34 #[.slice A n c, .int .i64 o, .slice A' n' c'] w (GotR 75 2 w (addL l o a).length (smps (addL l o a)) (okAdd l o a)) := by
  have C1 := Lib.hid (isRing_any B A n c l w hBw h hn)
  have C3 := Lib.hid (fun w1 (hb : Below w.heap.size w w1) => hasOwner_any B A n c l o w1 (Nat.le_trans hBw hb.size) (h.below (hb.mono hBw)) hn)
  have hal := h'.int_len
  rcases head_cases l o a.length with hh | ⟨hh, hf⟩
  · obtain ⟨hg, hio, hw, hm⟩ := head_good hh
    have hm2 := inB_iff.1 hm
    rw [hal] at hm2
    obtain ⟨i0, hi, hi0, hi1, hi2⟩ := info_parts infoToken
    have HI := Lib.hid (And.intro hi (And.intro hi0 (And.intro hi1 hi2)))
    clear hi hi0 hi1 hi2
    rw [hg] at C1
    rw [hw] at C3
    have C2 := Lib.hid (fun w1 => within_any o 0 7 w1)
    rw [hio] at C2
    have C4 := Lib.hid (fun w1 => within_any n' 1 8 w1)
    rw [← hal, hm] at C4
    rw [hal] at C4
    have C5 := Lib.hid (fun w1 (hb : Below w.heap.size w w1) => cloneToken_any B A n c l w1 (Nat.le_trans hBw hb.size) (h.below (hb.mono hBw)) hn)
    have HN := Lib.hid (show ∀ k : Nat, k < n' → incAt a k = false → okAdd l o a = false from fun k hk e => add_inc (by omega) e)
    have HE := Lib.hid (fun hi => okAdd_eq (l := l) (o := o) (a := a) hh hi)
    have HG := Lib.hid hg
    have HAL := Lib.hid hal
    have H' := Lib.hid h'
    have hnl := h.smp_len
    have HL := Lib.hid hnl
    have hnL : n ≤ 40 := by have := (goodTok_iff.1 hg).2.2; omega
    clear h h' hal hg hio hw hm hh hnl
    go_enter Try.func34, Try.ntmps34
    go_wp2_with fail
    refine C1.out.mono ?_
    rintro e w1 ⟨rfl, hb1⟩
    have HB := Lib.hid hb1
    clear hb1
    go_wp2_with fail
    refine (C2.out _).mono ?_
    rintro e w' ⟨rfl, rfl⟩
    go_wp2_with fail
    refine (C3.out _ HB.out).mono ?_
    rintro e w2 ⟨rfl, hb2⟩
    have HB2 := Lib.hid (HB.out.trans (hb2.mono HB.out.size))
    clear hb2
    go_wp2_with fail
    refine (C4.out _).mono ?_
    rintro e w' ⟨rfl, rfl⟩
    go_wp2_with fail
    refine (C5.out _ HB2.out).mono ?_
    rintro e w3 ⟨A3, c3, rfl, ho3, hb3⟩
    have HB3 := Lib.hid (HB2.out.trans (hb3.mono HB2.out.size))
    have HO3 := Lib.hid (own_mono ho3 HB2.out.size)
    clear ho3 hb3 C1 C2 C3 C4 C5
    go_wp2
    go_loopw [8, 34] (fun out i wr => ∃ (k : Nat) (A4 : Option Addr) (c4 : Nat), k ≤ n' ∧ i = .int .i64 k ∧ out = .slice A4 (n + k) c4 ∧ (∀ j, j < k → incAt a j = true) ∧ (∀ x ∈ a.take k, inB x 0 1008 = true) ∧
      wr.ownsRow w.heap.size 75 2 (.slice A4 (n + k) c4) (n + k) (smps (rawT l o (a.take k))) ∧ Below w.heap.size w wr) (fun _ i _ => n' - (intOf i).toNat)
    case atStart => exact ⟨0, A3, c3, Nat.zero_le _, rfl, rfl, fun j hj => absurd hj (by omega), by simp, by simpa [rawT] using HO3.out, HB3.out⟩
    case round =>
      clear HB HB2 HB3 HO3
      obtain ⟨k, A4, c4, hk, rfl, rfl, hinc, hpl, ho, hb⟩ := hrel
      have HC := Lib.hid hinc
      have HP := Lib.hid hpl
      have HO := Lib.hid ho
      have HB := Lib.hid hb
      have hsz := hb.size
      clear hinc hpl ho hb
      by_cases hlt : k < n'
      · obtain ⟨b1, off1, x, rfl, hb1, hx, hcx⟩ := H'.out.int_at hlt
        have hdx : wr.cell? ⟨b1, off1 + k, none⟩ = some (.int .i64 x) := (bcell HB.out _ _ (by omega)).trans hcx
        have HX := Lib.hid hx
        clear hx hcx
        obtain ⟨pl, hpl⟩ : ∃ pl, inB x 0 1008 = pl := ⟨_, rfl⟩
        have CP := Lib.hid (isPlace_any x wr)
        rw [hpl] at CP
        have HPL := Lib.hid hpl
        clear hpl
        cases pl with
        | false =>
          go_wp2_with fail
          refine CP.out.mono ?_
          rintro e w' ⟨rfl, rfl⟩
          go_wp2
          go_ret2
          rw [add_place HX.out HPL.out, add_no (add_place HX.out HPL.out)]
          exact GotR.no_ HB.out
        | true =>
          rcases k with _ | j
          · simp only [Nat.add_zero] at hdx
            go_wp2_with fail
            refine CP.out.mono ?_
            rintro e w' ⟨rfl, rfl⟩
            have hin : incAt a 0 = true := rfl
            go_wp2_with (at_builtin; refine wpList_append_own _ rfl (.tmp 55) (.tmp 59) 33 rfl w.heap.size 75 i0 (.agg #[.int .i64 0, .int .i64 0]) 2 16 Try.underlying33 HI.out.1 HI.out.2.1 HI.out.2.2.1 HI.out.2.2.2 rfl (by decide) _ (n + 0) _ rfl (HO.out.alloc _) ⟨wr.heap.size, 0, none⟩ 1 1 [.int .i64 x, .int .i64 o] rfl rfl ?c1 (by simp [Value.oneCell']) ?c3 ?c4 ?c5 ?_)
            case c1 =>
              intro i u hj
              match i, hj with
              | 0, hj => simp at hj; subst hj; simp [Addr.add]
              | 1, hj => simp at hj; subst hj; simp [Addr.add]
            case c3 => unfold maxLen; omega
            case c4 => omega
            case c5 => simp; omega
            intro v' w4 ho4 hg4 _
            have HB4 := Lib.hid ((HB.out.alloc hsz (.cells #[.int .i64 x, .int .i64 o] 75)).grown hg4 (by simp; omega) (fun k hk => (HO.out.lt k hk).1))
            obtain ⟨A5, c5, rfl⟩ := own_slice ho4
            have HO4 := Lib.hid (show w4.ownsRow w.heap.size 75 2 (.slice A5 (n + (0 + 1)) c5) (n + (0 + 1)) (smps (rawT l o (a.take (0 + 1)))) by rw [raw_snoc HX.out, smps_app]; exact ho4)
            clear ho4 hg4
            go_wp2
            go_roundw
            case rel => exact ⟨0 + 1, A5, c5, by omega, by go_num, rfl, fun i hi => by
                                rcases (show i < 0 ∨ i = 0 by omega) with h | rfl
                                · exact HC.out i h
                                · exact hin, fun z hz => by
                                rw [take_snoc' _ _ _ HX.out] at hz
                                rcases List.mem_append.1 hz with h | h
                                · exact HP.out z h
                                · rw [List.mem_singleton.1 h]; exact HPL.out, HO4.out, HB4.out⟩
            case measure => simp [intOf]; omega
          · obtain ⟨b2, off2, y, he, hb2, hy, hcy⟩ := H'.out.int_at (k := j) (by omega)
            obtain ⟨rfl, rfl⟩ : b1 = b2 ∧ off1 = off2 := by simpa using he
            have hdy : wr.cell? ⟨b1, off1 + j, none⟩ = some (.int .i64 y) := (bcell HB.out _ _ (by omega)).trans hcy
            have HIN := Lib.hid (incAt_succ (a := a) hy HX.out)
            clear hy hcy he
            by_cases hyx : y < x
            · have hin : incAt a (j + 1) = true := by rw [HIN.out]; simpa using hyx
              have hyx' : decide (x ≤ y) = false := by simp; omega
              go_wp2_with fail
              refine CP.out.mono ?_
              rintro e w' ⟨rfl, rfl⟩
              go_wp2_with (at_builtin; refine wpList_append_own _ rfl (.tmp 55) (.tmp 59) 33 rfl w.heap.size 75 i0 (.agg #[.int .i64 0, .int .i64 0]) 2 16 Try.underlying33 HI.out.1 HI.out.2.1 HI.out.2.2.1 HI.out.2.2.2 rfl (by decide) _ (n + (j + 1)) _ rfl (HO.out.alloc _) ⟨wr.heap.size, 0, none⟩ 1 1 [.int .i64 x, .int .i64 o] rfl rfl ?c1 (by simp [Value.oneCell']) ?c3 ?c4 ?c5 ?_)
              case c1 =>
                intro i u hj
                match i, hj with
                | 0, hj => simp at hj; subst hj; simp [Addr.add]
                | 1, hj => simp at hj; subst hj; simp [Addr.add]
              case c3 => unfold maxLen; omega
              case c4 => omega
              case c5 => simp; omega
              intro v' w4 ho4 hg4 _
              have HB4 := Lib.hid ((HB.out.alloc hsz (.cells #[.int .i64 x, .int .i64 o] 75)).grown hg4 (by simp; omega) (fun k hk => (HO.out.lt k hk).1))
              obtain ⟨A5, c5, rfl⟩ := own_slice ho4
              have HO4 := Lib.hid (show w4.ownsRow w.heap.size 75 2 (.slice A5 (n + ((j + 1) + 1)) c5) (n + ((j + 1) + 1)) (smps (rawT l o (a.take ((j + 1) + 1)))) by rw [raw_snoc HX.out, smps_app]; exact ho4)
              clear ho4 hg4
              go_wp2
              go_roundw
              case rel => exact ⟨(j + 1) + 1, A5, c5, by omega, by go_num, rfl, fun i hi => by
                                  rcases (show i < (j + 1) ∨ i = (j + 1) by omega) with h | rfl
                                  · exact HC.out i h
                                  · exact hin, fun z hz => by
                                  rw [take_snoc' _ _ _ HX.out] at hz
                                  rcases List.mem_append.1 hz with h | h
                                  · exact HP.out z h
                                  · rw [List.mem_singleton.1 h]; exact HPL.out, HO4.out, HB4.out⟩
              case measure => simp [intOf]; omega
            · have hin : incAt a (j + 1) = false := by rw [HIN.out]; simpa using hyx
              have hyx' : decide (x ≤ y) = true := by simp; omega
              go_wp2_with fail
              refine CP.out.mono ?_
              rintro e w' ⟨rfl, rfl⟩
              go_wp2
              go_ret2
              rw [HN.out _ hlt hin, add_no (HN.out _ hlt hin)]
              exact GotR.no_ HB.out
      · have hk' : k = n' := by omega
        subst hk'
        have ht : a.take k = a := List.take_of_length_le (by rw [HAL.out]; exact Nat.le_refl _)
        have ho := HO.out
        rw [ht] at ho
        have hp := HP.out
        rw [ht] at hp
        obtain ⟨g, cap, e4, hbg, hgl, hnc, _⟩ := own_form ho (by omega)
        obtain ⟨rfl, rfl⟩ : A4 = some ⟨g, 0, none⟩ ∧ c4 = cap := by simpa using e4
        have CS := Lib.hid (sortTok_any w.heap.size g c4 (n + k) (rawT l o a) wr ho (by omega) (raw_bound HG.out hp))
        have HOK := Lib.hid (HE.out (by rw [HAL.out]; exact HC.out))
        clear ht ho hp e4 HO HP HC HN HE
        go_wp2_with fail
        refine CS.out.mono ?_
        rintro e w5 ⟨d, rfl, hperm, hle, ho5, hb5⟩
        have HB5 := Lib.hid (hb5 w.heap.size w HB.out (Nat.le_refl _))
        have HO5 := Lib.hid ho5
        have HS := Lib.hid (raw_sorted HG.out hperm hle)
        have HDL := Lib.hid (show d.length = n + k by rw [hperm.length_eq, raw_len, HL.out, HAL.out])
        have CR := Lib.hid (isRing_any w5.heap.size (some ⟨g, 0, none⟩) (n + k) c4 d w5 (Nat.le_refl _) (Rd.of_own ho5) (by omega))
        clear hperm hle ho5 hb5 CS
        obtain ⟨r, hr⟩ : ∃ r, goodTok d = r := ⟨_, rfl⟩
        rw [hr] at CR
        have HR := Lib.hid hr
        clear hr
        cases r with
        | false =>
          go_wp2_with fail
          refine CR.out.mono ?_
          rintro e w6 ⟨rfl, hb6⟩
          have HB6 := Lib.hid (HB5.out.trans (hb6.mono HB5.out.size))
          clear hb6
          go_wp2
          go_ret2
          have e : okAdd l o a = false := by rw [HOK.out, ← HS.out.1, HR.out]
          rw [e, add_no e]
          exact GotR.no_ HB6.out
        | true =>
          go_wp2_with fail
          refine CR.out.mono ?_
          rintro e w6 ⟨rfl, hb6⟩
          have HB6 := Lib.hid (HB5.out.trans (hb6.mono HB5.out.size))
          have HO6 := Lib.hid (own_below HO5.out hb6 (Nat.le_refl _))
          clear hb6
          go_wp2
          go_ret2
          have e : okAdd l o a = true := by rw [HOK.out, ← HS.out.1, HR.out]
          rw [e, add_yes e, ← HS.out.2 HR.out, HDL.out]
          exact GotR.own_ HO6.out HB6.out
  · rw [add_head hh, add_no (add_head hh)]
    clear hh
    rcases hf with hf | ⟨hf, hf2⟩ | ⟨hf, hf2, hf3⟩ | ⟨hf, hf2, hf3, hf4⟩
    · rw [hf] at C1
      clear h h' hal hf C3
      go_enter Try.func34, Try.ntmps34
      go_wp2_with fail
      refine C1.out.mono ?_
      rintro e w1 ⟨rfl, hb1⟩
      have HB := Lib.hid hb1
      clear hb1
      go_wp2
      go_ret2
      exact GotR.no_ HB.out
    · rw [hf] at C1
      have C2 := Lib.hid (fun w1 => within_any o 0 7 w1)
      rw [hf2] at C2
      clear h h' hal hf hf2 C3
      go_enter Try.func34, Try.ntmps34
      go_wp2_with fail
      refine C1.out.mono ?_
      rintro e w1 ⟨rfl, hb1⟩
      have HB := Lib.hid hb1
      clear hb1
      go_wp2_with fail
      refine (C2.out _).mono ?_
      rintro e w' ⟨rfl, rfl⟩
      go_wp2
      go_ret2
      exact GotR.no_ HB.out
    · rw [hf] at C1
      rw [hf3] at C3
      have C2 := Lib.hid (fun w1 => within_any o 0 7 w1)
      rw [hf2] at C2
      clear h h' hal hf hf2 hf3
      go_enter Try.func34, Try.ntmps34
      go_wp2_with fail
      refine C1.out.mono ?_
      rintro e w1 ⟨rfl, hb1⟩
      have HB := Lib.hid hb1
      clear hb1
      go_wp2_with fail
      refine (C2.out _).mono ?_
      rintro e w' ⟨rfl, rfl⟩
      go_wp2_with fail
      refine (C3.out _ HB.out).mono ?_
      rintro e w2 ⟨rfl, hb2⟩
      have HB2 := Lib.hid (HB.out.trans (hb2.mono HB.out.size))
      clear hb2
      go_wp2
      go_ret2
      exact GotR.no_ HB2.out
    · rw [hf] at C1
      rw [hf3] at C3
      have C2 := Lib.hid (fun w1 => within_any o 0 7 w1)
      rw [hf2] at C2
      have C4 := Lib.hid (fun w1 => within_any n' 1 8 w1)
      rw [← hal, hf4] at C4
      rw [hal] at C4
      clear h h' hal hf hf2 hf3 hf4
      go_enter Try.func34, Try.ntmps34
      go_wp2_with fail
      refine C1.out.mono ?_
      rintro e w1 ⟨rfl, hb1⟩
      have HB := Lib.hid hb1
      clear hb1
      go_wp2_with fail
      refine (C2.out _).mono ?_
      rintro e w' ⟨rfl, rfl⟩
      go_wp2_with fail
      refine (C3.out _ HB.out).mono ?_
      rintro e w2 ⟨rfl, hb2⟩
      have HB2 := Lib.hid (HB.out.trans (hb2.mono HB.out.size))
      clear hb2
      go_wp2_with fail
      refine (C4.out _).mono ?_
      rintro e w' ⟨rfl, rfl⟩
      go_wp2
      go_ret2
      exact GotR.no_ HB2.out
end Go.Proofs.Ytkpofdfikmcjgaa
