/- Records: the reference's walks. -/
import Derived.Test.YtbpeceejboojoaaRecPlain
import Derived.Test.YtbpeceejboojoaaRowInts
namespace Go.Proofs.Ytbpeceejboojoaa
set_option linter.unusedVariables false
set_option linter.unusedSimpArgs false
open Go.RowKit

/-- What a reading of the places hands back. -/
def StR (t : List UInt8) (w : World) (e : Ending) (w' : World) : Prop :=
  ∃ A c, e = .returned (.tuple #[.slice A (starts t).length c, .int .i64 (whole t 0)]) ∧ w'.ownsRow w.heap.size 3 1 (.slice A (starts t).length c) (starts t).length (ints (starts t)) ∧ Below w.heap.size w w'
def fsts (l : List (Nat × Nat × Nat)) : List Int := l.map fun p => (p.1 : Int)
theorem fsts_snoc (l : List (Nat × Nat × Nat)) (a b e : Nat) : fsts (l ++ [(a, b, e)]) = fsts l ++ [(a : Int)] := by simp [fsts]
theorem StR.of {t : List UInt8} {done : List (Nat × Nat × Nat)} {pos : Nat} {w w' : World} {A : Option Addr} {c : Nat} (hr : RdRec t done pos) (hn : rstep t pos = none)
    (ho : w'.ownsRow w.heap.size 3 1 (.slice A done.length c) done.length (ints (fsts done))) (hb : Below w.heap.size w w') : StR t w (.returned (.tuple #[.slice A done.length c, .int .i64 pos])) w' := by
  obtain ⟨e1, e2⟩ := hr.done_ hn
  have e3 : starts t = fsts done := by unfold starts fsts; rw [e1]
  have e4 : (starts t).length = done.length := by rw [starts_len, e1]
  refine ⟨A, c, by rw [e4, e2], ?_, hb⟩
  rw [e4, e3]
  exact ho
theorem rstep_no {t : List UInt8} {pos k : Nat} {n : Int} (hg : gv (t.drop pos) = some (n, k)) (h : ¬ (0 ≤ n ∧ n ≤ 20 ∧ n + ((pos + k : Nat) : Int) ≤ (t.length : Int))) : rstep t pos = none := by
  unfold rstep
  rw [hg]
  show (if _ then _ else _) = _
  rw [if_neg h]
theorem rstep_yes {t : List UInt8} {pos k : Nat} {n : Int} (hg : gv (t.drop pos) = some (n, k)) (h : 0 ≤ n ∧ n ≤ 20 ∧ n + ((pos + k : Nat) : Int) ≤ (t.length : Int)) : rstep t pos = some (pos + k, pos + k + n.toNat) := by
  unfold rstep
  rw [hg]
  show (if _ then _ else _) = _
  rw [if_pos h]
set_option maxRecDepth 100000 in
set_option maxHeartbeats 4000000 in
theorem l6Starts_any (s : ByteArray) (w : World) (hs : s.size ≤ 60) : Calls Try.prog 30 #[.string s] w (StR s.data.toList w) := by
  obtain ⟨i0, hi, hi0, hi1, hi2⟩ := info_parts infoInt
  have HI := Lib.hid (And.intro hi (And.intro hi0 (And.intro hi1 hi2)))
  clear hi hi0 hi1 hi2
  have hlen : s.data.toList.length = s.size := by simp
  obtain ⟨t, ht⟩ : ∃ t, s.data.toList = t := ⟨_, rfl⟩
  rw [ht] at hlen ⊢
  have HT := Lib.hid ht
  have HLN := Lib.hid hlen
  clear ht hlen
  go_enter Try.func30, Try.ntmps30
  go_wp2
  go_loopw [4, 5] (fun v i wr => ∃ (pos : Nat) (done : List (Nat × Nat × Nat)) (A : Option Addr) (c : Nat), RdRec t done pos ∧ i = .int .i64 pos ∧ v = .slice A done.length c ∧ wr.ownsRow w.heap.size 3 1 (.slice A done.length c) done.length (ints (fsts done)) ∧ Below w.heap.size w wr) (fun _ i _ => s.size - (intOf i).toNat)
  case atStart => exact ⟨0, [], none, 0, RdRec.start t, rfl, rfl, World.ownsRow_nil _ _ _ _, Below.refl _ _⟩
  case round =>
    obtain ⟨pos, done, A, c, hr, rfl, rfl, ho, hb⟩ := hrel
    have hsz := hb.size
    have hpl : pos ≤ s.size := by have := hr.le; rw [HLN.out] at this; exact this
    have hdl : done.length ≤ s.size := by have := hr.len; rw [HLN.out] at this; exact this
    have HR := Lib.hid hr
    have HO := Lib.hid ho
    have HB := Lib.hid hb
    clear hr ho hb
    by_cases hlt : pos < s.size
    · have hx := l1Get_any s pos wr (by omega) (by omega)
      rw [show from_ s pos = t.drop pos by unfold from_; rw [HT.out]] at hx
      cases hg : gv (t.drop pos) with
      | none =>
        have HN := Lib.hid (show rstep t pos = none by unfold rstep; rw [hg])
        rw [hg] at hx
        have HX := Lib.hid hx
        clear hx hg
        go_wp2_with fail
        refine HX.out.mono ?_
        rintro e w1 ⟨rfl, hb1⟩
        have HO1 := Lib.hid (own_below HO.out hb1 (Nat.le_refl _))
        have HB1 := Lib.hid (HB.out.trans (hb1.mono hsz))
        clear hb1
        simp only [gvS]
        go_wp2
        go_ret2
        exact StR.of HR.out HN.out HO1.out HB1.out
      | some p =>
        obtain ⟨n, k⟩ := p
        have hgb := gv_bd hg
        have hdr : (t.drop pos).length = s.size - pos := by rw [List.length_drop, HLN.out]
        rw [hdr] at hgb
        rw [hg] at hx
        have HX := Lib.hid hx
        have HG := Lib.hid hg
        clear hx hg hdr
        cases hin : inB n 0 20 with
        | false =>
          have HN := Lib.hid (rstep_no HG.out (fun h => by rw [inB_t h.1 h.2.1] at hin; cases hin))
          go_wp2_with fail
          refine HX.out.mono ?_
          rintro e w1 ⟨rfl, hb1⟩
          have HO1 := Lib.hid (own_below HO.out hb1 (Nat.le_refl _))
          have HB1 := Lib.hid (HB.out.trans (hb1.mono hsz))
          clear hb1
          simp only [gvS]
          go_wp2_with (go_at_call 21; refine (l1In_any _ _ _ _).mono ?_; rintro e w' ⟨rfl, rfl⟩)
          go_ret2
          exact StR.of HR.out HN.out HO1.out HB1.out
        | true =>
          have hn2 := inB_iff.1 hin
          by_cases hfit : n ≤ (s.size : Int) - ((pos + k : Nat) : Int)
          · have hy := rstep_yes HG.out ⟨hn2.1, hn2.2, by rw [HLN.out]; omega⟩
            obtain ⟨N, rfl⟩ := Int.eq_ofNat_of_zero_le hn2.1
            rw [Int.toNat_natCast] at hy
            have HY := Lib.hid hy
            clear hy
            go_wp2_with fail
            refine HX.out.mono ?_
            rintro e w1 ⟨rfl, hb1⟩
            have HO1 := Lib.hid (own_below HO.out hb1 (Nat.le_refl _))
            have HB1 := Lib.hid (HB.out.trans (hb1.mono hsz))
            have hs1 := HB1.out.size
            clear hb1
            simp only [gvS]
            have hnc : ((pos + k : Nat) : Int) = (pos : Int) + (k : Int) := by omega
            go_wp2_with (first | (go_at_call 21; refine (l1In_any _ _ _ _).mono ?_; rintro e w' ⟨rfl, rfl⟩) | (at_builtin; refine wpList_append_own _ rfl (.tmp 35) (.tmp 37) 34 rfl w.heap.size 3 i0 (.int .i64 0) 1 8 Try.underlying34 HI.out.1 HI.out.2.1 HI.out.2.2.1 HI.out.2.2.2 rfl (by decide) _ _ _ rfl (HO1.out.alloc _) ⟨w1.heap.size, 0, none⟩ 1 1 [.int .i64 pos] rfl rfl ?c1 ?c2 ?c3 ?c4 ?c5 ?_))
            case c1 =>
              intro j u hj
              match j, hj with
              | 0, hj => simp at hj; subst hj; simp [Addr.add]
            case c2 => intro u hu; simp at hu; subst hu; rfl
            case c3 => unfold maxLen; omega
            case c4 => omega
            case c5 => simp; omega
            intro v' w2 ho2 hg2 _
            obtain ⟨A2, c2, rfl⟩ := own_slice ho2
            have HR2 := Lib.hid (HR.out.step HY.out)
            have HO2 := Lib.hid (show w2.ownsRow w.heap.size 3 1 (.slice A2 (done ++ [(pos, pos + k, pos + k + N)]).length c2) (done ++ [(pos, pos + k, pos + k + N)]).length (ints (fsts (done ++ [(pos, pos + k, pos + k + N)]))) by
              rw [fsts_snoc, ints_app, show (done ++ [(pos, pos + k, pos + k + N)]).length = done.length + 1 by simp]
              exact ho2)
            have HB2 := Lib.hid ((HB1.out.alloc hs1 _).grown hg2 (by simp; omega) (fun k hk => (HO1.out.lt k hk).1))
            clear ho2 hg2
            go_wp2
            go_roundw
            case rel => exact ⟨pos + k + N, _, A2, c2, HR2.out, by go_num, by simp, HO2.out, HB2.out⟩
            case measure => simp [intOf]; omega
          · have HN := Lib.hid (rstep_no HG.out (fun h => hfit (by have := h.2.2; rw [HLN.out] at this; omega)))
            have hnc : ((pos + k : Nat) : Int) = (pos : Int) + (k : Int) := by omega
            go_wp2_with fail
            refine HX.out.mono ?_
            rintro e w1 ⟨rfl, hb1⟩
            have HO1 := Lib.hid (own_below HO.out hb1 (Nat.le_refl _))
            have HB1 := Lib.hid (HB.out.trans (hb1.mono hsz))
            clear hb1
            simp only [gvS]
            go_wp2_with (go_at_call 21; refine (l1In_any _ _ _ _).mono ?_; rintro e w' ⟨rfl, rfl⟩)
            go_ret2
            exact StR.of HR.out HN.out HO1.out HB1.out
    · obtain rfl : pos = s.size := by omega
      have HN := Lib.hid (show rstep t s.size = none from rstep_out (by rw [HLN.out]; exact Nat.le_refl _))
      go_wp2
      go_ret2
      exact StR.of HR.out HN.out HO.out HB.out
set_option maxRecDepth 100000 in
set_option maxHeartbeats 4000000 in
theorem l6Index_any (A : Option Addr) (n c : Nat) (zs : List Int) (w : World) (h : Rd w w.heap.size 1 A n (ints zs)) (hn : n ≤ 60) :
    Calls Try.prog 45 #[.slice A n c] w fun e w' => ∃ A' c', e = .returned (.slice A' (third 0 zs).length c') ∧ w'.ownsRow w.heap.size 3 1 (.slice A' (third 0 zs).length c') (third 0 zs).length (ints (third 0 zs)) ∧ Below w.heap.size w w' := by
  obtain ⟨i0, hi, hi0, hi1, hi2⟩ := info_parts infoInt
  have HI := Lib.hid (And.intro hi (And.intro hi0 (And.intro hi1 hi2)))
  clear hi hi0 hi1 hi2
  have HL := Lib.hid h.int_len
  have H := Lib.hid h
  clear h
  go_enter Try.func45, Try.ntmps45
  go_wp2
  go_loopw [3, 8] (fun v i wr => ∃ (k : Nat) (A' : Option Addr) (c' m : Nat), k ≤ n ∧ m ≤ k ∧ i = .int .i64 k ∧ v = .slice A' m c' ∧ wr.ownsRow w.heap.size 3 1 (.slice A' m c') m (ints (third 0 (zs.take k))) ∧ Below w.heap.size w wr) (fun _ i _ => n - (intOf i).toNat)
  case atStart => exact ⟨0, none, 0, 0, Nat.zero_le _, Nat.le_refl _, rfl, rfl, World.ownsRow_nil _ _ _ _, Below.refl _ _⟩
  case round =>
    obtain ⟨k, A', c', m, hk, hmk, rfl, rfl, ho, hb⟩ := hrel
    have hsz := hb.size
    have HO := Lib.hid ho
    have HB := Lib.hid hb
    clear ho hb
    by_cases hlt : k < n
    · obtain ⟨b0, off, x, rfl, hB0, hx, hc0⟩ := H.out.int_at hlt
      have hd0 : wr.cell? ⟨b0, off + k, none⟩ = some (.int .i64 x) := (bcell HB.out _ _ hB0).trans hc0
      have ht := third_take hx
      have HX := Lib.hid ht
      clear hc0 hx ht
      have hk3 : ((k : Int) % 3) = ((k % 3 : Nat) : Int) := by omega
      by_cases h3 : k % 3 = 0
      · rw [h3] at hk3
        have HX2 := Lib.hid (HX.out.trans (by rw [if_pos h3]))
        clear h3
        go_wp2_with (at_builtin; refine wpList_append_own _ rfl (.tmp 16) (.tmp 18) 34 rfl w.heap.size 3 i0 (.int .i64 0) 1 8 Try.underlying34 HI.out.1 HI.out.2.1 HI.out.2.2.1 HI.out.2.2.2 rfl (by decide) _ _ _ rfl (HO.out.alloc _) ⟨wr.heap.size, 0, none⟩ 1 1 [.int .i64 x] rfl rfl ?c1 ?c2 ?c3 ?c4 ?c5 ?_)
        case c1 =>
          intro j u hj
          match j, hj with
          | 0, hj => simp at hj; subst hj; simp [Addr.add]
        case c2 => intro u hu; simp at hu; subst hu; rfl
        case c3 => unfold maxLen; omega
        case c4 => omega
        case c5 => simp; omega
        intro v' w2 ho2 hg2 _
        obtain ⟨A2, c2, rfl⟩ := own_slice ho2
        have HO2 := Lib.hid (show w2.ownsRow w.heap.size 3 1 (.slice A2 (m + 1) c2) (m + 1) (ints (third 0 (zs.take (k + 1)))) by
          rw [HX2.out, ints_app]
          exact ho2)
        have HB2 := Lib.hid ((HB.out.alloc hsz _).grown hg2 (by simp; omega) (fun k hk => (HO.out.lt k hk).1))
        clear ho2 hg2
        go_wp2
        go_roundw
        case rel => exact ⟨k + 1, A2, c2, m + 1, by omega, by omega, by go_num, rfl, HO2.out, HB2.out⟩
        case measure => simp [intOf]; omega
      · have HX2 := Lib.hid (HX.out.trans (by rw [if_neg h3, List.append_nil]))
        have h3b : (((k : Int) % 3) == 0) = false := by simp; omega
        clear hk3
        go_wp2
        go_roundw
        case rel => exact ⟨k + 1, A', c', m, by omega, by omega, by go_num, rfl, by rw [HX2.out]; exact HO.out, HB.out⟩
        case measure => simp [intOf]; omega
    · obtain rfl : k = n := by omega
      have HT := Lib.hid (show zs.take k = zs from List.take_of_length_le (by rw [HL.out]; exact Nat.le_refl _))
      go_wp2
      go_ret
      have ho := HO.out
      rw [HT.out] at ho
      obtain rfl : m = (third 0 zs).length := by have := (Rd.of_own ho).int_len; omega
      exact ⟨A', c', rfl, ho, HB.out⟩
end Go.Proofs.Ytbpeceejboojoaa
