/- The contracts of the generators of the laws on numbers. -/
import Derived.Test.YtdmcfllmhjdleaaCurVal
import Derived.Test.YtdmcfllmhjdleaaPutV
namespace Go.Proofs.Ytdmcfllmhjdleaa
set_option linter.unusedVariables false
set_option linter.unusedSimpArgs false
open Go.RowKit

theorem cur_new {w : World} {A : Option Addr} {n c t : Nat} {l : List UInt8} (h : Rd w w.heap.size 1 A n (bys l)) (hn : n ≤ 1048576) :
    CurAt ⟨w.heap.size, w.heap.size, n, c, A, l⟩ 0 (w.alloc (.cells #[.slice A n c, .int .i64 0, .int .u64 0] t)) :=
  ⟨Nat.le_refl _, by simp, hn, h.below ((Below.refl _ _).alloc (Nat.le_refl _) _), by simp, ⟨0, Nat.le_refl _, by simp⟩, ⟨0, by simp⟩, fun j => by simp⟩
/-- What a generator hands back: a value of which P holds; what was there is as it was. -/
def Drawn (w : World) (P : World → Value → Prop) (e : Ending) (w' : World) : Prop := ∃ v, e = .returned v ∧ P w' v ∧ Below w.heap.size w w'
theorem new_below {w w' : World} {o : Obj} (h : Ch w.heap.size (w.heap.size + 1) (w.alloc o) w') : Below w.heap.size w w' :=
  ((Below.refl _ _).alloc (Nat.le_refl _) o).trans (h.below (by simp) (.inl (Nat.le_refl _)))

set_option maxRecDepth 100000 in
set_option maxHeartbeats 4000000 in
theorem bytesOf_any (u : CU) (m : Nat) (w : World) (h : CurAt u m w) (hm : m ≤ 549755000000) :
    Calls Try.prog 94 #[.pointer (some ⟨u.b, 0, none⟩)] w (Drew u (m + 60) w (TextV 100)) := by
  have hub := h.hb
  have HH := Lib.hid h
  clear h
  go_enter Try.func94, Try.ntmps94
  go_wp2_with fail
  refine (values_any u m 6 _ HH.out (by omega) (by omega)).mono ?_
  rintro e w1 ⟨_, rfl, ⟨A, c, n, zs, rfl, hn, ho, hz⟩, hcu, hch⟩
  have hs1 := hch.size
  have HL := Lib.hid ((Rd.of_own ho).int_len)
  have H := Lib.hid (fun (w2 : World) (hc : Ch u.b (u.b + 1) w1 w2) => Rd.of_own (own_ch ho hc (by omega)))
  have HC := Lib.hid (show CurAt u (m + 38) w1 from hcu)
  have HW := Lib.hid hch
  clear hcu hch ho hz HH
  go_wp2_with fail
  go_loopw [3, 9] (fun v i wr => ∃ (k : Nat) (S : ByteArray), k ≤ n ∧ i = .int .i64 k ∧ v = .string S ∧ S.size ≤ 6 * k ∧ CurAt u (m + 38) wr ∧ Ch u.b (u.b + 1) w1 wr) (fun _ i _ => n - (intOf i).toNat)
  case atStart => exact ⟨0, ⟨#[]⟩, Nat.zero_le _, rfl, rfl, Nat.le_refl _, HC.out, Ch.refl _ _ _⟩
  case round =>
    clear HC
    obtain ⟨k, S, hk, rfl, rfl, hS, hcu, hch⟩ := hrel
    have hsz := hch.size
    have HC := Lib.hid hcu
    have HW2 := Lib.hid hch
    have HR := Lib.hid (H.out _ hch)
    clear hcu hch
    by_cases hlt : k < n
    · obtain ⟨b, off, x, rfl, hB, hx, hc⟩ := HR.out.int_at hlt
      clear hx
      cases hv : isV x with
      | true =>
        obtain ⟨V, hV⟩ : ∃ V : ByteArray, V = str (vz x) := ⟨_, rfl⟩
        have hvs : V.size ≤ 6 := by rw [hV, str_size]; exact (vz_len hv).2
        have hcon := Lib.hid (fun w => hV ▸ l1Varint_any x w hv : ∀ w, Calls Try.prog 88 #[.int .i64 x] w fun e w' => e = .returned (.string V) ∧ Below w.heap.size w w')
        clear hV
        have hcat := fun w => run_string_add_sum (P := Try.prog) (w := w) S V (by omega)
        go_wp2_with fail
        refine (l1Value_any _ _).mono ?_
        rintro e w' ⟨rfl, rfl⟩
        go_wp2_with fail
        refine (hcon.out _).mono ?_
        rintro e w2 ⟨rfl, hb2⟩
        have HC3 := Lib.hid (HC.out.ch (Ch.of_below hb2) (.inr rfl))
        have HW3 := Lib.hid (HW2.out.trans (Ch.of_below hb2).zero)
        clear hb2
        go_wp2
        go_roundw
        case rel => exact ⟨k + 1, S ++ V, by omega, by go_num, rfl, by rw [ByteArray.size_append]; omega, HC3.out, HW3.out⟩
        case measure => simp [intOf]; omega
      | false =>
        go_wp2_with fail
        refine (l1Value_any _ _).mono ?_
        rintro e w' ⟨rfl, rfl⟩
        go_wp2
        go_roundw
        case rel => exact ⟨k + 1, S, by omega, by go_num, rfl, by omega, HC.out, HW2.out⟩
        case measure => simp [intOf]; omega
    · go_wp2_with fail
      refine (one_any u (m + 38) 3 _ HC.out (by omega) (by omega)).mono ?_
      rintro e w2 ⟨_, rfl, ⟨r, rfl⟩, hcu, hch⟩
      have HC2 := Lib.hid hcu
      have HW3 := Lib.hid ((HW.out.trans HW2.out).trans hch)
      clear hcu hch
      cases r with
      | true =>
        go_wp2_with fail
        refine (spoilt_any u (m + 40) S ⟨#[0, 128, 1, 255]⟩ _ (HC2.out.more (by omega)) (by omega) (by omega) (by decide) (by decide)).mono ?_
        rintro e w3 ⟨_, rfl, ⟨S2, rfl, hS2⟩, hcu, hch⟩
        have HC4 := Lib.hid hcu
        have HW4 := Lib.hid (HW3.out.trans hch)
        clear hcu hch
        go_wp2
        go_ret
        exact ⟨_, rfl, ⟨S2, rfl, by omega⟩, HC4.out.more (by omega), HW4.out⟩
      | false =>
        go_wp2
        go_ret
        exact ⟨_, rfl, ⟨S, rfl, by omega⟩, HC2.out.more (by omega), HW3.out⟩
set_option maxRecDepth 100000 in
set_option maxHeartbeats 1000000 in
theorem DrawZigZag_any (A : Option Addr) (n c : Nat) (l : List UInt8) (w : World) (h : Rd w w.heap.size 1 A n (bys l)) (hn : n ≤ 1048576) : Calls Try.prog 84 #[.slice A n c] w (Drawn w ValV) := by
  have HH := Lib.hid (fun t => cur_new (c := c) (t := t) h hn)
  clear h
  go_enter Try.func84, Try.ntmps84
  go_wp2_with fail
  refine (value_any ⟨w.heap.size, w.heap.size, n, c, A, l⟩ 0 _ (HH.out _) (by omega)).mono ?_
  rintro e w1 ⟨v, rfl, hp, _, hch⟩
  have HP := Lib.hid hp
  have HB := Lib.hid (new_below hch)
  clear hch hp
  go_wp2
  go_ret
  exact ⟨v, rfl, HP.out, HB.out⟩
set_option maxRecDepth 100000 in
set_option maxHeartbeats 1000000 in
theorem DrawGetAll_any (A : Option Addr) (n c : Nat) (l : List UInt8) (w : World) (h : Rd w w.heap.size 1 A n (bys l)) (hn : n ≤ 1048576) : Calls Try.prog 57 #[.slice A n c] w (Drawn w (TextV 100)) := by
  have HH := Lib.hid (fun t => cur_new (c := c) (t := t) h hn)
  clear h
  go_enter Try.func57, Try.ntmps57
  go_wp2_with fail
  refine (bytesOf_any ⟨w.heap.size, w.heap.size, n, c, A, l⟩ 0 _ (HH.out _) (by omega)).mono ?_
  rintro e w1 ⟨v, rfl, hp, _, hch⟩
  have HP := Lib.hid hp
  have HB := Lib.hid (new_below hch)
  clear hch hp
  go_wp2
  go_ret
  exact ⟨v, rfl, HP.out, HB.out⟩
set_option maxHeartbeats 1000000 in
theorem DrawPutVarint_any (A : Option Addr) (n c : Nat) (l : List UInt8) (w : World) (h : Rd w w.heap.size 1 A n (bys l)) (hn : n ≤ 1048576) : Calls Try.prog 43 #[.slice A n c] w (Drawn w ValV) := by
  have HH := Lib.hid (DrawZigZag_any A n c l w h hn)
  clear h
  go_enter Try.func43, Try.ntmps43
  go_wp2_with fail
  refine HH.out.mono ?_
  rintro e w1 ⟨v, rfl, hp, hb⟩
  have HP := Lib.hid hp
  have HB := Lib.hid hb
  clear hb hp
  go_wp2
  go_ret
  exact ⟨v, rfl, HP.out, HB.out⟩
/-- A text and a place near it. -/
def TextAtV (_ : World) (v : Value) : Prop := ∃ (S : ByteArray) (x : Int), v = .tuple #[.string S, .int .i64 x] ∧ S.size ≤ 100 ∧ -1 ≤ x ∧ x ≤ 200
set_option maxRecDepth 100000 in
set_option maxHeartbeats 1000000 in
theorem DrawGetVarint_any (A : Option Addr) (n c : Nat) (l : List UInt8) (w : World) (h : Rd w w.heap.size 1 A n (bys l)) (hn : n ≤ 1048576) : Calls Try.prog 52 #[.slice A n c] w (Drawn w TextAtV) := by
  have HH := Lib.hid (fun t => cur_new (c := c) (t := t) h hn)
  clear h
  go_enter Try.func52, Try.ntmps52
  go_wp2_with fail
  refine (bytesOf_any ⟨w.heap.size, w.heap.size, n, c, A, l⟩ 0 _ (HH.out _) (by omega)).mono ?_
  rintro e w1 ⟨_, rfl, ⟨S, rfl, hS⟩, hcu, hch⟩
  have HC := Lib.hid hcu
  have HW := Lib.hid hch
  clear hcu hch
  go_wp2_with fail
  refine (pick_any ⟨w.heap.size, w.heap.size, n, c, A, l⟩ 60 _ _ (HC.out.more (by omega)) (by omega) (by omega)).mono ?_
  rintro e w2 ⟨_, rfl, ⟨r, rfl, hr0, hr⟩, hcu, hch⟩
  have HB := Lib.hid (new_below (HW.out.trans hch))
  clear hcu hch
  have hr1 : r ≤ 110 := by omega
  clear hr
  go_wp2
  go_ret2
  exact ⟨_, rfl, ⟨S, _, rfl, hS, by omega, by omega⟩, HB.out⟩
set_option maxRecDepth 100000 in
set_option maxHeartbeats 2000000 in
theorem DrawPutAll_any (A : Option Addr) (n c : Nat) (l : List UInt8) (w : World) (h : Rd w w.heap.size 1 A n (bys l)) (hn : n ≤ 1048576) : Calls Try.prog 54 #[.slice A n c] w (Drawn w (ValsV w.heap.size 100)) := by
  obtain ⟨i0, hi, hz0, hz1, hz2⟩ := info_parts infoInt
  have HI := Lib.hid (And.intro hi (And.intro hz0 (And.intro hz1 hz2)))
  clear hi hz0 hz1 hz2
  have HH := Lib.hid (fun t => cur_new (c := c) (t := t) h hn)
  clear h
  go_enter Try.func54, Try.ntmps54
  go_wp2_with fail
  refine (one_any ⟨w.heap.size, w.heap.size, n, c, A, l⟩ 0 20 _ (HH.out _) (by omega) (by omega)).mono ?_
  rintro e w1 ⟨_, rfl, ⟨r, rfl⟩, hcu, hch⟩
  have hs1 := hch.size
  simp at hs1
  have HC := Lib.hid hcu
  have HW := Lib.hid hch
  clear hcu hch
  cases r with
  | true =>
    go_wp2_with fail
    refine (pick_any ⟨w.heap.size, w.heap.size, n, c, A, l⟩ 2 3 _ (HC.out.more (by omega)) (by omega) (by omega)).mono ?_
    rintro e w2 ⟨_, rfl, ⟨r, rfl, hr0, hr⟩, hcu, hch⟩
    have hs2 := hch.size
    have HW2 := Lib.hid (new_below (HW.out.trans hch))
    clear hcu hch
    obtain ⟨k, rfl⟩ := Int.eq_ofNat_of_zero_le hr0
    have hk : k ≤ 2 := by omega
    clear hr0 hr
    go_wp2_with (at_make; refine wpList_make_full _ rfl (.tmp 11) (.tmp 11) 29 rfl w.heap.size 3 i0 (.int .i64 0) 1 Try.underlying29 HI.out.1 HI.out.2.1 HI.out.2.2.1 _ _ _ _ (59 + k) rfl rfl rfl rfl (by rw [HI.out.2.2.2]; omega) (by unfold maxLen; omega) (by omega) ?_; intro w3 hown hgrow)
    have HB3 := Lib.hid (HW2.out.grown hgrow (by omega) (by simp))
    have HO := Lib.hid (show w3.ownsRow w.heap.size 3 1 (.slice (some ⟨w2.heap.size, 0, none⟩) (59 + k) (59 + k)) (59 + k) (ints (List.replicate (59 + k) 0)) by
      rw [show ints (List.replicate (59 + k) 0) = List.replicate (59 + k) (.int .i64 0) by simp [ints], ← toList_madeCells_one]
      simpa [Value.cells] using hown)
    clear hown hgrow
    go_wp2
    go_ret
    exact ⟨_, rfl, ⟨_, _, 59 + k, _, rfl, by omega, HO.out, fun x hx => by obtain rfl := List.eq_of_mem_replicate hx; omega⟩, HB3.out⟩
  | false =>
    go_wp2_with fail
    refine (values_any ⟨w.heap.size, w.heap.size, n, c, A, l⟩ 2 8 _ (HC.out.more (by omega)) (by omega) (by omega)).mono ?_
    rintro e w2 ⟨_, rfl, ⟨A2, c2, k, zs, rfl, hk, ho, hz⟩, hcu, hch⟩
    have HB := Lib.hid (new_below (HW.out.trans hch))
    have HO := Lib.hid (own_mono ho (show w.heap.size ≤ _ by omega))
    have HZ := Lib.hid hz
    clear hcu hch ho hz
    go_wp2
    go_ret
    exact ⟨_, rfl, ⟨A2, c2, k, zs, rfl, by omega, HO.out, HZ.out⟩, HB.out⟩
end Go.Proofs.Ytdmcfllmhjdleaa
