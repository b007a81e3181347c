/- The draws of chunks. -/
import Derived.Test.YtbemnhdadafnnaaDrawSmp
import Derived.Test.YtbemnhdadafnnaaJoinLaw
import Derived.Test.YtbemnhdadafnnaaRangeFacts
import Derived.OwnWalk
import Derived.Deep.RegionHeld3
namespace Go.Proofs.Ytbemnhdadafnnaa
set_option linter.unusedVariables false
set_option linter.unusedSimpArgs false
open Go.RowKit

set_option maxRecDepth 100000 in
set_option maxHeartbeats 4000000 in
theorem chunk_any (u : CU) (m : Nat) (w : World) (h : CurAt u m w) (hm : m ≤ 549755700000) :
    Calls Try.prog 32 #[.pointer (some ⟨u.b, 0, none⟩)] w (Drew u (m + 220) w (TextV 488)) := by
  have hub := h.hb
  have HH := Lib.hid h
  clear h
  go_enter Try.func32, Try.ntmps32
  go_wp2_with fail
  refine (samples_any u m _ HH.out (by omega)).mono ?_
  rintro e w1 ⟨_, rfl, ⟨A, c, k, l, rfl, hk, ho⟩, hcu, hch⟩
  have hs1 := hch.size
  have CE := Lib.hid (sEncodeChunk_any w1.heap.size A k c l w1 (Nat.le_refl _) (Rd.of_own ho) (by omega) (encR l) (goodSmp l) rfl rfl)
  have HC := Lib.hid hcu
  have HW := Lib.hid hch
  clear ho hcu hch HH
  have hes := encR_size l
  obtain ⟨E, hE⟩ : ∃ E, encR l = E := ⟨_, rfl⟩
  rw [hE] at CE hes
  clear hE
  go_wp2_with fail
  refine CE.out.mono ?_
  rintro e w2 ⟨rfl, hb⟩
  have HC2 := Lib.hid (HC.out.ch (Ch.of_below hb) (.inr rfl))
  have HW2 := Lib.hid (HW.out.trans (Ch.of_below hb).zero)
  clear hb HC HW CE
  go_wp2_with fail
  refine (one_any u (m + 200) 4 _ HC2.out (by omega) (by omega)).mono ?_
  rintro e w3 ⟨_, rfl, ⟨q, rfl⟩, hcu, hch⟩
  have HC3 := Lib.hid hcu
  have HW3 := Lib.hid (HW2.out.trans hch)
  clear hcu hch HC2 HW2
  cases q with
  | true =>
    go_wp2_with fail
    refine (spoilt_any u (m + 200 + 2) E _ _ HC3.out (by omega) (by omega) (by decide) (by decide)).mono ?_
    rintro e w4 ⟨_, rfl, ⟨S, rfl, hS⟩, hcu, hch⟩
    have HC4 := Lib.hid hcu
    have HW4 := Lib.hid (HW3.out.trans hch)
    clear hcu hch HC3 HW3
    go_wp2
    go_ret
    exact ⟨_, rfl, ⟨S, rfl, by omega⟩, HC4.out.more (by omega), HW4.out⟩
  | false =>
    go_wp2
    go_ret
    exact ⟨_, rfl, ⟨E, rfl, by omega⟩, HC3.out.more (by omega), HW3.out⟩
set_option maxRecDepth 100000 in
set_option maxHeartbeats 1000000 in
theorem DrawGoodSamples_any (A : Option Addr) (n c : Nat) (l : List UInt8) (w : World) (h : Rd w w.heap.size 1 A n (bys l)) (hn : n ≤ 1048576) : Calls Try.prog 38 #[.slice A n c] w (DrawnP w (SmpV w.heap.size)) := by
  have HH := Lib.hid (fun t => cur_newP (c := c) (t := t) h hn)
  clear h
  go_enter Try.func38, Try.ntmps38
  go_wp2_with fail
  refine (samples_any ⟨w.heap.size, w.heap.size, n, c, A, l⟩ 0 _ (HH.out _) (by omega)).mono ?_
  rintro e w1 ⟨_, rfl, ⟨A1, c1, k1, l1, rfl, hk1, ho1⟩, _, hch⟩
  have HO := Lib.hid (own_mono ho1 (show w.heap.size ≤ _ by simp))
  have HB := Lib.hid (new_belowP hch)
  clear hch ho1
  go_wp2
  go_ret
  exact ⟨_, rfl, ⟨A1, c1, k1, l1, rfl, hk1, HO.out⟩, HB.out⟩
set_option maxHeartbeats 1000000 in
theorem DrawEncodeChunk_any (A : Option Addr) (n c : Nat) (l : List UInt8) (w : World) (h : Rd w w.heap.size 1 A n (bys l)) (hn : n ≤ 1048576) : Calls Try.prog 17 #[.slice A n c] w (DrawnP w (SmpV w.heap.size)) := by
  have HH := Lib.hid (DrawGoodSamples_any A n c l w h hn)
  clear h
  go_enter Try.func17, Try.ntmps17
  go_wp2_with fail
  refine HH.out.mono ?_
  rintro e w1 ⟨v, rfl, hp, hb⟩
  have HP := Lib.hid hp
  have HB := Lib.hid hb
  clear hb hp
  go_wp2
  go_ret
  exact ⟨v, rfl, HP.out, HB.out⟩
set_option maxRecDepth 100000 in
set_option maxHeartbeats 1000000 in
theorem DrawDecodeChunk_any (A : Option Addr) (n c : Nat) (l : List UInt8) (w : World) (h : Rd w w.heap.size 1 A n (bys l)) (hn : n ≤ 1048576) : Calls Try.prog 23 #[.slice A n c] w (DrawnP w (TextV 488)) := by
  have HH := Lib.hid (fun t => cur_newP (c := c) (t := t) h hn)
  clear h
  go_enter Try.func23, Try.ntmps23
  go_wp2_with fail
  refine (chunk_any ⟨w.heap.size, w.heap.size, n, c, A, l⟩ 0 _ (HH.out _) (by omega)).mono ?_
  rintro e w1 ⟨v, rfl, hp, _, hch⟩
  have HP := Lib.hid hp
  have HB := Lib.hid (new_belowP hch)
  clear hch hp
  go_wp2
  go_ret
  exact ⟨v, rfl, HP.out, HB.out⟩
/-- A drawn chunk, and a range. -/
def RangeV (_ : World) (v : Value) : Prop := ∃ (S : ByteArray) (f t : Int), v = .tuple #[.string S, .int .i64 f, .int .i64 t] ∧ S.size ≤ 488 ∧ 0 ≤ f ∧ f ≤ 99 ∧ -20 ≤ t ∧ t ≤ 300
set_option maxRecDepth 100000 in
set_option maxHeartbeats 1000000 in
theorem DrawRangeOf_any (A : Option Addr) (n c : Nat) (l : List UInt8) (w : World) (h : Rd w w.heap.size 1 A n (bys l)) (hn : n ≤ 1048576) : Calls Try.prog 5 #[.slice A n c] w (DrawnP w RangeV) := by
  have HH := Lib.hid (fun t => cur_newP (c := c) (t := t) h hn)
  clear h
  go_enter Try.func5, Try.ntmps5
  go_wp2_with fail
  refine (pick_any ⟨w.heap.size, w.heap.size, n, c, A, l⟩ 0 100 _ (HH.out _) (by omega) (by omega)).mono ?_
  rintro e w1 ⟨_, rfl, ⟨r, rfl, hr0, hr1⟩, hcu, hch⟩
  have HC := Lib.hid hcu
  have HW := Lib.hid hch
  clear hcu hch
  have hr2 : r ≤ 99 := by omega
  clear hr1
  go_wp2_with fail
  refine (chunk_any ⟨w.heap.size, w.heap.size, n, c, A, l⟩ (0 + 2) _ HC.out (by omega)).mono ?_
  rintro e w2 ⟨_, rfl, ⟨S, rfl, hS⟩, hcu, hch⟩
  have HC2 := Lib.hid hcu
  have HW2 := Lib.hid (HW.out.trans hch)
  clear hcu hch HC HW
  go_wp2_with fail
  refine (pick_any ⟨w.heap.size, w.heap.size, n, c, A, l⟩ (0 + 2 + 220) 200 _ HC2.out (by omega) (by omega)).mono ?_
  rintro e w3 ⟨_, rfl, ⟨q, rfl, hq0, hq1⟩, hcu, hch⟩
  have HB := Lib.hid (new_belowP (HW2.out.trans hch))
  clear hcu hch
  have hq2 : q ≤ 199 := by omega
  clear hq1
  go_wp2
  go_ret3
  exact ⟨_, rfl, ⟨S, _, _, rfl, hS, hr0, hr2, by omega, by omega⟩, HB.out⟩
end Go.Proofs.Ytbemnhdadafnnaa
