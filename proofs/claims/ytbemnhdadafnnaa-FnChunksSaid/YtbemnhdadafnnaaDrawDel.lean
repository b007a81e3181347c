/- The draw of numbers for DeltasOf. -/
import Derived.Test.YtbemnhdadafnnaaDrawPost0
import Derived.Test.YtbemnhdadafnnaaCurVal
namespace Go.Proofs.Ytbemnhdadafnnaa
set_option linter.unusedVariables false
set_option linter.unusedSimpArgs false
open Go.RowKit

set_option maxRecDepth 100000 in
set_option maxHeartbeats 2000000 in
theorem DrawDeltasOf_any (A : Option Addr) (n c : Nat) (l : List UInt8) (w : World) (h : Rd w w.heap.size 1 A n (bys l)) (hn : n ≤ 1048576) : Calls Try.prog 25 #[.slice A n c] w (DrawnP w (ValsV w.heap.size 100)) := by
  obtain ⟨i0, hi, hz0, hz1, hz2⟩ := info_parts infoInt
  have HI := Lib.hid (And.intro hi (And.intro hz0 (And.intro hz1 hz2)))
  clear hi hz0 hz1 hz2
  have HH := Lib.hid (fun t => cur_newP (c := c) (t := t) h hn)
  clear h
  go_enter Try.func25, Try.ntmps25
  go_wp2_with fail
  refine (one_any ⟨w.heap.size, w.heap.size, n, c, A, l⟩ 0 20 _ (HH.out _) (by omega) (by omega)).mono ?_
  rintro e w1 ⟨_, rfl, ⟨r, rfl⟩, hcu, hch⟩
  have hs1 := hch.size
  simp at hs1
  have HC := Lib.hid hcu
  have HW := Lib.hid hch
  clear hcu hch
  cases r with
  | true =>
    go_wp2_with fail
    refine (pick_any ⟨w.heap.size, w.heap.size, n, c, A, l⟩ 2 2 _ (HC.out.more (by omega)) (by omega) (by omega)).mono ?_
    rintro e w2 ⟨_, rfl, ⟨r, rfl, hr0, hr⟩, hcu, hch⟩
    have hs2 := hch.size
    have HW2 := Lib.hid (new_belowP (HW.out.trans hch))
    clear hcu hch
    obtain ⟨k, rfl⟩ := Int.eq_ofNat_of_zero_le hr0
    have hk : k ≤ 1 := by omega
    clear hr0 hr
    go_wp2_with (at_make; refine wpList_make_full _ rfl (.tmp 11) (.tmp 11) 47 rfl w.heap.size 3 i0 (.int .i64 0) 1 Try.underlying47 HI.out.1 HI.out.2.1 HI.out.2.2.1 _ _ _ _ (40 + k) rfl rfl rfl rfl (by rw [HI.out.2.2.2]; omega) (by unfold maxLen; omega) (by omega) ?_; intro w3 hown hgrow)
    have HB3 := Lib.hid (HW2.out.grown hgrow (by omega) (by simp))
    have HO := Lib.hid (show w3.ownsRow w.heap.size 3 1 (.slice (some ⟨w2.heap.size, 0, none⟩) (40 + k) (40 + k)) (40 + k) (ints (List.replicate (40 + k) 0)) by
      rw [show ints (List.replicate (40 + k) 0) = List.replicate (40 + k) (.int .i64 0) by simp [ints], ← toList_madeCells_one]
      simpa [Value.cells] using hown)
    clear hown hgrow
    go_wp2
    go_ret
    exact ⟨_, rfl, ⟨_, _, 40 + k, _, rfl, by omega, HO.out, fun x hx => by obtain rfl := List.eq_of_mem_replicate hx; omega⟩, HB3.out⟩
  | false =>
    go_wp2_with fail
    refine (values_any ⟨w.heap.size, w.heap.size, n, c, A, l⟩ 2 8 _ (HC.out.more (by omega)) (by omega) (by omega)).mono ?_
    rintro e w2 ⟨_, rfl, ⟨A2, c2, k, zs, rfl, hk, ho, hz⟩, hcu, hch⟩
    have HB := Lib.hid (new_belowP (HW.out.trans hch))
    have HO := Lib.hid (own_mono ho (show w.heap.size ≤ _ by omega))
    have HZ := Lib.hid hz
    clear hcu hch ho hz
    go_wp2
    go_ret
    exact ⟨_, rfl, ⟨A2, c2, k, zs, rfl, by omega, HO.out, HZ.out⟩, HB.out⟩
end Go.Proofs.Ytbemnhdadafnnaa
