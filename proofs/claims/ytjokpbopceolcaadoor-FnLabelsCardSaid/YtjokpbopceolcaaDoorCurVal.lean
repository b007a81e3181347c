/- The contracts of the generators of numbers, of bytes of numbers, and of spoilt texts. -/
import Derived.Test.YtjokpbopceolcaaDoorCur
import Derived.Test.YtjokpbopceolcaaDoorVar
import Derived.Laws.Concat
import Derived.Lib.SmallJoins
import Derived.Lib.AppendStr
namespace Go.Proofs.YtjokpbopceolcaaDoor
set_option linter.unusedVariables false
set_option linter.unusedSimpArgs false
open Go.RowKit

theorem lit_cell {w : World} {t j : Nat} {zs : List Int} {x : Int} (h : zs[j]? = some x) : (w.alloc (.cells (ints zs).toArray t)).cell? ⟨w.heap.size, j, none⟩ = some (.int .i64 x) := by
  rw [cell_of_row _ _ _ _ _ _ (heap_alloc_new w _)]
  simp [ints, h]
/-- A number of the generators. -/
def ValV (_ : World) (v : Value) : Prop := ∃ x : Int, v = .int .i64 x ∧ -1000000000001 ≤ x ∧ x ≤ 1000000000001
/-- A step that a cursor's may be followed by: what lay below the call's own blocks is as it was. -/
theorem Ch.grow {a b : Nat} {u v w : World} (B : Nat) (h : Ch a b u v) (k : Below B v w) (hB : u.heap.size ≤ B) : Ch a b u w :=
  ⟨k.os.trans h.os, k.tape.trans h.tape, k.output.trans h.output, Nat.le_trans h.size k.size, fun i hi ho => (k.block i (by omega)).trans (h.block i hi ho)⟩
theorem own_ch {w w' : World} {base e s n a b : Nat} {v : Value} {xs : List Value} (h : w.ownsRow base e s v n xs) (hc : Ch a b w w') (hab : b ≤ base) : w'.ownsRow base e s v n xs := by
  refine ⟨h.1, ?_⟩
  rcases h.2 with h2 | ⟨g, cap, cur, hv, hl, hh, r⟩
  · exact .inl h2
  · have hlt := (h.lt g (by rw [hv]; rfl)).2
    exact .inr ⟨g, cap, cur, hv, hl, (hc.block g hlt (by omega)).trans hh, r⟩
/-- Numbers of the generators, in new memory. -/
def ValsV (base most : Nat) (w : World) (v : Value) : Prop := ∃ A c k zs, v = .slice A k c ∧ k ≤ most ∧ w.ownsRow base 3 1 (.slice A k c) k (ints zs) ∧ ∀ x ∈ zs, -1000000000001 ≤ x ∧ x ≤ 1000000000001
/-- A text of at most so many bytes. -/
def TextV (most : Nat) (_ : World) (v : Value) : Prop := ∃ S : ByteArray, v = .string S ∧ S.size ≤ most
set_option maxRecDepth 100000 in
set_option maxHeartbeats 8000000 in
theorem spoilt_any (u : CU) (m : Nat) (s t : ByteArray) (w : World) (h : CurAt u m w) (hm : m ≤ 549755800000) (hs : s.size ≤ 1000000) (ht0 : 0 < t.size) (ht : t.size ≤ 1000) :
    Calls Tryd.prog 47 #[.pointer (some ⟨u.b, 0, none⟩), .string s, .string t] w (Drew u (m + 14) w (TextV (s.size + 2))) := by
  have hub := h.hb
  have HH := Lib.hid h
  clear h
  go_enter Tryd.func47, Tryd.ntmps47
  go_wp2_with fail
  refine (pick_any u m _ _ HH.out (by omega) (by omega)).mono ?_
  rintro e w1 ⟨_, rfl, ⟨r, rfl, hr0, hr⟩, hcu, hch⟩
  obtain ⟨N, rfl⟩ := Int.eq_ofNat_of_zero_le hr0
  have hN : N ≤ 2 := by omega
  have hs1 := hch.size
  have HC := Lib.hid hcu
  have HW := Lib.hid hch
  clear hcu hch hr hr0
  go_wp2_with fail
  go_loopw [1, 7] (fun v i wr => ∃ (k j : Nat) (S : ByteArray), k + j ≤ N ∧ i = .int .i64 j ∧ v = .string S ∧ S.size ≤ s.size + k ∧ CurAt u (m + 2 + 6 * k) wr ∧ Ch u.b (u.b + 1) w wr) (fun _ i _ => (intOf i).toNat)
  case atStart => exact ⟨0, N, s, by omega, rfl, rfl, by omega, HC.out, HW.out⟩
  case round =>
    clear HC HW HH
    obtain ⟨k, j, S, hkj, rfl, rfl, hS, hcu, hch⟩ := hrel
    have hsz := hch.size
    have HC := Lib.hid hcu
    have HW := Lib.hid hch
    clear hcu hch
    by_cases hlt : 0 < j
    · by_cases hS0 : 0 < S.size
      · go_wp2_with fail
        refine (pick_any u (m + 2 + 6 * k) S.size _ HC.out (by omega) (by omega)).mono ?_
        rintro e w2 ⟨_, rfl, ⟨r, rfl, hr0, hr⟩, hcu, hch⟩
        obtain ⟨i, rfl⟩ := Int.eq_ofNat_of_zero_le hr0
        have hi : i < S.size := by omega
        have hs2 := hch.size
        have HC2 := Lib.hid hcu
        have HW2 := Lib.hid (HW.out.trans hch)
        clear hcu hch hr hr0 HC HW
        go_wp2_with fail
        refine (pick_any u (m + 4 + 6 * k) t.size _ (HC2.out.more (by omega)) (by omega) (by omega)).mono ?_
        rintro e w3 ⟨_, rfl, ⟨r, rfl, hr0, hr⟩, hcu, hch⟩
        obtain ⟨q, rfl⟩ := Int.eq_ofNat_of_zero_le hr0
        have hq : q < t.size := by omega
        have hs3 := hch.size
        have HC3 := Lib.hid hcu
        have HW3 := Lib.hid (HW2.out.trans hch)
        clear hcu hch hr hr0 HC2 HW2
        obtain ⟨c, hc⟩ : ∃ c : UInt8, c = t[q] := ⟨_, rfl⟩
        have HQ := Lib.hid hc
        have hcv : (convert 33 9 (.slice (some ⟨w3.heap.size, 0, none⟩) 1 1)).run Tryd.prog (w3.alloc (.cells #[.int .u8 (t[q].toNat : Int)] 5)) = .ok (.string ⟨#[c]⟩) (w3.alloc (.cells #[.int .u8 (t[q].toNat : Int)] 5)) := by
          refine run_convert_bytes_back (P := Tryd.prog) _ 33 9 5 ⟨w3.heap.size, 0, none⟩ 1 [c] Tryd.underlying33 Tryd.underlying5 Tryd.underlying9 ?_
          intro i hi
          obtain rfl : i = 0 := by simpa using hi
          simp [Addr.add, hc]
        clear hc
        have HC4 := Lib.hid (HC3.out.alloc (.cells #[.int .u8 (t[q].toNat : Int)] 5))
        have HW4 := Lib.hid (HW3.out.trans (Ch.alloc w3 (.cells #[.int .u8 (t[q].toNat : Int)] 5)).zero)
        go_wp2_with fail
        refine (pick_any u (m + 6 + 6 * k) 3 _ (HC4.out.more (by omega)) (by omega) (by omega)).mono ?_
        rintro e w5 ⟨_, rfl, ⟨r, rfl, hr0, hr⟩, hcu, hch⟩
        have HC5 := Lib.hid (show CurAt u (m + 2 + 6 * (k + 1)) w5 from hcu.more (by omega))
        have HW5 := Lib.hid (HW4.out.trans hch)
        clear hcu hch HC3 HC4 HW3 HW4 hcv
        have hw1 : (⟨#[c]⟩ : ByteArray).size = 1 := rfl
        have z0 : (S.extract 0 i).size ≤ i := by rw [ByteArray.size_extract]; omega
        have z1 : (S.extract i S.size).size ≤ S.size - i := by rw [ByteArray.size_extract]; omega
        have z2 : (S.extract (i + 1) S.size).size ≤ S.size - (i + 1) := by rw [ByteArray.size_extract]; omega
        have za : (S.extract 0 i ++ ⟨#[c]⟩).size ≤ i + 1 := by rw [ByteArray.size_append]; omega
        have hcat1 := fun w => run_string_add_sum (P := Tryd.prog) (w := w) (S.extract 0 i) ⟨#[c]⟩ (by omega)
        have hcat2 := fun w => run_string_add_sum (P := Tryd.prog) (w := w) (S.extract 0 i ++ ⟨#[c]⟩) (S.extract i S.size) (by omega)
        have hcat3 := fun w => run_string_add_sum (P := Tryd.prog) (w := w) (S.extract 0 i ++ ⟨#[c]⟩) (S.extract (i + 1) S.size) (by omega)
        have hcat4 := fun w => run_string_add_sum (P := Tryd.prog) (w := w) (S.extract 0 i) (S.extract (i + 1) S.size) (by omega)
        have HZ := Lib.hid (show (S.extract 0 i ++ ⟨#[c]⟩ ++ S.extract i S.size).size ≤ S.size + 1 ∧ (S.extract 0 i ++ ⟨#[c]⟩ ++ S.extract (i + 1) S.size).size ≤ S.size + 1 ∧ (S.extract 0 i ++ S.extract (i + 1) S.size).size ≤ S.size + 1 from
          ⟨by rw [ByteArray.size_append]; omega, by rw [ByteArray.size_append]; omega, by rw [ByteArray.size_append]; omega⟩)
        clear z0 z1 z2 za hw1
        have h3 : r = 0 ∨ r = 1 ∨ r = 2 := by omega
        clear hr hr0
        rcases h3 with rfl | rfl | rfl
        · go_wp2
          go_quiet (fail)
          clear hcat1 hcat2 hcat3 hcat4
          go_wp2
          go_roundw
          case rel => exact ⟨k + 1, j - 1, _, by omega, by go_num, rfl, Nat.le_trans HZ.out.1 (by omega), HC5.out.drewN _, HW5.out.drewN _⟩
          case measure => simp [intOf]; omega
        · go_wp2
          go_quiet (fail)
          clear hcat1 hcat2 hcat3 hcat4
          go_wp2
          go_roundw
          case rel => exact ⟨k + 1, j - 1, _, by omega, by go_num, rfl, Nat.le_trans HZ.out.2.1 (by omega), HC5.out.drewN _, HW5.out.drewN _⟩
          case measure => simp [intOf]; omega
        · go_wp2
          go_quiet (fail)
          clear hcat1 hcat2 hcat3 hcat4
          go_wp2
          go_roundw
          case rel => exact ⟨k + 1, j - 1, _, by omega, by go_num, rfl, Nat.le_trans HZ.out.2.2 (by omega), HC5.out.drewN _, HW5.out.drewN _⟩
          case measure => simp [intOf]; omega
      · go_wp2
        go_ret
        exact ⟨_, rfl, ⟨S, rfl, by omega⟩, HC.out.more (by omega), HW.out⟩
    · obtain rfl : j = 0 := by omega
      go_wp2
      go_ret
      exact ⟨_, rfl, ⟨S, rfl, by omega⟩, HC.out.more (by omega), HW.out⟩
end Go.Proofs.YtjokpbopceolcaaDoor
