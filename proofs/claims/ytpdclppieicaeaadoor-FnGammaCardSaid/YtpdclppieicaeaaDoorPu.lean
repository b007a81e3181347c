/- The library's ParseUint at base 2 and 32 bits. -/
import Derived.Test.YtpdclppieicaeaaDoorTrim0
import Derived.Test.YtpdclppieicaeaaDoorShPu
import Derived.Shelf.Pu.ToError
import Derived.Shelf.Pu.ToErrorRange
import Derived.Test.YtpdclppieicaeaaDoorGamRS
import Derived.Lib.Strings
import Derived.Lib.Walk
import Derived.Lib.ConvBytes
import Derived.Lib.Hide
import Derived.Laws.Strings3
import Derived.Laws.Closers25
import Derived.Laws.Closers25b
import Derived.WalkKit
import Derived.BigCall
import Derived.BigGuard
namespace Go.Proofs.YtpdclppieicaeaaDoor
set_option linter.unusedVariables false
set_option linter.unusedSimpArgs false
open Go.RowKit

/-- What the inner ParseUint hands back. -/
def puV (o : Option Nat) (v : Value) : Prop := match o with
  | some n => v = .tuple #[.int .u64 n, .nilIface]
  | none => v = .tuple #[.int .u64 0, .iface 85 (.int .i64 2)] ∨ v = .tuple #[.int .u64 4294967295, .iface 85 (.int .i64 1)]
theorem lowerPu (c : Int) (w : World) : Calls Tryd.prog 63 #[.int .u8 c] w fun e w' => e = .returned (.int .u8 (bits .or .u8 c 32)) ∧ w = w' := by
  go_enter Tryd.func63, Tryd.ntmps63
  go_wp2
  go_ret
  exact ⟨rfl, rfl⟩
set_option maxHeartbeats 8000000 in
set_option maxRecDepth 100000 in
theorem innerPu (t : ByteArray) (hne : t.size ≠ 0) (hmax : t.size ≤ 1048576) (w : World) :
    Calls Tryd.prog 47 #[.string t, .int .i64 2, .int .i64 32] w fun e w' => (∃ v, e = .returned v ∧ puV (pu 0 t.data.toList) v) ∧ Below w.heap.size w w' := by
  have hemp : t.toList.isEmpty = false := by
    rw [← decide_eq_emptyBytes]
    exact decide_eq_false (fun h => hne (by rw [h]; rfl))
  have hcv := Lib.run_convert_string_bytes (P := Tryd.prog) w 9 22 5 t Tryd.underlying9 Tryd.underlying22 Tryd.underlying5
  have hB : ∀ j, j < t.size → (Lib.bytesWorld w 5 t).cell? ⟨w.heap.size, j, none⟩ = some (.int .u8 (t.data.toList.getD j 0).toNat) := fun j hj => Lib.bytesWorld_cell w _ t j hj
  have hb0 : Below w.heap.size w (Lib.bytesWorld w 5 t) := ⟨rfl, rfl, rfl, by rw [Lib.bytesWorld_size]; omega, fun k hk => Lib.bytesWorld_at_old w _ t k hk⟩
  obtain ⟨W1, hW1⟩ : ∃ W1, W1 = Lib.bytesWorld w 5 t := ⟨_, rfl⟩
  rw [← hW1] at hcv hB hb0
  have HB0 := Lib.hid hb0
  clear hW1 hb0
  obtain ⟨bs, hL⟩ : ∃ bs, bs = t.data.toList := ⟨_, rfl⟩
  have hLn : bs.length = t.size := by rw [hL, Lib.size_eq]
  rw [← hL] at hB ⊢
  clear hL
  have hmv : IntKind.u64.wrap (IntKind.u64.wrap 4294967296 - 1) = 4294967295 := by
    rw [IntKind.wrap_u64, IntKind.wrap_u64]
    decide
  go_enter Tryd.func47, Tryd.ntmps47
  go_wp2
  go_loop [12, 13, 101] (fun vu vn vi => ∃ (k acc : Nat) (a : Int), vu = .bool false ∧ vn = .int .u64 a ∧ vi = .int .i64 k ∧ k ≤ t.size ∧ Hid (a = (acc : Int) ∧ acc ≤ 4294967295 ∧ pu 0 bs = pu acc (bs.drop k)))
    (fun _ _ vi => t.size - (intOf vi).toNat)
  case atStart => exact ⟨0, 0, 0, rfl, rfl, rfl, by omega, rfl, by omega, rfl⟩
  case round =>
    obtain ⟨k, acc, a, rfl, rfl, rfl, hk, hh⟩ := hrel
    obtain ⟨ha, hacc, hdec⟩ := hh.out
    clear hh
    have a0 : 0 ≤ a := by omega
    have a1 : a ≤ 4294967295 := by omega
    by_cases hkn : k < t.size
    · have hc := hB k hkn
      have hdrop : bs.drop k = bs[k]'(by omega) :: bs.drop (k + 1) := List.drop_eq_getElem_cons (by omega)
      have hget : bs.getD k 0 = bs[k]'(by omega) := by simp [List.getD, List.getElem?_eq_getElem (show k < bs.length by omega)]
      rw [hdrop] at hdec
      rw [hget] at hc
      generalize bs[k]'(by omega) = c at hc hdec
      have hc256 : c.toNat < 256 := c.toNat_lt
      clear hB hdrop hget
      by_cases hdig : 48 ≤ c.toNat ∧ c.toNat ≤ 57
      · obtain ⟨hd0, hd1⟩ := hdig
        by_cases h2 : c.toNat ≤ 49
        · obtain ⟨d, hd, hcd⟩ : ∃ d : Nat, d ≤ 1 ∧ c.toNat = 48 + d := ⟨c.toNat - 48, by omega, by omega⟩
          have hF : pu acc (c :: bs.drop (k + 1)) = if 2 * acc + d ≤ 4294967295 then pu (2 * acc + d) (bs.drop (k + 1)) else none := by
            rcases (show d = 0 ∨ d = 1 by omega) with rfl | rfl
            · obtain rfl : c = 48 := UInt8.toNat_inj.1 (by rw [hcd]; rfl)
              rfl
            · obtain rfl : c = 49 := UInt8.toNat_inj.1 (by rw [hcd]; rfl)
              rfl
          rw [hF] at hdec
          by_cases hov : 2 * acc + d ≤ 4294967295
          · rw [if_pos hov] at hdec
            have HN : Hid (a * 2 + ((c.toNat : Int) - 48) = ((2 * acc + d : Nat) : Int) ∧ 2 * acc + d ≤ 4294967295 ∧ pu 0 bs = pu (2 * acc + d) (bs.drop (k + 1))) := Lib.hid ⟨by omega, by omega, hdec⟩
            have iov : a * 2 + ((c.toNat : Int) - 48) ≤ 4294967295 := by omega
            clear hacc hF hov hdec ha hcd hd
            go_wp2
            refine ⟨⟨k + 1, 2 * acc + d, a * 2 + ((c.toNat : Int) - 48), rfl, (by first | rfl | (congr 1; omega)), (by first | rfl | (congr 1; omega)), by omega, HN⟩, by simp [intOf]; omega⟩
          · rw [if_neg hov] at hdec
            have iov : 4294967295 < a * 2 + ((c.toNat : Int) - 48) := by omega
            have HD := Lib.hid hdec
            clear hacc hF hov ha hcd hd hdec
            go_wp2
            go_ret2
            exact ⟨⟨_, rfl, by rw [HD.out]; exact Or.inr rfl⟩, HB0.out⟩
        · have hF : pu acc (c :: bs.drop (k + 1)) = none := by
            simp only [pu]
            rw [if_neg (fun h => by rw [h] at h2; exact h2 (by decide)), if_neg (fun h => by rw [h] at h2; exact h2 (by decide))]
          have HD := Lib.hid (hdec.trans hF)
          clear hacc hF ha hdec
          go_wp2
          go_ret2
          exact ⟨⟨_, rfl, by rw [HD.out]; exact Or.inl rfl⟩, HB0.out⟩
      · have hF : pu acc (c :: bs.drop (k + 1)) = none := by
          simp only [pu]
          rw [if_neg (fun h => by rw [h] at hdig; exact hdig (by decide)), if_neg (fun h => by rw [h] at hdig; exact hdig (by decide))]
        have HD := Lib.hid (hdec.trans hF)
        clear hacc hF ha hdec
        have hv0 := bits_lo_u8 .or (c.toNat : Int) 32
        have hv1 := bits_hi_u8 .or (c.toNat : Int) 32
        have hu0 := bits_lo_u8 .or 95 32
        have hu1 := bits_hi_u8 .or 95 32
        go_wp2_with (go_at_call 63; refine (lowerPu _ _).mono ?_; rintro e w' ⟨rfl, rfl⟩)
        all_goals go_ret2
        all_goals exact ⟨⟨_, rfl, by rw [HD.out]; exact Or.inl rfl⟩, HB0.out⟩
    · have hkk : k = t.size := by omega
      subst hkk
      have HD := Lib.hid (show pu 0 bs = some acc by rw [hdec, List.drop_eq_nil_of_le (by omega)]; rfl)
      subst ha
      clear hacc a0 a1 hdec
      go_wp2
      go_ret2
      exact ⟨⟨_, rfl, by rw [HD.out]; rfl⟩, HB0.out⟩
end Go.Proofs.YtpdclppieicaeaaDoor
