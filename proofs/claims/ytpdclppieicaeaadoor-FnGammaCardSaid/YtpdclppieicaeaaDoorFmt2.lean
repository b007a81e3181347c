/- The library's FormatInt at base 2. -/
import Derived.Test.YtpdclppieicaeaaDoorGamS
import Derived.Deep.LoopGhost
import Derived.WalkSmall
namespace Go.Proofs.YtpdclppieicaeaaDoor
set_option linter.unusedVariables false
set_option linter.unusedSimpArgs false
open Go.RowKit

/-- The array of 65 bytes that the digits are written into, from its end on. -/
structure ArrD (w : World) (X : Nat) (l : List UInt8) : Prop where
  lt : X < w.heap.size
  le : l.length ≤ 65
  ex : ∀ j, j < 65 → ∃ u, w.cell? ⟨X, j, none⟩ = some u
  fr : ∀ j, w.frozen? ⟨X, j, none⟩ = false
  at_ : ∀ (j : Nat) (c : UInt8), l[j]? = some c → w.cell? ⟨X, 65 - l.length + j, none⟩ = some (.int .u8 (c.toNat : Int))
theorem ArrD.start {w : World} (C : Array Value) (T : TypeId) (hC : C.size = 65) : ArrD (w.alloc (.cells C T)) w.heap.size [] :=
  ⟨by simp, by simp, fun j hj => ⟨C[j]'(by omega), by rw [World.cell?_alloc_mark w C T (0, 0) j]; exact Array.getElem?_eq_getElem (by omega)⟩, fun j => by simp, fun j c h => by simp at h⟩
theorem ArrD.step {w : World} {X : Nat} {l : List UInt8} (h : ArrD w X l) (hl : l.length < 65) (c : UInt8) {i : Nat} (hi : i + (l.length + 1) = 65) : ArrD (w.setCell ⟨X, i, none⟩ (.int .u8 (c.toNat : Int))) X (c :: l) := by
  obtain ⟨u, hu⟩ := h.ex i (by omega)
  refine ⟨by rw [World.size_setCell]; exact h.lt, by simp; omega, fun j hj => ?_, fun j => (World.frozen?_setCell ..).trans (h.fr j), fun j d hd => ?_⟩
  · by_cases e : j = i
    · subst e; exact ⟨_, World.cell?_setCell_same _ _ _ hu⟩
    · obtain ⟨v, hv⟩ := h.ex j hj
      exact ⟨v, (World.cell?_setCell_other _ _ _ _ (by intro e'; injection e' with _ e2; omega)).trans hv⟩
  · cases j with
    | zero =>
      simp at hd
      subst hd
      rw [show 65 - (c :: l).length + 0 = i by simp; omega]
      exact World.cell?_setCell_same _ _ _ hu
    | succ j =>
      have hd' : l[j]? = some d := by simpa using hd
      have := h.at_ j d hd'
      rw [show 65 - (c :: l).length + (j + 1) = 65 - l.length + j by simp; omega]
      exact (World.cell?_setCell_other _ _ _ _ (by intro e'; injection e' with _ e2; omega)).trans this
theorem and1 (u : Nat) (hu : u < 18446744073709551616) : bits .and .u64 (u : Int) 1 = ((u % 2 : Nat) : Int) := by
  have h := bits_and_u64_nat u 1 (by omega) (by omega)
  rw [Nat.and_one_is_mod] at h
  exact h
set_option maxRecDepth 100000 in
theorem tz64_two (w : World) (h7 : 7 < w.heap.size) (hc : w.cell? ⟨7, 1, none⟩ = some (.int .u8 1)) :
    Calls Tryd.prog 83 #[.int .u64 2] w fun e w' => e = .returned (.int .i64 1) ∧ w = w' := by
  have h1 : IntKind.u64.wrap (-2) = 18446744073709551614 := by rfl
  have h2 : bits BinOp.and IntKind.u64 2 18446744073709551614 = 2 := by rfl
  have h3 : IntKind.u64.wrap (2 * 285870213051353865) = 571740426102707730 := by rfl
  go_enter Tryd.func83, Tryd.ntmps83
  go_wp2
  go_ret
  exact ⟨rfl, rfl⟩
set_option maxRecDepth 100000 in
theorem tz_two (w : World) (h7 : 7 < w.heap.size) (hc : w.cell? ⟨7, 1, none⟩ = some (.int .u8 1)) :
    Calls Tryd.prog 73 #[.int .u64 2] w fun e w' => e = .returned (.int .i64 1) ∧ w = w' := by
  have H := Lib.hid (tz64_two w h7 hc)
  clear h7 hc
  go_enter Tryd.func73, Tryd.ntmps73
  go_wp2_with fail
  refine H.out.mono ?_
  rintro e w' ⟨rfl, rfl⟩
  go_wp2
  go_ret
  exact ⟨rfl, rfl⟩
theorem pow2_two (w : World) : Calls Tryd.prog 72 #[.int .i64 2] w fun e w' => e = .returned (.bool true) ∧ w = w' := by
  have h1 : bits BinOp.and IntKind.i64 2 1 = 0 := by rfl
  go_enter Tryd.func72, Tryd.ntmps72
  go_wp2
  go_ret
  exact ⟨rfl, rfl⟩
theorem sl126 (X j : Nat) (hj : j < 65) (w : World) : (Instr.sliceAt 93 (.pointer (some ⟨X, 0, none⟩)) (some (.int .i64 (j : Int))) none none).run Tryd.prog w = .ok (.slice (some ⟨X, j, none⟩) (65 - j) (65 - j)) w := by
  have ha : Tryd.prog.arrayLen 93 = 65 := by kernel_rfl
  have he : Tryd.prog.elem 93 = 5 := by kernel_rfl
  have hu : Tryd.prog.underlying 93 = some (.array (Tryd.prog.arrayLen 93) (Tryd.prog.elem 93)) := by rw [ha, he]; exact Tryd.underlying93
  have hz : (sizeOf (Tryd.prog.elem 93)).run Tryd.prog w = .ok 1 w := by rw [he]; kernel_rfl
  rw [run_sliceAt_array_l w _ _ hu .i64 (j : Int) (by omega) (by rw [ha]; omega), hz, ha]
  by_cases h : j = 0
  · subst h; simp [Result.andThen, slicedAt, Addr.add]
  · have h65 : ¬ 65 = j := by omega
    simp [Result.andThen, slicedAt, Addr.add, h, h65]
set_option maxRecDepth 100000 in
set_option maxHeartbeats 4000000 in
theorem formatBits2 (n : Nat) (w : World) (hn : n ≤ 1000000) (h7 : 7 < w.heap.size) (hc : w.cell? ⟨7, 1, none⟩ = some (.int .u8 1)) :
    Calls Tryd.prog 52 #[.slice none 0 0, .int .u64 n, .int .i64 2, .bool false, .bool false] w fun e w' => e = .returned (.tuple #[.slice none 0 0, .string (sB (bnr n))]) ∧ Below w.heap.size w w' := by
  have HL := Lib.hid (bnr_len hn)
  have HTZ := Lib.hid (fun o => tz_two (w.alloc o) (by simp; omega) ((World.cell?_alloc_lt w o ⟨7, 1, none⟩ h7).trans hc))
  clear hc h7
  go_enter Tryd.func52, Tryd.ntmps52
  go_wp2_with (first | (go_at_call 72; refine (pow2_two _).mono ?_; rintro e w' ⟨rfl, rfl⟩) | (go_at_call 73; refine (HTZ.out _).mono ?_; rintro e w' ⟨rfl, rfl⟩))
  obtain ⟨X, hX⟩ : ∃ X, w.heap.size = X := ⟨_, rfl⟩
  obtain ⟨wb, hwb⟩ : ∃ wb, w.alloc (.cells Tryd.zeroCells93 93) = wb := ⟨_, rfl⟩
  have hb0 : Below w.heap.size w wb := hwb ▸ (Below.refl _ _).alloc (Nat.le_refl _) _
  have hA0 : ArrD wb X [] := by rw [← hwb, ← hX]; exact ArrD.start _ _ (by kernel_rfl)
  rw [hwb, hX]
  have HX := Lib.hid hX
  have HB0 := Lib.hid hb0
  have HA0 := Lib.hid hA0
  clear hwb hb0 hA0 HTZ hX
  go_loopw [1, 13] (fun u i wr => ∃ (m j : Nat) (l : List UInt8), u = .int .u64 m ∧ i = .int .i64 j ∧ j + l.length = 65 ∧ ArrD wr X l ∧ bnr n = bnr m ++ l ∧ m ≤ n ∧ Below X wb wr) (fun u _ _ => (intOf u).toNat)
  case atStart => exact ⟨n, 65, [], rfl, rfl, rfl, HA0.out, by simp, Nat.le_refl _, Below.refl _ _⟩
  case round =>
    obtain ⟨m, j, l, rfl, rfl, hj, ha, hbn, hm, hb⟩ := hrel
    have hp := bnr_len_pos m
    have hll : (bnr m).length + l.length ≤ 20 := by have := HL.out; rw [hbn, List.length_append] at this; exact this
    have HA := Lib.hid ha
    have HB := Lib.hid hb
    have HN := Lib.hid hbn
    have hand := and1 m (by omega)
    obtain ⟨u0, hu0⟩ := ha.ex (j - 1) (by omega)
    have hf0 := ha.fr (j - 1)
    have hjt : ((j : Int) - 1).toNat = j - 1 := by omega
    clear ha hb hbn
    by_cases h2 : 2 ≤ m
    · have hbm := bnr_hi (n := m) (by omega)
      rcases Nat.mod_two_eq_zero_or_one m with h0 | h0
      · skip
        rw [h0] at hand hbm
        have HBM := Lib.hid hbm
        have hA2 := HA.out.step (by omega) 48 (i := j - 1) (by omega)
        have HA2 := Lib.hid hA2
        clear hbm h0 hA2
        go_wp2
        go_roundw
        case rel =>
          refine ⟨m / 2, j - 1, 48 :: l, by go_num, by go_num, by simp; omega, HA2.out, ?_, by omega, HB.out.setCell (Nat.le_refl _) _⟩
          rw [HN.out, HBM.out, List.append_assoc]
          rfl
        case measure => simp [intOf]; omega
      · skip
        rw [h0] at hand hbm
        have HBM := Lib.hid hbm
        have hA2 := HA.out.step (by omega) 49 (i := j - 1) (by omega)
        have HA2 := Lib.hid hA2
        clear hbm h0 hA2
        go_wp2
        go_roundw
        case rel =>
          refine ⟨m / 2, j - 1, 49 :: l, by go_num, by go_num, by simp; omega, HA2.out, ?_, by omega, HB.out.setCell (Nat.le_refl _) _⟩
          rw [HN.out, HBM.out, List.append_assoc]
          rfl
        case measure => simp [intOf]; omega
    · have hbl := bnr_lo (n := m) (by omega)
      have HBL := Lib.hid hbl
      have h01 : m = 0 ∨ m = 1 := by omega
      clear hbl hand
      rcases h01 with rfl | rfl
      · skip
        have hA2 := HA.out.step (by omega) 48 (i := j - 1) (by omega)
        have HA2 := Lib.hid hA2
        have HN2 := Lib.hid (show bnr n = 48 :: l by rw [HN.out, HBL.out]; rfl)
        have hdig : ∀ h, (getElem (⟨#[48, 49, 50, 51, 52, 53, 54, 55, 56, 57, 97, 98, 99, 100, 101, 102, 103, 104, 105, 106, 107, 108, 109, 110, 111, 112, 113, 114, 115, 116, 117, 118, 119, 120, 121, 122]⟩ : ByteArray) 0 h).toNat = 48 := fun _ => rfl
        have hsl : ∀ w, (Instr.sliceAt 93 (.pointer (some ⟨X, 0, none⟩)) (some (.int .i64 ((j : Int) - 1))) none none).run Tryd.prog w = .ok (.slice (some ⟨X, j - 1, none⟩) (48 :: l).length (48 :: l).length) w := fun w => by
          have e := sl126 X (j - 1) (by omega) w
          rw [show ((j - 1 : Nat) : Int) = (j : Int) - 1 by omega, show 65 - (j - 1) = ((48 : UInt8) :: l).length by simp; omega] at e
          exact e
        have hcv := run_convert_bytes_back (P := Tryd.prog) (wr.setCell ⟨X, j - 1, none⟩ (.int .u8 48)) 22 9 5 ⟨X, j - 1, none⟩ (48 :: l).length (48 :: l) Tryd.underlying22 Tryd.underlying5 Tryd.underlying9 (fun i hi => by
          have e := hA2.at_ i _ (List.getElem?_eq_getElem hi)
          rw [show 65 - ((48 : UInt8) :: l).length + i = j - 1 + i by simp; omega] at e
          rw [Addr.add_lit]
          exact e)
        obtain ⟨S, hS⟩ : ∃ S : ByteArray, (⟨((48 : UInt8) :: l).toArray⟩ : ByteArray) = S := ⟨_, rfl⟩
        rw [hS] at hcv
        have HS := Lib.hid hS
        obtain ⟨N, hN⟩ : ∃ N, ((48 : UInt8) :: l).length = N := ⟨_, rfl⟩
        rw [hN] at hcv
        simp only [hN] at hsl
        clear hA2 hS hN
        go_wp2
        go_ret2
        refine ⟨?_, HB0.out.trans ((HB.out.setCell (p := ⟨X, j - 1, none⟩) (Nat.le_refl _) _).mono (by rw [HX.out]; exact Nat.le_refl _))⟩
        rw [HN2.out]
        exact congrArg (fun s => Ending.returned (.tuple #[.slice none 0 0, .string s])) HS.out.symm
      · skip
        have hA2 := HA.out.step (by omega) 49 (i := j - 1) (by omega)
        have HA2 := Lib.hid hA2
        have HN2 := Lib.hid (show bnr n = 49 :: l by rw [HN.out, HBL.out]; rfl)
        have hdig : ∀ h, (getElem (⟨#[48, 49, 50, 51, 52, 53, 54, 55, 56, 57, 97, 98, 99, 100, 101, 102, 103, 104, 105, 106, 107, 108, 109, 110, 111, 112, 113, 114, 115, 116, 117, 118, 119, 120, 121, 122]⟩ : ByteArray) 1 h).toNat = 49 := fun _ => rfl
        have hsl : ∀ w, (Instr.sliceAt 93 (.pointer (some ⟨X, 0, none⟩)) (some (.int .i64 ((j : Int) - 1))) none none).run Tryd.prog w = .ok (.slice (some ⟨X, j - 1, none⟩) (49 :: l).length (49 :: l).length) w := fun w => by
          have e := sl126 X (j - 1) (by omega) w
          rw [show ((j - 1 : Nat) : Int) = (j : Int) - 1 by omega, show 65 - (j - 1) = ((49 : UInt8) :: l).length by simp; omega] at e
          exact e
        have hcv := run_convert_bytes_back (P := Tryd.prog) (wr.setCell ⟨X, j - 1, none⟩ (.int .u8 49)) 22 9 5 ⟨X, j - 1, none⟩ (49 :: l).length (49 :: l) Tryd.underlying22 Tryd.underlying5 Tryd.underlying9 (fun i hi => by
          have e := hA2.at_ i _ (List.getElem?_eq_getElem hi)
          rw [show 65 - ((49 : UInt8) :: l).length + i = j - 1 + i by simp; omega] at e
          rw [Addr.add_lit]
          exact e)
        obtain ⟨S, hS⟩ : ∃ S : ByteArray, (⟨((49 : UInt8) :: l).toArray⟩ : ByteArray) = S := ⟨_, rfl⟩
        rw [hS] at hcv
        have HS := Lib.hid hS
        obtain ⟨N, hN⟩ : ∃ N, ((49 : UInt8) :: l).length = N := ⟨_, rfl⟩
        rw [hN] at hcv
        simp only [hN] at hsl
        clear hA2 hS hN
        go_wp2
        go_ret2
        refine ⟨?_, HB0.out.trans ((HB.out.setCell (p := ⟨X, j - 1, none⟩) (Nat.le_refl _) _).mono (by rw [HX.out]; exact Nat.le_refl _))⟩
        rw [HN2.out]
        exact congrArg (fun s => Ending.returned (.tuple #[.slice none 0 0, .string s])) HS.out.symm
end Go.Proofs.YtpdclppieicaeaaDoor
