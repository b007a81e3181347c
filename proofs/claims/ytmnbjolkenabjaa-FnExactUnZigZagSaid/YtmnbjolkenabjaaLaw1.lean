/- The laws on numbers alone: ZigZag, UnZigZag. -/
import Derived.Test.YtmnbjolkenabjaaNum
namespace Go.Proofs.Ytmnbjolkenabjaa
open Go.RowKit

section
variable (n : Int) (w : World)
set_option maxHeartbeats 400000
theorem sZigZag_t (h : isV n = true) : Calls Try.prog 19 #[.int .i64 n] w fun e w' => e = .returned (.tuple #[.int .i64 (zig n), .bool true]) ∧ w = w' := by
  go_enter Try.func19, Try.ntmps19
  go_wp2_with (first | (go_at_call 50; refine (l1Value_any _ _).mono ?_; rintro e w' ⟨rfl, rfl⟩) | (go_at_call 51; refine (l1Zig_any _ _ h).mono ?_; rintro e w' ⟨rfl, rfl⟩))
  go_ret2
  exact ⟨rfl, rfl⟩
theorem sZigZag_f (h : isV n = false) : Calls Try.prog 19 #[.int .i64 n] w fun e w' => e = .returned (.tuple #[.int .i64 0, .bool false]) ∧ w = w' := by
  go_enter Try.func19, Try.ntmps19
  go_wp2_with (first | (go_at_call 50; refine (l1Value_any _ _).mono ?_; rintro e w' ⟨rfl, rfl⟩))
  go_ret2
  exact ⟨rfl, rfl⟩
theorem iZigZag_t (h : isV n = true) : Calls Try.prog 20 #[.int .i64 n] w fun e w' => e = .returned (.tuple #[.int .i64 (zig n), .bool true]) ∧ w = w' := by
  go_enter Try.func20, Try.ntmps20
  go_wp2_with (first | (go_at_call 52; refine (isValue_any _ _).mono ?_; rintro e w' ⟨rfl, rfl⟩) | (go_at_call 53; refine (zigZag_any _ _ h).mono ?_; rintro e w' ⟨rfl, rfl⟩))
  go_ret2
  exact ⟨rfl, rfl⟩
theorem iZigZag_f (h : isV n = false) : Calls Try.prog 20 #[.int .i64 n] w fun e w' => e = .returned (.tuple #[.int .i64 0, .bool false]) ∧ w = w' := by
  go_enter Try.func20, Try.ntmps20
  go_wp2_with (first | (go_at_call 52; refine (isValue_any _ _).mono ?_; rintro e w' ⟨rfl, rfl⟩))
  go_ret2
  exact ⟨rfl, rfl⟩
theorem law_ZigZag : Calls Try.prog 6 #[.int .i64 n] w fun e w' => e = .returned (.bool true) ∧ w = w' := by
  by_cases h : isV n = true
  · go_enter Try.func6, Try.ntmps6
    go_wp2_with (first | (go_at_call 19; refine (sZigZag_t _ _ h).mono ?_; rintro e w' ⟨rfl, rfl⟩) | (go_at_call 20; refine (iZigZag_t _ _ h).mono ?_; rintro e w' ⟨rfl, rfl⟩))
    go_ret
    exact ⟨rfl, rfl⟩
  · replace h : isV n = false := by simpa using h
    go_enter Try.func6, Try.ntmps6
    go_wp2_with (first | (go_at_call 19; refine (sZigZag_f _ _ h).mono ?_; rintro e w' ⟨rfl, rfl⟩) | (go_at_call 20; refine (iZigZag_f _ _ h).mono ?_; rintro e w' ⟨rfl, rfl⟩))
    go_ret
    exact ⟨rfl, rfl⟩
end

section
variable (n : Int) (w : World)
set_option maxHeartbeats 400000
theorem sUnZigZag_t (h : inB n 0 2000000000000 = true) : Calls Try.prog 17 #[.int .i64 n] w fun e w' => e = .returned (.tuple #[.int .i64 (zag n), .bool true]) ∧ w = w' := by
  obtain ⟨h0, h1⟩ := inB_iff.1 h
  go_enter Try.func17, Try.ntmps17
  go_wp2_with (first | (go_at_call 46; refine (l1In_any _ _ _ _).mono ?_; rintro e w' ⟨rfl, rfl⟩) | (go_at_call 47; refine (l1Zag_any _ _ h0 (by omega)).mono ?_; rintro e w' ⟨rfl, rfl⟩))
  go_ret2
  exact ⟨rfl, rfl⟩
theorem sUnZigZag_f (h : inB n 0 2000000000000 = false) : Calls Try.prog 17 #[.int .i64 n] w fun e w' => e = .returned (.tuple #[.int .i64 0, .bool false]) ∧ w = w' := by
  go_enter Try.func17, Try.ntmps17
  go_wp2_with (first | (go_at_call 46; refine (l1In_any _ _ _ _).mono ?_; rintro e w' ⟨rfl, rfl⟩))
  go_ret2
  exact ⟨rfl, rfl⟩
theorem iUnZigZag_t (h : inB n 0 2000000000000 = true) : Calls Try.prog 18 #[.int .i64 n] w fun e w' => e = .returned (.tuple #[.int .i64 (zag n), .bool true]) ∧ w = w' := by
  obtain ⟨h0, h1⟩ := inB_iff.1 h
  go_enter Try.func18, Try.ntmps18
  go_wp2_with (first | (go_at_call 48; refine (within_any _ _ _ _).mono ?_; rintro e w' ⟨rfl, rfl⟩) | (go_at_call 49; refine (unZigZag_any _ _ h0 (by omega)).mono ?_; rintro e w' ⟨rfl, rfl⟩))
  go_ret2
  exact ⟨rfl, rfl⟩
theorem iUnZigZag_f (h : inB n 0 2000000000000 = false) : Calls Try.prog 18 #[.int .i64 n] w fun e w' => e = .returned (.tuple #[.int .i64 0, .bool false]) ∧ w = w' := by
  go_enter Try.func18, Try.ntmps18
  go_wp2_with (first | (go_at_call 48; refine (within_any _ _ _ _).mono ?_; rintro e w' ⟨rfl, rfl⟩))
  go_ret2
  exact ⟨rfl, rfl⟩
theorem law_UnZigZag : Calls Try.prog 5 #[.int .i64 n] w fun e w' => e = .returned (.bool true) ∧ w = w' := by
  by_cases h : inB n 0 2000000000000 = true
  · go_enter Try.func5, Try.ntmps5
    go_wp2_with (first | (go_at_call 17; refine (sUnZigZag_t _ _ h).mono ?_; rintro e w' ⟨rfl, rfl⟩) | (go_at_call 18; refine (iUnZigZag_t _ _ h).mono ?_; rintro e w' ⟨rfl, rfl⟩))
    go_ret
    exact ⟨rfl, rfl⟩
  · replace h : inB n 0 2000000000000 = false := by simpa using h
    go_enter Try.func5, Try.ntmps5
    go_wp2_with (first | (go_at_call 17; refine (sUnZigZag_f _ _ h).mono ?_; rintro e w' ⟨rfl, rfl⟩) | (go_at_call 18; refine (iUnZigZag_f _ _ h).mono ?_; rintro e w' ⟨rfl, rfl⟩))
    go_ret
    exact ⟨rfl, rfl⟩
end
end Go.Proofs.Ytmnbjolkenabjaa
