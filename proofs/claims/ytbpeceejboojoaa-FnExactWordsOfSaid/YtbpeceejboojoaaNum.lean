/- The contracts of the functions on numbers alone: ranges, zigzag. No condition but what each theorem states. -/
import Derived.Test.YtbpeceejboojoaaProg
import Derived.WalkKit
import Derived.WalkSpells
import Derived.WalkLawsBesides
namespace Go.Proofs.Ytbpeceejboojoaa
set_option linter.unusedVariables false
set_option linter.unusedSimpArgs false
open Go.RowKit

def inB (n lo hi : Int) : Bool := decide (lo ≤ n ∧ n ≤ hi)
theorem inB_t {n lo hi : Int} (h1 : lo ≤ n) (h2 : n ≤ hi) : inB n lo hi = true := by unfold inB; simp; omega
theorem inB_lo {n lo hi : Int} (h1 : n < lo) : inB n lo hi = false := by unfold inB; simp; omega
theorem inB_hi {n lo hi : Int} (h1 : hi < n) : inB n lo hi = false := by unfold inB; simp; omega
theorem inB_iff {n lo hi : Int} : inB n lo hi = true ↔ lo ≤ n ∧ n ≤ hi := by unfold inB; simp
theorem retB {a b : Bool} (h : a = b) : Ending.returned (.bool a) = .returned (.bool b) := by rw [h]
theorem retI {a b : Int} (h : a = b) : Ending.returned (.int .i64 a) = .returned (.int .i64 b) := by rw [h]

/-- The range of values. -/
def isV (n : Int) : Bool := inB n (-1000000000000) 1000000000000
def zig (n : Int) : Int := if n < 0 then -2 * n - 1 else 2 * n
def zag (n : Int) : Int := if n % 2 = 1 then -((n + 1) / 2) else n / 2
theorem zag_odd {n : Int} (h0 : 0 ≤ n) (h1 : n ≤ 4611686018427387904) : wrap64 (-(n + 1).tdiv 2) = -((n + 1) / 2) := by
  rw [Int.tdiv_eq_ediv_of_nonneg (by omega), IntWalk.wrap64_in _ (by omega)]
theorem zag_bd {n : Int} (h0 : 0 ≤ n) (h1 : n ≤ 2000000000000) : -1000000000000 ≤ zag n ∧ zag n ≤ 1000000000000 := by unfold zag; split <;> omega
theorem zig_bd {n : Int} (h0 : -1000000000000 ≤ n) (h1 : n ≤ 1000000000000) : 0 ≤ zig n ∧ zig n ≤ 2000000000000 := by unfold zig; split <;> omega
theorem zag_zig (n : Int) : zag (zig n) = n := by unfold zag zig; split <;> split <;> omega
theorem zig_zag {n : Int} (h : 0 ≤ n) : zig (zag n) = n := by unfold zag zig; split <;> split <;> omega

set_option maxHeartbeats 400000 in
theorem within_any (n lo hi : Int) (w : World) :
    Calls Try.prog 26 #[.int .i64 n, .int .i64 lo, .int .i64 hi] w fun e w' => e = .returned (.bool (inB n lo hi)) ∧ w = w' := by
  go_enter Try.func26, Try.ntmps26
  go_wp2
  all_goals go_ret
  all_goals (refine ⟨?_, rfl⟩)
  · exact retB (by unfold inB; simp; omega)
  · exact retB (by unfold inB; simp; omega)

set_option maxHeartbeats 400000 in
theorem l1In_any (n lo hi : Int) (w : World) :
    Calls Try.prog 21 #[.int .i64 n, .int .i64 lo, .int .i64 hi] w fun e w' => e = .returned (.bool (inB n lo hi)) ∧ w = w' := by
  go_enter Try.func21, Try.ntmps21
  go_wp2
  all_goals go_ret
  all_goals (refine ⟨?_, rfl⟩)
  · exact retB (by unfold inB; simp; omega)
  · exact retB (by unfold inB; simp; omega)



theorem isV_bd {n : Int} (h : isV n = true) : -1000000000000 ≤ n ∧ n ≤ 1000000000000 := inB_iff.1 h

set_option maxHeartbeats 400000 in
theorem zigZag_any (n : Int) (w : World) (h : isV n = true) :
    Calls Try.prog 59 #[.int .i64 n] w fun e w' => e = .returned (.int .i64 (zig n)) ∧ w = w' := by
  obtain ⟨h1, h2⟩ := isV_bd h
  clear h
  go_enter Try.func59, Try.ntmps59
  go_wp2
  all_goals go_ret
  all_goals (refine ⟨?_, rfl⟩)
  all_goals exact retI (by unfold zig; split <;> omega)

set_option maxHeartbeats 400000 in
theorem l1Zig_any (n : Int) (w : World) (h : isV n = true) :
    Calls Try.prog 56 #[.int .i64 n] w fun e w' => e = .returned (.int .i64 (zig n)) ∧ w = w' := by
  obtain ⟨h1, h2⟩ := isV_bd h
  clear h
  go_enter Try.func56, Try.ntmps56
  go_wp2
  all_goals go_ret
  all_goals (refine ⟨?_, rfl⟩)
  all_goals exact retI (by unfold zig; split <;> omega)

set_option maxHeartbeats 400000 in
theorem unZigZag_any (n : Int) (w : World) (h0 : 0 ≤ n) (h1 : n ≤ 4611686018427387904) :
    Calls Try.prog 57 #[.int .i64 n] w fun e w' => e = .returned (.int .i64 (zag n)) ∧ w = w' := by
  go_enter Try.func57, Try.ntmps57
  go_wp2
  · go_ret
    refine ⟨retI ?_, rfl⟩
    have h : (n % 2 == 1) = true := by assumption
    have h' : n % 2 = 1 := by simpa using h
    exact (zag_odd h0 h1).trans (by rw [zag, if_pos h'])
  · go_ret
    refine ⟨retI ?_, rfl⟩
    have h : (n % 2 == 1) = false := by assumption
    have h' : ¬ n % 2 = 1 := by simpa using h
    exact (by rw [zag, if_neg h'])

set_option maxHeartbeats 400000 in
theorem l1Zag_any (n : Int) (w : World) (h0 : 0 ≤ n) (h1 : n ≤ 4611686018427387904) :
    Calls Try.prog 52 #[.int .i64 n] w fun e w' => e = .returned (.int .i64 (zag n)) ∧ w = w' := by
  go_enter Try.func52, Try.ntmps52
  go_wp2
  · go_ret
    refine ⟨retI ?_, rfl⟩
    have h : (n % 2 == 1) = true := by assumption
    have h' : n % 2 = 1 := by simpa using h
    exact (zag_odd h0 h1).trans (by rw [zag, if_pos h'])
  · go_ret
    refine ⟨retI ?_, rfl⟩
    have h : (n % 2 == 1) = false := by assumption
    have h' : ¬ n % 2 = 1 := by simpa using h
    exact (by rw [zag, if_neg h'])

end Go.Proofs.Ytbpeceejboojoaa
