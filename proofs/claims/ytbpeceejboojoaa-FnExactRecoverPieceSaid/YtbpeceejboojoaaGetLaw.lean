/- GetVarint of the reference and of the program, at every place; and the law. -/
import Derived.Test.YtbpeceejboojoaaGetS
namespace Go.Proofs.Ytbpeceejboojoaa
set_option linter.unusedVariables false
set_option linter.unusedSimpArgs false
open Go.RowKit

/-- What stands at a place: none where the place is outside. -/
def gAt (s : ByteArray) (n : Int) : Option (Int × Nat) := if 0 ≤ n ∧ n < s.size then gv (from_ s n.toNat) else none
theorem gAt_in {s : ByteArray} {pos : Nat} (h : pos < s.size) : gAt s pos = gv (from_ s pos) := by unfold gAt; rw [if_pos (by omega), Int.toNat_natCast]
theorem gAt_out {s : ByteArray} {n : Int} (h : n < 0 ∨ (s.size : Int) ≤ n) : gAt s n = none := by unfold gAt; rw [if_neg (by omega)]

theorem gvI_form (p : Nat) (R : Option (Int × Nat)) : ∃ a b c, gvI p R = .tuple #[.int .i64 a, .int .i64 b, .bool c] := by
  cases R with
  | none => exact ⟨_, _, _, rfl⟩
  | some q => exact ⟨_, _, _, rfl⟩

set_option maxHeartbeats 1000000 in
theorem getVarint_out (s : ByteArray) (n : Int) (w : World) (hs : s.size ≤ 1048576) (h : n < 0 ∨ (s.size : Int) ≤ n) :
    Calls Try.prog 54 #[.string s, .int .i64 n] w fun e w' => e = .returned (gvI n.toNat none) ∧ w = w' := by
  rcases h with h | h
  · go_enter Try.func54, Try.ntmps54
    go_wp2
    go_ret3
    exact ⟨rfl, rfl⟩
  · go_enter Try.func54, Try.ntmps54
    go_wp2
    refine wp_loop_rounds 1 ?_
    rw [rounds_succ]
    go_wp2
    go_ret3
    exact ⟨rfl, rfl⟩

/-- What GetVarint hands back, of the program. -/
theorem getVarint_at (s : ByteArray) (n : Int) (w : World) (hs : s.size ≤ 1048576) :
    Calls Try.prog 54 #[.string s, .int .i64 n] w fun e w' => e = .returned (gvI n.toNat (gAt s n)) ∧ w = w' := by
  by_cases h : 0 ≤ n ∧ n < s.size
  · obtain ⟨pos, rfl⟩ := Int.eq_ofNat_of_zero_le h.1
    rw [gAt_in (by omega), Int.toNat_natCast]
    exact getVarint_any s pos w hs (by omega)
  · rw [gAt_out (by omega)]
    exact getVarint_out s n w hs (by omega)
end Go.Proofs.Ytbpeceejboojoaa
