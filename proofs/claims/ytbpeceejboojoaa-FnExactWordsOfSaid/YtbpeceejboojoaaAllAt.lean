/- A test at each place of a list. No program in sight. -/
import Derived.Test.YtbpeceejboojoaaMem
namespace Go.Proofs.Ytbpeceejboojoaa
set_option linter.unusedVariables false
set_option linter.unusedSimpArgs false
open Go.RowKit

def allAt (ok : Nat → Bool) (n : Nat) : Bool := (List.range n).all ok
theorem allAt_t {ok : Nat → Bool} {n : Nat} (h : ∀ k, k < n → ok k = true) : allAt ok n = true := by unfold allAt; simpa using h
theorem allAt_f {ok : Nat → Bool} {n : Nat} (k : Nat) (hk : k < n) (h : ok k = false) : allAt ok n = false := by
  unfold allAt; rw [List.all_eq_false]; exact ⟨k, by simpa using hk, by simp [h]⟩
theorem allAt_iff {ok : Nat → Bool} {n : Nat} : allAt ok n = true ↔ ∀ k, k < n → ok k = true := by unfold allAt; simp

end Go.Proofs.Ytbpeceejboojoaa
