/- Small functions of the laws on chunks. -/
import Derived.Test.YtbemnhdadafnnaaCur
import Derived.Test.YtbemnhdadafnnaaPairs
import Derived.Deep.QuietTactic
import Derived.BigQuiet
namespace Go.Proofs.Ytbemnhdadafnnaa
set_option linter.unusedVariables false
set_option linter.unusedSimpArgs false
open Go.RowKit

set_option maxHeartbeats 1000000 in
theorem sameSamples_same (B : Nat) (A A' : Option Addr) (n c c' : Nat) (l : List (Int × Int)) (w : World) (h : Rd w B 2 A n (smps l)) (h' : Rd w B 2 A' n (smps l)) (hn : n ≤ 1048576) :
    Calls Try.prog 8 #[.slice A n c, .slice A' n c'] w fun e w' => e = .returned (.bool true) ∧ ∃ q, w' = w.drewN q := by
  have H := Lib.hid h
  have H' := Lib.hid h'
  clear h h'
  go_enter Try.func8, Try.ntmps8
  go_wp2
  go_loopw [13] (fun i wr => ∃ k q : Nat, k ≤ n ∧ i = .int .i64 k ∧ wr = w.drewN q) (fun i _ => n - (intOf i).toNat)
  case atStart => exact ⟨0, 0, Nat.zero_le _, rfl, rfl⟩
  case round =>
    obtain ⟨k, q, hk, rfl, rfl⟩ := hrel
    by_cases hlt : k < n
    · obtain ⟨b, off, x, y, rfl, hB, hx, hc0, hc1⟩ := H.out.smp_at hlt
      obtain ⟨b', off', x', y', rfl, hB', hx', hc0', hc1'⟩ := H'.out.smp_at hlt
      obtain ⟨rfl, rfl⟩ : x = x' ∧ y = y' := by rw [hx] at hx'; injection hx' with hx'; injection hx' with h1 h2; exact ⟨h1, h2⟩
      clear hx hx'
      go_wp2
      go_quiet (fail)
      go_wp2
      go_roundw
      case rel => exact ⟨k + 1, q + nq, by omega, by go_num, rfl⟩
      case measure => simp [intOf]; omega
    · go_wp2
      go_ret
      exact ⟨rfl, _, rfl⟩
set_option maxHeartbeats 1000000 in
theorem numberOf_any (B : Nat) (A : Option Addr) (n c : Nat) (l : List UInt8) (w : World) (h : Rd w B 1 A n (bys l)) (hn : n ≤ 1048576) :
    Calls Try.prog 9 #[.slice A n c] w fun e w' => (∃ r : Nat, r ≤ 1000002 ∧ e = .returned (.int .i64 r)) ∧ w = w' := by
  have H := Lib.hid h
  clear h
  go_enter Try.func9, Try.ntmps9
  go_wp2
  go_loop [3, 8] (fun s i => ∃ k r : Nat, k ≤ n ∧ r ≤ 1000002 ∧ i = .int .i64 k ∧ s = .int .i64 r) (fun _ i => n - (intOf i).toNat)
  case atStart => exact ⟨0, 0, Nat.zero_le _, by omega, rfl, rfl⟩
  case round =>
    obtain ⟨k, r, hk, hr, rfl, rfl⟩ := hrel
    by_cases hlt : k < n
    · obtain ⟨b, off, x, rfl, hB, hx, hc⟩ := H.out.byte_at hlt
      have hx2 := x.toNat_lt
      clear hx
      go_wp2
      go_round
      case rel => exact ⟨k + 1, (31 * r + x.toNat) % 1000003, by omega, by omega, by go_num, by go_num⟩
      case measure => simp [intOf]; omega
    · go_wp2
      go_ret
      exact ⟨⟨r, hr, rfl⟩, rfl⟩
/-! Plain facts. -/
end Go.Proofs.Ytbemnhdadafnnaa
