/- The laws' helpers on slices of integers, said of rows. -/
import Derived.Test.YtbpeceejboojoaaInts
import Derived.Test.YtbpeceejboojoaaRowsW
namespace Go.Proofs.Ytbpeceejboojoaa
set_option linter.unusedVariables false
set_option linter.unusedSimpArgs false
open Go.RowKit

abbrev RowI (lo hi : Nat) (A : Option Addr) (n c : Nat) (zs : List Int) (w : World) : Prop := Row 3 1 lo hi A n c (ints zs) w

theorem eq_Int (B B' : Nat) (A A' : Option Addr) (n c c' : Nat) (zs : List Int) (w : World) (h : Rd w B 1 A n (ints zs)) (h' : Rd w B' 1 A' n (ints zs)) (hn : n ≤ 1048576) :
    Calls Try.prog 33 #[.slice A n c, .slice A' n c'] w fun e w' => e = .returned (.bool true) ∧ Ch 0 0 w w' :=
  (eqIntS_same A A' n c c' (max B B') zs w (h.more (Nat.le_max_left ..)) (h'.more (Nat.le_max_right ..)) hn).mono fun _ _ ⟨he, hq⟩ => ⟨he, Ch.of_drewN hq⟩
/-- Marking and holding n integers from k on: both come to m, and the marks are ms. -/
theorem mh_Int (n : Nat) (k : Int) (hn : n ≤ 1048576) (hk0 : 0 ≤ k) (hk1 : k ≤ 1099511627776) : ∃ (m : Int) (ms : List Value), k ≤ m ∧ m ≤ k + 8388608 ∧
    (∀ lo hi A c zs w, Row 3 1 lo hi A n c (ints zs) w → Calls Try.prog 34 #[.slice A n c, .int .i64 k] w fun e w' => e = .returned (.int .i64 m) ∧ Row 3 1 lo hi A n c ms w' ∧ Ch lo hi w w') ∧
    (∀ B A c w, Rd w B 1 A n ms → Calls Try.prog 35 #[.slice A n c, .int .i64 k] w fun e w' => e = .returned (.int .i64 m) ∧ Ch 0 0 w w') := by
  refine ⟨k + n, ints (marks k n), by omega, by omega, fun lo hi A c zs w h => ?_, fun B A c w h => ?_⟩
  · refine (markIntS_any lo A n c zs k w h.1 hn hk0 hk1).mono fun e w' ⟨he, ho, hg⟩ => ⟨he, ⟨ho, Nat.le_trans h.2.1 hg.size, h.2.2⟩, Ch.of_grown hg fun g hg' => ⟨(h.1.lt g hg').1, h.2.2 g hg'⟩⟩
  · exact (heldIntS_any B A n c k w h hn hk0 hk1).mono fun e w' ⟨he, hw⟩ => ⟨he, Ch.of_same hw⟩
end Go.Proofs.Ytbpeceejboojoaa
