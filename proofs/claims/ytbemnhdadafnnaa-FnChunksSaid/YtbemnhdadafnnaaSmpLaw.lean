/- The law GoodSamples. -/
import Derived.Test.YtbemnhdadafnnaaGoodSmp
namespace Go.Proofs.Ytbemnhdadafnnaa
set_option linter.unusedVariables false
set_option linter.unusedSimpArgs false
open Go.RowKit

set_option maxHeartbeats 1000000 in
theorem iGoodSamples_any (B : Nat) (A : Option Addr) (n c : Nat) (l : List (Int × Int)) (w : World) (hBw : B ≤ w.heap.size) (h : Rd w B 2 A n (smps l)) (hn : n ≤ 1048576) :
    Calls Try.prog 22 #[.slice A n c] w fun e w' => e = .returned (.bool (goodSmp l)) ∧ Below w.heap.size w w' := by
  have HS := Lib.hid (areSamples_any B A n c l w hBw h hn)
  clear h
  go_enter Try.func22, Try.ntmps22
  go_wp2_with fail
  refine HS.out.mono ?_
  rintro e w1 ⟨rfl, hb⟩
  have HB := Lib.hid hb
  clear hb
  go_wp2
  go_ret
  exact ⟨rfl, HB.out⟩
theorem both_GoodSamples (n : Nat) (l : List (Int × Int)) (hn : n ≤ 1048576) : ∃ (K : Bool),
    (∀ B A c w, B ≤ w.heap.size → Rd w B 2 A n (smps l) → Calls Try.prog 41 #[.slice A n c] w fun e w' => e = .returned (.bool K) ∧ Ch 0 0 w w') ∧
    (∀ B A c w, B ≤ w.heap.size → Rd w B 2 A n (smps l) → Calls Try.prog 22 #[.slice A n c] w fun e w' => e = .returned (.bool K) ∧ Ch 0 0 w w') :=
  ⟨goodSmp l, fun B A c w hB h => (sGoodSamples_any B A n c l w hB h hn).mono fun _ _ ⟨he, hb⟩ => ⟨he, Ch.of_below hb⟩,
    fun B A c w hB h => (iGoodSamples_any B A n c l w hB h hn).mono fun _ _ ⟨he, hb⟩ => ⟨he, Ch.of_below hb⟩⟩
end Go.Proofs.Ytbemnhdadafnnaa
