/- The law GoodQuery. -/
import Derived.Test.YtpdclppieicaeaaIsQry
import Derived.Test.YtpdclppieicaeaaGotR
import Derived.Test.YtpdclppieicaeaaAreLab
namespace Go.Proofs.Ytpdclppieicaeaa
set_option linter.unusedVariables false
set_option linter.unusedSimpArgs false
open Go.RowKit

theorem qryFit_of {l : List Qry} (h : qrySz l ≤ 1048576) : ∀ p ∈ l, p.name.size ≤ 1048576 ∧ p.value.size ≤ 1048576 := fun p hp => by
  have h1 := sum_mem_le (l.map qrySz1) (qrySz1 p) (List.mem_map_of_mem hp)
  unfold qrySz at h
  have h2 : qrySz1 p = p.name.size + p.value.size := rfl
  omega
theorem iGoodQuery_any (B : Nat) (A : Option Addr) (n c : Nat) (l : List Qry) (w : World) (hBw : B ≤ w.heap.size) (h : Rd w B 5 A n (qrys l)) (hn : n ≤ 1048576) (hok : ∀ p ∈ l, p.name.size ≤ 1048576 ∧ p.value.size ≤ 1048576) :
    Calls Try.prog 25 #[.slice A n c] w fun e w' => e = .returned (.bool (goodQry l)) ∧ Below w.heap.size w w' := by
  have HS := Lib.hid (isQuery_any B A n c l w hBw h hn hok)
  clear h hok
  go_enter Try.func25, Try.ntmps25
  go_wp2_with fail
  refine HS.out.mono ?_
  rintro e w1 ⟨rfl, hb⟩
  have HB := Lib.hid hb
  clear hb
  go_wp2
  go_ret
  exact ⟨rfl, HB.out⟩
theorem both_GoodQuery (n : Nat) (l : List Qry) (hn : n ≤ 1048576) (hz : qrySz l ≤ 1048576) : ∃ (K : Bool),
    (∀ B A c w, B ≤ w.heap.size → Rd w B 5 A n (qrys l) → Calls Try.prog 26 #[.slice A n c] w fun e w' => e = .returned (.bool K) ∧ Ch 0 0 w w') ∧
    (∀ B A c w, B ≤ w.heap.size → Rd w B 5 A n (qrys l) → Calls Try.prog 25 #[.slice A n c] w fun e w' => e = .returned (.bool K) ∧ Ch 0 0 w w') :=
  ⟨goodQry l, fun B A c w hB h => (sGoodQuery_any B A n c l w hB h hn (qryFit_of hz)).mono fun _ _ ⟨he, hb⟩ => ⟨he, Ch.of_below hb⟩,
    fun B A c w hB h => (iGoodQuery_any B A n c l w hB h hn (qryFit_of hz)).mono fun _ _ ⟨he, hb⟩ => ⟨he, Ch.of_below hb⟩⟩
end Go.Proofs.Ytpdclppieicaeaa
