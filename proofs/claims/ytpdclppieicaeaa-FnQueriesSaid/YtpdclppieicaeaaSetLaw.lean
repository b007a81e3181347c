/- The laws LessPosts, MeetPosts. -/
import Derived.Test.YtpdclppieicaeaaSets
import Derived.Test.YtpdclppieicaeaaGotR
namespace Go.Proofs.Ytpdclppieicaeaa
set_option linter.unusedVariables false
set_option linter.unusedSimpArgs false
open Go.RowKit

theorem GotR.no {T s : Nat} {w w' : World} (h : w = w') : GotR T s w 0 [] false (.returned (.tuple #[.slice none 0 0, .bool false])) w' := by
  subst h
  exact GotR.nil_ (Ch.refl _ _ _)
theorem GotR.of_own {T s : Nat} {w w' : World} {A : Option Addr} {n c : Nat} {xs : List Value} (ho : w'.ownsRow w.heap.size T s (.slice A n c) n xs) (hb : Below w.heap.size w w') : GotR T s w n xs true (.returned (.tuple #[.slice A n c, .bool true])) w' :=
  ⟨A, c, rfl, Row.of_own ho, Ch.of_below hb⟩
set_option maxHeartbeats 1000000 in
theorem iMeetPosts_any (B : Nat) (A A' : Option Addr) (n c n' c' : Nat) (za zb : List Int) (w : World) (hBw : B ≤ w.heap.size) (h : Rd w B 1 A n (ints za)) (hn : n ≤ 1048576) (h' : Rd w B 1 A' n' (ints zb)) (hn' : n' ≤ 1048576) :
    Calls Try.prog 28 #[.slice A n c, .slice A' n' c'] w (GotR 3 1 w (setR meetP za zb).length (ints (setR meetP za zb)) (goodPosts za && goodPosts zb)) := by
  have C1 := Lib.hid (arePosts_any B A n c za w h hn)
  have C2 := Lib.hid (arePosts_any B A' n' c' zb w h' hn')
  cases hg1 : goodPosts za with
  | false =>
    have HL := Lib.hid (show setR meetP za zb = [] by unfold setR; rw [hg1]; rfl)
    rw [hg1] at C1
    clear hg1 h h'
    go_enter Try.func28, Try.ntmps28
    go_wp2_with fail
    refine C1.out.mono ?_
    rintro e w' ⟨rfl, rfl⟩
    go_wp2
    go_ret2
    rw [HL.out]
    exact GotR.no rfl
  | true =>
    rw [hg1] at C1
    cases hg2 : goodPosts zb with
    | false =>
      have HL := Lib.hid (show setR meetP za zb = [] by unfold setR; rw [hg1, hg2]; rfl)
      rw [hg2] at C2
      clear hg1 hg2 h h'
      go_enter Try.func28, Try.ntmps28
      go_wp2_with fail
      refine C1.out.mono ?_
      rintro e w' ⟨rfl, rfl⟩
      go_wp2_with fail
      refine C2.out.mono ?_
      rintro e w' ⟨rfl, rfl⟩
      go_wp2
      go_ret2
      rw [HL.out]
      exact GotR.no rfl
    | true =>
      have HL := Lib.hid (show setR meetP za zb = meetP za zb by unfold setR; rw [hg1, hg2]; rfl)
      rw [hg2] at C2
      have C3 := Lib.hid (meet_any B A A' n c n' c' za zb w hBw h hn h' hn')
      generalize meetP za zb = L at C3 HL
      clear hg1 hg2 h h'
      go_enter Try.func28, Try.ntmps28
      go_wp2_with fail
      refine C1.out.mono ?_
      rintro e w' ⟨rfl, rfl⟩
      go_wp2_with fail
      refine C2.out.mono ?_
      rintro e w' ⟨rfl, rfl⟩
      go_wp2_with fail
      refine C3.out.mono ?_
      rintro e w1 ⟨A2, c2, rfl, ho, hb⟩
      have HO := Lib.hid ho
      have HB := Lib.hid hb
      clear ho hb
      go_wp2
      go_ret2
      rw [HL.out]
      exact GotR.of_own HO.out HB.out
end Go.Proofs.Ytpdclppieicaeaa
