/- The contracts of the tests on posting lists (spec.GoodPosts, impl.arePosts), and the laws GoodPosts, LeapFrom. -/
import Derived.Test.YtpdclppieicaeaaInts
import Derived.Test.YtpdclppieicaeaaAllAt
namespace Go.Proofs.Ytpdclppieicaeaa
set_option linter.unusedVariables false
set_option linter.unusedSimpArgs false
open Go.RowKit

def postAt (zs : List Int) (k : Nat) : Bool := inB (zs.getD k 0) 0 9999 && (k == 0 || decide (zs.getD (k - 1) 0 < zs.getD k 0))
def goodPosts (zs : List Int) : Bool := allAt (postAt zs) zs.length && decide (zs.length ≤ 60)
theorem postAt_zero {zs : List Int} {x : Int} (h : zs[0]? = some x) : postAt zs 0 = inB x 0 9999 := by unfold postAt; simp [List.getD, h]
theorem postAt_succ {zs : List Int} {k : Nat} {p x : Int} (hp : zs[k]? = some p) (h : zs[k + 1]? = some x) : postAt zs (k + 1) = (inB x 0 9999 && decide (p < x)) := by unfold postAt; simp [List.getD, h, hp]

set_option maxHeartbeats 1000000 in
theorem arePosts_any (B : Nat) (A : Option Addr) (n c : Nat) (zs : List Int) (w : World) (h : Rd w B 1 A n (ints zs)) (hn : n ≤ 1048576) :
    Calls Try.prog 55 #[.slice A n c] w fun e w' => e = .returned (.bool (goodPosts zs)) ∧ w = w' := by
  have hlen := h.int_len
  have HL := Lib.hid hlen
  have H := Lib.hid h
  clear h hlen
  go_enter Try.func55, Try.ntmps55
  go_wp2
  go_loop [7] (fun i => ∃ k : Nat, k ≤ n ∧ i = .int .i64 k ∧ ∀ j, j < k → postAt zs j = true) (fun i => n - (intOf i).toNat)
  case atStart => exact ⟨0, Nat.zero_le _, rfl, fun j hj => absurd hj (by omega)⟩
  case round =>
    obtain ⟨k, hk, rfl, hok⟩ := hrel
    have HK := Lib.hid hok
    clear hok
    by_cases hlt : k < n
    · obtain ⟨b, off, x, rfl, hB, hx, hc⟩ := H.out.int_at hlt
      have HX := Lib.hid hx
      clear hx
      by_cases hin : inB x 0 9999 = true
      · rcases k with _ | j
        · have hc0 : w.cell? ⟨b, off, none⟩ = some (.int .i64 x) := hc
          go_wp2_with (go_at_call 69; refine (within_any _ _ _ _).mono ?_; rintro e w' ⟨rfl, rfl⟩)
          go_round
          case rel => exact ⟨1, by omega, rfl, fun i hi => by obtain rfl : i = 0 := by omega
                                                              exact (postAt_zero HX.out).trans hin⟩
          case measure => simp [intOf]; omega
        · obtain ⟨b', off', p, he, hB', hp, hcp⟩ := H.out.int_at (k := j) (by omega)
          obtain ⟨rfl, rfl⟩ : b = b' ∧ off = off' := by simpa using he
          have HP := Lib.hid hp
          clear hp he
          by_cases hlt2 : p < x
          · go_wp2_with (go_at_call 69; refine (within_any _ _ _ _).mono ?_; rintro e w' ⟨rfl, rfl⟩)
            go_round
            case rel => exact ⟨j + 1 + 1, by omega, by go_num, fun i hi => by
                                by_cases h : i < j + 1
                                · exact HK.out i h
                                · obtain rfl : i = j + 1 := by omega
                                  rw [postAt_succ HP.out HX.out, hin]; simpa using hlt2⟩
            case measure => simp [intOf]; omega
          · have hge : x ≤ p := by omega
            go_wp2_with (go_at_call 69; refine (within_any _ _ _ _).mono ?_; rintro e w' ⟨rfl, rfl⟩)
            go_ret
            refine ⟨retB ?_, rfl⟩
            unfold goodPosts
            rw [allAt_f (j + 1) (by have := HL.out; omega) (by rw [postAt_succ HP.out HX.out]; simp; intro _; omega)]
            rfl
      · replace hin : inB x 0 9999 = false := by simpa using hin
        go_wp2_with (go_at_call 69; refine (within_any _ _ _ _).mono ?_; rintro e w' ⟨rfl, rfl⟩)
        go_ret
        refine ⟨retB ?_, rfl⟩
        unfold goodPosts
        rw [allAt_f k (by have := HL.out; omega) (by unfold postAt; rw [show zs.getD k 0 = x from by simp [List.getD, HX.out], hin]; rfl)]
        rfl
    · have hk' : k = n := by omega
      subst hk'
      go_wp2
      go_ret
      refine ⟨retB ?_, rfl⟩
      unfold goodPosts
      rw [allAt_t (by rw [HL.out]; exact HK.out), HL.out]
      simp
      omega

set_option maxHeartbeats 400000 in
theorem iGoodPosts_any (B : Nat) (A : Option Addr) (n c : Nat) (zs : List Int) (w : World) (h : Rd w B 1 A n (ints zs)) (hn : n ≤ 1048576) :
    Calls Try.prog 29 #[.slice A n c] w fun e w' => e = .returned (.bool (goodPosts zs)) ∧ w = w' := by
  have H := Lib.hid h
  clear h
  go_enter Try.func29, Try.ntmps29
  go_wp2_with (go_at_call 55; refine (arePosts_any B A n c zs _ H.out hn).mono ?_; rintro e w' ⟨rfl, rfl⟩)
  go_ret
  exact ⟨rfl, rfl⟩


/-- The first place from i on at which the number is at least x. -/
def leap (zs : List Int) (x : Int) : Nat → Nat → Nat
  | 0, i => i
  | f + 1, i => if i < zs.length ∧ zs.getD i 0 < x then leap zs x f (i + 1) else i
theorem leap_go {zs : List Int} {x y : Int} {f i : Nat} (h : zs[i]? = some y) (hy : y < x) : leap zs x (f + 1) i = leap zs x f (i + 1) := by
  have := (List.getElem?_eq_some_iff.1 h).1
  rw [leap, if_pos ⟨this, by simpa [List.getD, h] using hy⟩]
theorem leap_stop {zs : List Int} {x y : Int} {f i : Nat} (h : zs[i]? = some y) (hy : ¬ y < x) : leap zs x f i = i := by
  cases f with
  | zero => rfl
  | succ f => rw [leap, if_neg (fun h' => hy (by simpa [List.getD, h] using h'.2))]
theorem leap_end {zs : List Int} {x : Int} {f i : Nat} (h : zs.length ≤ i) : leap zs x f i = i := by
  cases f with
  | zero => rfl
  | succ f => rw [leap, if_neg (fun h' => by omega)]

end Go.Proofs.Ytpdclppieicaeaa
