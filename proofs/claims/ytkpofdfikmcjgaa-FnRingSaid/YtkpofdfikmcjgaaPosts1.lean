/- The contracts of the tests on posting lists (spec.GoodPosts, impl.arePosts), and the laws GoodPosts, LeapFrom. -/
import Derived.Test.YtkpofdfikmcjgaaInts
import Derived.Test.YtkpofdfikmcjgaaAllAt
namespace Go.Proofs.Ytkpofdfikmcjgaa
set_option linter.unusedVariables false
set_option linter.unusedSimpArgs false
open Go.RowKit

def postAt (zs : List Int) (k : Nat) : Bool := inB (zs.getD k 0) 0 9999 && (k == 0 || decide (zs.getD (k - 1) 0 < zs.getD k 0))
def goodPosts (zs : List Int) : Bool := allAt (postAt zs) zs.length && decide (zs.length ≤ 60)
theorem postAt_zero {zs : List Int} {x : Int} (h : zs[0]? = some x) : postAt zs 0 = inB x 0 9999 := by unfold postAt; simp [List.getD, h]
theorem postAt_succ {zs : List Int} {k : Nat} {p x : Int} (hp : zs[k]? = some p) (h : zs[k + 1]? = some x) : postAt zs (k + 1) = (inB x 0 9999 && decide (p < x)) := by unfold postAt; simp [List.getD, h, hp]


/-- The first place from i on at which the number is at least x. -/
def leap (zs : List Int) (x : Int) : Nat → Nat → Nat
  | 0, i => i
  | f + 1, i => if i < zs.length ∧ zs.getD i 0 < x then leap zs x f (i + 1) else i
theorem leap_go {zs : List Int} {x y : Int} {f i : Nat} (h : zs[i]? = some y) (hy : y < x) : leap zs x (f + 1) i = leap zs x f (i + 1) := by
  have := (List.getElem?_eq_some_iff.1 h).1
  rw [leap, if_pos ⟨this, by simpa [List.getD, h] using hy⟩]
theorem leap_stop {zs : List Int} {x y : Int} {f i : Nat} (h : zs[i]? = some y) (hy : ¬ y < x) : leap zs x f i = i := by
  cases f with
  | zero => rfl
  | succ f => rw [leap, if_neg (fun h' => hy (by simpa [List.getD, h] using h'.2))]
theorem leap_end {zs : List Int} {x : Int} {f i : Nat} (h : zs.length ≤ i) : leap zs x f i = i := by
  cases f with
  | zero => rfl
  | succ f => rw [leap, if_neg (fun h' => by omega)]

end Go.Proofs.Ytkpofdfikmcjgaa
