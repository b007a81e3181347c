/- The contracts of the laws' helpers on slices of integers: copying, comparing, marking, holding. -/
import Derived.Test.YtbpeceejboojoaaDoorProg
import Derived.Test.YtbpeceejboojoaaDoorNum
import Derived.Test.YtbpeceejboojoaaDoorMem
import Derived.Deep.QuietTactic
import Derived.BigQuiet
namespace Go.Proofs.YtbpeceejboojoaaDoor
set_option linter.unusedVariables false
set_option linter.unusedSimpArgs false
open Go.RowKit

theorem infoInt : (Tryd.prog.info? 3).map (fun i => (i.zero, i.size, i.bytes)) = some (some (.int .i64 0), 1, 8) := by kernel_rfl

/-- The first k of some numbers, and zeros behind. -/
def partly (zs : List Int) (k : Nat) : List Value := ints (zs.take k) ++ List.replicate (zs.length - k) (.int .i64 0)
theorem partly_set (zs : List Int) (k : Nat) (x : Int) (h : zs[k]? = some x) : (partly zs k).set k (.int .i64 x) = partly zs (k + 1) := by
  obtain ⟨hk, rfl⟩ := List.getElem?_eq_some_iff.1 h
  unfold partly
  have e : zs.length - k = (zs.length - (k + 1)) + 1 := by omega
  rw [e, List.replicate_succ, List.set_append_right _ _ (by rw [ints_len, List.length_take]; omega), ints_len, List.length_take, show k - min k zs.length = 0 from by omega, List.set_cons_zero,
    take_snoc' zs k zs[k] h, ints_app, List.append_assoc]
  rfl
theorem partly_zero (zs : List Int) : partly zs 0 = List.replicate zs.length (.int .i64 0) := by simp [partly, ints]
theorem partly_all (zs : List Int) : partly zs zs.length = ints zs := by simp [partly]
theorem partly_len (zs : List Int) (k : Nat) (h : k ≤ zs.length) : (partly zs k).length = zs.length := by
  unfold partly; rw [List.length_append, ints_len, List.length_take, List.length_replicate]; omega

theorem drewN_zero (w : World) : w.drewN 0 = w := rfl

/-- The numbers k, k + 1, .. that marking writes. -/
def marks (k : Int) (n : Nat) : List Int := (List.range n).map fun (i : Nat) => k + (i : Int)
theorem marks_len (k : Int) (n : Nat) : (marks k n).length = n := by simp [marks]
theorem marks_get (k : Int) (n i : Nat) (h : i < n) : (marks k n)[i]? = some (k + (i : Int)) := by simp [marks, h]
theorem marks_succ (k : Int) (n : Nat) : marks k (n + 1) = marks k n ++ [k + (n : Int)] := by simp [marks, List.range_succ]
def marked (zs : List Int) (k : Int) (j : Nat) : List Value := ints (marks k j) ++ ints (zs.drop j)
theorem marked_len (zs : List Int) (k : Int) (j : Nat) (h : j ≤ zs.length) : (marked zs k j).length = zs.length := by
  unfold marked; rw [List.length_append, ints_len, ints_len, marks_len, List.length_drop]; omega
theorem marked_set (zs : List Int) (k : Int) (j : Nat) (h : j < zs.length) : (marked zs k j).set j (.int .i64 (k + (j : Int))) = marked zs k (j + 1) := by
  unfold marked
  rw [List.set_append_right _ _ (by rw [ints_len, marks_len]; omega), ints_len, marks_len, Nat.sub_self, List.drop_eq_getElem_cons h, marks_succ, ints_app, List.append_assoc]
  rfl
theorem marked_zero (zs : List Int) (k : Int) : marked zs k 0 = ints zs := by simp [marked, marks, ints]
theorem marked_all (zs : List Int) (k : Int) : marked zs k zs.length = ints (marks k zs.length) := by simp [marked, ints]


end Go.Proofs.YtbpeceejboojoaaDoor
