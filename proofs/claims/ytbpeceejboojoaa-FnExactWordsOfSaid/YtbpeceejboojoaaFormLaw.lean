/- The laws GoodForm, NotForm. -/
import Derived.Test.YtbpeceejboojoaaFormI
import Derived.Test.YtbpeceejboojoaaCloneP
import Derived.Test.YtbpeceejboojoaaGotR
import Derived.Test.YtbpeceejboojoaaAppR
namespace Go.Proofs.Ytbpeceejboojoaa
set_option linter.unusedVariables false
set_option linter.unusedSimpArgs false
open Go.RowKit

theorem sum_mem_leP (l : List Nat) (x : Nat) (h : x ∈ l) : x ≤ l.sum := by
  induction l with
  | nil => simp at h
  | cons y l ih =>
    rw [List.sum_cons]
    rcases List.mem_cons.1 h with e | e
    · omega
    · have := ih e; omega
theorem prtFit_of {l : List Prt} (h : prtSz l ≤ 1048576) : ∀ p ∈ l, p.text.size ≤ 1048576 := fun p hp => by
  have h1 := sum_mem_leP (l.map prtSz1) (prtSz1 p) (List.mem_map_of_mem hp)
  unfold prtSz at h
  have h2 : prtSz1 p = p.text.size := rfl
  omega
def notP (l : List Prt) : Prt := ⟨8, ⟨#[]⟩, (l.length : Int) - 1, 0⟩
def okNotF (l : List Prt) : Bool := goodPrt l && decide (l.length ≠ 24)
def notFL (l : List Prt) : List Prt := if okNotF l then l ++ [notP l] else []
theorem notF_no {l : List Prt} (h : okNotF l = false) : notFL l = [] := by unfold notFL; rw [h]; rfl
theorem notF_yes {l : List Prt} (h : okNotF l = true) : notFL l = l ++ [notP l] := by unfold notFL; rw [h]; rfl
theorem notF_len (l : List Prt) : (notFL l).length ≤ 1048576 := by
  cases h : okNotF l
  · rw [notF_no h]; exact Nat.zero_le _
  · rw [notF_yes h]
    unfold okNotF at h
    simp only [Bool.and_eq_true] at h
    have := good_len h.1
    simp
    omega
end Go.Proofs.Ytbpeceejboojoaa
