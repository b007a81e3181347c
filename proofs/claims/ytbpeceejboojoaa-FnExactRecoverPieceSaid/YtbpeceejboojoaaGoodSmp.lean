/- The tests on samples of the reference and of the program, and the law GoodSamples. -/
import Derived.Test.YtbpeceejboojoaaPairs
import Derived.Test.YtbpeceejboojoaaAllAt
namespace Go.Proofs.Ytbpeceejboojoaa
set_option linter.unusedVariables false
set_option linter.unusedSimpArgs false
open Go.RowKit

def smpOk (p : Int × Int) : Bool := inB p.1 0 1000000000 && inB p.2 (-1000000000) 1000000000
def smpAt (l : List (Int × Int)) (k : Nat) : Bool := smpOk (l.getD k (0, 0)) && (k == 0 || decide ((l.getD (k - 1) (0, 0)).1 < (l.getD k (0, 0)).1))
def goodSmp (l : List (Int × Int)) : Bool := allAt (smpAt l) l.length && decide (l.length ≤ 40)
theorem smpAt_zero {l : List (Int × Int)} {p : Int × Int} (h : l[0]? = some p) : smpAt l 0 = smpOk p := by unfold smpAt; simp [List.getD, h]
theorem smpAt_succ {l : List (Int × Int)} {k : Nat} {q p : Int × Int} (hq : l[k]? = some q) (h : l[k + 1]? = some p) : smpAt l (k + 1) = (smpOk p && decide (q.1 < p.1)) := by unfold smpAt; simp [List.getD, h, hq]
theorem smpAt_bad {l : List (Int × Int)} {k : Nat} {p : Int × Int} (h : l[k]? = some p) (hb : smpOk p = false) : smpAt l k = false := by
  unfold smpAt; rw [show l.getD k (0, 0) = p from by simp [List.getD, h], hb]; rfl
theorem smpOk_t {x y : Int} (h : smpOk (x, y) = true) : inB x 0 1000000000 = true ∧ inB y (-1000000000) 1000000000 = true := by unfold smpOk at h; simpa using h
theorem smpOk_f {x y : Int} (h : smpOk (x, y) = false) : inB x 0 1000000000 = false ∨ (inB x 0 1000000000 = true ∧ inB y (-1000000000) 1000000000 = false) := by
  unfold smpOk at h
  cases hx : inB x 0 1000000000
  · exact .inl rfl
  · rw [hx] at h; exact .inr ⟨rfl, by simpa using h⟩
theorem goodSmp_bad {l : List (Int × Int)} {k : Nat} (hk : k < l.length) (h : smpAt l k = false) : goodSmp l = false := by unfold goodSmp; rw [allAt_f k hk h]; rfl
theorem goodSmp_all {l : List (Int × Int)} (h : ∀ k, k < l.length → smpAt l k = true) : goodSmp l = decide (l.length ≤ 40) := by unfold goodSmp; rw [allAt_t h]; rfl


end Go.Proofs.Ytbpeceejboojoaa
