/- The laws' helpers on slices of pairs of numbers (samples, tokens): copying, comparing, measuring. -/
import Derived.Test.YtbpeceejboojoaaRowInts
import Derived.Test.YtbpeceejboojoaaBeyond
namespace Go.Proofs.Ytbpeceejboojoaa
set_option linter.unusedVariables false
set_option linter.unusedSimpArgs false
open Go.RowKit

/-- Pairs of numbers, cell by cell. -/
def smps (l : List (Int × Int)) : List Value := l.flatMap fun p => [.int .i64 p.1, .int .i64 p.2]
theorem smps_cons (p : Int × Int) (l : List (Int × Int)) : smps (p :: l) = .int .i64 p.1 :: .int .i64 p.2 :: smps l := rfl
theorem smps_len (l : List (Int × Int)) : (smps l).length = l.length * 2 := by
  induction l with
  | nil => rfl
  | cons p l ih => rw [smps_cons]; simp only [List.length_cons, ih]; omega
theorem smps_app (a b : List (Int × Int)) : smps (a ++ b) = smps a ++ smps b := by unfold smps; rw [List.flatMap_append]
theorem smps_get (l : List (Int × Int)) : ∀ (k : Nat) (p : Int × Int), l[k]? = some p → (smps l)[k * 2]? = some (.int .i64 p.1) ∧ (smps l)[k * 2 + 1]? = some (.int .i64 p.2) := by
  induction l with
  | nil => intro k p h; simp at h
  | cons q l ih =>
    intro k p h
    cases k with
    | zero => simp at h; subst h; exact ⟨rfl, rfl⟩
    | succ k =>
      have := ih k p (by simpa using h)
      rw [smps_cons, show (k + 1) * 2 = k * 2 + 1 + 1 from by omega]
      exact this
theorem smps_one (l : List (Int × Int)) : ∀ u ∈ smps l, u.oneCell' = true := by
  intro u hu
  obtain ⟨p, _, hp⟩ := List.mem_flatMap.1 hu
  simp at hp
  rcases hp with rfl | rfl <;> rfl
section
variable {w : World} {B n : Nat} {A : Option Addr}
theorem Rd.smp_len {l : List (Int × Int)} (h : Rd w B 2 A n (smps l)) : l.length = n := by have := h.1; rw [smps_len] at this; omega
/-- Element k of a slice of pairs. -/
theorem Rd.smp_at {l : List (Int × Int)} {k : Nat} (h : Rd w B 2 A n (smps l)) (hk : k < n) :
    ∃ b off x y, A = some ⟨b, off, none⟩ ∧ b < B ∧ l[k]? = some (x, y) ∧ w.cell? ⟨b, off + k * 2, none⟩ = some (.int .i64 x) ∧ w.cell? ⟨b, off + k * 2 + 1, none⟩ = some (.int .i64 y) := by
  obtain ⟨b, off, e, hb, hc⟩ := h.2 (by omega)
  have hl : k < l.length := by have := h.smp_len; omega
  have hg := smps_get l k l[k] (List.getElem?_eq_getElem hl)
  exact ⟨b, off, l[k].1, l[k].2, e, hb, List.getElem?_eq_getElem hl, hc _ _ hg.1, hc _ _ hg.2⟩
end

/-- The pairs k, k + 1; k + 2, k + 3; .. that marking writes. -/
def marksP (k : Int) (n : Nat) : List (Int × Int) := (List.range n).map fun (i : Nat) => (k + 2 * (i : Int), k + 2 * (i : Int) + 1)
theorem marksP_len (k : Int) (n : Nat) : (marksP k n).length = n := by simp [marksP]
theorem marksP_get (k : Int) (n i : Nat) (h : i < n) : (marksP k n)[i]? = some (k + 2 * (i : Int), k + 2 * (i : Int) + 1) := by simp [marksP, h]

end Go.Proofs.Ytbpeceejboojoaa
