/- Differences and prefix sums of numbers. No program in sight. -/
import Derived.Test.YtbpeceejboojoaaMem
namespace Go.Proofs.Ytbpeceejboojoaa
set_option linter.unusedVariables false
set_option linter.unusedSimpArgs false
open Go.RowKit

def deltas : Int → List Int → List Int
  | _, [] => []
  | a, n :: l => (n - a) :: deltas n l
def sums : Int → List Int → List Int
  | _, [] => []
  | a, n :: l => (a + n) :: sums (a + n) l
theorem deltas_len (l : List Int) : ∀ a, (deltas a l).length = l.length := by
  induction l with
  | nil => intro a; rfl
  | cons n l ih => intro a; simp [deltas, ih]
theorem sums_len (l : List Int) : ∀ a, (sums a l).length = l.length := by
  induction l with
  | nil => intro a; rfl
  | cons n l ih => intro a; simp [sums, ih]
theorem deltas_zero {l : List Int} {a x : Int} (h : l[0]? = some x) : (deltas a l)[0]? = some (x - a) := by
  cases l with
  | nil => simp at h
  | cons n l => simp at h; simp [deltas, h]
theorem deltas_succ {l : List Int} : ∀ {a : Int} {k : Nat} {p x : Int}, l[k]? = some p → l[k + 1]? = some x → (deltas a l)[k + 1]? = some (x - p) := by
  induction l with
  | nil => intro a k p x h; simp at h
  | cons n l ih =>
    intro a k p x h h'
    cases k with
    | zero =>
      simp at h h'
      subst h
      have := deltas_zero (a := n) (l := l) (x := x) (by simpa using h')
      simpa [deltas] using this
    | succ k => simpa [deltas] using ih (a := n) (k := k) (by simpa using h) (by simpa using h')
theorem sums_zero {l : List Int} {a x : Int} (h : l[0]? = some x) : (sums a l)[0]? = some (a + x) := by
  cases l with
  | nil => simp at h
  | cons n l => simp at h; simp [sums, h]
theorem sums_succ {l : List Int} : ∀ {a : Int} {k : Nat} {p x : Int}, (sums a l)[k]? = some p → l[k + 1]? = some x → (sums a l)[k + 1]? = some (p + x) := by
  induction l with
  | nil => intro a k p x h; simp [sums] at h
  | cons n l ih =>
    intro a k p x h h'
    cases k with
    | zero =>
      simp [sums] at h h'
      subst h
      have := sums_zero (a := a + n) (l := l) (x := x) (by simpa using h')
      simpa [sums] using this
    | succ k =>
      have := ih (a := a + n) (k := k) (p := p) (x := x) (by simpa [sums] using h) (by simpa using h')
      simpa [sums] using this
/-- Numbers of at most M in size. -/
def within_ (M : Int) (l : List Int) : Prop := ∀ x ∈ l, -M ≤ x ∧ x ≤ M
theorem within_at {M : Int} {l : List Int} (h : within_ M l) {k : Nat} {x : Int} (hx : l[k]? = some x) : -M ≤ x ∧ x ≤ M := h x (List.mem_of_getElem? hx)
theorem within_deltas {M : Int} (hM : 0 ≤ M) {l : List Int} : ∀ {a : Int}, -M ≤ a → a ≤ M → within_ M l → within_ (2 * M) (deltas a l) := by
  induction l with
  | nil => intro a _ _ _ x hx; simp [deltas] at hx
  | cons n l ih =>
    intro a h0 h1 h x hx
    have hn := h n (List.mem_cons_self ..)
    rw [deltas] at hx
    rcases List.mem_cons.1 hx with rfl | hx
    · omega
    · exact ih hn.1 hn.2 (fun y hy => h y (List.mem_cons_of_mem _ hy)) x hx
theorem within_sums {M : Int} (hM : 0 ≤ M) {l : List Int} : ∀ {a : Int} {j : Nat}, -(M * j) ≤ a → a ≤ M * j → within_ M l → within_ (M * ((j + l.length : Nat) : Int)) (sums a l) := by
  induction l with
  | nil => intro a j _ _ _ x hx; simp [sums] at hx
  | cons n l ih =>
    intro a j h0 h1 h x hx
    have hn := h n (List.mem_cons_self ..)
    have e : M * ((j + 1 : Nat) : Int) = M * j + M := by rw [Int.natCast_add, Int.mul_add]; simp
    rw [sums] at hx
    have hl : ((j + (n :: l).length : Nat) : Int) = ((j + 1 + l.length : Nat) : Int) := by simp; omega
    rw [hl]
    rcases List.mem_cons.1 hx with rfl | hx
    · have h2 : M * ((j + 1 + l.length : Nat) : Int) = M * ((j + 1 : Nat) : Int) + M * (l.length : Int) := by rw [Int.natCast_add, Int.mul_add]
      have h3 : 0 ≤ M * (l.length : Int) := Int.mul_nonneg hM (by omega)
      omega
    · exact ih (a := a + n) (j := j + 1) (by omega) (by omega) (fun y hy => h y (List.mem_cons_of_mem _ hy)) x hx
theorem within_mono {M M' : Int} {l : List Int} (h : within_ M l) (hM : M ≤ M') : within_ M' l := fun x hx => by have := h x hx; omega
/-- The first k of one list, and another one's from there on. -/
def mixed (a b : List Int) (k : Nat) : List Int := a.take k ++ b.drop k
theorem mixed_len {a b : List Int} {k : Nat} (h : a.length = b.length) : (mixed a b k).length = b.length := by
  unfold mixed; rw [List.length_append, List.length_take, List.length_drop]; omega
theorem mixed_get_lo {a b : List Int} {k j : Nat} (h : j < k) (hk : k ≤ a.length) : (mixed a b k)[j]? = a[j]? := by
  unfold mixed
  rw [List.getElem?_append_left (by rw [List.length_take]; omega), List.getElem?_take, if_pos h]
theorem mixed_get_hi {a b : List Int} {k : Nat} (hk : k ≤ a.length) : (mixed a b k)[k]? = b[k]? := by
  unfold mixed
  rw [List.getElem?_append_right (by rw [List.length_take]; omega), List.length_take, List.getElem?_drop, Nat.min_eq_left hk, Nat.sub_self, Nat.add_zero]
theorem mixed_set {a b : List Int} {k : Nat} {x : Int} (hl : a.length = b.length) (h : a[k]? = some x) : (mixed a b k).set k x = mixed a b (k + 1) := by
  have hk := (List.getElem?_eq_some_iff.1 h).1
  unfold mixed
  rw [List.set_append_right _ _ (by rw [List.length_take]; omega), List.length_take, Nat.min_eq_left (by omega), Nat.sub_self, List.drop_eq_getElem_cons (by omega), List.set_cons_zero, take_snoc' a k x h, List.append_assoc]
  rfl
theorem mixed_all {a b : List Int} {k : Nat} (hl : a.length = b.length) (hk : a.length ≤ k) : mixed a b k = a := by
  unfold mixed; rw [List.take_of_length_le hk, List.drop_of_length_le (by omega), List.append_nil]
theorem mixed_one {a b : List Int} (h : a[0]? = b[0]?) : mixed a b 1 = b := by
  unfold mixed
  cases a <;> cases b <;> simp at h ⊢
  exact h
theorem ints_set (zs : List Int) (k : Nat) (x : Int) : (ints zs).set k (.int .i64 x) = ints (zs.set k x) := by unfold ints; rw [List.map_set]
end Go.Proofs.Ytbpeceejboojoaa
