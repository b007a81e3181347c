/- Records, one behind the other: where they begin, where the whole ones end. No program in sight. -/
import Derived.Test.YtbpeceejboojoaaGetS
import Derived.Test.YtbpeceejboojoaaPutV
import Derived.Test.YtbpeceejboojoaaChunkPlain
namespace Go.Proofs.Ytbpeceejboojoaa
set_option linter.unusedVariables false
set_option linter.unusedSimpArgs false
open Go.RowKit

theorem gv_invR {l : List UInt8} {n : Int} {k : Nat} (h : gv l = some (n, k)) : isV n = true ∧ vz n = l.take k ∧ k ≤ l.length := by
  have hbd := gv_bd h
  refine ⟨inB_iff.2 ⟨hbd.1, hbd.2.1⟩, ?_, hbd.2.2.2⟩
  unfold gv at h
  split at h
  · cases h
  · rename_i j e
    obtain ⟨hj, hb, hbef⟩ := List.findIdx?_eq_some_iff_getElem.1 e
    split at h
    · rename_i hc
      simp only [Option.some.injEq, Prod.mk.injEq] at h
      obtain ⟨rfl, rfl⟩ := h
      unfold vz
      rw [zig_zag (by omega), Int.toNat_natCast]
      have ht : l.take (j + 1) = l.take j ++ [l[j]] := take_snoc' l j _ (List.getElem?_eq_getElem hj)
      rw [ht]
      refine (canon l[j] (by simpa using hb) (l.take j) ?_).2 ?_
      · intro c hc
        obtain ⟨i, hi⟩ := List.mem_iff_getElem?.1 hc
        rw [List.getElem?_take] at hi
        split at hi
        · have hij : i < j := ‹_›
          have := hbef i hij
          obtain ⟨hi1, hi2⟩ := List.getElem?_eq_some_iff.1 hi
          rw [hi2] at this
          unfold big
          simp at this
          omega
        · cases hi
      · rcases hc.2.1 with h0 | h0
        · left; rw [h0]; rfl
        · right
          rw [List.getD, List.getElem?_eq_getElem hj] at h0
          simpa using h0
    · cases h
/-- A record from a place on: where its text begins, where it ends. -/
def rstep (t : List UInt8) (a : Nat) : Option (Nat × Nat) :=
  match gv (t.drop a) with
  | some (n, k) => if 0 ≤ n ∧ n ≤ 20 ∧ n + ((a + k : Nat) : Int) ≤ (t.length : Int) then some (a + k, a + k + n.toNat) else none
  | none => none
theorem rstep_some {t : List UInt8} {a b e : Nat} (h : rstep t a = some (b, e)) : ∃ n k, gv (t.drop a) = some (n, k) ∧ 0 ≤ n ∧ n ≤ 20 ∧ n + ((a + k : Nat) : Int) ≤ (t.length : Int) ∧ b = a + k ∧ e = a + k + n.toNat := by
  unfold rstep at h
  split at h
  · rename_i n k e'
    split at h
    · rename_i hc
      injection h with h
      injection h with h1 h2
      exact ⟨n, k, e', hc.1, hc.2.1, hc.2.2, h1.symm, h2.symm⟩
    · cases h
  · cases h
theorem rstep_bd {t : List UInt8} {a b e : Nat} (h : rstep t a = some (b, e)) : a < b ∧ b ≤ e ∧ e ≤ t.length ∧ e ≤ b + 20 := by
  obtain ⟨n, k, h1, h2, h3, h4, rfl, rfl⟩ := rstep_some h
  have := gv_bd h1
  omega
theorem rstep_len {t : List UInt8} {a b e : Nat} (h : rstep t a = some (b, e)) : (vz ((e - b : Nat) : Int)).length = b - a := by
  obtain ⟨n, k, h1, h2, h3, h4, rfl, rfl⟩ := rstep_some h
  obtain ⟨q1, q2, q3⟩ := gv_invR h1
  have e : ((a + k + n.toNat - (a + k) : Nat) : Int) = n := by omega
  rw [e, q2, List.length_take]
  omega
def recs (t : List UInt8) (a : Nat) : List (Nat × Nat × Nat) :=
  match h : rstep t a with
  | some (b, e) => (a, b, e) :: recs t e
  | none => []
termination_by t.length - a
decreasing_by have := rstep_bd h; omega
def whole (t : List UInt8) (a : Nat) : Nat :=
  match h : rstep t a with
  | some (_, e) => whole t e
  | none => a
termination_by t.length - a
decreasing_by have := rstep_bd h; omega
theorem recs_some {t : List UInt8} {a b e : Nat} (h : rstep t a = some (b, e)) : recs t a = (a, b, e) :: recs t e := by
  rw [recs]
  split
  · rename_i b' e' h'
    rw [h] at h'
    injection h' with h'
    injection h' with h1 h2
    subst h1; subst h2; rfl
  · rename_i h'
    rw [h] at h'; cases h'
theorem recs_none {t : List UInt8} {a : Nat} (h : rstep t a = none) : recs t a = [] := by
  rw [recs]
  split
  · rename_i b' e' h'
    rw [h] at h'; cases h'
  · rfl
theorem whole_some {t : List UInt8} {a b e : Nat} (h : rstep t a = some (b, e)) : whole t a = whole t e := by
  rw [whole]
  split
  · rename_i b' e' h'
    rw [h] at h'
    injection h' with h'
    injection h' with h1 h2
    subst h2; rfl
  · rename_i h'
    rw [h] at h'; cases h'
theorem whole_none {t : List UInt8} {a : Nat} (h : rstep t a = none) : whole t a = a := by
  rw [whole]
  split
  · rename_i b' e' h'
    rw [h] at h'; cases h'
  · rfl
theorem rstep_out {t : List UInt8} {a : Nat} (h : t.length ≤ a) : rstep t a = none := by
  cases e : rstep t a with
  | none => rfl
  | some p => have := rstep_bd (b := p.1) (e := p.2) e; omega
theorem recs_facts (t : List UInt8) : ∀ (f a : Nat), t.length - a ≤ f → (recs t a).length ≤ t.length - a ∧ (a ≤ t.length → whole t a ≤ t.length ∧ a ≤ whole t a) ∧
    (∀ (x b e : Nat), (recs t a)[0]? = some (x, b, e) → x = a) ∧ (∀ (k x b e : Nat), (recs t a)[k]? = some (x, b, e) → rstep t x = some (b, e)) ∧
    (∀ (k x b e x' b' e' : Nat), (recs t a)[k]? = some (x, b, e) → (recs t a)[k + 1]? = some (x', b', e') → x' = e) := by
  intro f
  induction f with
  | zero =>
    intro a ha
    have h := rstep_out (t := t) (a := a) (by omega)
    rw [recs_none h, whole_none h]
    refine ⟨by simp, fun h => ⟨h, Nat.le_refl _⟩, ?_, ?_, ?_⟩ <;> intros <;> simp_all
  | succ f ih =>
    intro a ha
    cases h : rstep t a with
    | none =>
      rw [recs_none h, whole_none h]
      refine ⟨by simp, fun h => ⟨h, Nat.le_refl _⟩, ?_, ?_, ?_⟩ <;> intros <;> simp_all
    | some p =>
      obtain ⟨b, e⟩ := p
      have hb := rstep_bd h
      obtain ⟨h1, h2, h3, h4, h5⟩ := ih e (by omega)
      rw [recs_some h, whole_some h]
      refine ⟨by simp; omega, fun _ => ⟨(h2 (by omega)).1, by have := (h2 (by omega)).2; omega⟩, ?_, ?_, ?_⟩
      · intro x b' e' hx
        simp at hx
        exact hx.1.symm
      · intro k x b' e' hx
        cases k with
        | zero =>
          simp at hx
          obtain ⟨rfl, rfl, rfl⟩ := hx
          exact h
        | succ k => exact h4 k x b' e' (by simpa using hx)
      · intro k x b1 e1 x' b' e' hx hx'
        cases k with
        | zero =>
          simp at hx hx'
          obtain ⟨rfl, rfl, rfl⟩ := hx
          exact h3 x' b' e' (by simpa using hx')
        | succ k => exact h5 k x b1 e1 x' b' e' (by simpa using hx) (by simpa using hx')
/-- Where the records of a text begin. -/
def starts (t : List UInt8) : List Int := (recs t 0).map fun p => (p.1 : Int)
theorem starts_len (t : List UInt8) : (starts t).length = (recs t 0).length := List.length_map ..
/-- Every third of a list. -/
def third : Nat → List Int → List Int
  | _, [] => []
  | i, x :: l => if i % 3 = 0 then x :: third (i + 1) l else third (i + 1) l
theorem third_snoc (x : Int) (l : List Int) : ∀ i, third i (l ++ [x]) = third i l ++ if (i + l.length) % 3 = 0 then [x] else [] := by
  induction l with
  | nil => intro i; simp only [List.nil_append, third, List.length_nil, Nat.add_zero]
  | cons y l ih =>
    intro i
    simp only [List.cons_append, third, List.length_cons, ih]
    rw [show i + 1 + l.length = i + (l.length + 1) by omega]
    split <;> rfl
theorem third_take {l : List Int} {k : Nat} {x : Int} (h : l[k]? = some x) : third 0 (l.take (k + 1)) = third 0 (l.take k) ++ if k % 3 = 0 then [x] else [] := by
  have hk := (List.getElem?_eq_some_iff.1 h).1
  rw [take_snoc' l k x h, third_snoc, List.length_take, Nat.min_eq_left (by omega), Nat.zero_add]
theorem third_len : ∀ (l : List Int) (i : Nat), (third i l).length ≤ l.length
  | [], i => by simp [third]
  | x :: l, i => by
    have := third_len l (i + 1)
    simp only [third, List.length_cons]
    split <;> simp <;> omega
/-- The records read so far, and what is left. -/
structure RdRec (t : List UInt8) (done : List (Nat × Nat × Nat)) (a : Nat) : Prop where
  all : recs t 0 = done ++ recs t a
  end_ : whole t 0 = whole t a
  le : a ≤ t.length
theorem RdRec.start (t : List UInt8) : RdRec t [] 0 := ⟨rfl, rfl, Nat.zero_le _⟩
theorem RdRec.step {t : List UInt8} {done : List (Nat × Nat × Nat)} {a b e : Nat} (h : RdRec t done a) (hs : rstep t a = some (b, e)) : RdRec t (done ++ [(a, b, e)]) e :=
  ⟨by rw [h.all, recs_some hs]; simp, by rw [h.end_, whole_some hs], (rstep_bd hs).2.2.1⟩
theorem RdRec.done_ {t : List UInt8} {done : List (Nat × Nat × Nat)} {a : Nat} (h : RdRec t done a) (hs : rstep t a = none) : recs t 0 = done ∧ whole t 0 = a := by
  refine ⟨by rw [h.all, recs_none hs]; simp, by rw [h.end_, whole_none hs]⟩
theorem RdRec.len {t : List UInt8} {done : List (Nat × Nat × Nat)} {a : Nat} (h : RdRec t done a) : done.length ≤ t.length := by
  have h1 := (recs_facts t _ 0 (Nat.le_refl _)).1
  rw [h.all, List.length_append] at h1
  omega
end Go.Proofs.Ytbpeceejboojoaa
