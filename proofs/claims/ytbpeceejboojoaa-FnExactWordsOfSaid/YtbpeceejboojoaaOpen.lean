/- How arguments that are slices of structs read: cell by cell, as a list of data. No program in sight. -/
import Derived.Test.YtbpeceejboojoaaMem
import Derived.Deep.Slices
import Derived.Deep.Fields
import Derived.ProofKit
import Derived.OpenShut
namespace Go.Proofs.Ytbpeceejboojoaa
set_option linter.unusedVariables false
set_option linter.unusedSimpArgs false
open Go.RowKit Go.ChangeShapes Go.WideShapes Go.Deep

theorem flatMap_len {α : Type} {c : α → List Value} {s : Nat} (hc : ∀ x, (c x).length = s) (l : List α) : (l.flatMap c).length = l.length * s := by
  induction l with
  | nil => simp
  | cons x l ih => rw [List.flatMap_cons, List.length_append, hc, ih, List.length_cons, Nat.add_mul]; omega
theorem flatMap_get {α : Type} {c : α → List Value} {s : Nat} (hc : ∀ x, (c x).length = s) (l : List α) : ∀ (i r : Nat) (x : α), r < s → l[i]? = some x → (l.flatMap c)[i * s + r]? = (c x)[r]? := by
  induction l with
  | nil => intro i r x _ h; simp at h
  | cons y l ih =>
    intro i r x hr h
    cases i with
    | zero =>
      simp at h
      subst h
      rw [List.flatMap_cons, Nat.zero_mul, Nat.zero_add, List.getElem?_append_left (by rw [hc]; exact hr)]
    | succ i =>
      rw [List.flatMap_cons, List.getElem?_append_right (by rw [hc, Nat.add_mul]; omega), hc, show (i + 1) * s + r - s = i * s + r from by rw [Nat.add_mul]; omega]
      exact ih i r x hr (by simpa using h)

section
variable {H : Type} {enc : TypeId × Value → H} {P : Program} {w : World}
/-- An argument that is a slice: it reads as a list, element by element, once each element's cells are told. -/
theorem open_rows {α : Type} [Inhabited α] {c : α → List Value} {s t e : Nat} {A : Option Addr} {n cp : Nat} {d : DataW H} {p : List MemPlace} (ht : P.underlying t = some (.slice e)) (hs : P.cellsOf e = s) (hs0 : 0 < s) (hc : ∀ x, (c x).length = s)
    (hel : ∀ (fuel : Nat) (cs : List Value) (y : DataW H × List MemPlace), DataW.trod enc P w 0 (fun _ => true) true fuel e cs = some y → ∃ x, cs = c x)
    (h : DataW.Trod enc P w 0 (fun _ => true) true t (.slice A n cp) d p) : ∃ l : List α, Rd w w.heap.size s A n (l.flatMap c) ∧ n ≤ 9223372036854775807 := by
  obtain ⟨fuel, hf⟩ := h
  rcases open_slice ht hf with ⟨hcs, _⟩ | ⟨a, len, cap, m, k, D, Pl, hcs, _, hl, hm, hmm, _, hi⟩
  · simp [Value.cells] at hcs
    obtain ⟨rfl, rfl, rfl⟩ := hcs
    exact ⟨[], Rd.nil_, by omega⟩
  · simp [Value.cells] at hcs
    obtain ⟨rfl, rfl, rfl⟩ := hcs
    simp only [if_true] at hmm
    subst hmm
    have hel' : ∀ i, i < n → ∃ x : α, ∀ r u, (c x)[r]? = some u → w.cell? (a.add (i * s + r)) = some u := by
      intro i hin
      obtain ⟨cs', hcells, htr⟩ := hi i (by omega)
      obtain ⟨x, rfl⟩ := hel _ _ _ htr
      rw [hs] at hcells
      obtain ⟨_, hcl, hat⟩ := World.cells?_some hcells
      refine ⟨x, fun r u hu => ?_⟩
      have hr : r < s := by have := (List.getElem?_eq_some_iff.1 hu).1; rw [hc] at this; exact this
      have := hat r hr
      rw [add_add] at this
      rw [this, hu]
    obtain ⟨f, hf'⟩ := choose_lt hel'
    refine ⟨(List.range n).map f, ⟨by rw [flatMap_len hc]; simp, fun hn => ?_⟩, by unfold maxLen at hm; omega⟩
    have h0 := hf' 0 hn
    obtain ⟨u0, hu0⟩ : ∃ u, (c (f 0))[0]? = some u := ⟨_, List.getElem?_eq_getElem (by rw [hc]; exact hs0)⟩
    have hc0 := h0 0 u0 hu0
    obtain ⟨b, off, spot⟩ := a
    have hsp : spot = none := by simpa [Addr.add] using World.cell?_spot hc0
    subst hsp
    refine ⟨b, off, rfl, World.block_lt_of_cell? w _ (by simpa [Addr.add] using hc0), fun j u hu => ?_⟩
    have hj : j < n * s := by
      have := (List.getElem?_eq_some_iff.1 hu).1
      rw [flatMap_len hc] at this
      simpa using this
    have hq : j / s < n := Nat.div_lt_of_lt_mul (by rw [Nat.mul_comm]; exact hj)
    have hr : j % s < s := Nat.mod_lt _ hs0
    have hjj : j / s * s + j % s = j := by rw [Nat.mul_comm]; exact Nat.div_add_mod j s
    have hg := flatMap_get hc ((List.range n).map f) (j / s) (j % s) (f (j / s)) hr (by simp [hq])
    rw [hjj] at hg
    rw [hg] at hu
    have := hf' (j / s) hq (j % s) u hu
    rw [hjj, Addr.add_lit] at this
    exact this

/-- An argument that is a slice: it reads as a list, element by element, once each element's cells are told. -/
theorem open_rows_q {α : Type} [Inhabited α] (Q : α → Prop) {c : α → List Value} {s t e : Nat} {A : Option Addr} {n cp : Nat} {d : DataW H} {p : List MemPlace} (ht : P.underlying t = some (.slice e)) (hs : P.cellsOf e = s) (hs0 : 0 < s) (hc : ∀ x, (c x).length = s)
    (hel : ∀ (fuel : Nat) (cs : List Value) (y : DataW H × List MemPlace), DataW.trod enc P w 0 (fun _ => true) true fuel e cs = some y → ∃ x, cs = c x ∧ Q x)
    (h : DataW.Trod enc P w 0 (fun _ => true) true t (.slice A n cp) d p) : ∃ l : List α, Rd w w.heap.size s A n (l.flatMap c) ∧ n ≤ 9223372036854775807 ∧ ∀ x ∈ l, Q x := by
  obtain ⟨fuel, hf⟩ := h
  rcases open_slice ht hf with ⟨hcs, _⟩ | ⟨a, len, cap, m, k, D, Pl, hcs, _, hl, hm, hmm, _, hi⟩
  · simp [Value.cells] at hcs
    obtain ⟨rfl, rfl, rfl⟩ := hcs
    exact ⟨[], Rd.nil_, by omega, by simp⟩
  · simp [Value.cells] at hcs
    obtain ⟨rfl, rfl, rfl⟩ := hcs
    simp only [if_true] at hmm
    subst hmm
    have hel' : ∀ i, i < n → ∃ x : α, (∀ r u, (c x)[r]? = some u → w.cell? (a.add (i * s + r)) = some u) ∧ Q x := by
      intro i hin
      obtain ⟨cs', hcells, htr⟩ := hi i (by omega)
      obtain ⟨x, rfl, hQ⟩ := hel _ _ _ htr
      rw [hs] at hcells
      obtain ⟨_, hcl, hat⟩ := World.cells?_some hcells
      refine ⟨x, fun r u hu => ?_, hQ⟩
      have hr : r < s := by have := (List.getElem?_eq_some_iff.1 hu).1; rw [hc] at this; exact this
      have := hat r hr
      rw [add_add] at this
      rw [this, hu]
    obtain ⟨f, hf'⟩ := choose_lt hel'
    refine ⟨(List.range n).map f, ⟨by rw [flatMap_len hc]; simp, fun hn => ?_⟩, by unfold maxLen at hm; omega, fun x hx => by
      obtain ⟨i, hi, rfl⟩ := List.mem_map.1 hx
      exact (hf' i (by simpa using hi)).2⟩
    have h0 := (hf' 0 hn).1
    obtain ⟨u0, hu0⟩ : ∃ u, (c (f 0))[0]? = some u := ⟨_, List.getElem?_eq_getElem (by rw [hc]; exact hs0)⟩
    have hc0 := h0 0 u0 hu0
    obtain ⟨b, off, spot⟩ := a
    have hsp : spot = none := by simpa [Addr.add] using World.cell?_spot hc0
    subst hsp
    refine ⟨b, off, rfl, World.block_lt_of_cell? w _ (by simpa [Addr.add] using hc0), fun j u hu => ?_⟩
    have hj : j < n * s := by
      have := (List.getElem?_eq_some_iff.1 hu).1
      rw [flatMap_len hc] at this
      simpa using this
    have hq : j / s < n := Nat.div_lt_of_lt_mul (by rw [Nat.mul_comm]; exact hj)
    have hr : j % s < s := Nat.mod_lt _ hs0
    have hjj : j / s * s + j % s = j := by rw [Nat.mul_comm]; exact Nat.div_add_mod j s
    have hg := flatMap_get hc ((List.range n).map f) (j / s) (j % s) (f (j / s)) hr (by simp [hq])
    rw [hjj] at hg
    rw [hg] at hu
    have := (hf' (j / s) hq).1 (j % s) u hu
    rw [hjj, Addr.add_lit] at this
    exact this

/-- A struct's field of one cell. -/
theorem field_one {e : Nat} {fs : Array Field} {fuel : Nat} {cs : List Value} {y : DataW H × List MemPlace} (he : P.underlying e = some (.struct fs)) (h : DataW.trod enc P w 0 (fun _ => true) true fuel e cs = some y)
    (i : Nat) (f : Field) (hf : fs[i]? = some f) (n : Nat) (hn : P.cellsOf f.type = n) : ∃ k z, DataW.trod enc P w 0 (fun _ => true) true k f.type ((cs.drop f.offset).take n) = some z := by
  obtain ⟨xs, k, _, _, _, hlen, hat⟩ := DataW.trod_struct he h
  have h1 := hat i f hf
  rw [hn] at h1
  have hi := (Array.getElem?_eq_some_iff.1 hf).1
  rw [List.getElem?_eq_getElem (by omega)] at h1
  exact ⟨k, _, h1⟩
theorem struct_len {e : Nat} {fs : Array Field} {fuel : Nat} {cs : List Value} {y : DataW H × List MemPlace} (he : P.underlying e = some (.struct fs)) (h : DataW.trod enc P w 0 (fun _ => true) true fuel e cs = some y) : cs.length = P.cellsOf e := by
  obtain ⟨xs, k, _, _, hl, _⟩ := DataW.trod_struct he h
  exact hl
/-- A struct of two integers, cell by cell. -/
theorem elem_pair {e ti : Nat} {f0 f1 : Field} (he : P.underlying e = some (.struct #[f0, f1])) (hs : P.cellsOf e = 2) (h0 : f0.type = ti) (h1 : f1.type = ti) (o0 : f0.offset = 0) (o1 : f1.offset = 1)
    (hi : P.underlying ti = some (.int .i64)) (hc : P.cellsOf ti = 1) (fuel : Nat) (cs : List Value) (y : DataW H × List MemPlace) (h : DataW.trod enc P w 0 (fun _ => true) true fuel e cs = some y) :
    ∃ x : Int × Int, cs = [.int .i64 x.1, .int .i64 x.2] := by
  have hl := struct_len he h
  rw [hs] at hl
  obtain ⟨k0, z0, t0⟩ := field_one he h 0 f0 rfl 1 (by rw [h0, hc])
  obtain ⟨k1, z1, t1⟩ := field_one he h 1 f1 rfl 1 (by rw [h1, hc])
  rw [h0, o0] at t0
  rw [h1, o1] at t1
  obtain ⟨a, ha, _⟩ := DataW.trod_int hi t0
  obtain ⟨b, hb, _⟩ := DataW.trod_int hi t1
  match cs, hl with
  | [u, v], _ =>
    simp at ha hb
    exact ⟨(a, b), by rw [ha, hb]⟩
theorem elem_int {ti : Nat} (hi : P.underlying ti = some (.int .i64)) (fuel : Nat) (cs : List Value) (y : DataW H × List MemPlace) (h : DataW.trod enc P w 0 (fun _ => true) true fuel ti cs = some y) : ∃ x : Int, cs = [.int .i64 x] := by
  obtain ⟨n, hn, _⟩ := DataW.trod_int hi h
  exact ⟨n, hn⟩
/-- A struct of two integers, by value. -/
theorem val_pair {r : Reach} {b0 : Nat} {t ti : Nat} {f0 f1 : Field} {v : Value} {d : DataW H} {p : List MemPlace} (he : P.underlying t = some (.struct #[f0, f1])) (hs : P.cellsOf t = 2) (h0 : f0.type = ti) (h1 : f1.type = ti) (o0 : f0.offset = 0) (o1 : f1.offset = 1)
    (hi : P.underlying ti = some (.int .i64)) (hc : P.cellsOf ti = 1) (hv : Value.okWide P w r b0 t v) (h : DataW.Trod enc P w 0 (fun _ => true) true t v d p) : ∃ x y : Int, v = .agg #[.int .i64 x, .int .i64 y] := by
  obtain ⟨cs, rfl, hsz⟩ := okWide_struct he hv
  obtain ⟨fuel, hf⟩ := h
  obtain ⟨x, hx⟩ := elem_pair he hs h0 h1 o0 o1 hi hc fuel _ _ hf
  refine ⟨x.1, x.2, ?_⟩
  simp [Value.cells] at hx
  obtain ⟨l⟩ := cs
  simp at hx
  rw [hx]
/-- A struct of two strings, cell by cell. -/
theorem elem_label {e ts : Nat} {f0 f1 : Field} (he : P.underlying e = some (.struct #[f0, f1])) (hs : P.cellsOf e = 2) (h0 : f0.type = ts) (h1 : f1.type = ts) (o0 : f0.offset = 0) (o1 : f1.offset = 1)
    (hi : P.underlying ts = some .string) (hc : P.cellsOf ts = 1) (fuel : Nat) (cs : List Value) (y : DataW H × List MemPlace) (h : DataW.trod enc P w 0 (fun _ => true) true fuel e cs = some y) :
    ∃ x : ByteArray × ByteArray, cs = [.string x.1, .string x.2] ∧ x.1.size ≤ 9223372036854775807 ∧ x.2.size ≤ 9223372036854775807 := by
  have hl := struct_len he h
  rw [hs] at hl
  obtain ⟨k0, z0, t0⟩ := field_one he h 0 f0 rfl 1 (by rw [h0, hc])
  obtain ⟨k1, z1, t1⟩ := field_one he h 1 f1 rfl 1 (by rw [h1, hc])
  rw [h0, o0] at t0
  rw [h1, o1] at t1
  obtain ⟨a, ha, _, sa⟩ := DataW.trod_string hi t0
  obtain ⟨b, hb, _, sb⟩ := DataW.trod_string hi t1
  unfold maxLen at sa sb
  match cs, hl with
  | [u, v], _ =>
    simp at ha hb
    exact ⟨(a, b), by rw [ha, hb], by omega, by omega⟩
/-- A struct of two strings, by value. -/
theorem val_label {r : Reach} {b0 : Nat} {t ts : Nat} {f0 f1 : Field} {v : Value} {d : DataW H} {p : List MemPlace} (he : P.underlying t = some (.struct #[f0, f1])) (hs : P.cellsOf t = 2) (h0 : f0.type = ts) (h1 : f1.type = ts) (o0 : f0.offset = 0) (o1 : f1.offset = 1)
    (hi : P.underlying ts = some .string) (hc : P.cellsOf ts = 1) (hv : Value.okWide P w r b0 t v) (h : DataW.Trod enc P w 0 (fun _ => true) true t v d p) : ∃ x y : ByteArray, v = .agg #[.string x, .string y] ∧ x.size ≤ 9223372036854775807 ∧ y.size ≤ 9223372036854775807 := by
  obtain ⟨cs, rfl, hsz⟩ := okWide_struct he hv
  obtain ⟨fuel, hf⟩ := h
  obtain ⟨x, hx, s1, s2⟩ := elem_label he hs h0 h1 o0 o1 hi hc fuel _ _ hf
  refine ⟨x.1, x.2, ?_, s1, s2⟩
  simp [Value.cells] at hx
  obtain ⟨l⟩ := cs
  simp at hx
  rw [hx]
theorem ints_flat (l : List Int) : (l.flatMap fun x => [Value.int .i64 x]) = ints l := by induction l <;> simp_all [ints]
end
end Go.Proofs.Ytbpeceejboojoaa
