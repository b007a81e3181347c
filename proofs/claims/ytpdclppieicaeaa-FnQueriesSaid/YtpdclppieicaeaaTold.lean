/- Rows of numbers told one after the other, held in a slice of slices. No program in sight. -/
import Derived.Test.YtpdclppieicaeaaRowSS
namespace Go.Proofs.Ytpdclppieicaeaa
set_option linter.unusedVariables false
set_option linter.unusedSimpArgs false
open Go.RowKit

/-- A slice of integers that begins where its block does. -/
def R0 (w : World) (h : Hd) (z : List Int) : Prop := Rd w w.heap.size 1 h.1 h.2.1 (ints z) ∧ (0 < h.2.1 → ∃ b, h.1 = some ⟨b, 0, none⟩)
section
variable {w w' : World} {h : Hd} {z : List Int}
theorem R0.of_own {base T n c : Nat} {A : Option Addr} (ho : w.ownsRow base T 1 (.slice A n c) n (ints z)) : R0 w (A, n, c) z := by
  refine ⟨Rd.of_own ho, fun hn => ?_⟩
  obtain ⟨g, cap, hv, _⟩ := own_form ho hn
  injection hv with e
  exact ⟨g, e⟩
theorem R0.first (hr : R0 w h z) (hn : 0 < h.2.1) : ∃ b x, h.1 = some ⟨b, 0, none⟩ ∧ b < w.heap.size ∧ w.cell? ⟨b, 0, none⟩ = some (.int .i64 x) := by
  obtain ⟨b0, hb0⟩ := hr.2 hn
  obtain ⟨b, off, e, hb, hc⟩ := hr.1.2 hn
  rw [hb0] at e
  injection e with e
  injection e with e1 e2
  subst e1; subst e2
  have hl : 0 < z.length := by have := hr.1.int_len; omega
  refine ⟨b0, z[0], hb0, hb, ?_⟩
  have := hc 0 (.int .i64 z[0]) (by simp [ints, List.getElem?_eq_getElem hl])
  simpa using this
theorem R0.keep (hr : R0 w h z) (hs : w.heap.size ≤ w'.heap.size) (hk : ∀ b x, 0 < h.2.1 → h.1 = some ⟨b, 0, none⟩ → b < w.heap.size → w.cell? ⟨b, 0, none⟩ = some (.int .i64 x) → w'.heap[b]? = w.heap[b]?) : R0 w' h z := by
  refine ⟨⟨hr.1.1, fun hn => ?_⟩, hr.2⟩
  obtain ⟨b0, x, hb0, hlt, hx⟩ := hr.first hn
  obtain ⟨b, off, e, hb, hc⟩ := hr.1.2 hn
  have e0 := e
  rw [hb0] at e
  injection e with e
  injection e with e1 e2
  subst e1; subst e2
  have eb := hk b0 x hn hb0 hlt hx
  refine ⟨b0, 0, hb0, by omega, fun j u hu => ?_⟩
  have e1 : ∀ j, w'.cell? ⟨b0, j, none⟩ = w.cell? ⟨b0, j, none⟩ := fun j => by simp only [World.cell?, eb]
  rw [e1]
  exact hc j u hu
theorem R0.below (hr : R0 w h z) (hb : Below w.heap.size w w') : R0 w' h z := hr.keep hb.size fun b x _ _ hlt _ => hb.block b hlt
/-- What such a slice reads as, in blocks below B. -/
theorem R0.rd (hr : R0 w h z) : Rd w w.heap.size 1 h.1 h.2.1 (ints z) := hr.1
end
/-- The rows told so far, in a slice that the call owns. -/
def Told (T base : Nat) (v : Value) (k : Nat) (zss : List (List Int)) (w : World) : Prop :=
  ∃ hs : List Hd, hs.length = k ∧ zss.length = k ∧ w.ownsRow base T 1 v k (hds hs) ∧ (k = 0 → v = .slice none 0 0) ∧ ∀ (j : Nat) (h : Hd) (z : List Int), hs[j]? = some h → zss[j]? = some z → R0 w h z
section
variable {T base k : Nat} {v : Value} {zss : List (List Int)} {w w' : World}
theorem Told.start : Told T base (.slice none 0 0) 0 [] w := ⟨[], rfl, rfl, World.ownsRow_nil _ _ _ _, fun _ => rfl, fun j h z e => by simp at e⟩
theorem Told.below (h : Told T base v k zss w) (hb : Below w.heap.size w w') : Told T base v k zss w' := by
  obtain ⟨hs, h1, h2, h3, h4, h5⟩ := h
  exact ⟨hs, h1, h2, own_below h3 hb (Nat.le_refl _), h4, fun j h z e e' => (h5 j h z e e').below hb⟩
theorem own_cellS {n : Nat} {A : Option Addr} {c : Nat} {xs : List Value} (h : w.ownsRow base T 1 (.slice A n c) n xs) {j : Nat} {u : Value} (hu : xs[j]? = some u) : ∃ b, A = some ⟨b, 0, none⟩ ∧ base ≤ b ∧ b < w.heap.size ∧ w.cell? ⟨b, j, none⟩ = some u := by
  have hn : 0 < n := by have := h.1; have := (List.getElem?_eq_some_iff.1 hu).1; omega
  obtain ⟨g, cap, hv, hb, hlt, _⟩ := own_form h hn
  injection hv with e
  exact ⟨g, e, hb, hlt, by have := h.cells (g := g) (by rw [e]; rfl) j u hu; rwa [own_add, Nat.zero_add] at this⟩
theorem Told.at_ {At : Option Addr} {ct j : Nat} (h : Told T base (.slice At k ct) k zss w) (hj : j < k) :
    ∃ b A n c z, At = some ⟨b, 0, none⟩ ∧ base ≤ b ∧ b < w.heap.size ∧ zss[j]? = some z ∧ w.cell? ⟨b, j, none⟩ = some (.slice A n c) ∧ R0 w (A, n, c) z := by
  obtain ⟨hs, h1, h2, h3, h4, h5⟩ := h
  have e1 : hs[j]? = some hs[j] := List.getElem?_eq_getElem (by omega)
  have e2 : zss[j]? = some zss[j] := List.getElem?_eq_getElem (by omega)
  obtain ⟨b, hA, hb, hlt, hc⟩ := own_cellS h3 (hds_get e1)
  exact ⟨b, hs[j].1, hs[j].2.1, hs[j].2.2, zss[j], hA, hb, hlt, e2, hc, h5 j _ _ e1 e2⟩
/-- A row of integers survives what is done to a slice of slices. -/
theorem R0.grown {h : Hd} {z : List Int} {hs : List Hd} (hr : R0 w h z) (ho : w.ownsRow base T 1 v k (hds hs)) (hl : hs.length = k) (h0 : k = 0 → v = .slice none 0 0) (hg : w.grownBy w' v.ownBlock) : R0 w' h z := by
  refine hr.keep hg.size fun b x _ _ hlt hx => hg.block b hlt fun e => ?_
  by_cases hk : k = 0
  · rw [h0 hk] at e; simp [Value.ownBlock] at e
  · have e1 : hs[0]? = some hs[0] := List.getElem?_eq_getElem (by omega)
    have := ho.cells e.symm 0 _ (hds_get e1)
    rw [own_add, Nat.zero_add, hx] at this
    simp [hdV] at this
theorem Told.app {hs : List Hd} {v' : Value} {h : Hd} {z : List Int} (h1 : hs.length = k) (h2 : zss.length = k) (ho : w.ownsRow base T 1 v k (hds hs)) (h0 : k = 0 → v = .slice none 0 0) (h5 : ∀ (j : Nat) (h : Hd) (z : List Int), hs[j]? = some h → zss[j]? = some z → R0 w h z)
    (hz : R0 w h z) (ho' : w'.ownsRow base T 1 v' (k + 1) (hds hs ++ [hdV h])) (hg : w.grownBy w' v.ownBlock) : Told T base v' (k + 1) (zss ++ [z]) w' := by
  refine ⟨hs ++ [h], by simp [h1], by simp [h2], by rw [hds_app]; exact ho', fun e => absurd e (by omega), fun j h' z' e e' => ?_⟩
  by_cases hj : j < k
  · rw [List.getElem?_append_left (by omega)] at e e'
    exact (h5 j h' z' e e').grown ho h1 h0 hg
  · have hjk : j = k := by have := (List.getElem?_eq_some_iff.1 e).1; simp [h1] at this; omega
    subst hjk
    rw [List.getElem?_append_right (by omega), h1, Nat.sub_self] at e
    rw [List.getElem?_append_right (by omega), h2, Nat.sub_self] at e'
    simp at e e'
    subst e; subst e'
    exact hz.grown ho h1 h0 hg
/-- The rows told so far, in a slice made for all of them. -/
def ToldM (T base g n : Nat) (k : Nat) (Z : List Value) (zss : List (List Int)) (w : World) : Prop :=
  ∃ hs : List Hd, hs.length = k ∧ zss.length = k ∧ w.ownsRow base T 1 (.slice (some ⟨g, 0, none⟩) n n) n (hds hs ++ Z.drop k) ∧ base ≤ g ∧ g < w.heap.size ∧ ∀ (j : Nat) (h : Hd) (z : List Int), hs[j]? = some h → zss[j]? = some z → R0 w h z ∧ (0 < h.2.1 → h.1 ≠ some ⟨g, 0, none⟩)
theorem ToldM.start {g n : Nat} {Z : List Value} (h : w.ownsRow base T 1 (.slice (some ⟨g, 0, none⟩) n n) n Z) (hb : base ≤ g) (hl : g < w.heap.size) : ToldM T base g n 0 Z [] w :=
  ⟨[], rfl, rfl, by simpa [hds] using h, hb, hl, fun j h z e => by simp at e⟩
theorem ToldM.below {g n : Nat} {Z : List Value} (h : ToldM T base g n k Z zss w) (hb : Below w.heap.size w w') : ToldM T base g n k Z zss w' := by
  obtain ⟨hs, h1, h2, h3, h4, h6, h5⟩ := h
  exact ⟨hs, h1, h2, own_below h3 hb (Nat.le_refl _), h4, Nat.lt_of_lt_of_le h6 hb.size, fun j h z e e' => ⟨(h5 j h z e e').1.below hb, (h5 j h z e e').2⟩⟩
theorem ToldM.at_ {g n j : Nat} {Z : List Value} (h : ToldM T base g n k Z zss w) (hj : j < k) :
    ∃ A n' c z, zss[j]? = some z ∧ w.cell? ⟨g, j, none⟩ = some (.slice A n' c) ∧ R0 w (A, n', c) z := by
  obtain ⟨hs, h1, h2, h3, h4, h6, h5⟩ := h
  have e1 : hs[j]? = some hs[j] := List.getElem?_eq_getElem (by omega)
  have e2 : zss[j]? = some zss[j] := List.getElem?_eq_getElem (by omega)
  obtain ⟨b, hA, hb, hlt, hc⟩ := own_cellS h3 (j := j) (u := hdV hs[j]) (by rw [List.getElem?_append_left (by rw [hds_len]; omega)]; exact hds_get e1)
  injection hA with hA
  injection hA with hA
  subst hA
  exact ⟨hs[j].1, hs[j].2.1, hs[j].2.2, zss[j], e2, hc, (h5 j _ _ e1 e2).1⟩
theorem ToldM.slot {g n : Nat} {Z : List Value} (h : ToldM T base g n k Z zss w) (hk : k < n) (hZ : Z.length = n) : (∃ u, w.cell? ⟨g, k, none⟩ = some u) ∧ w.frozen? ⟨g, k, none⟩ = false := by
  obtain ⟨hs, h1, h2, h3, h4, h6, h5⟩ := h
  refine ⟨?_, World.ownsRow.frozenAt h3 k⟩
  rw [World.ownsRow.cellAt h3 k (by omega)]
  exact ⟨_, List.getElem?_eq_getElem (by rw [List.length_append, hds_len, h1, List.length_drop]; omega)⟩
theorem ToldM.put {g n : Nat} {Z : List Value} {h : Hd} {z : List Int} (ht : ToldM T base g n k Z zss w) (hk : k < n) (hZ : Z.length = n) (hz : R0 w h z) (hne : 0 < h.2.1 → h.1 ≠ some ⟨g, 0, none⟩) :
    ToldM T base g n (k + 1) Z (zss ++ [z]) (w.setCell ⟨g, k, none⟩ (hdV h)) := by
  obtain ⟨hs, h1, h2, h3, h4, h6, h5⟩ := ht
  obtain ⟨q1, q2⟩ := World.ownsRow.stored h3 k (hdV h)
  have hkeep : ∀ (h' : Hd) (z' : List Int), R0 w h' z' → (0 < h'.2.1 → h'.1 ≠ some ⟨g, 0, none⟩) → R0 (w.setCell ⟨g, k, none⟩ (hdV h)) h' z' := fun h' z' hr hn => hr.keep q2.size fun b x hb0 hb hlt hx => q2.block b hlt fun e => by
    have e : b = g := by simpa [Value.ownBlock] using e
    subst e
    exact hn hb0 hb
  refine ⟨hs ++ [h], by simp [h1], by simp [h2], ?_, h4, by rw [World.size_setCell]; exact h6, fun j h' z' e e' => ?_⟩
  · have e : (hds hs ++ Z.drop k).set k (hdV h) = hds (hs ++ [h]) ++ Z.drop (k + 1) := by
      rw [List.set_append_right _ _ (by rw [hds_len, h1]; exact Nat.le_refl _), hds_len, h1, Nat.sub_self, List.drop_eq_getElem_cons (by omega), List.set_cons_zero, hds_app, List.append_assoc]
      rfl
    rw [← e]
    exact q1
  · by_cases hj : j < k
    · rw [List.getElem?_append_left (by omega)] at e e'
      exact ⟨hkeep h' z' (h5 j h' z' e e').1 (h5 j h' z' e e').2, (h5 j h' z' e e').2⟩
    · have hjk : j = k := by have := (List.getElem?_eq_some_iff.1 e).1; simp [h1] at this; omega
      subst hjk
      rw [List.getElem?_append_right (by omega), h1, Nat.sub_self] at e
      rw [List.getElem?_append_right (by omega), h2, Nat.sub_self] at e'
      simp at e e'
      subst e; subst e'
      exact ⟨hkeep h z hz hne, hne⟩
end
end Go.Proofs.Ytpdclppieicaeaa
