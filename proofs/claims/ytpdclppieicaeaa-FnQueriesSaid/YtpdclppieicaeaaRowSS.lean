/- Slices of slices of labels: how they read, how a call owns them. No program in sight. -/
import Derived.Test.YtpdclppieicaeaaLabs
namespace Go.Proofs.Ytpdclppieicaeaa
set_option linter.unusedVariables false
set_option linter.unusedSimpArgs false
open Go.RowKit

/-- A slice's head: its address, its length, its capacity. -/
abbrev Hd := Option Addr × Nat × Nat
def hdV (h : Hd) : Value := .slice h.1 h.2.1 h.2.2
def hds (hs : List Hd) : List Value := hs.map hdV
theorem hds_len (hs : List Hd) : (hds hs).length = hs.length := List.length_map ..
theorem hds_app (a b : List Hd) : hds (a ++ b) = hds a ++ hds b := List.map_append
theorem hds_get {hs : List Hd} {k : Nat} {h : Hd} (e : hs[k]? = some h) : (hds hs)[k]? = some (hdV h) := by simp [hds, e]
theorem hds_one (hs : List Hd) : ∀ u ∈ hds hs, u.oneCell' = true := by
  intro u hu
  obtain ⟨h, _, rfl⟩ := List.mem_map.1 hu
  rfl
/-- The slice with address A and n elements reads as a list of lists of labels, in blocks below B. -/
def RdSS (w : World) (B : Nat) (A : Option Addr) (n : Nat) (ls : List (List Lab)) : Prop :=
  ∃ hs : List Hd, Rd w B 1 A n (hds hs) ∧ ls.length = n ∧ ∀ (k : Nat) (h : Hd) (l : List Lab), hs[k]? = some h → ls[k]? = some l → Rd w B 2 h.1 h.2.1 (lbls l) ∧ h.2.1 ≤ 9223372036854775807
section
variable {w w' : World} {B B' n : Nat} {A : Option Addr} {ls : List (List Lab)}
theorem RdSS.keep (h : RdSS w B A n ls) (hk : ∀ b off, b < B → w'.cell? ⟨b, off, none⟩ = w.cell? ⟨b, off, none⟩) : RdSS w' B A n ls := by
  obtain ⟨hs, h1, h2, h3⟩ := h
  exact ⟨hs, h1.keep hk, h2, fun k h l e e' => ⟨(h3 k h l e e').1.keep hk, (h3 k h l e e').2⟩⟩
theorem RdSS.more (h : RdSS w B A n ls) (hB : B ≤ B') : RdSS w B' A n ls := by
  obtain ⟨hs, h1, h2, h3⟩ := h
  exact ⟨hs, h1.more hB, h2, fun k h l e e' => ⟨(h3 k h l e e').1.more hB, (h3 k h l e e').2⟩⟩
theorem RdSS.below (h : RdSS w B A n ls) (hb : Below B w w') : RdSS w' B A n ls := h.keep fun _ _ hp => hb.cell hp
theorem RdSS.keepC {a b : Nat} (h : RdSS w B A n ls) (hc : Ch a b w w') (hB : B ≤ w.heap.size) (hab : B ≤ a ∨ b = 0) : RdSS w' B A n ls := h.below (hc.below hB hab)
theorem RdSS.drewN (h : RdSS w B A n ls) (k : Nat) : RdSS (w.drewN k) B A n ls := h
theorem RdSS.len (h : RdSS w B A n ls) : ls.length = n := by
  obtain ⟨hs, h1, h2, h3⟩ := h
  exact h2
/-- Element k of such a slice. -/
theorem RdSS.at_ {k : Nat} (h : RdSS w B A n ls) (hk : k < n) : ∃ b off A' n' c' l, A = some ⟨b, off, none⟩ ∧ b < B ∧ ls[k]? = some l ∧ w.cell? ⟨b, off + k, none⟩ = some (.slice A' n' c') ∧ Rd w B 2 A' n' (lbls l) ∧ n' ≤ 9223372036854775807 := by
  obtain ⟨hs, h1, h2, h3⟩ := h
  obtain ⟨b, off, e, hb, hc⟩ := h1.2 (by omega)
  have hl : k < hs.length := by have := h1.1; rw [hds_len] at this; omega
  have hg : hs[k]? = some hs[k] := List.getElem?_eq_getElem hl
  have hg2 : ls[k]? = some ls[k] := List.getElem?_eq_getElem (by omega)
  exact ⟨b, off, hs[k].1, hs[k].2.1, hs[k].2.2, ls[k], e, hb, hg2, hc k _ (hds_get hg), h3 k _ _ hg hg2⟩
theorem RdSS.nil_ : RdSS w B A 0 [] := ⟨[], Rd.nil_, rfl, fun k h l e => by simp at e⟩
end
/-- Rows of labels, one behind the other: row k in the blocks s k .. s (k + 1) - 1. -/
def RowsAt (tl : Nat) (s : Nat → Nat) (hs : List Hd) (ls : List (List Lab)) (from_ : Nat) (w : World) : Prop :=
  ∀ (k : Nat) (h : Hd) (l : List Lab), from_ ≤ k → hs[k]? = some h → ls[k]? = some l → Row tl 2 (s k) (s (k + 1)) h.1 h.2.1 h.2.2 (lbls l) w
theorem steps_mono {s : Nat → Nat} (h : ∀ j, s j ≤ s (j + 1)) : ∀ {a b : Nat}, a ≤ b → s a ≤ s b := by
  intro a b hab
  induction hab with
  | refl => exact Nat.le_refl _
  | step _ ih => exact Nat.le_trans ih (h _)
/-- A slice of slices of labels that a call owns, in the blocks lo .. hi - 1. -/
def RowSS (ts tl lo hi : Nat) (A : Option Addr) (n c : Nat) (ls : List (List Lab)) (w : World) : Prop :=
  ∃ (hs : List Hd) (s : Nat → Nat), Row ts 1 lo (s 0) A n c (hds hs) w ∧ ls.length = n ∧ hs.length = n ∧ lo ≤ s 0 ∧ (∀ j, s j ≤ s (j + 1)) ∧ s n = hi ∧ hi ≤ w.heap.size ∧ RowsAt tl s hs ls 0 w
section
variable {ts tl lo hi n c : Nat} {A : Option Addr} {ls : List (List Lab)} {w w' : World}
theorem RowsAt.keep {s : Nat → Nat} {hs : List Hd} {k a b : Nat} (h : RowsAt tl s hs ls k w) (hs0 : ∀ j, s j ≤ s (j + 1)) (hn : hs.length = n) (hc : Ch a b w w') (hab : s n ≤ a ∨ b ≤ s k) : RowsAt tl s hs ls k w' := by
  intro j h' l hj e e'
  refine (h j h' l hj e e').keep hc ?_
  have h1 : j < n := by have := (List.getElem?_eq_some_iff.1 e).1; omega
  have h2 : s (j + 1) ≤ s n := steps_mono hs0 (by omega)
  have h3 : s k ≤ s j := steps_mono hs0 hj
  omega
theorem RowSS.keep {a b : Nat} (h : RowSS ts tl lo hi A n c ls w) (hc : Ch a b w w') (hab : hi ≤ a ∨ b ≤ lo) : RowSS ts tl lo hi A n c ls w' := by
  obtain ⟨hs, s, h1, h2, h3, h4, h5, h6, h7, h8⟩ := h
  have hm : s 0 ≤ s n := steps_mono h5 (by omega)
  exact ⟨hs, s, h1.keep hc (by omega), h2, h3, h4, h5, h6, Nat.le_trans h7 hc.size, h8.keep h5 h3 hc (by omega)⟩
theorem RowSS.rd (h : RowSS ts tl lo hi A n c ls w) (hsm : ∀ l ∈ ls, l.length ≤ 9223372036854775807) : RdSS w hi A n ls := by
  obtain ⟨hs, s, h1, h2, h3, h4, h5, h6, h7, h8⟩ := h
  have hm : s 0 ≤ s n := steps_mono h5 (by omega)
  refine ⟨hs, h1.rd.more (by omega), h2, fun k h' l e e' => ?_⟩
  have hk : k < n := by have := (List.getElem?_eq_some_iff.1 e).1; omega
  have hr := h8 k h' l (Nat.zero_le _) e e'
  have hkn : s (k + 1) ≤ s n := steps_mono h5 (by omega)
  refine ⟨hr.rd.more (by omega), ?_⟩
  have hl := hr.len
  have := hsm l (List.mem_of_getElem? e')
  have e2 : (lbls l).length = l.length * 2 := lbls_len l
  omega
end
def lblSS (ls : List (List Lab)) (k : Nat) : Nat := ((ls.take k).map List.length).sum
theorem lblSS_succ {ls : List (List Lab)} {k : Nat} {l : List Lab} (h : ls[k]? = some l) : lblSS ls (k + 1) = lblSS ls k + l.length := by
  unfold lblSS
  rw [take_snoc' ls k l h, List.map_append, List.sum_append]
  simp
theorem sum_take_le (L : List Nat) : ∀ k, (L.take k).sum ≤ L.sum := by
  induction L with
  | nil => simp
  | cons x L ih =>
    intro k
    cases k with
    | zero => simp
    | succ k => simp only [List.take_succ_cons, List.sum_cons]; have := ih k; omega
theorem lblSS_le (ls : List (List Lab)) (k : Nat) : lblSS ls k ≤ (ls.map List.length).sum := by
  unfold lblSS
  rw [List.map_take]
  exact sum_take_le _ _
/-- A slice of slices under construction: the first k elements are laid. -/
def BuildSS (ts tl lo g n k : Nat) (Z : List Value) (ls : List (List Lab)) (w : World) : Prop :=
  ∃ (hs : List Hd) (s : Nat → Nat), hs.length = k ∧ w.ownsRow lo ts 1 (.slice (some ⟨g, 0, none⟩) n n) n (hds hs ++ Z.drop k) ∧ lo ≤ g ∧ g < s 0 ∧ (∀ j, s j ≤ s (j + 1)) ∧ s k = w.heap.size ∧ RowsAt tl s hs ls 0 w
section
variable {ts tl lo g n k : Nat} {Z : List Value} {ls : List (List Lab)} {w w2 : World}
theorem BuildSS.start (h : w.ownsRow lo ts 1 (.slice (some ⟨g, 0, none⟩) n n) n Z) (hg : lo ≤ g) (hl : g < w.heap.size) : BuildSS ts tl lo g n 0 Z ls w :=
  ⟨[], fun _ => w.heap.size, rfl, by simpa [hds] using h, hg, hl, fun _ => Nat.le_refl _, rfl, fun k h l _ e => by simp at e⟩
theorem BuildSS.step {A' : Option Addr} {n' c' : Nat} {l : List Lab} (h : BuildSS ts tl lo g n k Z ls w) (hb : Below w.heap.size w w2) (ho : w2.ownsRow w.heap.size tl 2 (.slice A' n' c') n' (lbls l)) (hl : ls[k]? = some l) (hk : k < n) (hZ : Z.length = n) :
    BuildSS ts tl lo g n (k + 1) Z ls (w2.setCell ⟨g, k, none⟩ (.slice A' n' c')) := by
  obtain ⟨hs, s, h1, h2, h3, h4, h5, h6, h7⟩ := h
  have hm : s 0 ≤ s k := steps_mono h5 (by omega)
  have hsz := hb.size
  obtain ⟨q1, q2⟩ := World.ownsRow.stored (own_below h2 hb (Nat.le_refl _)) k (.slice A' n' c')
  have hC : Ch g (g + 1) w2 (w2.setCell ⟨g, k, none⟩ (.slice A' n' c')) := Ch.of_grown q2 fun g' hg' => by injection hg' with e; omega
  have hC2 : Ch g (g + 1) w (w2.setCell ⟨g, k, none⟩ (.slice A' n' c')) := (Ch.of_below hb).zero.trans hC
  refine ⟨hs ++ [(A', n', c')], fun j => if j ≤ k then s j else w2.heap.size, by simp [h1], ?_, h3, by simpa using h4, fun j => ?_, by simp; intro h; omega, fun j h' l' _ e e' => ?_⟩
  · have e : (hds hs ++ Z.drop k).set k (.slice A' n' c') = hds (hs ++ [(A', n', c')]) ++ Z.drop (k + 1) := by
      rw [List.set_append_right _ _ (by rw [hds_len, h1]; exact Nat.le_refl _), hds_len, h1, Nat.sub_self, List.drop_eq_getElem_cons (by omega), List.set_cons_zero, hds_app, List.append_assoc]
      rfl
    rw [← e]
    exact q1
  · dsimp only
    by_cases e1 : j + 1 ≤ k
    · rw [if_pos (by omega), if_pos e1]; exact h5 j
    · by_cases e2 : j ≤ k
      · obtain rfl : j = k := by omega
        rw [if_pos e2, if_neg e1, h6]; exact hsz
      · rw [if_neg e2, if_neg (by omega)]; exact Nat.le_refl _
  · dsimp only
    by_cases e1 : j < k
    · rw [List.getElem?_append_left (by omega)] at e
      have hr := h7 j h' l' (Nat.zero_le _) e e'
      have hm2 : s 0 ≤ s j := steps_mono h5 (by omega)
      rw [if_pos (by omega), if_pos (by omega)]
      exact hr.keep hC2 (.inr (by omega))
    · have e2 : j = k := by
        have := (List.getElem?_eq_some_iff.1 e).1
        simp [h1] at this
        omega
      subst e2
      rw [List.getElem?_append_right (by omega), h1, Nat.sub_self] at e
      simp at e
      obtain rfl := e
      obtain rfl : l = l' := by rw [hl] at e'; injection e'
      rw [if_pos (Nat.le_refl _), if_neg (by omega), h6]
      exact (Row.of_own ho).keep hC (.inr (by omega))
theorem BuildSS.cell (h : BuildSS ts tl lo g n k Z ls w) (hb : Below w.heap.size w w2) (hk : k < n) (hZ : Z.length = n) : ∃ u, w2.cell? ⟨g, k, none⟩ = some u := by
  obtain ⟨hs, s, h1, h2, h3, h4, h5, h6, h7⟩ := h
  rw [World.ownsRow.cellAt (own_below h2 hb (Nat.le_refl _)) k (by omega)]
  exact ⟨_, List.getElem?_eq_getElem (by rw [List.length_append, hds_len, h1, List.length_drop]; omega)⟩
theorem BuildSS.frz (h : BuildSS ts tl lo g n k Z ls w) (hb : Below w.heap.size w w2) : w2.frozen? ⟨g, k, none⟩ = false := by
  obtain ⟨hs, s, h1, h2, h3, h4, h5, h6, h7⟩ := h
  exact World.ownsRow.frozenAt (own_below h2 hb (Nat.le_refl _)) k
theorem BuildSS.done (h : BuildSS ts tl lo g n n Z ls w) (hZ : Z.length = n) (hl : ls.length = n) : RowSS ts tl lo w.heap.size (some ⟨g, 0, none⟩) n n ls w := by
  obtain ⟨hs, s, h1, h2, h3, h4, h5, h6, h7⟩ := h
  have hm : s 0 ≤ s n := steps_mono h5 (by omega)
  rw [List.drop_of_length_le (by omega), List.append_nil] at h2
  exact ⟨hs, s, ⟨h2, by omega, fun g' hg' => by simp [Value.ownBlock] at hg'; omega⟩, hl, h1, by omega, h5, h6, Nat.le_refl _, h7⟩
end
end Go.Proofs.Ytpdclppieicaeaa
