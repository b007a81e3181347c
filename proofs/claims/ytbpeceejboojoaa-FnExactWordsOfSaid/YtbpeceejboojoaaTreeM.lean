/- Trees of patterns in memory. No program in sight. -/
import Derived.Test.YtbpeceejboojoaaRowsW
import Derived.Test.YtbpeceejboojoaaPrt
namespace Go.Proofs.Ytbpeceejboojoaa
set_option linter.unusedVariables false
set_option linter.unusedSimpArgs false
open Go.RowKit

/-- A node's four cells, in block b. -/
structure Nd (w : World) (b : Nat) (k : Int) (s : ByteArray) (p q : Option Addr) : Prop where
  c0 : w.cell? ⟨b, 0, none⟩ = some (.int .i64 k)
  c1 : w.cell? ⟨b, 1, none⟩ = some (.string s)
  c2 : w.cell? ⟨b, 2, none⟩ = some (.pointer p)
  c3 : w.cell? ⟨b, 3, none⟩ = some (.pointer q)
/-- The tree t lies at block b; all its blocks lie from lo to hi - 1. -/
def TAt (w : World) (lo hi : Nat) : Tr → Nat → Prop
  | .none, b => lo ≤ b ∧ b < hi ∧ Nd w b 1 ⟨#[]⟩ none none
  | .empty, b => lo ≤ b ∧ b < hi ∧ Nd w b 2 ⟨#[]⟩ none none
  | .letter c, b => lo ≤ b ∧ b < hi ∧ Nd w b 3 ⟨#[c]⟩ none none
  | .any, b => lo ≤ b ∧ b < hi ∧ Nd w b 4 ⟨#[]⟩ none none
  | .seq x y, b => lo ≤ b ∧ b < hi ∧ ∃ p q, Nd w b 5 ⟨#[]⟩ (some ⟨p, 0, none⟩) (some ⟨q, 0, none⟩) ∧ TAt w lo hi x p ∧ TAt w lo hi y q
  | .alt x y, b => lo ≤ b ∧ b < hi ∧ ∃ p q, Nd w b 6 ⟨#[]⟩ (some ⟨p, 0, none⟩) (some ⟨q, 0, none⟩) ∧ TAt w lo hi x p ∧ TAt w lo hi y q
  | .star x, b => lo ≤ b ∧ b < hi ∧ ∃ p, Nd w b 7 ⟨#[]⟩ (some ⟨p, 0, none⟩) none ∧ TAt w lo hi x p
  | .not_ x, b => lo ≤ b ∧ b < hi ∧ ∃ p, Nd w b 8 ⟨#[]⟩ (some ⟨p, 0, none⟩) none ∧ TAt w lo hi x p
theorem Nd.keep {w w' : World} {b : Nat} {k : Int} {s : ByteArray} {p q : Option Addr} (h : Nd w b k s p q) (he : w'.heap[b]? = w.heap[b]?) : Nd w' b k s p q := by
  have e1 : ∀ j, w'.cell? ⟨b, j, none⟩ = w.cell? ⟨b, j, none⟩ := fun j => by simp only [World.cell?, he]
  exact ⟨(e1 0).trans h.c0, (e1 1).trans h.c1, (e1 2).trans h.c2, (e1 3).trans h.c3⟩
theorem TAt.keep {w w' : World} {lo hi lo' hi' : Nat} (hl : lo' ≤ lo) (hh : hi ≤ hi') (he : ∀ b, lo ≤ b → b < hi → w'.heap[b]? = w.heap[b]?) : ∀ {t : Tr} {b : Nat}, TAt w lo hi t b → TAt w' lo' hi' t b := by
  intro t
  induction t with
  | none => rintro b ⟨h1, h2, h3⟩; exact ⟨by omega, by omega, h3.keep (he b h1 h2)⟩
  | empty => rintro b ⟨h1, h2, h3⟩; exact ⟨by omega, by omega, h3.keep (he b h1 h2)⟩
  | any => rintro b ⟨h1, h2, h3⟩; exact ⟨by omega, by omega, h3.keep (he b h1 h2)⟩
  | letter c => rintro b ⟨h1, h2, h3⟩; exact ⟨by omega, by omega, h3.keep (he b h1 h2)⟩
  | seq x y ihx ihy => rintro b ⟨h1, h2, p, q, h3, hx, hy⟩; exact ⟨by omega, by omega, p, q, h3.keep (he b h1 h2), ihx hx, ihy hy⟩
  | alt x y ihx ihy => rintro b ⟨h1, h2, p, q, h3, hx, hy⟩; exact ⟨by omega, by omega, p, q, h3.keep (he b h1 h2), ihx hx, ihy hy⟩
  | star x ih => rintro b ⟨h1, h2, p, h3, hx⟩; exact ⟨by omega, by omega, p, h3.keep (he b h1 h2), ih hx⟩
  | not_ x ih => rintro b ⟨h1, h2, p, h3, hx⟩; exact ⟨by omega, by omega, p, h3.keep (he b h1 h2), ih hx⟩
theorem TAt.bel {w w' : World} {lo hi B : Nat} {t : Tr} {b : Nat} (h : TAt w lo hi t b) (hb : Below B w w') (hB : hi ≤ B) : TAt w' lo hi t b :=
  TAt.keep (Nat.le_refl _) (Nat.le_refl _) (fun b _ h2 => hb.block b (by omega)) h
theorem TAt.setC {w : World} {lo hi X j : Nat} {v : Value} {t : Tr} {b : Nat} (h : TAt w lo hi t b) (hX : X < lo ∨ hi ≤ X) : TAt (w.setCell ⟨X, j, none⟩ v) lo hi t b :=
  TAt.keep (Nat.le_refl _) (Nat.le_refl _) (fun b h1 h2 => Below.heap_setCell _ _ _ _ (by simp; omega)) h
theorem TAt.wide {w : World} {lo hi lo' hi' : Nat} {t : Tr} {b : Nat} (h : TAt w lo hi t b) (hl : lo' ≤ lo) (hh : hi ≤ hi') : TAt w lo' hi' t b := TAt.keep hl hh (fun _ _ _ => rfl) h
theorem TAt.in_ {w : World} {lo hi : Nat} {t : Tr} {b : Nat} (h : TAt w lo hi t b) : lo ≤ b ∧ b < hi := by
  cases t <;> exact ⟨h.1, h.2.1⟩
/-- A new node's block, before its pointers are laid. -/
structure XN (w : World) (X : Nat) (k : Int) (s : ByteArray) : Prop where
  lt : X < w.heap.size
  c0 : w.cell? ⟨X, 0, none⟩ = some (.int .i64 k)
  c1 : w.cell? ⟨X, 1, none⟩ = some (.string s)
  c2 : ∃ u, w.cell? ⟨X, 2, none⟩ = some u
  c3 : ∃ u, w.cell? ⟨X, 3, none⟩ = some u
  fr : ∀ j, w.frozen? ⟨X, j, none⟩ = false
theorem XN.bel {w w' : World} {X B : Nat} {k : Int} {s : ByteArray} (h : XN w X k s) (hb : Below B w w') (hX : X < B) : XN w' X k s :=
  ⟨Nat.lt_of_lt_of_le h.lt hb.size, (bcell hb _ _ hX).trans h.c0, (bcell hb _ _ hX).trans h.c1, (by obtain ⟨u, hu⟩ := h.c2; exact ⟨u, (bcell hb _ _ hX).trans hu⟩), (by obtain ⟨u, hu⟩ := h.c3; exact ⟨u, (bcell hb _ _ hX).trans hu⟩),
    fun j => (hb.frozen (p := ⟨X, j, none⟩) hX).trans (h.fr j)⟩
theorem XN.set2 {w : World} {X : Nat} {k : Int} {s : ByteArray} {v : Value} (h : XN w X k s) : XN (w.setCell ⟨X, 2, none⟩ v) X k s ∧ (w.setCell ⟨X, 2, none⟩ v).cell? ⟨X, 2, none⟩ = some v := by
  obtain ⟨u, hu⟩ := h.c2
  obtain ⟨u3, hu3⟩ := h.c3
  exact ⟨⟨by rw [World.size_setCell]; exact h.lt, (World.cell?_setCell_other _ _ _ _ (by simp)).trans h.c0, (World.cell?_setCell_other _ _ _ _ (by simp)).trans h.c1, ⟨v, World.cell?_setCell_same _ _ _ hu⟩,
    ⟨u3, (World.cell?_setCell_other _ _ _ _ (by simp)).trans hu3⟩, fun j => (World.frozen?_setCell ..).trans (h.fr j)⟩, World.cell?_setCell_same _ _ _ hu⟩
theorem XN.set3 {w : World} {X : Nat} {k : Int} {s : ByteArray} {v : Value} (h : XN w X k s) : XN (w.setCell ⟨X, 3, none⟩ v) X k s ∧ (w.setCell ⟨X, 3, none⟩ v).cell? ⟨X, 3, none⟩ = some v := by
  obtain ⟨u, hu⟩ := h.c3
  obtain ⟨u3, hu3⟩ := h.c2
  exact ⟨⟨by rw [World.size_setCell]; exact h.lt, (World.cell?_setCell_other _ _ _ _ (by simp)).trans h.c0, (World.cell?_setCell_other _ _ _ _ (by simp)).trans h.c1,
    ⟨u3, (World.cell?_setCell_other _ _ _ _ (by simp)).trans hu3⟩, ⟨v, World.cell?_setCell_same _ _ _ hu⟩, fun j => (World.frozen?_setCell ..).trans (h.fr j)⟩, World.cell?_setCell_same _ _ _ hu⟩
end Go.Proofs.Ytbpeceejboojoaa
