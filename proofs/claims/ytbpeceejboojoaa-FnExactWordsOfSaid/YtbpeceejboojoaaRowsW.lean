/- Rows in new memory, what a step may have changed, and what stays. No program in sight. -/
import Derived.Test.YtbpeceejboojoaaMem
namespace Go.Proofs.Ytbpeceejboojoaa
set_option linter.unusedVariables false
set_option linter.unusedSimpArgs false
open Go.RowKit

/-- A step from w to w' left everything that was there as it was, but for blocks a .. b - 1. -/
structure Ch (a b : Nat) (w w' : World) : Prop where
  os : w'.os = w.os
  tape : w'.tape = w.tape
  output : w'.output = w.output
  size : w.heap.size ≤ w'.heap.size
  block : ∀ k, k < w.heap.size → (k < a ∨ b ≤ k) → w'.heap[k]? = w.heap[k]?
theorem Ch.of_below {w w' : World} (h : Below w.heap.size w w') : Ch 0 0 w w' := ⟨h.os, h.tape, h.output, h.size, fun k hk _ => h.block k hk⟩
theorem Ch.of_same {w w' : World} (h : w = w') : Ch 0 0 w w' := Ch.of_below (h ▸ Below.refl _ _)
theorem Ch.of_drewN {w w' : World} (h : ∃ q, w' = w.drewN q) : Ch 0 0 w w' := by
  obtain ⟨q, rfl⟩ := h
  exact Ch.of_below (Below.drewN (Below.refl _ _) q)
theorem Ch.of_grown {w w' : World} {row : Option Nat} {lo hi : Nat} (h : w.grownBy w' row) (hr : ∀ g, row = some g → lo ≤ g ∧ g < hi) : Ch lo hi w w' :=
  ⟨h.os, h.tape, h.output, h.size, fun k hk ho => h.block k hk (fun e => by have := hr k e.symm; omega)⟩
theorem Ch.below {a b B : Nat} {w w' : World} (h : Ch a b w w') (hB : B ≤ w.heap.size) (hab : B ≤ a ∨ b = 0) : Below B w w' :=
  ⟨h.os, h.tape, h.output, h.size, fun k hk => h.block k (by omega) (by omega)⟩
theorem Ch.below0 {w w' : World} (h : Ch 0 0 w w') : Below w.heap.size w w' := h.below (Nat.le_refl _) (.inr rfl)
theorem Ch.drewN {a b : Nat} {w w' : World} (h : Ch a b w w') (q : Nat) : Ch a b w (w'.drewN q) := ⟨h.os, h.tape, h.output, h.size, h.block⟩
theorem Ch.mono {a b a' b' : Nat} {w w' : World} (h : Ch a b w w') (ha : a' ≤ a) (hb : b ≤ b') : Ch a' b' w w' := ⟨h.os, h.tape, h.output, h.size, fun k hk ho => h.block k hk (by omega)⟩
theorem Ch.zero {a b : Nat} {w w' : World} (h : Ch 0 0 w w') : Ch a b w w' := ⟨h.os, h.tape, h.output, h.size, fun k hk _ => h.block k hk (by omega)⟩
theorem Ch.trans {a b : Nat} {u v w : World} (h : Ch a b u v) (k : Ch a b v w) : Ch a b u w :=
  ⟨k.os.trans h.os, k.tape.trans h.tape, k.output.trans h.output, Nat.le_trans h.size k.size, fun i hi ho => (k.block i (Nat.lt_of_lt_of_le hi h.size) ho).trans (h.block i hi ho)⟩
theorem Ch.refl (a b : Nat) (w : World) : Ch a b w w := ⟨rfl, rfl, rfl, Nat.le_refl _, fun _ _ _ => rfl⟩

theorem below3 {w : World} (o1 o2 o3 : Obj) : Below w.heap.size w (((w.alloc o1).alloc o2).alloc o3) := (((Below.refl _ _).alloc (Nat.le_refl _) _).alloc (by simp) _).alloc (by simp; omega) _
theorem below2 {w : World} (o1 o2 : Obj) : Below w.heap.size w ((w.alloc o1).alloc o2) := ((Below.refl _ _).alloc (Nat.le_refl _) _).alloc (by simp) _
theorem Ch.alloc (w : World) (o : Obj) : Ch 0 0 w (w.alloc o) := Ch.of_below ((Below.refl _ _).alloc (Nat.le_refl _) _)

/-- A slice value that owns its cells, in one of the blocks lo .. hi - 1. -/
def Row (t s lo hi : Nat) (A : Option Addr) (n c : Nat) (xs : List Value) (w : World) : Prop :=
  w.ownsRow lo t s (.slice A n c) n xs ∧ hi ≤ w.heap.size ∧ ∀ g, (Value.slice A n c).ownBlock = some g → g < hi
section
variable {t s lo hi n c : Nat} {A : Option Addr} {xs : List Value} {w w' : World}
theorem Row.of_own {lo : Nat} (h : w.ownsRow lo t s (.slice A n c) n xs) : Row t s lo w.heap.size A n c xs w := ⟨h, Nat.le_refl _, fun g hg => (h.lt g hg).2⟩
theorem Row.keep {a b : Nat} (h : Row t s lo hi A n c xs w) (hc : Ch a b w w') (hab : hi ≤ a ∨ b ≤ lo) : Row t s lo hi A n c xs w' := by
  obtain ⟨ho, hs, hg⟩ := h
  refine ⟨⟨ho.1, ?_⟩, Nat.le_trans hs hc.size, hg⟩
  rcases ho.2 with h2 | ⟨g, cap, cur, hv, hl, hh, r⟩
  · exact .inl h2
  · have hlt := hg g (by rw [hv]; rfl)
    exact .inr ⟨g, cap, cur, hv, hl, (hc.block g (by omega) (by omega)).trans hh, r⟩
theorem Row.rd (h : Row t s lo hi A n c xs w) : Rd w hi s A n xs := by
  obtain ⟨ho, _, hg⟩ := h
  refine ⟨ho.1, fun hn => ?_⟩
  obtain ⟨g, cap, hv, _, hlt, _⟩ := own_form ho hn
  have hA : A = some ⟨g, 0, none⟩ := by injection hv
  subst hA
  exact ⟨g, 0, rfl, hg g rfl, fun j u hu => own_add g j ▸ ho.cells (g := g) rfl j u hu⟩
theorem Row.cap_ (h : Row t s lo hi A n c xs w) : n ≤ c := by
  rcases h.1.2 with ⟨_, rfl⟩ | ⟨g, cap, cur, hv, _, _, hn, _⟩
  · exact Nat.zero_le _
  · injection hv with _ _ e
    omega
theorem Row.nil_ (t s lo hi : Nat) (w : World) (h : hi ≤ w.heap.size) : Row t s lo hi none 0 0 [] w := ⟨World.ownsRow_nil _ _ _ _, h, fun g hg => by simp [Value.ownBlock] at hg⟩
theorem Row.wide {hi' : Nat} (h : Row t s lo hi A n c xs w) (h1 : hi ≤ hi') (h2 : hi' ≤ w.heap.size) : Row t s lo hi' A n c xs w := ⟨h.1, h2, fun g hg => Nat.lt_of_lt_of_le (h.2.2 g hg) h1⟩
theorem Row.low {lo' : Nat} (h : Row t s lo hi A n c xs w) (h1 : lo' ≤ lo) : Row t s lo' hi A n c xs w := ⟨own_mono h.1 h1, h.2⟩
theorem Row.len (h : Row t s lo hi A n c xs w) : xs.length = n * s := h.1.1
theorem Rd.keepC {B a b : Nat} (h : Rd w B s A n xs) (hc : Ch a b w w') (hB : B ≤ w.heap.size) (hab : B ≤ a ∨ b = 0) : Rd w' B s A n xs := h.below (hc.below hB hab)
end
end Go.Proofs.Ytbpeceejboojoaa
