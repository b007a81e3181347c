/- Two rows of the call's own that grow by turns. No program in sight. -/
import Derived.Test.YtjokpbopceolcaaDoorRowsW
import Derived.Deep.AppendLies
import Derived.Laws.AppendOwnNone
namespace Go.Proofs.YtjokpbopceolcaaDoor
set_option linter.unusedVariables false
set_option linter.unusedSimpArgs false
open Go.RowKit

/-- Two rows in new memory, in two blocks; what was there is as it was. -/
def Two (w0 : World) (e1 s1 e2 s2 : Nat) (v1 : Value) (n1 : Nat) (xs1 : List Value) (v2 : Value) (n2 : Nat) (xs2 : List Value) (w : World) : Prop :=
  w.ownsRow w0.heap.size e1 s1 v1 n1 xs1 ∧ w.ownsRow w0.heap.size e2 s2 v2 n2 xs2 ∧ (∀ g, v1.ownBlock = some g → v2.ownBlock ≠ some g) ∧ Below w0.heap.size w0 w
section
variable {w0 : World} {e1 s1 e2 s2 : Nat} {v1 v2 : Value} {n1 n2 : Nat} {xs1 xs2 : List Value} {w w' : World}
theorem Two.nil_ : Two w0 e1 s1 e2 s2 (.slice none 0 0) 0 [] (.slice none 0 0) 0 [] w0 :=
  ⟨World.ownsRow_nil _ _ _ _, World.ownsRow_nil _ _ _ _, fun g h => by simp [Value.ownBlock] at h, Below.refl _ _⟩
theorem Two.own1 (h : Two w0 e1 s1 e2 s2 v1 n1 xs1 v2 n2 xs2 w) : w.ownsRow w0.heap.size e1 s1 v1 n1 xs1 := h.1
theorem Two.own2 (h : Two w0 e1 s1 e2 s2 v1 n1 xs1 v2 n2 xs2 w) : w.ownsRow w0.heap.size e2 s2 v2 n2 xs2 := h.2.1
theorem Two.alloc (h : Two w0 e1 s1 e2 s2 v1 n1 xs1 v2 n2 xs2 w) (o : Obj) : Two w0 e1 s1 e2 s2 v1 n1 xs1 v2 n2 xs2 (w.alloc o) :=
  ⟨h.1.alloc o, h.2.1.alloc o, h.2.2.1, h.2.2.2.alloc h.2.2.2.size _⟩
theorem Two.drew (h : Two w0 e1 s1 e2 s2 v1 n1 xs1 v2 n2 xs2 w) : Two w0 e1 s1 e2 s2 v1 n1 xs1 v2 n2 xs2 w.drew := ⟨h.1, h.2.1, h.2.2.1, Below.drew h.2.2.2⟩
theorem Two.swap (h : Two w0 e1 s1 e2 s2 v1 n1 xs1 v2 n2 xs2 w) : Two w0 e2 s2 e1 s1 v2 n2 xs2 v1 n1 xs1 w := ⟨h.2.1, h.1, fun g h1 h2 => h.2.2.1 g h2 h1, h.2.2.2⟩
theorem Two.app1 (h : Two w0 e1 s1 e2 s2 v1 n1 xs1 v2 n2 xs2 w) {g cap n H : Nat} {xs : List Value}
    (ho : w'.ownsRow w0.heap.size e1 s1 (.slice (some ⟨g, 0, none⟩) n cap) n xs) (hg : w.grownBy w' v1.ownBlock) (hat : v1.ownBlock = some g ∨ g = H) (hH : w.heap.size = H) :
    Two w0 e1 s1 e2 s2 (.slice (some ⟨g, 0, none⟩) n cap) n xs v2 n2 xs2 w' := by
  have hne : v2.ownBlock = none ∨ v2.ownBlock ≠ v1.ownBlock := by
    cases e : v1.ownBlock with
    | none => cases e2 : v2.ownBlock <;> simp
    | some k => exact .inr (h.2.2.1 k e)
  refine ⟨ho, h.2.1.kept hg hne, fun k hk => ?_, h.2.2.2.grown hg h.2.2.2.size (fun k hk => (h.1.lt k hk).1)⟩
  have hk' : g = k := by simpa [Value.ownBlock] using hk
  subst hk'
  rcases hat with hat | hat
  · exact h.2.2.1 g hat
  · intro e
    have := (h.2.1.lt g e).2
    omega
theorem Two.app2 (h : Two w0 e1 s1 e2 s2 v1 n1 xs1 v2 n2 xs2 w) {g cap n H : Nat} {xs : List Value}
    (ho : w'.ownsRow w0.heap.size e2 s2 (.slice (some ⟨g, 0, none⟩) n cap) n xs) (hg : w.grownBy w' v2.ownBlock) (hat : v2.ownBlock = some g ∨ g = H) (hH : w.heap.size = H) :
    Two w0 e1 s1 e2 s2 v1 n1 xs1 (.slice (some ⟨g, 0, none⟩) n cap) n xs w' := (h.swap.app1 ho hg hat hH).swap
/-- A cell of a new variable, behind an append to a row that is older. -/
theorem grown_cell {row : Option Nat} {b j : Nat} {u : Value} (hg : w.grownBy w' row) (hc : w.cell? ⟨b, j, none⟩ = some u) (hlt : b < w.heap.size) (hr : ∀ g, row = some g → g ≠ b) : w'.cell? ⟨b, j, none⟩ = some u :=
  (hg.cell_far ⟨b, j, none⟩ hlt (fun e => hr b e.symm rfl)).trans hc
end
theorem grown_refl (w : World) (row : Option Nat) : w.grownBy w row := ⟨rfl, rfl, rfl, Nat.le_refl _, fun _ _ _ => rfl⟩
/-- 'append' of one row of the call's own to another one. -/
theorem wpList_append_row {P : Program} {w : World} {ops : Array Oper} {rest : List Oper} {o : Oper} {a : Act} {Q : Exit → Act → World → Prop} (hgd : o.guard = none) (s x : Operand) (t : TypeId)
    (ho : o.op = .call { callee := .builtin .append, args := #[s, x], argTypes := #[t, t] })
    (base : Nat) (e : TypeId) (i : TypeInfo) (z : Value) (size bytes : Nat) (ht : P.underlying t = some (.slice e)) (hi : P.info? e = some i) (hz : i.zero = some z)
    (hsize : i.size = size) (hby : i.bytes = bytes) (hzs : z.cells.size = size) (hsz : 0 < size)
    (v : Value) (n : Nat) (xs : List Value) (hs : a.eval s = v) (hown : w.ownsRow base e size v n xs)
    (v2 : Value) (m base2 : Nat) (ys : List Value) (hx : a.eval x = v2) (hown2 : w.ownsRow base2 e size v2 m ys) (h1 : ∀ u ∈ ys, u.oneCell' = true)
    (h63 : n + m ≤ maxLen) (hbytes : (n + m) * bytes ≤ 140737488355328) (hbase : base ≤ w.heap.size)
    (h : ∀ v' w', w'.ownsRow base e size v' (n + m) (xs ++ ys) → w.grownBy w' v.ownBlock → wpList P ops Q rest (a.put o.dst v') w') : wpList P ops Q (o :: rest) a w := by
  rcases hown2.2 with ⟨rfl, rfl⟩ | ⟨g, cap, cur, rfl, _, hg, hnc, hcm, hcs, htake⟩
  · have hy : ys = [] := List.eq_nil_of_length_eq_zero (by have := hown2.1; omega)
    subst hy
    exact wpList_append_own_none hgd s x t ho base e i size ht hi v n xs hs hown hx (h v w (by simpa using hown) (grown_refl _ _))
  · exact wpList_append_own w hgd s x t ho base e i z size bytes ht hi hz hsize hby hzs hsz v n xs hs hown ⟨g, 0, none⟩ m cap ys hx hown2.1 (fun j u hu => hown2.cells (g := g) rfl j u hu) h1 h63 hbytes hbase fun v' w' h2 h3 _ => h v' w' h2 h3
/-- A cell of a new block. -/
theorem new_cell {w : World} {b j t : Nat} {cs : Array Value} {fr : Nat × Nat} {u : Value} (hb : w.heap.size = b) (hu : cs[j]? = some u) : (w.alloc (.cells cs t fr)).cell? ⟨b, j, none⟩ = some u := by
  subst hb
  rw [cell_of_row _ _ _ _ _ _ (heap_alloc_new w _), hu]
end Go.Proofs.YtjokpbopceolcaaDoor
