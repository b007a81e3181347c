/- A region that draws its order, whose operations only read and whose callees may make memory: one walk of the text's order serves every order. -/
import Derived.Test.YtbpeceejboojoaaMem
import Derived.Deep.QuietTactic
import Derived.BigQuiet
namespace Go.Proofs.Ytbpeceejboojoaa
set_option linter.unusedVariables false
set_option linter.unusedSimpArgs false
open Go.RowKit

/-- The worlds that are as W was below block number B. -/
def Beyond (B : Nat) (W : World) : Type := { w' : World // Below B W w' }
instance (B : Nat) (W : World) : Nonempty (Beyond B W) := ⟨⟨W, Below.refl _ _⟩⟩
section
variable {P : Program} {B : Nat} {W : World}
theorem wp_region_beyond {id : Nat} {Q : Exit → Act → World → Prop} {a : Act} {w : World} {l : List Oper} (hW : Below B W w) (hm : P.follows .mixedOrders = true) (hB : Region.lexB .any l.toArray = true)
    (h : wpQuiet P l.toArray (fun w' => ∃ y : Beyond B W, w' = y.1) (fun a' => ∀ w', (∃ y : Beyond B W, w' = y.1) → Q .normal a' w') l a) : (Code.region id l.toArray true).wp P Q a w :=
  wp_region_quiet (C := fun w' => ∃ y : Beyond B W, w' = y.1) hm hB ⟨⟨w.drew, hW.drew⟩, rfl⟩ (by simpa using h)
/-- A callee's contract, met in one of these worlds. -/
theorem calls_beyond {f : FuncId} {args : Array Value} {x : Beyond B W} {v : Value} (hB : B ≤ W.heap.size)
    (h : Calls P f args x.1 fun e w' => e = .returned v ∧ Below x.1.heap.size x.1 w') : Calls P f args x.1 fun e w'' => e = .returned v ∧ ∃ y : Beyond B W, w'' = y.1 :=
  h.mono fun _ w'' ⟨he, hb⟩ => ⟨he, ⟨w'', x.2.trans (hb.mono (Nat.le_trans hB x.2.size))⟩, rfl⟩
theorem calls_beyond_same {f : FuncId} {args : Array Value} {x : Beyond B W} {v : Value}
    (h : Calls P f args x.1 fun e w' => e = .returned v ∧ x.1 = w') : Calls P f args x.1 fun e w'' => e = .returned v ∧ ∃ y : Beyond B W, w'' = y.1 :=
  h.mono fun _ w'' ⟨he, hb⟩ => ⟨he, x, hb.symm⟩
theorem beyond_cell {b off : Nat} {v : Value} (hc : W.cell? ⟨b, off, none⟩ = some v) (hb : b < B) : ∀ x : Beyond B W, x.1.cell? ⟨b, off, none⟩ = some v :=
  fun x => (x.2.cell (p := ⟨b, off, none⟩) hb).trans hc
end
end Go.Proofs.Ytbpeceejboojoaa
