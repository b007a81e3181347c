/- What a call hands back that makes a list, and whether it could. No program in sight. -/
import Derived.Test.YtbpeceejboojoaaRowsW
namespace Go.Proofs.Ytbpeceejboojoaa
set_option linter.unusedVariables false
set_option linter.unusedSimpArgs false
open Go.RowKit

/-- A row in new memory, and a bool. -/
def GotR (t s : Nat) (w : World) (n : Nat) (xs : List Value) (K : Bool) (e : Ending) (w' : World) : Prop :=
  ∃ A c, e = .returned (.tuple #[.slice A n c, .bool K]) ∧ Row t s w.heap.size w'.heap.size A n c xs w' ∧ Ch 0 0 w w'
theorem GotR.nil_ {t s : Nat} {w w' : World} (h : Ch 0 0 w w') : GotR t s w 0 [] false (.returned (.tuple #[.slice none 0 0, .bool false])) w' :=
  ⟨none, 0, rfl, Row.nil_ _ _ _ _ _ (Nat.le_refl _), h⟩
theorem GotR.no_ {t s : Nat} {w w' : World} (h : Below w.heap.size w w') : GotR t s w 0 [] false (.returned (.tuple #[.slice none 0 0, .bool false])) w' := GotR.nil_ (Ch.of_below h)
theorem GotR.own_ {t s : Nat} {w w' : World} {A : Option Addr} {n c : Nat} {xs : List Value} (ho : w'.ownsRow w.heap.size t s (.slice A n c) n xs) (hb : Below w.heap.size w w') : GotR t s w n xs true (.returned (.tuple #[.slice A n c, .bool true])) w' :=
  ⟨A, c, rfl, Row.of_own ho, Ch.of_below hb⟩
end Go.Proofs.Ytbpeceejboojoaa
