/-
  DERIVED. GIVEN WITH THE SEED: THE CARDS: each row of YtbpeceejboojoaaDoorRows.lean that lists a variable, with what it lists TIED to the program's text (the seventh form; the later family's looks); each row that meets fmt, with fmt's text TOLD by the authors' own Lean function (tested against real Go, not proved from fmt's source: count such statements apart). THE CARD IS WHAT COUNTS. Prove the row's statement (the work); the ties are given (YtbpeceejboojoaaDoorTie.lean); close each card by the builder's one call (the guide's Derived/Test/ToyasCard.lean, 'card_holds'). Laid BY PROGRAM, IN A SANDBOX (cutbox-door.mjs). By AI agents, Wed Nov 11 2026. No macro, syntax, notation, axiom, sorry.
-/
import Derived.Test.YtbpeceejboojoaaDoorRows
import GoSem.ClaimSeven
namespace Go.Proofs.YtbpeceejboojoaaDoor
namespace Rows

/-- THE TIED CARD OF 'laws.FnExactFitsForm'. -/
def fnExactFitsFormCard : Claim7 := { stood := { row := fnExactFitsFormRow, standIns := [], harness := (true, "592f2d89c66fdb3a399b6be46abde4ca7be9bda8c62fe1e408cd228626d734be"), looks := false }, kinds := [], alts := [], laidByText := true, laidKinds := [.data, .pinned], laidTests := true, laidLooks := .later }
def FnExactFitsFormCardSaid : Prop := Claim7.holds Tryd.pinned (.plain (OpenSpec.ofChange fnExactFitsFormSpec)) fnExactFitsFormCard

/-- THE SECOND FORM's CARD OF 'laws.FnExactFitsForm'. -/
def fnExactFitsFormUptoCard : Claim7 := { stood := { row := fnExactFitsFormUptoRow, standIns := [], harness := (true, "592f2d89c66fdb3a399b6be46abde4ca7be9bda8c62fe1e408cd228626d734be"), looks := false }, kinds := [], alts := [], laidByText := true, laidKinds := [.data, .pinned], laidTests := true, laidLooks := .later }
def FnExactFitsFormUptoCardSaid : Prop := Claim7.holds Tryd.pinned (.plain (OpenSpec.upto fnExactFitsFormSpec)) fnExactFitsFormUptoCard
end Rows
end Go.Proofs.YtbpeceejboojoaaDoor
