/-
  DERIVED. GIVEN WITH THE SEED: THE CARDS: each row of YtpdclppieicaeaaDoorRows.lean that lists a variable, with what it lists TIED to the program's text (the seventh form; the later family's looks); each row that meets fmt, with fmt's text TOLD by the authors' own Lean function (tested against real Go, not proved from fmt's source: count such statements apart). THE CARD IS WHAT COUNTS. Prove the row's statement (the work); the ties are given (YtpdclppieicaeaaDoorTie.lean); close each card by the builder's one call (the guide's Derived/Test/ToyasCard.lean, 'card_holds'). Laid BY PROGRAM, IN A SANDBOX (cutbox-door.mjs). By AI agents, Wed Nov 11 2026. No macro, syntax, notation, axiom, sorry.
-/
import Derived.Test.YtpdclppieicaeaaDoorRows
import GoSem.ClaimSeven
namespace Go.Proofs.YtpdclppieicaeaaDoor
namespace Rows

/-- THE TIED CARD OF 'laws.FnGamma'. -/
def fnGammaCard : Claim7 := { stood := { row := fnGammaRow, standIns := [], harness := (true, "e1acde7502b729e9c2366b23a96370a2b5f5b63b943c0002377d3a719e9a54c8"), looks := true }, kinds := [], alts := [], laidByText := true, laidKinds := [.data, .data, .data, .data, .sentinel, .sentinel, .pinned], laidTests := true, laidLooks := .later }
def FnGammaCardSaid : Prop := Claim7.holds Tryd.pinned (.plain (OpenSpec.ofChange fnGammaSpec)) fnGammaCard

/-- THE SECOND FORM's CARD OF 'laws.FnGamma'. -/
def fnGammaUptoCard : Claim7 := { stood := { row := fnGammaUptoRow, standIns := [], harness := (true, "e1acde7502b729e9c2366b23a96370a2b5f5b63b943c0002377d3a719e9a54c8"), looks := true }, kinds := [], alts := [], laidByText := true, laidKinds := [.data, .data, .data, .data, .sentinel, .sentinel, .pinned], laidTests := true, laidLooks := .later }
def FnGammaUptoCardSaid : Prop := Claim7.holds Tryd.pinned (.plain (OpenSpec.upto fnGammaSpec)) fnGammaUptoCard
end Rows
end Go.Proofs.YtpdclppieicaeaaDoor
