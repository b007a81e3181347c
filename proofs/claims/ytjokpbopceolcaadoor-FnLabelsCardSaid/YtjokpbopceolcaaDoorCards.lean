/-
  DERIVED. GIVEN WITH THE SEED: THE CARDS: each row of YtjokpbopceolcaaDoorRows.lean that lists a variable, with what it lists TIED to the program's text (the seventh form; the later family's looks); each row that meets fmt, with fmt's text TOLD by the authors' own Lean function (tested against real Go, not proved from fmt's source: count such statements apart). THE CARD IS WHAT COUNTS. Prove the row's statement (the work); the ties are given (YtjokpbopceolcaaDoorTie.lean); close each card by the builder's one call (the guide's Derived/Test/ToyasCard.lean, 'card_holds'). Laid BY PROGRAM, IN A SANDBOX (cutbox-door.mjs). By AI agents, Wed Nov 11 2026. No macro, syntax, notation, axiom, sorry.
-/
import Derived.Test.YtjokpbopceolcaaDoorRows
import GoSem.ClaimSeven
namespace Go.Proofs.YtjokpbopceolcaaDoor
namespace Rows

/-- THE TIED CARD OF 'laws.FnExactReadLabels'. -/
def fnExactReadLabelsCard : Claim7 := { stood := { row := fnExactReadLabelsRow, standIns := [], harness := (true, "c225dc56f216157f6ec8c39d3bfa1e5bf9b31c8acb21425f4708036834c843eb"), looks := true }, kinds := [], alts := [], laidByText := true, laidKinds := [.data, .pinned], laidTests := true, laidLooks := .later }
def FnExactReadLabelsCardSaid : Prop := Claim7.holds Tryd.pinned (.plain (OpenSpec.ofChange fnExactReadLabelsSpec)) fnExactReadLabelsCard

/-- THE TIED CARD OF 'laws.FnExactGammaBits'. -/
def fnExactGammaBitsCard : Claim7 := { stood := { row := fnExactGammaBitsRow, standIns := [], harness := (true, "c225dc56f216157f6ec8c39d3bfa1e5bf9b31c8acb21425f4708036834c843eb"), looks := true }, kinds := [], alts := [], laidByText := true, laidKinds := [.data, .data, .data], laidTests := true, laidLooks := .later }
def FnExactGammaBitsCardSaid : Prop := Claim7.holds Tryd.pinned (.plain (OpenSpec.ofChange fnExactGammaBitsSpec)) fnExactGammaBitsCard

/-- THE TIED CARD OF 'laws.FnExactReadGamma'. -/
def fnExactReadGammaCard : Claim7 := { stood := { row := fnExactReadGammaRow, standIns := [], harness := (true, "c225dc56f216157f6ec8c39d3bfa1e5bf9b31c8acb21425f4708036834c843eb"), looks := true }, kinds := [], alts := [], laidByText := true, laidKinds := [.data, .data, .data, .data, .sentinel, .sentinel, .pinned], laidTests := true, laidLooks := .later }
def FnExactReadGammaCardSaid : Prop := Claim7.holds Tryd.pinned (.plain (OpenSpec.ofChange fnExactReadGammaSpec)) fnExactReadGammaCard

/-- THE TIED CARD OF 'laws.FnLabels'. -/
def fnLabelsCard : Claim7 := { stood := { row := fnLabelsRow, standIns := [], harness := (true, "c225dc56f216157f6ec8c39d3bfa1e5bf9b31c8acb21425f4708036834c843eb"), looks := true }, kinds := [], alts := [], laidByText := true, laidKinds := [.data, .pinned], laidTests := true, laidLooks := .later }
def FnLabelsCardSaid : Prop := Claim7.holds Tryd.pinned (.plain (OpenSpec.ofChange fnLabelsSpec)) fnLabelsCard

/-- THE SECOND FORM's CARD OF 'laws.FnExactReadLabels'. -/
def fnExactReadLabelsUptoCard : Claim7 := { stood := { row := fnExactReadLabelsUptoRow, standIns := [], harness := (true, "c225dc56f216157f6ec8c39d3bfa1e5bf9b31c8acb21425f4708036834c843eb"), looks := true }, kinds := [], alts := [], laidByText := true, laidKinds := [.data, .pinned], laidTests := true, laidLooks := .later }
def FnExactReadLabelsUptoCardSaid : Prop := Claim7.holds Tryd.pinned (.plain (OpenSpec.upto fnExactReadLabelsSpec)) fnExactReadLabelsUptoCard

/-- THE SECOND FORM's CARD OF 'laws.FnExactGammaBits'. -/
def fnExactGammaBitsUptoCard : Claim7 := { stood := { row := fnExactGammaBitsUptoRow, standIns := [], harness := (true, "c225dc56f216157f6ec8c39d3bfa1e5bf9b31c8acb21425f4708036834c843eb"), looks := true }, kinds := [], alts := [], laidByText := true, laidKinds := [.data, .data, .data], laidTests := true, laidLooks := .later }
def FnExactGammaBitsUptoCardSaid : Prop := Claim7.holds Tryd.pinned (.plain (OpenSpec.upto fnExactGammaBitsSpec)) fnExactGammaBitsUptoCard

/-- THE SECOND FORM's CARD OF 'laws.FnExactReadGamma'. -/
def fnExactReadGammaUptoCard : Claim7 := { stood := { row := fnExactReadGammaUptoRow, standIns := [], harness := (true, "c225dc56f216157f6ec8c39d3bfa1e5bf9b31c8acb21425f4708036834c843eb"), looks := true }, kinds := [], alts := [], laidByText := true, laidKinds := [.data, .data, .data, .data, .sentinel, .sentinel, .pinned], laidTests := true, laidLooks := .later }
def FnExactReadGammaUptoCardSaid : Prop := Claim7.holds Tryd.pinned (.plain (OpenSpec.upto fnExactReadGammaSpec)) fnExactReadGammaUptoCard

/-- THE SECOND FORM's CARD OF 'laws.FnLabels'. -/
def fnLabelsUptoCard : Claim7 := { stood := { row := fnLabelsUptoRow, standIns := [], harness := (true, "c225dc56f216157f6ec8c39d3bfa1e5bf9b31c8acb21425f4708036834c843eb"), looks := true }, kinds := [], alts := [], laidByText := true, laidKinds := [.data, .pinned], laidTests := true, laidLooks := .later }
def FnLabelsUptoCardSaid : Prop := Claim7.holds Tryd.pinned (.plain (OpenSpec.upto fnLabelsSpec)) fnLabelsUptoCard
end Rows
end Go.Proofs.YtjokpbopceolcaaDoor
