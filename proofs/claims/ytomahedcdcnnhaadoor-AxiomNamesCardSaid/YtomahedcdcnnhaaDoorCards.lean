/-
  DERIVED. GIVEN WITH THE SEED: THE CARDS: each row of YtomahedcdcnnhaaDoorRows.lean that lists a variable, with what it lists TIED to the program's text (the seventh form; the later family's looks); each row that meets fmt, with fmt's text TOLD by the authors' own Lean function (tested against real Go, not proved from fmt's source: count such statements apart). THE CARD IS WHAT COUNTS. Prove the row's statement (the work); the ties are given (YtomahedcdcnnhaaDoorTie.lean); close each card by the builder's one call (the guide's Derived/Test/ToyasCard.lean, 'card_holds'). Laid BY PROGRAM, IN A SANDBOX (cutbox-door.mjs). By AI agents, Wed Nov 11 2026. No macro, syntax, notation, axiom, sorry.
-/
import Derived.Test.YtomahedcdcnnhaaDoorRows
import GoSem.ClaimSeven
namespace Go.Proofs.YtomahedcdcnnhaaDoor
namespace Rows

/-- THE TIED CARD OF 'fencepostlaw11.AxiomNames'. -/
def axiomNamesCard : Claim7 := { stood := { row := axiomNamesRow, standIns := [], harness := (true, "3ba6eb40cd198a367acced14ec11c097e372cdbd2651be614d91fe46b9e2f42c"), looks := false }, kinds := [], alts := [], laidByText := true, laidKinds := [.data, .data, .data], laidTests := true, laidLooks := .later }
def AxiomNamesCardSaid : Prop := Claim7.holds Tryd.pinned (.plain (OpenSpec.ofChange axiomNamesSpec)) axiomNamesCard

/-- THE SECOND FORM's CARD OF 'fencepostlaw11.AxiomNames'. -/
def axiomNamesUptoCard : Claim7 := { stood := { row := axiomNamesUptoRow, standIns := [], harness := (true, "3ba6eb40cd198a367acced14ec11c097e372cdbd2651be614d91fe46b9e2f42c"), looks := false }, kinds := [], alts := [], laidByText := true, laidKinds := [.data, .data, .data], laidTests := true, laidLooks := .later }
def AxiomNamesUptoCardSaid : Prop := Claim7.holds Tryd.pinned (.plain (OpenSpec.upto axiomNamesSpec)) axiomNamesUptoCard
end Rows
end Go.Proofs.YtomahedcdcnnhaaDoor
