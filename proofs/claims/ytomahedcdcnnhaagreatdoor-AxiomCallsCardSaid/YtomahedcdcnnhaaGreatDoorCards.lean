/-
  DERIVED. GIVEN WITH THE SEED: THE CARDS: each row of YtomahedcdcnnhaaGreatDoorRows.lean that lists a variable, with what it lists TIED to the program's text (the seventh form; the later family's looks); each row that meets fmt, with fmt's text TOLD by the authors' own Lean function (tested against real Go, not proved from fmt's source: count such statements apart). THE CARD IS WHAT COUNTS. Prove the row's statement (the work); the ties are given (YtomahedcdcnnhaaGreatDoorTie.lean); close each card by the builder's one call (the guide's Derived/Test/ToyasCard.lean, 'card_holds'). Laid BY PROGRAM, IN A SANDBOX (cutbox-door.mjs). By AI agents, Wed Nov 11 2026. No macro, syntax, notation, axiom, sorry.
-/
import Derived.Test.YtomahedcdcnnhaaGreatDoorRows
import GoSem.ClaimSeven
namespace Go.Proofs.YtomahedcdcnnhaaGreatDoor
namespace Rows

/-- THE TIED CARD OF 'fencepostlaw11.AxiomOrders'. -/
def axiomOrdersCard : Claim7 := { stood := { row := axiomOrdersRow, standIns := [], harness := (true, "03d8c367d733b9c287b575c7f74ebc843c1467f47b5079264f0e3e3c02181948"), looks := false }, kinds := [], alts := [], laidByText := true, laidKinds := [.data, .data, .data], laidTests := true, laidLooks := .later }
def AxiomOrdersCardSaid : Prop := Claim7.holds Tryz.pinned (.plain (OpenSpec.ofChange axiomOrdersSpec)) axiomOrdersCard

/-- THE TIED CARD OF 'fencepostlaw11.AxiomCoherent'. -/
def axiomCoherentCard : Claim7 := { stood := { row := axiomCoherentRow, standIns := [], harness := (true, "03d8c367d733b9c287b575c7f74ebc843c1467f47b5079264f0e3e3c02181948"), looks := false }, kinds := [], alts := [], laidByText := true, laidKinds := [.data, .data, .data], laidTests := true, laidLooks := .later }
def AxiomCoherentCardSaid : Prop := Claim7.holds Tryz.pinned (.plain (OpenSpec.ofChange axiomCoherentSpec)) axiomCoherentCard

/-- THE TIED CARD OF 'fencepostlaw11.AxiomCalls'. -/
def axiomCallsCard : Claim7 := { stood := { row := axiomCallsRow, standIns := [], harness := (true, "03d8c367d733b9c287b575c7f74ebc843c1467f47b5079264f0e3e3c02181948"), looks := false }, kinds := [], alts := [], laidByText := true, laidKinds := [.data, .data, .data], laidTests := true, laidLooks := .later }
def AxiomCallsCardSaid : Prop := Claim7.holds Tryz.pinned (.plain (OpenSpec.ofChange axiomCallsSpec)) axiomCallsCard

/-- THE TIED CARD OF 'fencepostlaw11.AxiomSources'. -/
def axiomSourcesCard : Claim7 := { stood := { row := axiomSourcesRow, standIns := [], harness := (true, "03d8c367d733b9c287b575c7f74ebc843c1467f47b5079264f0e3e3c02181948"), looks := false }, kinds := [], alts := [], laidByText := true, laidKinds := [.data, .data, .data], laidTests := true, laidLooks := .later }
def AxiomSourcesCardSaid : Prop := Claim7.holds Tryz.pinned (.plain (OpenSpec.ofChange axiomSourcesSpec)) axiomSourcesCard

/-- THE SECOND FORM's CARD OF 'fencepostlaw11.AxiomOrders'. -/
def axiomOrdersUptoCard : Claim7 := { stood := { row := axiomOrdersUptoRow, standIns := [], harness := (true, "03d8c367d733b9c287b575c7f74ebc843c1467f47b5079264f0e3e3c02181948"), looks := false }, kinds := [], alts := [], laidByText := true, laidKinds := [.data, .data, .data], laidTests := true, laidLooks := .later }
def AxiomOrdersUptoCardSaid : Prop := Claim7.holds Tryz.pinned (.plain (OpenSpec.upto axiomOrdersSpec)) axiomOrdersUptoCard

/-- THE SECOND FORM's CARD OF 'fencepostlaw11.AxiomCoherent'. -/
def axiomCoherentUptoCard : Claim7 := { stood := { row := axiomCoherentUptoRow, standIns := [], harness := (true, "03d8c367d733b9c287b575c7f74ebc843c1467f47b5079264f0e3e3c02181948"), looks := false }, kinds := [], alts := [], laidByText := true, laidKinds := [.data, .data, .data], laidTests := true, laidLooks := .later }
def AxiomCoherentUptoCardSaid : Prop := Claim7.holds Tryz.pinned (.plain (OpenSpec.upto axiomCoherentSpec)) axiomCoherentUptoCard

/-- THE SECOND FORM's CARD OF 'fencepostlaw11.AxiomCalls'. -/
def axiomCallsUptoCard : Claim7 := { stood := { row := axiomCallsUptoRow, standIns := [], harness := (true, "03d8c367d733b9c287b575c7f74ebc843c1467f47b5079264f0e3e3c02181948"), looks := false }, kinds := [], alts := [], laidByText := true, laidKinds := [.data, .data, .data], laidTests := true, laidLooks := .later }
def AxiomCallsUptoCardSaid : Prop := Claim7.holds Tryz.pinned (.plain (OpenSpec.upto axiomCallsSpec)) axiomCallsUptoCard

/-- THE SECOND FORM's CARD OF 'fencepostlaw11.AxiomSources'. -/
def axiomSourcesUptoCard : Claim7 := { stood := { row := axiomSourcesUptoRow, standIns := [], harness := (true, "03d8c367d733b9c287b575c7f74ebc843c1467f47b5079264f0e3e3c02181948"), looks := false }, kinds := [], alts := [], laidByText := true, laidKinds := [.data, .data, .data], laidTests := true, laidLooks := .later }
def AxiomSourcesUptoCardSaid : Prop := Claim7.holds Tryz.pinned (.plain (OpenSpec.upto axiomSourcesSpec)) axiomSourcesUptoCard
end Rows
end Go.Proofs.YtomahedcdcnnhaaGreatDoor
