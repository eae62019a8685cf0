/-
  DERIVED. GIVEN WITH THE SEED: THE CARDS: each row of YtnmmknnnggcijaaDoorRows.lean that lists a variable, with what it lists TIED to the program's text (the seventh form; the later family's looks); each row that meets fmt, with fmt's text TOLD by the authors' own Lean function (tested against real Go, not proved from fmt's source: count such statements apart). THE CARD IS WHAT COUNTS. Prove the row's statement (the work); the ties are given (YtnmmknnnggcijaaDoorTie.lean); close each card by the builder's one call (the guide's Derived/Test/ToyasCard.lean, 'card_holds'). Laid BY PROGRAM, IN A SANDBOX (cutbox-door.mjs). By AI agents, Wed Nov 11 2026. No macro, syntax, notation, axiom, sorry.
-/
import Derived.Test.YtnmmknnnggcijaaDoorRows
import GoSem.ClaimSeven
namespace Go.Proofs.YtnmmknnnggcijaaDoor
namespace Rows

/-- THE TIED CARD OF 'fencepostlaw07.EventRows'. -/
def eventRowsCard : Claim7 := { stood := { row := eventRowsRow, standIns := [], harness := (true, "ae3e4f5e93379cee651c72389334470d6e75a6efcb13ed6533463a70672cd14a"), looks := false }, kinds := [], alts := [], laidByText := true, laidKinds := [.data, .data, .data], laidTests := true, laidLooks := .later }
def EventRowsCardSaid : Prop := Claim7.holds Tryd.pinned (.plain (OpenSpec.ofChange eventRowsSpec)) eventRowsCard

/-- THE TIED CARD OF 'fencepostlaw07.EventMakes'. -/
def eventMakesCard : Claim7 := { stood := { row := eventMakesRow, standIns := [], harness := (true, "ae3e4f5e93379cee651c72389334470d6e75a6efcb13ed6533463a70672cd14a"), looks := false }, kinds := [], alts := [], laidByText := true, laidKinds := [.data, .data, .data], laidTests := true, laidLooks := .later }
def EventMakesCardSaid : Prop := Claim7.holds Tryd.pinned (.plain (OpenSpec.ofChange eventMakesSpec)) eventMakesCard

/-- THE TIED CARD OF 'fencepostlaw07.EventNames'. -/
def eventNamesCard : Claim7 := { stood := { row := eventNamesRow, standIns := [], harness := (true, "ae3e4f5e93379cee651c72389334470d6e75a6efcb13ed6533463a70672cd14a"), looks := false }, kinds := [], alts := [], laidByText := true, laidKinds := [.data, .data, .data], laidTests := true, laidLooks := .later }
def EventNamesCardSaid : Prop := Claim7.holds Tryd.pinned (.plain (OpenSpec.ofChange eventNamesSpec)) eventNamesCard

/-- THE SECOND FORM's CARD OF 'fencepostlaw07.EventRows'. -/
def eventRowsUptoCard : Claim7 := { stood := { row := eventRowsUptoRow, standIns := [], harness := (true, "ae3e4f5e93379cee651c72389334470d6e75a6efcb13ed6533463a70672cd14a"), looks := false }, kinds := [], alts := [], laidByText := true, laidKinds := [.data, .data, .data], laidTests := true, laidLooks := .later }
def EventRowsUptoCardSaid : Prop := Claim7.holds Tryd.pinned (.plain (OpenSpec.upto eventRowsSpec)) eventRowsUptoCard

/-- THE SECOND FORM's CARD OF 'fencepostlaw07.EventMakes'. -/
def eventMakesUptoCard : Claim7 := { stood := { row := eventMakesUptoRow, standIns := [], harness := (true, "ae3e4f5e93379cee651c72389334470d6e75a6efcb13ed6533463a70672cd14a"), looks := false }, kinds := [], alts := [], laidByText := true, laidKinds := [.data, .data, .data], laidTests := true, laidLooks := .later }
def EventMakesUptoCardSaid : Prop := Claim7.holds Tryd.pinned (.plain (OpenSpec.upto eventMakesSpec)) eventMakesUptoCard

/-- THE SECOND FORM's CARD OF 'fencepostlaw07.EventNames'. -/
def eventNamesUptoCard : Claim7 := { stood := { row := eventNamesUptoRow, standIns := [], harness := (true, "ae3e4f5e93379cee651c72389334470d6e75a6efcb13ed6533463a70672cd14a"), looks := false }, kinds := [], alts := [], laidByText := true, laidKinds := [.data, .data, .data], laidTests := true, laidLooks := .later }
def EventNamesUptoCardSaid : Prop := Claim7.holds Tryd.pinned (.plain (OpenSpec.upto eventNamesSpec)) eventNamesUptoCard
end Rows
end Go.Proofs.YtnmmknnnggcijaaDoor
