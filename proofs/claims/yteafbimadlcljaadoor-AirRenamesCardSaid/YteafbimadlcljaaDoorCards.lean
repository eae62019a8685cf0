/-
  DERIVED. GIVEN WITH THE SEED: THE CARDS: each row of YteafbimadlcljaaDoorRows.lean that lists a variable, with what it lists TIED to the program's text (the seventh form; the later family's looks); each row that meets fmt, with fmt's text TOLD by the authors' own Lean function (tested against real Go, not proved from fmt's source: count such statements apart). THE CARD IS WHAT COUNTS. Prove the row's statement (the work); the ties are given (YteafbimadlcljaaDoorTie.lean); close each card by the builder's one call (the guide's Derived/Test/ToyasCard.lean, 'card_holds'). Laid BY PROGRAM, IN A SANDBOX (cutbox-door.mjs). By AI agents, Wed Nov 11 2026. No macro, syntax, notation, axiom, sorry.
-/
import Derived.Test.YteafbimadlcljaaDoorRows
import GoSem.ClaimSeven
namespace Go.Proofs.YteafbimadlcljaaDoor
namespace Rows

/-- THE TIED CARD OF 'fencepostlaw21.AirLive'. -/
def airLiveCard : Claim7 := { stood := { row := airLiveRow, standIns := [], harness := (true, "2f88636a034e3b255b8298a0620bcfb9fe36cde78d7472936698fe6358a7e7d4"), looks := false }, kinds := [], alts := [], laidByText := true, laidKinds := [.data, .data, .data], laidTests := true, laidLooks := .later }
def AirLiveCardSaid : Prop := Claim7.holds Tryd.pinned (.plain (OpenSpec.ofChange airLiveSpec)) airLiveCard

/-- THE TIED CARD OF 'fencepostlaw21.AirNil'. -/
def airNilCard : Claim7 := { stood := { row := airNilRow, standIns := [], harness := (true, "2f88636a034e3b255b8298a0620bcfb9fe36cde78d7472936698fe6358a7e7d4"), looks := false }, kinds := [], alts := [], laidByText := true, laidKinds := [.data, .data, .data], laidTests := true, laidLooks := .later }
def AirNilCardSaid : Prop := Claim7.holds Tryd.pinned (.plain (OpenSpec.ofChange airNilSpec)) airNilCard

/-- THE TIED CARD OF 'fencepostlaw21.AirPlans'. -/
def airPlansCard : Claim7 := { stood := { row := airPlansRow, standIns := [], harness := (true, "2f88636a034e3b255b8298a0620bcfb9fe36cde78d7472936698fe6358a7e7d4"), looks := false }, kinds := [], alts := [], laidByText := true, laidKinds := [.data, .data, .data], laidTests := true, laidLooks := .later }
def AirPlansCardSaid : Prop := Claim7.holds Tryd.pinned (.plain (OpenSpec.ofChange airPlansSpec)) airPlansCard

/-- THE TIED CARD OF 'fencepostlaw21.AirRenames'. -/
def airRenamesCard : Claim7 := { stood := { row := airRenamesRow, standIns := [], harness := (true, "2f88636a034e3b255b8298a0620bcfb9fe36cde78d7472936698fe6358a7e7d4"), looks := false }, kinds := [], alts := [], laidByText := true, laidKinds := [.data, .data, .data], laidTests := true, laidLooks := .later }
def AirRenamesCardSaid : Prop := Claim7.holds Tryd.pinned (.plain (OpenSpec.ofChange airRenamesSpec)) airRenamesCard

/-- THE TIED CARD OF 'fencepostlaw21.AirNames'. -/
def airNamesCard : Claim7 := { stood := { row := airNamesRow, standIns := [], harness := (true, "2f88636a034e3b255b8298a0620bcfb9fe36cde78d7472936698fe6358a7e7d4"), looks := false }, kinds := [], alts := [], laidByText := true, laidKinds := [.data, .data, .data], laidTests := true, laidLooks := .later }
def AirNamesCardSaid : Prop := Claim7.holds Tryd.pinned (.plain (OpenSpec.ofChange airNamesSpec)) airNamesCard

/-- THE SECOND FORM's CARD OF 'fencepostlaw21.AirLive'. -/
def airLiveUptoCard : Claim7 := { stood := { row := airLiveUptoRow, standIns := [], harness := (true, "2f88636a034e3b255b8298a0620bcfb9fe36cde78d7472936698fe6358a7e7d4"), looks := false }, kinds := [], alts := [], laidByText := true, laidKinds := [.data, .data, .data], laidTests := true, laidLooks := .later }
def AirLiveUptoCardSaid : Prop := Claim7.holds Tryd.pinned (.plain (OpenSpec.upto airLiveSpec)) airLiveUptoCard

/-- THE SECOND FORM's CARD OF 'fencepostlaw21.AirNil'. -/
def airNilUptoCard : Claim7 := { stood := { row := airNilUptoRow, standIns := [], harness := (true, "2f88636a034e3b255b8298a0620bcfb9fe36cde78d7472936698fe6358a7e7d4"), looks := false }, kinds := [], alts := [], laidByText := true, laidKinds := [.data, .data, .data], laidTests := true, laidLooks := .later }
def AirNilUptoCardSaid : Prop := Claim7.holds Tryd.pinned (.plain (OpenSpec.upto airNilSpec)) airNilUptoCard

/-- THE SECOND FORM's CARD OF 'fencepostlaw21.AirPlans'. -/
def airPlansUptoCard : Claim7 := { stood := { row := airPlansUptoRow, standIns := [], harness := (true, "2f88636a034e3b255b8298a0620bcfb9fe36cde78d7472936698fe6358a7e7d4"), looks := false }, kinds := [], alts := [], laidByText := true, laidKinds := [.data, .data, .data], laidTests := true, laidLooks := .later }
def AirPlansUptoCardSaid : Prop := Claim7.holds Tryd.pinned (.plain (OpenSpec.upto airPlansSpec)) airPlansUptoCard

/-- THE SECOND FORM's CARD OF 'fencepostlaw21.AirRenames'. -/
def airRenamesUptoCard : Claim7 := { stood := { row := airRenamesUptoRow, standIns := [], harness := (true, "2f88636a034e3b255b8298a0620bcfb9fe36cde78d7472936698fe6358a7e7d4"), looks := false }, kinds := [], alts := [], laidByText := true, laidKinds := [.data, .data, .data], laidTests := true, laidLooks := .later }
def AirRenamesUptoCardSaid : Prop := Claim7.holds Tryd.pinned (.plain (OpenSpec.upto airRenamesSpec)) airRenamesUptoCard

/-- THE SECOND FORM's CARD OF 'fencepostlaw21.AirNames'. -/
def airNamesUptoCard : Claim7 := { stood := { row := airNamesUptoRow, standIns := [], harness := (true, "2f88636a034e3b255b8298a0620bcfb9fe36cde78d7472936698fe6358a7e7d4"), looks := false }, kinds := [], alts := [], laidByText := true, laidKinds := [.data, .data, .data], laidTests := true, laidLooks := .later }
def AirNamesUptoCardSaid : Prop := Claim7.holds Tryd.pinned (.plain (OpenSpec.upto airNamesSpec)) airNamesUptoCard
end Rows
end Go.Proofs.YteafbimadlcljaaDoor
