/-
  No cell of these rows narrows 'for every input' (looked for: loops, veiled, ifaces, maps, wideKeys, modest, calm, conditions, laid).
  DERIVED. THE GIVEN ROWS OF THIS SEAT. 4 by the template 'for every input the law returns true; each argument reads behind the call as it read before'; 0 by the template 'total and deterministic' (their statements: YtigcbjbaibcgfaaTotals.lean).
  GIVEN WITH THE SEED: the statements are not yours to turn. If you find one false, say at which input.
  Laid BY PROGRAM, IN A SANDBOX (cutbox-rows.mjs): the forced cells as the released guide's own fill.sh prints them over the translation 9373984fa1498edc… (all of the seat's roots in one cut). By AI agents, Wed Nov 11 2026. No macro, syntax, notation, axiom, sorry.
-/
import Derived.Test.YtigcbjbaibcgfaaChecked
import GoSem.Claim
import GoSem.ClaimJoined
import GoSem.ClaimMapViews
import Derived.JoinedTies
import Derived.KernelRfl
namespace Go.Proofs.Ytigcbjbaibcgfaa
/- THE CELL 'sum', in the pinned program and in every row, IS THE sha256 OF THE DUMP (.gsa) THAT YtigcbjbaibcgfaaProg.lean LOADS. Nothing in Lean hashes anything: it is a label: what it is worth is what the hold of that sum in a sandbox is worth. -/
noncomputable def Try.pinned : Pinned := { name := "ytigcbjbaibcgfaa", sum := "9373984fa1498edc1c9572fdeff11413984c62fe000458e85e325fc6e9e6b495", checked := Try.checked }
namespace Rows
def none {H : Type} : Left H := { results := [], args := [] }

/-- 'fencepostlaw10.PpoMarks': WHATEVER THE INPUT: true; the input reads as it did. -/
def ppoMarksSpec : ChangeSpec := { name := "ppoMarks", fn := fun _ => fun
  | [d] => { results := [.lit (.bool true)], args := [d] }
  | _ => none }
def ppoMarksRow : OpenClaim := { program := "ytigcbjbaibcgfaa", sum := "9373984fa1498edc1c9572fdeff11413984c62fe000458e85e325fc6e9e6b495", func := "fencepost/fencepostlaw10.PpoMarks", spec := "ppoMarks", unfollowed := true, recurses := true, plainKeys := false, apart := false }
def PpoMarksSaid : Prop := ppoMarksRow.holds Try.pinned (OpenSpec.ofChange ppoMarksSpec)

/-- ITS FALSE NEIGHBOUR: 'it returns false'. Refute it at one input. -/
def ppoMarksWrong : ChangeSpec := { name := "ppoMarks", fn := fun _ => fun
  | [d] => { results := [.lit (.bool false)], args := [d] }
  | _ => none }
def PpoMarksWrongFalsely : Prop := ppoMarksRow.holds Try.pinned (OpenSpec.ofChange ppoMarksWrong)

/-- 'fencepostlaw10.PpoWithin': WHATEVER THE INPUT: true; the input reads as it did. -/
def ppoWithinSpec : ChangeSpec := { name := "ppoWithin", fn := fun _ => fun
  | [d] => { results := [.lit (.bool true)], args := [d] }
  | _ => none }
def ppoWithinRow : OpenClaim := { program := "ytigcbjbaibcgfaa", sum := "9373984fa1498edc1c9572fdeff11413984c62fe000458e85e325fc6e9e6b495", func := "fencepost/fencepostlaw10.PpoWithin", spec := "ppoWithin", unfollowed := true, recurses := true, plainKeys := false, apart := false }
def PpoWithinSaid : Prop := ppoWithinRow.holds Try.pinned (OpenSpec.ofChange ppoWithinSpec)

/-- ITS FALSE NEIGHBOUR: 'it returns false'. Refute it at one input. -/
def ppoWithinWrong : ChangeSpec := { name := "ppoWithin", fn := fun _ => fun
  | [d] => { results := [.lit (.bool false)], args := [d] }
  | _ => none }
def PpoWithinWrongFalsely : Prop := ppoWithinRow.holds Try.pinned (OpenSpec.ofChange ppoWithinWrong)

/-- 'fencepostlaw10.PpoFences': WHATEVER THE INPUT: true; the input reads as it did. -/
def ppoFencesSpec : ChangeSpec := { name := "ppoFences", fn := fun _ => fun
  | [d] => { results := [.lit (.bool true)], args := [d] }
  | _ => none }
def ppoFencesRow : OpenClaim := { program := "ytigcbjbaibcgfaa", sum := "9373984fa1498edc1c9572fdeff11413984c62fe000458e85e325fc6e9e6b495", func := "fencepost/fencepostlaw10.PpoFences", spec := "ppoFences", unfollowed := true, recurses := true, plainKeys := false, apart := false }
def PpoFencesSaid : Prop := ppoFencesRow.holds Try.pinned (OpenSpec.ofChange ppoFencesSpec)

/-- ITS FALSE NEIGHBOUR: 'it returns false'. Refute it at one input. -/
def ppoFencesWrong : ChangeSpec := { name := "ppoFences", fn := fun _ => fun
  | [d] => { results := [.lit (.bool false)], args := [d] }
  | _ => none }
def PpoFencesWrongFalsely : Prop := ppoFencesRow.holds Try.pinned (OpenSpec.ofChange ppoFencesWrong)

/-- 'fencepostlaw10.PpoNames': WHATEVER THE INPUT: true; the input reads as it did. -/
def ppoNamesSpec : ChangeSpec := { name := "ppoNames", fn := fun _ => fun
  | [] => { results := [.lit (.bool true)], args := [] }
  | _ => none }
def ppoNamesRow : OpenClaim := { program := "ytigcbjbaibcgfaa", sum := "9373984fa1498edc1c9572fdeff11413984c62fe000458e85e325fc6e9e6b495", func := "fencepost/fencepostlaw10.PpoNames", spec := "ppoNames", unfollowed := true, recurses := true, plainKeys := false, apart := false }
def PpoNamesSaid : Prop := ppoNamesRow.holds Try.pinned (OpenSpec.ofChange ppoNamesSpec)

/-- ITS FALSE NEIGHBOUR: 'it returns false'. Refute it at one input. -/
def ppoNamesWrong : ChangeSpec := { name := "ppoNames", fn := fun _ => fun
  | [] => { results := [.lit (.bool false)], args := [] }
  | _ => none }
def PpoNamesWrongFalsely : Prop := ppoNamesRow.holds Try.pinned (OpenSpec.ofChange ppoNamesWrong)

/- THE SECOND FORM. 'bulk': how many values and letters a reading holds, each counted each time it is reached (what is shared counts as often as it is met; a slice's spare places count too). A statement '..UptoSaid' is the law's where the arguments, and the package variables that the reading takes, are together of bulk at most 1048576: NARROWER than '..Said'. Prove '..Said' where nothing that the law and all that it calls make is longer than what came in: it says more and counts as full. Else prove '..UptoSaid'. A law counts once. -/
mutual
def uptoBulk {H : Type} : DataW H → Nat
  | .lit (.string bytes) => bytes.length + 1
  | .lit _ => 1
  | .nil => 1
  | .ptr d => uptoBulk d + 1
  | .slice elems spare => uptoBulkAll elems + uptoBulkAll spare + 1
  | .agg parts => uptoBulkAll parts + 1
  | .iface _ d => uptoBulk d + 1
  | .map entries => uptoBulkEntries entries + 1
  | .held _ => 1
def uptoBulkAll {H : Type} : List (DataW H) → Nat
  | [] => 0
  | d :: r => uptoBulk d + uptoBulkAll r
def uptoBulkEntries {H : Type} : List (Lit × DataW H) → Nat
  | [] => 0
  | x :: r => uptoBulkEntry x + uptoBulkEntries r
def uptoBulkEntry {H : Type} : Lit × DataW H → Nat
  | (.string bytes, d) => bytes.length + uptoBulk d + 1
  | (_, d) => uptoBulk d + 1
 end
def uptoSmall : (H : Type) → List (DataW H) → Bool := fun _ ds => decide (uptoBulkAll ds ≤ 1048576)
def OpenSpec.upto (s : _root_.Go.ChangeSpec) : _root_.Go.OpenSpec := { _root_.Go.OpenSpec.ofChange s with cond := some uptoSmall }

/-- 'fencepostlaw10.PpoMarks', WHERE WHAT IT READS IS OF BULK AT MOST 1048576: true; the input reads as it did. -/
def ppoMarksUptoRow : OpenClaim := { program := "ytigcbjbaibcgfaa", sum := "9373984fa1498edc1c9572fdeff11413984c62fe000458e85e325fc6e9e6b495", func := "fencepost/fencepostlaw10.PpoMarks", spec := "ppoMarks", unfollowed := true, recurses := true, plainKeys := false, apart := false, narrowed := true }
def PpoMarksUptoSaid : Prop := ppoMarksUptoRow.holds Try.pinned (OpenSpec.upto ppoMarksSpec)

/-- 'fencepostlaw10.PpoWithin', WHERE WHAT IT READS IS OF BULK AT MOST 1048576: true; the input reads as it did. -/
def ppoWithinUptoRow : OpenClaim := { program := "ytigcbjbaibcgfaa", sum := "9373984fa1498edc1c9572fdeff11413984c62fe000458e85e325fc6e9e6b495", func := "fencepost/fencepostlaw10.PpoWithin", spec := "ppoWithin", unfollowed := true, recurses := true, plainKeys := false, apart := false, narrowed := true }
def PpoWithinUptoSaid : Prop := ppoWithinUptoRow.holds Try.pinned (OpenSpec.upto ppoWithinSpec)

/-- 'fencepostlaw10.PpoFences', WHERE WHAT IT READS IS OF BULK AT MOST 1048576: true; the input reads as it did. -/
def ppoFencesUptoRow : OpenClaim := { program := "ytigcbjbaibcgfaa", sum := "9373984fa1498edc1c9572fdeff11413984c62fe000458e85e325fc6e9e6b495", func := "fencepost/fencepostlaw10.PpoFences", spec := "ppoFences", unfollowed := true, recurses := true, plainKeys := false, apart := false, narrowed := true }
def PpoFencesUptoSaid : Prop := ppoFencesUptoRow.holds Try.pinned (OpenSpec.upto ppoFencesSpec)

/-- 'fencepostlaw10.PpoNames', WHERE WHAT IT READS IS OF BULK AT MOST 1048576: true; the input reads as it did. -/
def ppoNamesUptoRow : OpenClaim := { program := "ytigcbjbaibcgfaa", sum := "9373984fa1498edc1c9572fdeff11413984c62fe000458e85e325fc6e9e6b495", func := "fencepost/fencepostlaw10.PpoNames", spec := "ppoNames", unfollowed := true, recurses := true, plainKeys := false, apart := false, narrowed := true }
def PpoNamesUptoSaid : Prop := ppoNamesUptoRow.holds Try.pinned (OpenSpec.upto ppoNamesSpec)

end Rows
end Go.Proofs.Ytigcbjbaibcgfaa
