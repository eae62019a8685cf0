/-
  No cell of these rows narrows 'for every input' (looked for: loops, veiled, ifaces, maps, wideKeys, modest, calm, conditions, laid).
  DERIVED. THE GIVEN ROWS OF THIS SEAT. 3 by the template 'for every input the law returns true; each argument reads behind the call as it read before'; 0 by the template 'total and deterministic' (their statements: YtaekcekecdocnaaTotals.lean).
  GIVEN WITH THE SEED: the statements are not yours to turn. If you find one false, say at which input.
  Laid BY PROGRAM, IN A SANDBOX (cutbox-rows.mjs): the forced cells as the released guide's own fill.sh prints them over the translation 1a65964c4b6b1fae… (all of the seat's roots in one cut). By AI agents, Wed Nov 11 2026. No macro, syntax, notation, axiom, sorry.
-/
import Derived.Test.YtaekcekecdocnaaChecked
import GoSem.Claim
import GoSem.ClaimJoined
import GoSem.ClaimMapViews
import Derived.JoinedTies
import Derived.KernelRfl
namespace Go.Proofs.Ytaekcekecdocnaa
/- THE CELL 'sum', in the pinned program and in every row, IS THE sha256 OF THE DUMP (.gsa) THAT YtaekcekecdocnaaProg.lean LOADS. Nothing in Lean hashes anything: it is a label: what it is worth is what the hold of that sum in a sandbox is worth. -/
noncomputable def Try.pinned : Pinned := { name := "ytaekcekecdocnaa", sum := "1a65964c4b6b1fae4e0b3371e02b9b3948416dced77614831f20beb65e0889b6", checked := Try.checked }
namespace Rows
def none {H : Type} : Left H := { results := [], args := [] }

/-- 'fencepostlaw22.PlayNames': WHATEVER THE INPUT: true; the input reads as it did. -/
def playNamesSpec : ChangeSpec := { name := "playNames", fn := fun _ => fun
  | [] => { results := [.lit (.bool true)], args := [] }
  | _ => none }
def playNamesRow : OpenClaim := { program := "ytaekcekecdocnaa", sum := "1a65964c4b6b1fae4e0b3371e02b9b3948416dced77614831f20beb65e0889b6", func := "fencepost/fencepostlaw22.PlayNames", spec := "playNames", unfollowed := true, recurses := true, apart := false }
def PlayNamesSaid : Prop := playNamesRow.holds Try.pinned (OpenSpec.ofChange playNamesSpec)

/-- ITS FALSE NEIGHBOUR: 'it returns false'. Refute it at one input. -/
def playNamesWrong : ChangeSpec := { name := "playNames", fn := fun _ => fun
  | [] => { results := [.lit (.bool false)], args := [] }
  | _ => none }
def PlayNamesWrongFalsely : Prop := playNamesRow.holds Try.pinned (OpenSpec.ofChange playNamesWrong)

/-- 'fencepostlaw22.PlayNil': WHATEVER THE INPUT: true; the input reads as it did. -/
def playNilSpec : ChangeSpec := { name := "playNil", fn := fun _ => fun
  | [d1, d2, d3, d4] => { results := [.lit (.bool true)], args := [d1, d2, d3, d4] }
  | _ => none }
def playNilRow : OpenClaim := { program := "ytaekcekecdocnaa", sum := "1a65964c4b6b1fae4e0b3371e02b9b3948416dced77614831f20beb65e0889b6", func := "fencepost/fencepostlaw22.PlayNil", spec := "playNil", unfollowed := true, recurses := true, apart := false }
def PlayNilSaid : Prop := playNilRow.holds Try.pinned (OpenSpec.ofChange playNilSpec)

/-- ITS FALSE NEIGHBOUR: 'it returns false'. Refute it at one input. -/
def playNilWrong : ChangeSpec := { name := "playNil", fn := fun _ => fun
  | [d1, d2, d3, d4] => { results := [.lit (.bool false)], args := [d1, d2, d3, d4] }
  | _ => none }
def PlayNilWrongFalsely : Prop := playNilRow.holds Try.pinned (OpenSpec.ofChange playNilWrong)

/-- 'fencepostlaw27.RegsNames': WHATEVER THE INPUT: true; the input reads as it did. -/
def regsNamesSpec : ChangeSpec := { name := "regsNames", fn := fun _ => fun
  | [] => { results := [.lit (.bool true)], args := [] }
  | _ => none }
def regsNamesRow : OpenClaim := { program := "ytaekcekecdocnaa", sum := "1a65964c4b6b1fae4e0b3371e02b9b3948416dced77614831f20beb65e0889b6", func := "fencepost/fencepostlaw27.RegsNames", spec := "regsNames", unfollowed := true, recurses := true, apart := false }
def RegsNamesSaid : Prop := regsNamesRow.holds Try.pinned (OpenSpec.ofChange regsNamesSpec)

/-- ITS FALSE NEIGHBOUR: 'it returns false'. Refute it at one input. -/
def regsNamesWrong : ChangeSpec := { name := "regsNames", fn := fun _ => fun
  | [] => { results := [.lit (.bool false)], args := [] }
  | _ => none }
def RegsNamesWrongFalsely : Prop := regsNamesRow.holds Try.pinned (OpenSpec.ofChange regsNamesWrong)

/- THE SECOND FORM. 'bulk': how many values and letters a reading holds, each counted each time it is reached (what is shared counts as often as it is met; a slice's spare places count too). A statement '..UptoSaid' is the law's where the arguments, and the package variables that the reading takes, are together of bulk at most 1048576: NARROWER than '..Said'. Prove '..Said' where nothing that the law and all that it calls make is longer than what came in: it says more and counts as full. Else prove '..UptoSaid'. A law counts once. -/
mutual
def uptoBulk {H : Type} : DataW H → Nat
  | .lit (.string bytes) => bytes.length + 1
  | .lit _ => 1
  | .nil => 1
  | .ptr d => uptoBulk d + 1
  | .slice elems spare => uptoBulkAll elems + uptoBulkAll spare + 1
  | .agg parts => uptoBulkAll parts + 1
  | .iface _ d => uptoBulk d + 1
  | .map entries => uptoBulkEntries entries + 1
  | .held _ => 1
def uptoBulkAll {H : Type} : List (DataW H) → Nat
  | [] => 0
  | d :: r => uptoBulk d + uptoBulkAll r
def uptoBulkEntries {H : Type} : List (Lit × DataW H) → Nat
  | [] => 0
  | x :: r => uptoBulkEntry x + uptoBulkEntries r
def uptoBulkEntry {H : Type} : Lit × DataW H → Nat
  | (.string bytes, d) => bytes.length + uptoBulk d + 1
  | (_, d) => uptoBulk d + 1
 end
def uptoSmall : (H : Type) → List (DataW H) → Bool := fun _ ds => decide (uptoBulkAll ds ≤ 1048576)
def OpenSpec.upto (s : _root_.Go.ChangeSpec) : _root_.Go.OpenSpec := { _root_.Go.OpenSpec.ofChange s with cond := some uptoSmall }

/-- 'fencepostlaw22.PlayNames', WHERE WHAT IT READS IS OF BULK AT MOST 1048576: true; the input reads as it did. -/
def playNamesUptoRow : OpenClaim := { program := "ytaekcekecdocnaa", sum := "1a65964c4b6b1fae4e0b3371e02b9b3948416dced77614831f20beb65e0889b6", func := "fencepost/fencepostlaw22.PlayNames", spec := "playNames", unfollowed := true, recurses := true, apart := false, narrowed := true }
def PlayNamesUptoSaid : Prop := playNamesUptoRow.holds Try.pinned (OpenSpec.upto playNamesSpec)

/-- 'fencepostlaw22.PlayNil', WHERE WHAT IT READS IS OF BULK AT MOST 1048576: true; the input reads as it did. -/
def playNilUptoRow : OpenClaim := { program := "ytaekcekecdocnaa", sum := "1a65964c4b6b1fae4e0b3371e02b9b3948416dced77614831f20beb65e0889b6", func := "fencepost/fencepostlaw22.PlayNil", spec := "playNil", unfollowed := true, recurses := true, apart := false, narrowed := true }
def PlayNilUptoSaid : Prop := playNilUptoRow.holds Try.pinned (OpenSpec.upto playNilSpec)

/-- 'fencepostlaw27.RegsNames', WHERE WHAT IT READS IS OF BULK AT MOST 1048576: true; the input reads as it did. -/
def regsNamesUptoRow : OpenClaim := { program := "ytaekcekecdocnaa", sum := "1a65964c4b6b1fae4e0b3371e02b9b3948416dced77614831f20beb65e0889b6", func := "fencepost/fencepostlaw27.RegsNames", spec := "regsNames", unfollowed := true, recurses := true, apart := false, narrowed := true }
def RegsNamesUptoSaid : Prop := regsNamesUptoRow.holds Try.pinned (OpenSpec.upto regsNamesSpec)

end Rows
end Go.Proofs.Ytaekcekecdocnaa
