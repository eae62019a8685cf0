/-
  No cell of these rows narrows 'for every input' (looked for: loops, veiled, ifaces, maps, wideKeys, modest, calm, conditions, laid).
  DERIVED. THE GIVEN ROWS OF THIS SEAT. 5 by the template 'for every input the law returns true; each argument reads behind the call as it read before'; 0 by the template 'total and deterministic' (their statements: YtcckeabholabcaaTotals.lean).
  GIVEN WITH THE SEED: the statements are not yours to turn. If you find one false, say at which input.
  Laid BY PROGRAM, IN A SANDBOX (cutbox-rows.mjs): the forced cells as the released guide's own fill.sh prints them over the translation 886866a90822f496… (all of the seat's roots in one cut). By AI agents, Wed Nov 11 2026. No macro, syntax, notation, axiom, sorry.
-/
import Derived.Test.YtcckeabholabcaaChecked
import GoSem.Claim
import GoSem.ClaimJoined
import GoSem.ClaimMapViews
import Derived.JoinedTies
import Derived.KernelRfl
namespace Go.Proofs.Ytcckeabholabcaa
/- THE CELL 'sum', in the pinned program and in every row, IS THE sha256 OF THE DUMP (.gsa) THAT YtcckeabholabcaaProg.lean LOADS. Nothing in Lean hashes anything: it is a label: what it is worth is what the hold of that sum in a sandbox is worth. -/
noncomputable def Try.pinned : Pinned := { name := "ytcckeabholabcaa", sum := "886866a90822f49689b06c0ac4a9a05e03324764caa2cfc2c958af6a796247c0", checked := Try.checked }
namespace Rows
def none {H : Type} : Left H := { results := [], args := [] }

/-- 'fencepostlaw09.CandHarts': WHATEVER THE INPUT: true; the input reads as it did. -/
def candHartsSpec : ChangeSpec := { name := "candHarts", fn := fun _ => fun
  | [d1, d2] => { results := [.lit (.bool true)], args := [d1, d2] }
  | _ => none }
def candHartsRow : OpenClaim := { program := "ytcckeabholabcaa", sum := "886866a90822f49689b06c0ac4a9a05e03324764caa2cfc2c958af6a796247c0", func := "fencepost/fencepostlaw09.CandHarts", spec := "candHarts", unfollowed := true, recurses := true, apart := false }
def CandHartsSaid : Prop := candHartsRow.holds Try.pinned (OpenSpec.ofChange candHartsSpec)

/-- ITS FALSE NEIGHBOUR: 'it returns false'. Refute it at one input. -/
def candHartsWrong : ChangeSpec := { name := "candHarts", fn := fun _ => fun
  | [d1, d2] => { results := [.lit (.bool false)], args := [d1, d2] }
  | _ => none }
def CandHartsWrongFalsely : Prop := candHartsRow.holds Try.pinned (OpenSpec.ofChange candHartsWrong)

/-- 'fencepostlaw09.CandLast': WHATEVER THE INPUT: true; the input reads as it did. -/
def candLastSpec : ChangeSpec := { name := "candLast", fn := fun _ => fun
  | [d] => { results := [.lit (.bool true)], args := [d] }
  | _ => none }
def candLastRow : OpenClaim := { program := "ytcckeabholabcaa", sum := "886866a90822f49689b06c0ac4a9a05e03324764caa2cfc2c958af6a796247c0", func := "fencepost/fencepostlaw09.CandLast", spec := "candLast", unfollowed := true, recurses := true, apart := false }
def CandLastSaid : Prop := candLastRow.holds Try.pinned (OpenSpec.ofChange candLastSpec)

/-- ITS FALSE NEIGHBOUR: 'it returns false'. Refute it at one input. -/
def candLastWrong : ChangeSpec := { name := "candLast", fn := fun _ => fun
  | [d] => { results := [.lit (.bool false)], args := [d] }
  | _ => none }
def CandLastWrongFalsely : Prop := candLastRow.holds Try.pinned (OpenSpec.ofChange candLastWrong)

/-- 'fencepostlaw09.CandFrom': WHATEVER THE INPUT: true; the input reads as it did. -/
def candFromSpec : ChangeSpec := { name := "candFrom", fn := fun _ => fun
  | [d1, d2, d3] => { results := [.lit (.bool true)], args := [d1, d2, d3] }
  | _ => none }
def candFromRow : OpenClaim := { program := "ytcckeabholabcaa", sum := "886866a90822f49689b06c0ac4a9a05e03324764caa2cfc2c958af6a796247c0", func := "fencepost/fencepostlaw09.CandFrom", spec := "candFrom", unfollowed := true, recurses := true, apart := false }
def CandFromSaid : Prop := candFromRow.holds Try.pinned (OpenSpec.ofChange candFromSpec)

/-- ITS FALSE NEIGHBOUR: 'it returns false'. Refute it at one input. -/
def candFromWrong : ChangeSpec := { name := "candFrom", fn := fun _ => fun
  | [d1, d2, d3] => { results := [.lit (.bool false)], args := [d1, d2, d3] }
  | _ => none }
def CandFromWrongFalsely : Prop := candFromRow.holds Try.pinned (OpenSpec.ofChange candFromWrong)

/-- 'fencepostlaw09.CandNumbers': WHATEVER THE INPUT: true; the input reads as it did. -/
def candNumbersSpec : ChangeSpec := { name := "candNumbers", fn := fun _ => fun
  | [d] => { results := [.lit (.bool true)], args := [d] }
  | _ => none }
def candNumbersRow : OpenClaim := { program := "ytcckeabholabcaa", sum := "886866a90822f49689b06c0ac4a9a05e03324764caa2cfc2c958af6a796247c0", func := "fencepost/fencepostlaw09.CandNumbers", spec := "candNumbers", unfollowed := true, recurses := true, apart := false }
def CandNumbersSaid : Prop := candNumbersRow.holds Try.pinned (OpenSpec.ofChange candNumbersSpec)

/-- ITS FALSE NEIGHBOUR: 'it returns false'. Refute it at one input. -/
def candNumbersWrong : ChangeSpec := { name := "candNumbers", fn := fun _ => fun
  | [d] => { results := [.lit (.bool false)], args := [d] }
  | _ => none }
def CandNumbersWrongFalsely : Prop := candNumbersRow.holds Try.pinned (OpenSpec.ofChange candNumbersWrong)

/-- 'fencepostlaw09.CandNames': WHATEVER THE INPUT: true; the input reads as it did. -/
def candNamesSpec : ChangeSpec := { name := "candNames", fn := fun _ => fun
  | [] => { results := [.lit (.bool true)], args := [] }
  | _ => none }
def candNamesRow : OpenClaim := { program := "ytcckeabholabcaa", sum := "886866a90822f49689b06c0ac4a9a05e03324764caa2cfc2c958af6a796247c0", func := "fencepost/fencepostlaw09.CandNames", spec := "candNames", unfollowed := true, recurses := true, apart := false }
def CandNamesSaid : Prop := candNamesRow.holds Try.pinned (OpenSpec.ofChange candNamesSpec)

/-- ITS FALSE NEIGHBOUR: 'it returns false'. Refute it at one input. -/
def candNamesWrong : ChangeSpec := { name := "candNames", fn := fun _ => fun
  | [] => { results := [.lit (.bool false)], args := [] }
  | _ => none }
def CandNamesWrongFalsely : Prop := candNamesRow.holds Try.pinned (OpenSpec.ofChange candNamesWrong)

/- THE SECOND FORM. 'bulk': how many values and letters a reading holds, each counted each time it is reached (what is shared counts as often as it is met; a slice's spare places count too). A statement '..UptoSaid' is the law's where the arguments, and the package variables that the reading takes, are together of bulk at most 1048576: NARROWER than '..Said'. Prove '..Said' where nothing that the law and all that it calls make is longer than what came in: it says more and counts as full. Else prove '..UptoSaid'. A law counts once. -/
mutual
def uptoBulk {H : Type} : DataW H → Nat
  | .lit (.string bytes) => bytes.length + 1
  | .lit _ => 1
  | .nil => 1
  | .ptr d => uptoBulk d + 1
  | .slice elems spare => uptoBulkAll elems + uptoBulkAll spare + 1
  | .agg parts => uptoBulkAll parts + 1
  | .iface _ d => uptoBulk d + 1
  | .map entries => uptoBulkEntries entries + 1
  | .held _ => 1
def uptoBulkAll {H : Type} : List (DataW H) → Nat
  | [] => 0
  | d :: r => uptoBulk d + uptoBulkAll r
def uptoBulkEntries {H : Type} : List (Lit × DataW H) → Nat
  | [] => 0
  | x :: r => uptoBulkEntry x + uptoBulkEntries r
def uptoBulkEntry {H : Type} : Lit × DataW H → Nat
  | (.string bytes, d) => bytes.length + uptoBulk d + 1
  | (_, d) => uptoBulk d + 1
 end
def uptoSmall : (H : Type) → List (DataW H) → Bool := fun _ ds => decide (uptoBulkAll ds ≤ 1048576)
def OpenSpec.upto (s : _root_.Go.ChangeSpec) : _root_.Go.OpenSpec := { _root_.Go.OpenSpec.ofChange s with cond := some uptoSmall }

/-- 'fencepostlaw09.CandHarts', WHERE WHAT IT READS IS OF BULK AT MOST 1048576: true; the input reads as it did. -/
def candHartsUptoRow : OpenClaim := { program := "ytcckeabholabcaa", sum := "886866a90822f49689b06c0ac4a9a05e03324764caa2cfc2c958af6a796247c0", func := "fencepost/fencepostlaw09.CandHarts", spec := "candHarts", unfollowed := true, recurses := true, apart := false, narrowed := true }
def CandHartsUptoSaid : Prop := candHartsUptoRow.holds Try.pinned (OpenSpec.upto candHartsSpec)

/-- 'fencepostlaw09.CandLast', WHERE WHAT IT READS IS OF BULK AT MOST 1048576: true; the input reads as it did. -/
def candLastUptoRow : OpenClaim := { program := "ytcckeabholabcaa", sum := "886866a90822f49689b06c0ac4a9a05e03324764caa2cfc2c958af6a796247c0", func := "fencepost/fencepostlaw09.CandLast", spec := "candLast", unfollowed := true, recurses := true, apart := false, narrowed := true }
def CandLastUptoSaid : Prop := candLastUptoRow.holds Try.pinned (OpenSpec.upto candLastSpec)

/-- 'fencepostlaw09.CandFrom', WHERE WHAT IT READS IS OF BULK AT MOST 1048576: true; the input reads as it did. -/
def candFromUptoRow : OpenClaim := { program := "ytcckeabholabcaa", sum := "886866a90822f49689b06c0ac4a9a05e03324764caa2cfc2c958af6a796247c0", func := "fencepost/fencepostlaw09.CandFrom", spec := "candFrom", unfollowed := true, recurses := true, apart := false, narrowed := true }
def CandFromUptoSaid : Prop := candFromUptoRow.holds Try.pinned (OpenSpec.upto candFromSpec)

/-- 'fencepostlaw09.CandNumbers', WHERE WHAT IT READS IS OF BULK AT MOST 1048576: true; the input reads as it did. -/
def candNumbersUptoRow : OpenClaim := { program := "ytcckeabholabcaa", sum := "886866a90822f49689b06c0ac4a9a05e03324764caa2cfc2c958af6a796247c0", func := "fencepost/fencepostlaw09.CandNumbers", spec := "candNumbers", unfollowed := true, recurses := true, apart := false, narrowed := true }
def CandNumbersUptoSaid : Prop := candNumbersUptoRow.holds Try.pinned (OpenSpec.upto candNumbersSpec)

/-- 'fencepostlaw09.CandNames', WHERE WHAT IT READS IS OF BULK AT MOST 1048576: true; the input reads as it did. -/
def candNamesUptoRow : OpenClaim := { program := "ytcckeabholabcaa", sum := "886866a90822f49689b06c0ac4a9a05e03324764caa2cfc2c958af6a796247c0", func := "fencepost/fencepostlaw09.CandNames", spec := "candNames", unfollowed := true, recurses := true, apart := false, narrowed := true }
def CandNamesUptoSaid : Prop := candNamesUptoRow.holds Try.pinned (OpenSpec.upto candNamesSpec)

end Rows
end Go.Proofs.Ytcckeabholabcaa
