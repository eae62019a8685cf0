/-
  No cell of these rows narrows 'for every input' (looked for: loops, veiled, ifaces, maps, wideKeys, modest, calm, conditions, laid).
  DERIVED. THE GIVEN ROWS OF THIS SEAT. 4 by the template 'for every input the law returns true; each argument reads behind the call as it read before'; 0 by the template 'total and deterministic' (their statements: YtnjpjmeoednfcaaTotals.lean).
  GIVEN WITH THE SEED: the statements are not yours to turn. If you find one false, say at which input.
  Laid BY PROGRAM, IN A SANDBOX (cutbox-rows.mjs): the forced cells as the released guide's own fill.sh prints them over the translation 77d189c3e3619e8d… (all of the seat's roots in one cut). By AI agents, Wed Nov 11 2026. No macro, syntax, notation, axiom, sorry.
-/
import Derived.Test.YtnjpjmeoednfcaaChecked
import GoSem.Claim
import GoSem.ClaimJoined
import GoSem.ClaimMapViews
import Derived.JoinedTies
import Derived.KernelRfl
namespace Go.Proofs.Ytnjpjmeoednfcaa
/- THE CELL 'sum', in the pinned program and in every row, IS THE sha256 OF THE DUMP (.gsa) THAT YtnjpjmeoednfcaaProg.lean LOADS. Nothing in Lean hashes anything: it is a label: what it is worth is what the hold of that sum in a sandbox is worth. -/
noncomputable def Try.pinned : Pinned := { name := "ytnjpjmeoednfcaa", sum := "77d189c3e3619e8dd27551b22885d187a2e821a5fb9b90407bebf2c454733b51", checked := Try.checked }
namespace Rows
def none {H : Type} : Left H := { results := [], args := [] }

/-- 'fencepostlaw14.DataParts': WHATEVER THE INPUT: true; the input reads as it did. -/
def dataPartsSpec : ChangeSpec := { name := "dataParts", fn := fun _ => fun
  | [d1, d2, d3] => { results := [.lit (.bool true)], args := [d1, d2, d3] }
  | _ => none }
def dataPartsRow : OpenClaim := { program := "ytnjpjmeoednfcaa", sum := "77d189c3e3619e8dd27551b22885d187a2e821a5fb9b90407bebf2c454733b51", func := "fencepost/fencepostlaw14.DataParts", spec := "dataParts", unfollowed := true, recurses := true, plainKeys := false, apart := false }
def DataPartsSaid : Prop := dataPartsRow.holds Try.pinned (OpenSpec.ofChange dataPartsSpec)

/-- ITS FALSE NEIGHBOUR: 'it returns false'. Refute it at one input. -/
def dataPartsWrong : ChangeSpec := { name := "dataParts", fn := fun _ => fun
  | [d1, d2, d3] => { results := [.lit (.bool false)], args := [d1, d2, d3] }
  | _ => none }
def DataPartsWrongFalsely : Prop := dataPartsRow.holds Try.pinned (OpenSpec.ofChange dataPartsWrong)

/-- 'fencepostlaw14.DataNames': WHATEVER THE INPUT: true; the input reads as it did. -/
def dataNamesSpec : ChangeSpec := { name := "dataNames", fn := fun _ => fun
  | [] => { results := [.lit (.bool true)], args := [] }
  | _ => none }
def dataNamesRow : OpenClaim := { program := "ytnjpjmeoednfcaa", sum := "77d189c3e3619e8dd27551b22885d187a2e821a5fb9b90407bebf2c454733b51", func := "fencepost/fencepostlaw14.DataNames", spec := "dataNames", unfollowed := true, recurses := true, plainKeys := false, apart := false }
def DataNamesSaid : Prop := dataNamesRow.holds Try.pinned (OpenSpec.ofChange dataNamesSpec)

/-- ITS FALSE NEIGHBOUR: 'it returns false'. Refute it at one input. -/
def dataNamesWrong : ChangeSpec := { name := "dataNames", fn := fun _ => fun
  | [] => { results := [.lit (.bool false)], args := [] }
  | _ => none }
def DataNamesWrongFalsely : Prop := dataNamesRow.holds Try.pinned (OpenSpec.ofChange dataNamesWrong)

/-- 'fencepostlaw14.DataCalls': WHATEVER THE INPUT: true; the input reads as it did. -/
def dataCallsSpec : ChangeSpec := { name := "dataCalls", fn := fun _ => fun
  | [d1, d2, d3, d4, d5] => { results := [.lit (.bool true)], args := [d1, d2, d3, d4, d5] }
  | _ => none }
def dataCallsRow : OpenClaim := { program := "ytnjpjmeoednfcaa", sum := "77d189c3e3619e8dd27551b22885d187a2e821a5fb9b90407bebf2c454733b51", func := "fencepost/fencepostlaw14.DataCalls", spec := "dataCalls", unfollowed := true, recurses := true, plainKeys := false, apart := false }
def DataCallsSaid : Prop := dataCallsRow.holds Try.pinned (OpenSpec.ofChange dataCallsSpec)

/-- ITS FALSE NEIGHBOUR: 'it returns false'. Refute it at one input. -/
def dataCallsWrong : ChangeSpec := { name := "dataCalls", fn := fun _ => fun
  | [d1, d2, d3, d4, d5] => { results := [.lit (.bool false)], args := [d1, d2, d3, d4, d5] }
  | _ => none }
def DataCallsWrongFalsely : Prop := dataCallsRow.holds Try.pinned (OpenSpec.ofChange dataCallsWrong)

/-- 'fencepostlaw14.DataApart': WHATEVER THE INPUT: true; the input reads as it did. -/
def dataApartSpec : ChangeSpec := { name := "dataApart", fn := fun _ => fun
  | [d1, d2] => { results := [.lit (.bool true)], args := [d1, d2] }
  | _ => none }
def dataApartRow : OpenClaim := { program := "ytnjpjmeoednfcaa", sum := "77d189c3e3619e8dd27551b22885d187a2e821a5fb9b90407bebf2c454733b51", func := "fencepost/fencepostlaw14.DataApart", spec := "dataApart", unfollowed := true, recurses := true, plainKeys := false, apart := false }
def DataApartSaid : Prop := dataApartRow.holds Try.pinned (OpenSpec.ofChange dataApartSpec)

/-- ITS FALSE NEIGHBOUR: 'it returns false'. Refute it at one input. -/
def dataApartWrong : ChangeSpec := { name := "dataApart", fn := fun _ => fun
  | [d1, d2] => { results := [.lit (.bool false)], args := [d1, d2] }
  | _ => none }
def DataApartWrongFalsely : Prop := dataApartRow.holds Try.pinned (OpenSpec.ofChange dataApartWrong)

/- THE SECOND FORM. 'bulk': how many values and letters a reading holds, each counted each time it is reached (what is shared counts as often as it is met; a slice's spare places count too). A statement '..UptoSaid' is the law's where the arguments, and the package variables that the reading takes, are together of bulk at most 1048576: NARROWER than '..Said'. Prove '..Said' where nothing that the law and all that it calls make is longer than what came in: it says more and counts as full. Else prove '..UptoSaid'. A law counts once. -/
mutual
def uptoBulk {H : Type} : DataW H → Nat
  | .lit (.string bytes) => bytes.length + 1
  | .lit _ => 1
  | .nil => 1
  | .ptr d => uptoBulk d + 1
  | .slice elems spare => uptoBulkAll elems + uptoBulkAll spare + 1
  | .agg parts => uptoBulkAll parts + 1
  | .iface _ d => uptoBulk d + 1
  | .map entries => uptoBulkEntries entries + 1
  | .held _ => 1
def uptoBulkAll {H : Type} : List (DataW H) → Nat
  | [] => 0
  | d :: r => uptoBulk d + uptoBulkAll r
def uptoBulkEntries {H : Type} : List (Lit × DataW H) → Nat
  | [] => 0
  | x :: r => uptoBulkEntry x + uptoBulkEntries r
def uptoBulkEntry {H : Type} : Lit × DataW H → Nat
  | (.string bytes, d) => bytes.length + uptoBulk d + 1
  | (_, d) => uptoBulk d + 1
 end
def uptoSmall : (H : Type) → List (DataW H) → Bool := fun _ ds => decide (uptoBulkAll ds ≤ 1048576)
def OpenSpec.upto (s : _root_.Go.ChangeSpec) : _root_.Go.OpenSpec := { _root_.Go.OpenSpec.ofChange s with cond := some uptoSmall }

/-- 'fencepostlaw14.DataParts', WHERE WHAT IT READS IS OF BULK AT MOST 1048576: true; the input reads as it did. -/
def dataPartsUptoRow : OpenClaim := { program := "ytnjpjmeoednfcaa", sum := "77d189c3e3619e8dd27551b22885d187a2e821a5fb9b90407bebf2c454733b51", func := "fencepost/fencepostlaw14.DataParts", spec := "dataParts", unfollowed := true, recurses := true, plainKeys := false, apart := false, narrowed := true }
def DataPartsUptoSaid : Prop := dataPartsUptoRow.holds Try.pinned (OpenSpec.upto dataPartsSpec)

/-- 'fencepostlaw14.DataNames', WHERE WHAT IT READS IS OF BULK AT MOST 1048576: true; the input reads as it did. -/
def dataNamesUptoRow : OpenClaim := { program := "ytnjpjmeoednfcaa", sum := "77d189c3e3619e8dd27551b22885d187a2e821a5fb9b90407bebf2c454733b51", func := "fencepost/fencepostlaw14.DataNames", spec := "dataNames", unfollowed := true, recurses := true, plainKeys := false, apart := false, narrowed := true }
def DataNamesUptoSaid : Prop := dataNamesUptoRow.holds Try.pinned (OpenSpec.upto dataNamesSpec)

/-- 'fencepostlaw14.DataCalls', WHERE WHAT IT READS IS OF BULK AT MOST 1048576: true; the input reads as it did. -/
def dataCallsUptoRow : OpenClaim := { program := "ytnjpjmeoednfcaa", sum := "77d189c3e3619e8dd27551b22885d187a2e821a5fb9b90407bebf2c454733b51", func := "fencepost/fencepostlaw14.DataCalls", spec := "dataCalls", unfollowed := true, recurses := true, plainKeys := false, apart := false, narrowed := true }
def DataCallsUptoSaid : Prop := dataCallsUptoRow.holds Try.pinned (OpenSpec.upto dataCallsSpec)

/-- 'fencepostlaw14.DataApart', WHERE WHAT IT READS IS OF BULK AT MOST 1048576: true; the input reads as it did. -/
def dataApartUptoRow : OpenClaim := { program := "ytnjpjmeoednfcaa", sum := "77d189c3e3619e8dd27551b22885d187a2e821a5fb9b90407bebf2c454733b51", func := "fencepost/fencepostlaw14.DataApart", spec := "dataApart", unfollowed := true, recurses := true, plainKeys := false, apart := false, narrowed := true }
def DataApartUptoSaid : Prop := dataApartUptoRow.holds Try.pinned (OpenSpec.upto dataApartSpec)

end Rows
end Go.Proofs.Ytnjpjmeoednfcaa
