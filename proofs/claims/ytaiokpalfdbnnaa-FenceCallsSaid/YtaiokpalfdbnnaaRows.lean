/-
  No cell of these rows narrows 'for every input' (looked for: loops, veiled, ifaces, maps, wideKeys, modest, calm, conditions, laid).
  DERIVED. THE GIVEN ROWS OF THIS SEAT. 5 by the template 'for every input the law returns true; each argument reads behind the call as it read before'; 0 by the template 'total and deterministic' (their statements: YtaiokpalfdbnnaaTotals.lean).
  GIVEN WITH THE SEED: the statements are not yours to turn. If you find one false, say at which input.
  Laid BY PROGRAM, IN A SANDBOX (cutbox-rows.mjs): the forced cells as the released guide's own fill.sh prints them over the translation 31bd1ec2a8db1aa7… (all of the seat's roots in one cut). By AI agents, Wed Nov 11 2026. No macro, syntax, notation, axiom, sorry.
-/
import Derived.Test.YtaiokpalfdbnnaaChecked
import GoSem.Claim
import GoSem.ClaimJoined
import GoSem.ClaimMapViews
import Derived.JoinedTies
import Derived.KernelRfl
namespace Go.Proofs.Ytaiokpalfdbnnaa
/- THE CELL 'sum', in the pinned program and in every row, IS THE sha256 OF THE DUMP (.gsa) THAT YtaiokpalfdbnnaaProg.lean LOADS. Nothing in Lean hashes anything: it is a label: what it is worth is what the hold of that sum in a sandbox is worth. -/
noncomputable def Try.pinned : Pinned := { name := "ytaiokpalfdbnnaa", sum := "31bd1ec2a8db1aa7eff7cb544a3d48bf290fee1c5855a35f140d03921d82083e", checked := Try.checked }
namespace Rows
def none {H : Type} : Left H := { results := [], args := [] }

/-- 'fencepostlaw26.FenceDoes': WHATEVER THE INPUT: true; the input reads as it did. -/
def fenceDoesSpec : ChangeSpec := { name := "fenceDoes", fn := fun _ => fun
  | [d1, d2, d3] => { results := [.lit (.bool true)], args := [d1, d2, d3] }
  | _ => none }
def fenceDoesRow : OpenClaim := { program := "ytaiokpalfdbnnaa", sum := "31bd1ec2a8db1aa7eff7cb544a3d48bf290fee1c5855a35f140d03921d82083e", func := "fencepost/fencepostlaw26.FenceDoes", spec := "fenceDoes", unfollowed := true, recurses := true, apart := false }
def FenceDoesSaid : Prop := fenceDoesRow.holds Try.pinned (OpenSpec.ofChange fenceDoesSpec)

/-- ITS FALSE NEIGHBOUR: 'it returns false'. Refute it at one input. -/
def fenceDoesWrong : ChangeSpec := { name := "fenceDoes", fn := fun _ => fun
  | [d1, d2, d3] => { results := [.lit (.bool false)], args := [d1, d2, d3] }
  | _ => none }
def FenceDoesWrongFalsely : Prop := fenceDoesRow.holds Try.pinned (OpenSpec.ofChange fenceDoesWrong)

/-- 'fencepostlaw26.FenceWhere': WHATEVER THE INPUT: true; the input reads as it did. -/
def fenceWhereSpec : ChangeSpec := { name := "fenceWhere", fn := fun _ => fun
  | [d] => { results := [.lit (.bool true)], args := [d] }
  | _ => none }
def fenceWhereRow : OpenClaim := { program := "ytaiokpalfdbnnaa", sum := "31bd1ec2a8db1aa7eff7cb544a3d48bf290fee1c5855a35f140d03921d82083e", func := "fencepost/fencepostlaw26.FenceWhere", spec := "fenceWhere", unfollowed := true, recurses := true, apart := false }
def FenceWhereSaid : Prop := fenceWhereRow.holds Try.pinned (OpenSpec.ofChange fenceWhereSpec)

/-- ITS FALSE NEIGHBOUR: 'it returns false'. Refute it at one input. -/
def fenceWhereWrong : ChangeSpec := { name := "fenceWhere", fn := fun _ => fun
  | [d] => { results := [.lit (.bool false)], args := [d] }
  | _ => none }
def FenceWhereWrongFalsely : Prop := fenceWhereRow.holds Try.pinned (OpenSpec.ofChange fenceWhereWrong)

/-- 'fencepostlaw26.FenceWays': WHATEVER THE INPUT: true; the input reads as it did. -/
def fenceWaysSpec : ChangeSpec := { name := "fenceWays", fn := fun _ => fun
  | [d] => { results := [.lit (.bool true)], args := [d] }
  | _ => none }
def fenceWaysRow : OpenClaim := { program := "ytaiokpalfdbnnaa", sum := "31bd1ec2a8db1aa7eff7cb544a3d48bf290fee1c5855a35f140d03921d82083e", func := "fencepost/fencepostlaw26.FenceWays", spec := "fenceWays", unfollowed := true, recurses := true, apart := false }
def FenceWaysSaid : Prop := fenceWaysRow.holds Try.pinned (OpenSpec.ofChange fenceWaysSpec)

/-- ITS FALSE NEIGHBOUR: 'it returns false'. Refute it at one input. -/
def fenceWaysWrong : ChangeSpec := { name := "fenceWays", fn := fun _ => fun
  | [d] => { results := [.lit (.bool false)], args := [d] }
  | _ => none }
def FenceWaysWrongFalsely : Prop := fenceWaysRow.holds Try.pinned (OpenSpec.ofChange fenceWaysWrong)

/-- 'fencepostlaw26.FenceNames': WHATEVER THE INPUT: true; the input reads as it did. -/
def fenceNamesSpec : ChangeSpec := { name := "fenceNames", fn := fun _ => fun
  | [] => { results := [.lit (.bool true)], args := [] }
  | _ => none }
def fenceNamesRow : OpenClaim := { program := "ytaiokpalfdbnnaa", sum := "31bd1ec2a8db1aa7eff7cb544a3d48bf290fee1c5855a35f140d03921d82083e", func := "fencepost/fencepostlaw26.FenceNames", spec := "fenceNames", unfollowed := true, recurses := true, apart := false }
def FenceNamesSaid : Prop := fenceNamesRow.holds Try.pinned (OpenSpec.ofChange fenceNamesSpec)

/-- ITS FALSE NEIGHBOUR: 'it returns false'. Refute it at one input. -/
def fenceNamesWrong : ChangeSpec := { name := "fenceNames", fn := fun _ => fun
  | [] => { results := [.lit (.bool false)], args := [] }
  | _ => none }
def FenceNamesWrongFalsely : Prop := fenceNamesRow.holds Try.pinned (OpenSpec.ofChange fenceNamesWrong)

/-- 'fencepostlaw26.FenceCalls': WHATEVER THE INPUT: true; the input reads as it did. -/
def fenceCallsSpec : ChangeSpec := { name := "fenceCalls", fn := fun _ => fun
  | [d] => { results := [.lit (.bool true)], args := [d] }
  | _ => none }
def fenceCallsRow : OpenClaim := { program := "ytaiokpalfdbnnaa", sum := "31bd1ec2a8db1aa7eff7cb544a3d48bf290fee1c5855a35f140d03921d82083e", func := "fencepost/fencepostlaw26.FenceCalls", spec := "fenceCalls", unfollowed := true, recurses := true, apart := false }
def FenceCallsSaid : Prop := fenceCallsRow.holds Try.pinned (OpenSpec.ofChange fenceCallsSpec)

/-- ITS FALSE NEIGHBOUR: 'it returns false'. Refute it at one input. -/
def fenceCallsWrong : ChangeSpec := { name := "fenceCalls", fn := fun _ => fun
  | [d] => { results := [.lit (.bool false)], args := [d] }
  | _ => none }
def FenceCallsWrongFalsely : Prop := fenceCallsRow.holds Try.pinned (OpenSpec.ofChange fenceCallsWrong)

/- THE SECOND FORM. 'bulk': how many values and letters a reading holds, each counted each time it is reached (what is shared counts as often as it is met; a slice's spare places count too). A statement '..UptoSaid' is the law's where the arguments, and the package variables that the reading takes, are together of bulk at most 1048576: NARROWER than '..Said'. Prove '..Said' where nothing that the law and all that it calls make is longer than what came in: it says more and counts as full. Else prove '..UptoSaid'. A law counts once. -/
mutual
def uptoBulk {H : Type} : DataW H → Nat
  | .lit (.string bytes) => bytes.length + 1
  | .lit _ => 1
  | .nil => 1
  | .ptr d => uptoBulk d + 1
  | .slice elems spare => uptoBulkAll elems + uptoBulkAll spare + 1
  | .agg parts => uptoBulkAll parts + 1
  | .iface _ d => uptoBulk d + 1
  | .map entries => uptoBulkEntries entries + 1
  | .held _ => 1
def uptoBulkAll {H : Type} : List (DataW H) → Nat
  | [] => 0
  | d :: r => uptoBulk d + uptoBulkAll r
def uptoBulkEntries {H : Type} : List (Lit × DataW H) → Nat
  | [] => 0
  | x :: r => uptoBulkEntry x + uptoBulkEntries r
def uptoBulkEntry {H : Type} : Lit × DataW H → Nat
  | (.string bytes, d) => bytes.length + uptoBulk d + 1
  | (_, d) => uptoBulk d + 1
 end
def uptoSmall : (H : Type) → List (DataW H) → Bool := fun _ ds => decide (uptoBulkAll ds ≤ 1048576)
def OpenSpec.upto (s : _root_.Go.ChangeSpec) : _root_.Go.OpenSpec := { _root_.Go.OpenSpec.ofChange s with cond := some uptoSmall }

/-- 'fencepostlaw26.FenceDoes', WHERE WHAT IT READS IS OF BULK AT MOST 1048576: true; the input reads as it did. -/
def fenceDoesUptoRow : OpenClaim := { program := "ytaiokpalfdbnnaa", sum := "31bd1ec2a8db1aa7eff7cb544a3d48bf290fee1c5855a35f140d03921d82083e", func := "fencepost/fencepostlaw26.FenceDoes", spec := "fenceDoes", unfollowed := true, recurses := true, apart := false, narrowed := true }
def FenceDoesUptoSaid : Prop := fenceDoesUptoRow.holds Try.pinned (OpenSpec.upto fenceDoesSpec)

/-- 'fencepostlaw26.FenceWhere', WHERE WHAT IT READS IS OF BULK AT MOST 1048576: true; the input reads as it did. -/
def fenceWhereUptoRow : OpenClaim := { program := "ytaiokpalfdbnnaa", sum := "31bd1ec2a8db1aa7eff7cb544a3d48bf290fee1c5855a35f140d03921d82083e", func := "fencepost/fencepostlaw26.FenceWhere", spec := "fenceWhere", unfollowed := true, recurses := true, apart := false, narrowed := true }
def FenceWhereUptoSaid : Prop := fenceWhereUptoRow.holds Try.pinned (OpenSpec.upto fenceWhereSpec)

/-- 'fencepostlaw26.FenceWays', WHERE WHAT IT READS IS OF BULK AT MOST 1048576: true; the input reads as it did. -/
def fenceWaysUptoRow : OpenClaim := { program := "ytaiokpalfdbnnaa", sum := "31bd1ec2a8db1aa7eff7cb544a3d48bf290fee1c5855a35f140d03921d82083e", func := "fencepost/fencepostlaw26.FenceWays", spec := "fenceWays", unfollowed := true, recurses := true, apart := false, narrowed := true }
def FenceWaysUptoSaid : Prop := fenceWaysUptoRow.holds Try.pinned (OpenSpec.upto fenceWaysSpec)

/-- 'fencepostlaw26.FenceNames', WHERE WHAT IT READS IS OF BULK AT MOST 1048576: true; the input reads as it did. -/
def fenceNamesUptoRow : OpenClaim := { program := "ytaiokpalfdbnnaa", sum := "31bd1ec2a8db1aa7eff7cb544a3d48bf290fee1c5855a35f140d03921d82083e", func := "fencepost/fencepostlaw26.FenceNames", spec := "fenceNames", unfollowed := true, recurses := true, apart := false, narrowed := true }
def FenceNamesUptoSaid : Prop := fenceNamesUptoRow.holds Try.pinned (OpenSpec.upto fenceNamesSpec)

/-- 'fencepostlaw26.FenceCalls', WHERE WHAT IT READS IS OF BULK AT MOST 1048576: true; the input reads as it did. -/
def fenceCallsUptoRow : OpenClaim := { program := "ytaiokpalfdbnnaa", sum := "31bd1ec2a8db1aa7eff7cb544a3d48bf290fee1c5855a35f140d03921d82083e", func := "fencepost/fencepostlaw26.FenceCalls", spec := "fenceCalls", unfollowed := true, recurses := true, apart := false, narrowed := true }
def FenceCallsUptoSaid : Prop := fenceCallsUptoRow.holds Try.pinned (OpenSpec.upto fenceCallsSpec)

end Rows
end Go.Proofs.Ytaiokpalfdbnnaa
