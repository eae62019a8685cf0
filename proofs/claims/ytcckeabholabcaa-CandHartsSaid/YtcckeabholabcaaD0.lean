/- Data that are read as values of the types of the code. Printed by a program; nothing is claimed here of the code. -/
import Derived.Test.YtcckeabholabcaaP0
import Derived.KernelRfl
namespace Go.Proofs.Ytcckeabholabcaa
open Go A
set_option linter.unusedVariables false
section
variable {H : Type}
theorem uK : ku H Try.prog 33 (ac .u64) (u4 .u64) := ku.int Try.underlying33
theorem GP : ku H Try.prog 35 Cell.enc Cell.wf := ku.conv (ku.struct Try.underlying35 (gJ.cons uK (gJ.cons uK gJ.nil))) (fun x => Cell.mk x.1 x.2.1) (fun _ => rfl) (fun x h => ⟨h.1, h.2.1⟩)
theorem GQ : ku H Try.prog 22 (i4 Cell.enc) (fun l => l.length ≤ maxLen ∧ ∀ z ∈ l, Cell.wf z) := ku.slice Try.underlying22 GP
theorem rG : ku H Try.prog 3 (ac .i64) (u4 .i64) := ku.int Try.underlying3
theorem F7 : ku H Try.prog 4 iu (fun _ => True) := ku.bool Try.underlying4
theorem uL : ku H Try.prog 24 (i4 (ac .i64)) (fun l => l.length ≤ maxLen ∧ ∀ z ∈ l, u4 .i64 z) := ku.slice Try.underlying24 rG
theorem GR : ku H Try.prog 40 Deps.enc Deps.wf := ku.conv (ku.struct Try.underlying40 (gJ.cons uL (gJ.cons uL (gJ.cons uL gJ.nil)))) (fun x => Deps.mk x.1 x.2.1 x.2.2.1) (fun _ => rfl) (fun x h => ⟨h.1, h.2.1, h.2.2.1⟩)
theorem GT : ku H Try.prog 42 Event.enc Event.wf := ku.conv (ku.struct Try.underlying42 (gJ.cons rG (gJ.cons rG (gJ.cons rG (gJ.cons uK (gJ.cons uK (gJ.cons uK (gJ.cons F7 (gJ.cons F7 (gJ.cons rG (gJ.cons rG (gJ.cons rG (gJ.cons GR gJ.nil))))))))))))) (fun x => Event.mk x.1 x.2.1 x.2.2.1 x.2.2.2.1 x.2.2.2.2.1 x.2.2.2.2.2.1 x.2.2.2.2.2.2.1 x.2.2.2.2.2.2.2.1 x.2.2.2.2.2.2.2.2.1 x.2.2.2.2.2.2.2.2.2.1 x.2.2.2.2.2.2.2.2.2.2.1 x.2.2.2.2.2.2.2.2.2.2.2.1) (fun _ => rfl) (fun x h => ⟨h.1, h.2.1, h.2.2.1, h.2.2.2.1, h.2.2.2.2.1, h.2.2.2.2.2.1, h.2.2.2.2.2.2.1, h.2.2.2.2.2.2.2.1, h.2.2.2.2.2.2.2.2.1, h.2.2.2.2.2.2.2.2.2.1, h.2.2.2.2.2.2.2.2.2.2.1, h.2.2.2.2.2.2.2.2.2.2.2.1⟩)
theorem GU : ku H Try.prog 37 (i4 Event.enc) (fun l => l.length ≤ maxLen ∧ ∀ z ∈ l, Event.wf z) := ku.slice Try.underlying37 GT
theorem GV : ku H Try.prog 23 (i4 (i4 Event.enc)) (fun l => l.length ≤ maxLen ∧ ∀ z ∈ l, z.length ≤ maxLen ∧ ∀ zz ∈ z, Event.wf zz) := ku.slice Try.underlying23 GU
theorem GW : ku H Try.prog 26 az.enc az.wf := ku.conv (ku.struct Try.underlying26 (gJ.cons GQ (gJ.cons GV (gJ.cons uL (gJ.cons uL gJ.nil))))) (fun x => az.mk x.1 x.2.1 x.2.2.1 x.2.2.2.1) (fun _ => rfl) (fun x h => ⟨h.1, h.2.1, h.2.2.1, h.2.2.2.1⟩)
end
end Go.Proofs.Ytcckeabholabcaa
