/- Data that are read as values of the types of the code. Printed by a program; nothing is claimed here of the code. -/
import Derived.Test.YtcckeabholabcaaP0
import Derived.KernelRfl
namespace Go.Proofs.Ytcckeabholabcaa
open Go A
set_option linter.unusedVariables false
section
variable {H : Type}
theorem uz : kD H Try.prog 33 (ac .u64) (vw .u64) := kD.int Try.underlying33
theorem GO : kD H Try.prog 35 Cell.enc Cell.wf := kD.conv (kD.struct Try.underlying35 (gH.cons uz (gH.cons uz gH.nil))) (fun x => Cell.mk x.1 x.2.1) (fun _ => rfl) (fun x h => ⟨h.1, h.2.1⟩)
theorem GP : kD H Try.prog 22 (md Cell.enc) (fun l => l.length ≤ maxLen ∧ ∀ z ∈ l, Cell.wf z) := kD.slice Try.underlying22 GO
theorem uA : kD H Try.prog 3 (ac .i64) (vw .i64) := kD.int Try.underlying3
theorem F4 : kD H Try.prog 4 il (fun _ => True) := kD.bool Try.underlying4
theorem uB : kD H Try.prog 24 (md (ac .i64)) (fun l => l.length ≤ maxLen ∧ ∀ z ∈ l, vw .i64 z) := kD.slice Try.underlying24 uA
theorem GQ : kD H Try.prog 40 Deps.enc Deps.wf := kD.conv (kD.struct Try.underlying40 (gH.cons uB (gH.cons uB (gH.cons uB gH.nil)))) (fun x => Deps.mk x.1 x.2.1 x.2.2.1) (fun _ => rfl) (fun x h => ⟨h.1, h.2.1, h.2.2.1⟩)
theorem GR : kD H Try.prog 42 Event.enc Event.wf := kD.conv (kD.struct Try.underlying42 (gH.cons uA (gH.cons uA (gH.cons uA (gH.cons uz (gH.cons uz (gH.cons uz (gH.cons F4 (gH.cons F4 (gH.cons uA (gH.cons uA (gH.cons uA (gH.cons GQ gH.nil))))))))))))) (fun x => Event.mk x.1 x.2.1 x.2.2.1 x.2.2.2.1 x.2.2.2.2.1 x.2.2.2.2.2.1 x.2.2.2.2.2.2.1 x.2.2.2.2.2.2.2.1 x.2.2.2.2.2.2.2.2.1 x.2.2.2.2.2.2.2.2.2.1 x.2.2.2.2.2.2.2.2.2.2.1 x.2.2.2.2.2.2.2.2.2.2.2.1) (fun _ => rfl) (fun x h => ⟨h.1, h.2.1, h.2.2.1, h.2.2.2.1, h.2.2.2.2.1, h.2.2.2.2.2.1, h.2.2.2.2.2.2.1, h.2.2.2.2.2.2.2.1, h.2.2.2.2.2.2.2.2.1, h.2.2.2.2.2.2.2.2.2.1, h.2.2.2.2.2.2.2.2.2.2.1, h.2.2.2.2.2.2.2.2.2.2.2.1⟩)
theorem GT : kD H Try.prog 37 (md Event.enc) (fun l => l.length ≤ maxLen ∧ ∀ z ∈ l, Event.wf z) := kD.slice Try.underlying37 GR
theorem GU : kD H Try.prog 23 (md (md Event.enc)) (fun l => l.length ≤ maxLen ∧ ∀ z ∈ l, z.length ≤ maxLen ∧ ∀ zz ∈ z, Event.wf zz) := kD.slice Try.underlying23 GT
theorem GV : kD H Try.prog 26 aS.enc aS.wf := kD.conv (kD.struct Try.underlying26 (gH.cons GP (gH.cons GU (gH.cons uB (gH.cons uB gH.nil))))) (fun x => aS.mk x.1 x.2.1 x.2.2.1 x.2.2.2.1) (fun _ => rfl) (fun x h => ⟨h.1, h.2.1, h.2.2.1, h.2.2.2.1⟩)
end
end Go.Proofs.Ytcckeabholabcaa
