/- Data that are read as values of the types of the code. Printed by a program; nothing is claimed here of the code. -/
import Derived.Test.YtaiokpalfdbnnaaP0
import Derived.KernelRfl
namespace Go.Proofs.Ytaiokpalfdbnnaa
open Go A
set_option linter.unusedVariables false
section
variable {H : Type}
theorem uK : ru H Try.prog 3 (ao .i64) (Fw .i64) := ru.int Try.underlying3
theorem Kb : ru H Try.prog 2 (ao .i64) (Fw .i64) := ru.int Try.underlying2
theorem Kc : ru H Try.prog 4 ad (fun _ => True) := ru.bool Try.underlying4
theorem Jj : ru H Try.prog 57 ab.enc ab.wf := ru.conv (ru.struct Try.underlying57 (nE.cons uK (nE.cons uK (nE.cons uK (nE.cons uK (nE.cons uK (nE.cons Kb (nE.cons uK (nE.cons uK (nE.cons Kc nE.nil)))))))))) (fun x => ab.mk x.1 x.2.1 x.2.2.1 x.2.2.2.1 x.2.2.2.2.1 x.2.2.2.2.2.1 x.2.2.2.2.2.2.1 x.2.2.2.2.2.2.2.1 x.2.2.2.2.2.2.2.2.1) (fun _ => rfl) (fun x h => ⟨h.1, h.2.1, h.2.2.1, h.2.2.2.1, h.2.2.2.2.1, h.2.2.2.2.2.1, h.2.2.2.2.2.2.1, h.2.2.2.2.2.2.2.1, h.2.2.2.2.2.2.2.2.1⟩)
theorem Jk : ru H Try.prog 27 (Mz ab.enc) (fun l => l.length ≤ maxLen ∧ ∀ z ∈ l, ab.wf z) := ru.slice Try.underlying27 Jj
theorem Jl : ru H Try.prog 29 aj.enc aj.wf := ru.conv (ru.struct Try.underlying29 (nE.cons uK (nE.cons Jk nE.nil))) (fun x => aj.mk x.1 x.2.1) (fun _ => rfl) (fun x h => ⟨h.1, h.2.1⟩)
end
end Go.Proofs.Ytaiokpalfdbnnaa
