/- Data that are read as values of the types of the code. Printed by a program; nothing is claimed here of the code. -/
import Derived.Test.YtaiokpalfdbnnaaP0
import Derived.KernelRfl
namespace Go.Proofs.Ytaiokpalfdbnnaa
open Go A
set_option linter.unusedVariables false
section
variable {H : Type}
theorem tw : qq H Try.prog 3 (ao .i64) (Ej .i64) := qq.int Try.underlying3
theorem IE : qq H Try.prog 2 (ao .i64) (Ej .i64) := qq.int Try.underlying2
theorem IF : qq H Try.prog 4 ae (fun _ => True) := qq.bool Try.underlying4
theorem HQ : qq H Try.prog 57 ab.enc ab.wf := qq.conv (qq.struct Try.underlying57 (mL.cons tw (mL.cons tw (mL.cons tw (mL.cons tw (mL.cons tw (mL.cons IE (mL.cons tw (mL.cons tw (mL.cons IF mL.nil)))))))))) (fun x => ab.mk x.1 x.2.1 x.2.2.1 x.2.2.2.1 x.2.2.2.2.1 x.2.2.2.2.2.1 x.2.2.2.2.2.2.1 x.2.2.2.2.2.2.2.1 x.2.2.2.2.2.2.2.2.1) (fun _ => rfl) (fun x h => ⟨h.1, h.2.1, h.2.2.1, h.2.2.2.1, h.2.2.2.2.1, h.2.2.2.2.2.1, h.2.2.2.2.2.2.1, h.2.2.2.2.2.2.2.1, h.2.2.2.2.2.2.2.2.1⟩)
theorem HR : qq H Try.prog 27 (J_ ab.enc) (fun l => l.length ≤ maxLen ∧ ∀ z ∈ l, ab.wf z) := qq.slice Try.underlying27 HQ
theorem HS : qq H Try.prog 29 ax.enc ax.wf := qq.conv (qq.struct Try.underlying29 (mL.cons tw (mL.cons HR mL.nil))) (fun x => ax.mk x.1 x.2.1) (fun _ => rfl) (fun x h => ⟨h.1, h.2.1⟩)
end
end Go.Proofs.Ytaiokpalfdbnnaa
