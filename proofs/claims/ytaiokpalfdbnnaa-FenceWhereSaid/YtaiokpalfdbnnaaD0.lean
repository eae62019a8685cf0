/- Data that are read as values of the types of the code. Printed by a program; nothing is claimed here of the code. -/
import Derived.Test.YtaiokpalfdbnnaaP0
import Derived.KernelRfl
namespace Go.Proofs.Ytaiokpalfdbnnaa
open Go A
set_option linter.unusedVariables false
section
variable {H : Type}
theorem rO : o9 H Try.prog 3 (ao .i64) (CB .i64) := o9.int Try.underlying3
theorem G_ : o9 H Try.prog 2 (ao .i64) (CB .i64) := o9.int Try.underlying2
theorem Ha : o9 H Try.prog 4 af (fun _ => True) := o9.bool Try.underlying4
theorem Gq : o9 H Try.prog 57 ab.enc ab.wf := o9.conv (o9.struct Try.underlying57 (lI.cons rO (lI.cons rO (lI.cons rO (lI.cons rO (lI.cons rO (lI.cons G_ (lI.cons rO (lI.cons rO (lI.cons Ha lI.nil)))))))))) (fun x => ab.mk x.1 x.2.1 x.2.2.1 x.2.2.2.1 x.2.2.2.2.1 x.2.2.2.2.2.1 x.2.2.2.2.2.2.1 x.2.2.2.2.2.2.2.1 x.2.2.2.2.2.2.2.2.1) (fun _ => rfl) (fun x h => ⟨h.1, h.2.1, h.2.2.1, h.2.2.2.1, h.2.2.2.2.1, h.2.2.2.2.2.1, h.2.2.2.2.2.2.1, h.2.2.2.2.2.2.2.1, h.2.2.2.2.2.2.2.2.1⟩)
theorem Gr : o9 H Try.prog 27 (Ig ab.enc) (fun l => l.length ≤ maxLen ∧ ∀ z ∈ l, ab.wf z) := o9.slice Try.underlying27 Gq
theorem Gs : o9 H Try.prog 29 aO.enc aO.wf := o9.conv (o9.struct Try.underlying29 (lI.cons rO (lI.cons Gr lI.nil))) (fun x => aO.mk x.1 x.2.1) (fun _ => rfl) (fun x h => ⟨h.1, h.2.1⟩)
end
end Go.Proofs.Ytaiokpalfdbnnaa
