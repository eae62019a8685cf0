/- Data that are read as values of the types of the code. Printed by a program; nothing is claimed here of the code. -/
import Derived.Test.YteafbimadlcljaaDoorP0
import Derived.KernelRfl
namespace Go.Proofs.YteafbimadlcljaaDoor
open Go A
set_option linter.unusedVariables false
section
variable {H : Type}
theorem pJ : mV H Tryd.prog 3 (ad .i64) (zF .i64) := mV.int Tryd.underlying3
theorem C7 : mV H Tryd.prog 2 (ad .i64) (zF .i64) := mV.int Tryd.underlying2
theorem C8 : mV H Tryd.prog 4 ju (fun _ => True) := mV.bool Tryd.underlying4
theorem Co : mV H Tryd.prog 33 ab.enc ab.wf := mV.conv (mV.struct Tryd.underlying33 (j0.cons pJ (j0.cons pJ (j0.cons pJ (j0.cons pJ (j0.cons pJ (j0.cons C7 (j0.cons pJ (j0.cons pJ (j0.cons C8 j0.nil)))))))))) (fun x => ab.mk x.1 x.2.1 x.2.2.1 x.2.2.2.1 x.2.2.2.2.1 x.2.2.2.2.2.1 x.2.2.2.2.2.2.1 x.2.2.2.2.2.2.2.1 x.2.2.2.2.2.2.2.2.1) (fun _ => rfl) (fun x h => ⟨h.1, h.2.1, h.2.2.1, h.2.2.2.1, h.2.2.2.2.1, h.2.2.2.2.2.1, h.2.2.2.2.2.2.1, h.2.2.2.2.2.2.2.1, h.2.2.2.2.2.2.2.2.1⟩)
theorem Cp : mV H Tryd.prog 22 (ve ab.enc) (fun l => l.length ≤ maxLen ∧ ∀ z ∈ l, ab.wf z) := mV.slice Tryd.underlying22 Co
theorem Cq : mV H Tryd.prog 24 bG.enc bG.wf := mV.conv (mV.struct Tryd.underlying24 (j0.cons pJ (j0.cons Cp j0.nil))) (fun x => bG.mk x.1 x.2.1) (fun _ => rfl) (fun x h => ⟨h.1, h.2.1⟩)
end
end Go.Proofs.YteafbimadlcljaaDoor
