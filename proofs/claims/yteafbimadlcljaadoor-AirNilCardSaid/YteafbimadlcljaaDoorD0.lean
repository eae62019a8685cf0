/- Data that are read as values of the types of the code. Printed by a program; nothing is claimed here of the code. -/
import Derived.Test.YteafbimadlcljaaDoorP0
import Derived.KernelRfl
namespace Go.Proofs.YteafbimadlcljaaDoor
open Go A
set_option linter.unusedVariables false
section
variable {H : Type}
theorem dec_3 : Dec H Tryd.prog 3 (eInt .i64) (inR .i64) := Dec.int Tryd.underlying3
theorem dec_2 : Dec H Tryd.prog 2 (eInt .i64) (inR .i64) := Dec.int Tryd.underlying2
theorem dec_4 : Dec H Tryd.prog 4 eBool (fun _ => True) := Dec.bool Tryd.underlying4
theorem dec_33 : Dec H Tryd.prog 33 AirStep.enc AirStep.wf := Dec.conv (Dec.struct Tryd.underlying33 (DecL.cons dec_3 (DecL.cons dec_3 (DecL.cons dec_3 (DecL.cons dec_3 (DecL.cons dec_3 (DecL.cons dec_2 (DecL.cons dec_3 (DecL.cons dec_3 (DecL.cons dec_4 DecL.nil)))))))))) (fun x => AirStep.mk x.1 x.2.1 x.2.2.1 x.2.2.2.1 x.2.2.2.2.1 x.2.2.2.2.2.1 x.2.2.2.2.2.2.1 x.2.2.2.2.2.2.2.1 x.2.2.2.2.2.2.2.2.1) (fun _ => rfl) (fun x h => ⟨h.1, h.2.1, h.2.2.1, h.2.2.2.1, h.2.2.2.2.1, h.2.2.2.2.2.1, h.2.2.2.2.2.2.1, h.2.2.2.2.2.2.2.1, h.2.2.2.2.2.2.2.2.1⟩)
theorem dec_41 : Dec H Tryd.prog 41 fencepostlaw21_Act.enc fencepostlaw21_Act.wf := Dec.conv (Dec.struct Tryd.underlying41 (DecL.cons dec_3 (DecL.cons dec_3 (DecL.cons dec_33 DecL.nil)))) (fun x => fencepostlaw21_Act.mk x.1 x.2.1 x.2.2.1) (fun _ => rfl) (fun x h => ⟨h.1, h.2.1, h.2.2.1⟩)
end
end Go.Proofs.YteafbimadlcljaaDoor
