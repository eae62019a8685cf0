/- Data that are read as values of the types of the code. Printed by a program; nothing is claimed here of the code. -/
import Derived.Test.YtnmmknnnggcijaaDoorP0
import Derived.KernelRfl
namespace Go.Proofs.YtnmmknnnggcijaaDoor
open Go A
set_option linter.unusedVariables false
section
variable {H : Type}
theorem dec_3 : Dec H Tryd.prog 3 (eInt .i64) (inR .i64) := Dec.int Tryd.underlying3
theorem dec_28 : Dec H Tryd.prog 28 (eInt .u64) (inR .u64) := Dec.int Tryd.underlying28
theorem dec_4 : Dec H Tryd.prog 4 eBool (fun _ => True) := Dec.bool Tryd.underlying4
theorem dec_29 : Dec H Tryd.prog 29 (eSl (eInt .i64)) (fun l => l.length ≤ maxLen ∧ ∀ z ∈ l, inR .i64 z) := Dec.slice Tryd.underlying29 dec_3
theorem dec_31 : Dec H Tryd.prog 31 Deps.enc Deps.wf := Dec.conv (Dec.struct Tryd.underlying31 (DecL.cons dec_29 (DecL.cons dec_29 (DecL.cons dec_29 DecL.nil)))) (fun x => Deps.mk x.1 x.2.1 x.2.2.1) (fun _ => rfl) (fun x h => ⟨h.1, h.2.1, h.2.2.1⟩)
theorem dec_33 : Dec H Tryd.prog 33 Event.enc Event.wf := Dec.conv (Dec.struct Tryd.underlying33 (DecL.cons dec_3 (DecL.cons dec_3 (DecL.cons dec_3 (DecL.cons dec_28 (DecL.cons dec_28 (DecL.cons dec_28 (DecL.cons dec_4 (DecL.cons dec_4 (DecL.cons dec_3 (DecL.cons dec_3 (DecL.cons dec_3 (DecL.cons dec_31 DecL.nil))))))))))))) (fun x => Event.mk x.1 x.2.1 x.2.2.1 x.2.2.2.1 x.2.2.2.2.1 x.2.2.2.2.2.1 x.2.2.2.2.2.2.1 x.2.2.2.2.2.2.2.1 x.2.2.2.2.2.2.2.2.1 x.2.2.2.2.2.2.2.2.2.1 x.2.2.2.2.2.2.2.2.2.2.1 x.2.2.2.2.2.2.2.2.2.2.2.1) (fun _ => rfl) (fun x h => ⟨h.1, h.2.1, h.2.2.1, h.2.2.2.1, h.2.2.2.2.1, h.2.2.2.2.2.1, h.2.2.2.2.2.2.1, h.2.2.2.2.2.2.2.1, h.2.2.2.2.2.2.2.2.1, h.2.2.2.2.2.2.2.2.2.1, h.2.2.2.2.2.2.2.2.2.2.1, h.2.2.2.2.2.2.2.2.2.2.2.1⟩)
theorem dec_22 : Dec H Tryd.prog 22 (eSl Event.enc) (fun l => l.length ≤ maxLen ∧ ∀ z ∈ l, Event.wf z) := Dec.slice Tryd.underlying22 dec_33
end
end Go.Proofs.YtnmmknnnggcijaaDoor
