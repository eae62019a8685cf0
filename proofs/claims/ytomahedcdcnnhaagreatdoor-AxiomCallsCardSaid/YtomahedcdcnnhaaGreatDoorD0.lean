/- Data that are read as values of the types of the code. Printed by a program; nothing is claimed here of the code. -/
import Derived.Test.YtomahedcdcnnhaaGreatDoorP0
import Derived.KernelRfl
namespace Go.Proofs.YtomahedcdcnnhaaGreatDoor
open Go A
set_option linter.unusedVariables false
section
variable {H : Type}
theorem yu : kY H Tryz.prog 40 (lZ .u64) (v8 .u64) := kY.int Tryz.underlying40
theorem KW : kY H Tryz.prog 64 Cell.enc Cell.wf := kY.conv (kY.struct Tryz.underlying64 (gv.cons yu (gv.cons yu gv.nil))) (fun x => Cell.mk x.1 x.2.1) (fun _ => rfl) (fun x h => ⟨h.1, h.2.1⟩)
theorem KX : kY H Tryz.prog 22 (dT Cell.enc) (fun l => l.length ≤ maxLen ∧ ∀ z ∈ l, Cell.wf z) := kY.slice Tryz.underlying22 KW
theorem qn : kY H Tryz.prog 3 (lZ .i64) (v8 .i64) := kY.int Tryz.underlying3
theorem H5 : kY H Tryz.prog 4 eZ (fun _ => True) := kY.bool Tryz.underlying4
theorem yv : kY H Tryz.prog 24 (dT (lZ .i64)) (fun l => l.length ≤ maxLen ∧ ∀ z ∈ l, v8 .i64 z) := kY.slice Tryz.underlying24 qn
theorem KY : kY H Tryz.prog 42 Deps.enc Deps.wf := kY.conv (kY.struct Tryz.underlying42 (gv.cons yv (gv.cons yv (gv.cons yv gv.nil)))) (fun x => Deps.mk x.1 x.2.1 x.2.2.1) (fun _ => rfl) (fun x h => ⟨h.1, h.2.1, h.2.2.1⟩)
theorem KZ : kY H Tryz.prog 44 Event.enc Event.wf := kY.conv (kY.struct Tryz.underlying44 (gv.cons qn (gv.cons qn (gv.cons qn (gv.cons yu (gv.cons yu (gv.cons yu (gv.cons H5 (gv.cons H5 (gv.cons qn (gv.cons qn (gv.cons qn (gv.cons KY gv.nil))))))))))))) (fun x => Event.mk x.1 x.2.1 x.2.2.1 x.2.2.2.1 x.2.2.2.2.1 x.2.2.2.2.2.1 x.2.2.2.2.2.2.1 x.2.2.2.2.2.2.2.1 x.2.2.2.2.2.2.2.2.1 x.2.2.2.2.2.2.2.2.2.1 x.2.2.2.2.2.2.2.2.2.2.1 x.2.2.2.2.2.2.2.2.2.2.2.1) (fun _ => rfl) (fun x h => ⟨h.1, h.2.1, h.2.2.1, h.2.2.2.1, h.2.2.2.2.1, h.2.2.2.2.2.1, h.2.2.2.2.2.2.1, h.2.2.2.2.2.2.2.1, h.2.2.2.2.2.2.2.2.1, h.2.2.2.2.2.2.2.2.2.1, h.2.2.2.2.2.2.2.2.2.2.1, h.2.2.2.2.2.2.2.2.2.2.2.1⟩)
theorem K0 : kY H Tryz.prog 38 (dT Event.enc) (fun l => l.length ≤ maxLen ∧ ∀ z ∈ l, Event.wf z) := kY.slice Tryz.underlying38 KZ
theorem K3 : kY H Tryz.prog 23 (dT (dT Event.enc)) (fun l => l.length ≤ maxLen ∧ ∀ z ∈ l, z.length ≤ maxLen ∧ ∀ zz ∈ z, Event.wf zz) := kY.slice Tryz.underlying23 K0
theorem K4 : kY H Tryz.prog 26 af.enc af.wf := kY.conv (kY.struct Tryz.underlying26 (gv.cons KX (gv.cons K3 (gv.cons yv (gv.cons yv gv.nil))))) (fun x => af.mk x.1 x.2.1 x.2.2.1 x.2.2.2.1) (fun _ => rfl) (fun x h => ⟨h.1, h.2.1, h.2.2.1, h.2.2.2.1⟩)
theorem K5 : kY H Tryz.prog 48 aC.enc aC.wf := kY.conv (kY.struct Tryz.underlying48 (gv.cons H5 (gv.cons qn (gv.cons qn (gv.cons qn gv.nil))))) (fun x => aC.mk x.1 x.2.1 x.2.2.1 x.2.2.2.1) (fun _ => rfl) (fun x h => ⟨h.1, h.2.1, h.2.2.1, h.2.2.2.1⟩)
end
end Go.Proofs.YtomahedcdcnnhaaGreatDoor
