/- Data that are read as values of the types of the code. Printed by a program; nothing is claimed here of the code. -/
import Derived.Test.YtomahedcdcnnhaaGreatDoorP0
import Derived.KernelRfl
namespace Go.Proofs.YtomahedcdcnnhaaGreatDoor
open Go A
set_option linter.unusedVariables false
section
variable {H : Type}
theorem w_ : lO H Tryz.prog 40 (l7 .u64) (ya .u64) := lO.int Tryz.underlying40
theorem LZ : lO H Tryz.prog 64 Cell.enc Cell.wf := lO.conv (lO.struct Tryz.underlying64 (hJ.cons w_ (hJ.cons w_ hJ.nil))) (fun x => Cell.mk x.1 x.2.1) (fun _ => rfl) (fun x h => ⟨h.1, h.2.1⟩)
theorem L0 : lO H Tryz.prog 22 (et Cell.enc) (fun l => l.length ≤ maxLen ∧ ∀ z ∈ l, Cell.wf z) := lO.slice Tryz.underlying22 LZ
theorem xd : lO H Tryz.prog 3 (l7 .i64) (ya .i64) := lO.int Tryz.underlying3
theorem J5 : lO H Tryz.prog 4 ez (fun _ => True) := lO.bool Tryz.underlying4
theorem xe : lO H Tryz.prog 24 (et (l7 .i64)) (fun l => l.length ≤ maxLen ∧ ∀ z ∈ l, ya .i64 z) := lO.slice Tryz.underlying24 xd
theorem L1 : lO H Tryz.prog 42 Deps.enc Deps.wf := lO.conv (lO.struct Tryz.underlying42 (hJ.cons xe (hJ.cons xe (hJ.cons xe hJ.nil)))) (fun x => Deps.mk x.1 x.2.1 x.2.2.1) (fun _ => rfl) (fun x h => ⟨h.1, h.2.1, h.2.2.1⟩)
theorem L2 : lO H Tryz.prog 44 Event.enc Event.wf := lO.conv (lO.struct Tryz.underlying44 (hJ.cons xd (hJ.cons xd (hJ.cons xd (hJ.cons w_ (hJ.cons w_ (hJ.cons w_ (hJ.cons J5 (hJ.cons J5 (hJ.cons xd (hJ.cons xd (hJ.cons xd (hJ.cons L1 hJ.nil))))))))))))) (fun x => Event.mk x.1 x.2.1 x.2.2.1 x.2.2.2.1 x.2.2.2.2.1 x.2.2.2.2.2.1 x.2.2.2.2.2.2.1 x.2.2.2.2.2.2.2.1 x.2.2.2.2.2.2.2.2.1 x.2.2.2.2.2.2.2.2.2.1 x.2.2.2.2.2.2.2.2.2.2.1 x.2.2.2.2.2.2.2.2.2.2.2.1) (fun _ => rfl) (fun x h => ⟨h.1, h.2.1, h.2.2.1, h.2.2.2.1, h.2.2.2.2.1, h.2.2.2.2.2.1, h.2.2.2.2.2.2.1, h.2.2.2.2.2.2.2.1, h.2.2.2.2.2.2.2.2.1, h.2.2.2.2.2.2.2.2.2.1, h.2.2.2.2.2.2.2.2.2.2.1, h.2.2.2.2.2.2.2.2.2.2.2.1⟩)
theorem L3 : lO H Tryz.prog 38 (et Event.enc) (fun l => l.length ≤ maxLen ∧ ∀ z ∈ l, Event.wf z) := lO.slice Tryz.underlying38 L2
theorem L4 : lO H Tryz.prog 23 (et (et Event.enc)) (fun l => l.length ≤ maxLen ∧ ∀ z ∈ l, z.length ≤ maxLen ∧ ∀ zz ∈ z, Event.wf zz) := lO.slice Tryz.underlying23 L3
theorem L5 : lO H Tryz.prog 26 af.enc af.wf := lO.conv (lO.struct Tryz.underlying26 (hJ.cons L0 (hJ.cons L4 (hJ.cons xe (hJ.cons xe hJ.nil))))) (fun x => af.mk x.1 x.2.1 x.2.2.1 x.2.2.2.1) (fun _ => rfl) (fun x h => ⟨h.1, h.2.1, h.2.2.1, h.2.2.2.1⟩)
end
end Go.Proofs.YtomahedcdcnnhaaGreatDoor
