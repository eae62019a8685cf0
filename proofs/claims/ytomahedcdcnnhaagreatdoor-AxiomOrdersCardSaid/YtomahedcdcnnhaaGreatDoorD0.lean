/- Data that are read as values of the types of the code. Printed by a program; nothing is claimed here of the code. -/
import Derived.Test.YtomahedcdcnnhaaGreatDoorP0
import Derived.KernelRfl
namespace Go.Proofs.YtomahedcdcnnhaaGreatDoor
open Go A
set_option linter.unusedVariables false
section
variable {H : Type}
theorem yH : mt H Tryz.prog 40 (mm .u64) (zC .u64) := mt.int Tryz.underlying40
theorem Od : mt H Tryz.prog 64 Cell.enc Cell.wf := mt.conv (mt.struct Tryz.underlying64 (iI.cons yH (iI.cons yH iI.nil))) (fun x => Cell.mk x.1 x.2.1) (fun _ => rfl) (fun x h => ⟨h.1, h.2.1⟩)
theorem Oe : mt H Tryz.prog 22 (dA Cell.enc) (fun l => l.length ≤ maxLen ∧ ∀ z ∈ l, Cell.wf z) := mt.slice Tryz.underlying22 Od
theorem tL : mt H Tryz.prog 3 (mm .i64) (zC .i64) := mt.int Tryz.underlying3
theorem LY : mt H Tryz.prog 4 eR (fun _ => True) := mt.bool Tryz.underlying4
theorem yI : mt H Tryz.prog 24 (dA (mm .i64)) (fun l => l.length ≤ maxLen ∧ ∀ z ∈ l, zC .i64 z) := mt.slice Tryz.underlying24 tL
theorem Og : mt H Tryz.prog 42 dg.enc dg.wf := mt.conv (mt.struct Tryz.underlying42 (iI.cons yI (iI.cons yI (iI.cons yI iI.nil)))) (fun x => dg.mk x.1 x.2.1 x.2.2.1) (fun _ => rfl) (fun x h => ⟨h.1, h.2.1, h.2.2.1⟩)
theorem Oh : mt H Tryz.prog 44 Event.enc Event.wf := mt.conv (mt.struct Tryz.underlying44 (iI.cons tL (iI.cons tL (iI.cons tL (iI.cons yH (iI.cons yH (iI.cons yH (iI.cons LY (iI.cons LY (iI.cons tL (iI.cons tL (iI.cons tL (iI.cons Og iI.nil))))))))))))) (fun x => Event.mk x.1 x.2.1 x.2.2.1 x.2.2.2.1 x.2.2.2.2.1 x.2.2.2.2.2.1 x.2.2.2.2.2.2.1 x.2.2.2.2.2.2.2.1 x.2.2.2.2.2.2.2.2.1 x.2.2.2.2.2.2.2.2.2.1 x.2.2.2.2.2.2.2.2.2.2.1 x.2.2.2.2.2.2.2.2.2.2.2.1) (fun _ => rfl) (fun x h => ⟨h.1, h.2.1, h.2.2.1, h.2.2.2.1, h.2.2.2.2.1, h.2.2.2.2.2.1, h.2.2.2.2.2.2.1, h.2.2.2.2.2.2.2.1, h.2.2.2.2.2.2.2.2.1, h.2.2.2.2.2.2.2.2.2.1, h.2.2.2.2.2.2.2.2.2.2.1, h.2.2.2.2.2.2.2.2.2.2.2.1⟩)
theorem Oi : mt H Tryz.prog 38 (dA Event.enc) (fun l => l.length ≤ maxLen ∧ ∀ z ∈ l, Event.wf z) := mt.slice Tryz.underlying38 Oh
theorem Oj : mt H Tryz.prog 23 (dA (dA Event.enc)) (fun l => l.length ≤ maxLen ∧ ∀ z ∈ l, z.length ≤ maxLen ∧ ∀ zz ∈ z, Event.wf zz) := mt.slice Tryz.underlying23 Oi
theorem Ol : mt H Tryz.prog 26 af.enc af.wf := mt.conv (mt.struct Tryz.underlying26 (iI.cons Oe (iI.cons Oj (iI.cons yI (iI.cons yI iI.nil))))) (fun x => af.mk x.1 x.2.1 x.2.2.1 x.2.2.2.1) (fun _ => rfl) (fun x h => ⟨h.1, h.2.1, h.2.2.1, h.2.2.2.1⟩)
end
end Go.Proofs.YtomahedcdcnnhaaGreatDoor
