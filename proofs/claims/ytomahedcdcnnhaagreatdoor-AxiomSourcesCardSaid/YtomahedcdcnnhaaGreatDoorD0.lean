/- Data that are read as values of the types of the code. Printed by a program; nothing is claimed here of the code. -/
import Derived.Test.YtomahedcdcnnhaaGreatDoorP0
import Derived.KernelRfl
namespace Go.Proofs.YtomahedcdcnnhaaGreatDoor
open Go A
set_option linter.unusedVariables false
section
variable {H : Type}
theorem xh : ly H Tryz.prog 40 (mh .u64) (yc .u64) := ly.int Tryz.underlying40
theorem L4 : ly H Tryz.prog 64 Cell.enc Cell.wf := ly.conv (ly.struct Tryz.underlying64 (g0.cons xh (g0.cons xh g0.nil))) (fun x => Cell.mk x.1 x.2.1) (fun _ => rfl) (fun x h => ⟨h.1, h.2.1⟩)
theorem L5 : ly H Tryz.prog 22 (cY Cell.enc) (fun l => l.length ≤ maxLen ∧ ∀ z ∈ l, Cell.wf z) := ly.slice Tryz.underlying22 L4
theorem sj : ly H Tryz.prog 3 (mh .i64) (yc .i64) := ly.int Tryz.underlying3
theorem J7 : ly H Tryz.prog 4 eo (fun _ => True) := ly.bool Tryz.underlying4
theorem xi : ly H Tryz.prog 24 (cY (mh .i64)) (fun l => l.length ≤ maxLen ∧ ∀ z ∈ l, yc .i64 z) := ly.slice Tryz.underlying24 sj
theorem L6 : ly H Tryz.prog 42 Deps.enc Deps.wf := ly.conv (ly.struct Tryz.underlying42 (g0.cons xi (g0.cons xi (g0.cons xi g0.nil)))) (fun x => Deps.mk x.1 x.2.1 x.2.2.1) (fun _ => rfl) (fun x h => ⟨h.1, h.2.1, h.2.2.1⟩)
theorem L8 : ly H Tryz.prog 44 Event.enc Event.wf := ly.conv (ly.struct Tryz.underlying44 (g0.cons sj (g0.cons sj (g0.cons sj (g0.cons xh (g0.cons xh (g0.cons xh (g0.cons J7 (g0.cons J7 (g0.cons sj (g0.cons sj (g0.cons sj (g0.cons L6 g0.nil))))))))))))) (fun x => Event.mk x.1 x.2.1 x.2.2.1 x.2.2.2.1 x.2.2.2.2.1 x.2.2.2.2.2.1 x.2.2.2.2.2.2.1 x.2.2.2.2.2.2.2.1 x.2.2.2.2.2.2.2.2.1 x.2.2.2.2.2.2.2.2.2.1 x.2.2.2.2.2.2.2.2.2.2.1 x.2.2.2.2.2.2.2.2.2.2.2.1) (fun _ => rfl) (fun x h => ⟨h.1, h.2.1, h.2.2.1, h.2.2.2.1, h.2.2.2.2.1, h.2.2.2.2.2.1, h.2.2.2.2.2.2.1, h.2.2.2.2.2.2.2.1, h.2.2.2.2.2.2.2.2.1, h.2.2.2.2.2.2.2.2.2.1, h.2.2.2.2.2.2.2.2.2.2.1, h.2.2.2.2.2.2.2.2.2.2.2.1⟩)
theorem L9 : ly H Tryz.prog 38 (cY Event.enc) (fun l => l.length ≤ maxLen ∧ ∀ z ∈ l, Event.wf z) := ly.slice Tryz.underlying38 L8
theorem L_ : ly H Tryz.prog 23 (cY (cY Event.enc)) (fun l => l.length ≤ maxLen ∧ ∀ z ∈ l, z.length ≤ maxLen ∧ ∀ zz ∈ z, Event.wf zz) := ly.slice Tryz.underlying23 L9
theorem Ma : ly H Tryz.prog 26 ae.enc ae.wf := ly.conv (ly.struct Tryz.underlying26 (g0.cons L5 (g0.cons L_ (g0.cons xi (g0.cons xi g0.nil))))) (fun x => ae.mk x.1 x.2.1 x.2.2.1 x.2.2.2.1) (fun _ => rfl) (fun x h => ⟨h.1, h.2.1, h.2.2.1, h.2.2.2.1⟩)
end
end Go.Proofs.YtomahedcdcnnhaaGreatDoor
