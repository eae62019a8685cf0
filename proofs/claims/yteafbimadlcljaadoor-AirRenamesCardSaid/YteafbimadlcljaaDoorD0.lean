/- Data that are read as values of the types of the code. Printed by a program; nothing is claimed here of the code. -/
import Derived.Test.YteafbimadlcljaaDoorP0
import Derived.KernelRfl
namespace Go.Proofs.YteafbimadlcljaaDoor
open Go A
set_option linter.unusedVariables false
section
variable {H : Type}
theorem p_ : m5 H Tryd.prog 3 (ae .i64) (BN .i64) := m5.int Tryd.underlying3
theorem F2 : m5 H Tryd.prog 2 (ae .i64) (BN .i64) := m5.int Tryd.underlying2
theorem F3 : m5 H Tryd.prog 4 Eh (fun _ => True) := m5.bool Tryd.underlying4
theorem Fe : m5 H Tryd.prog 33 ab.enc ab.wf := m5.conv (m5.struct Tryd.underlying33 (lv.cons p_ (lv.cons p_ (lv.cons p_ (lv.cons p_ (lv.cons p_ (lv.cons F2 (lv.cons p_ (lv.cons p_ (lv.cons F3 lv.nil)))))))))) (fun x => ab.mk x.1 x.2.1 x.2.2.1 x.2.2.2.1 x.2.2.2.2.1 x.2.2.2.2.2.1 x.2.2.2.2.2.2.1 x.2.2.2.2.2.2.2.1 x.2.2.2.2.2.2.2.2.1) (fun _ => rfl) (fun x h => ⟨h.1, h.2.1, h.2.2.1, h.2.2.2.1, h.2.2.2.2.1, h.2.2.2.2.2.1, h.2.2.2.2.2.2.1, h.2.2.2.2.2.2.2.1, h.2.2.2.2.2.2.2.2.1⟩)
theorem Ff : m5 H Tryd.prog 22 (qK ab.enc) (fun l => l.length ≤ maxLen ∧ ∀ z ∈ l, ab.wf z) := m5.slice Tryd.underlying22 Fe
theorem Fg : m5 H Tryd.prog 24 bh.enc bh.wf := m5.conv (m5.struct Tryd.underlying24 (lv.cons p_ (lv.cons Ff lv.nil))) (fun x => bh.mk x.1 x.2.1) (fun _ => rfl) (fun x h => ⟨h.1, h.2.1⟩)
end
end Go.Proofs.YteafbimadlcljaaDoor
