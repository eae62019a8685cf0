/- Data that are read as values of the types of the code. Printed by a program; nothing is claimed here of the code. -/
import Derived.Test.YtcckeabholabcaaP0
import Derived.KernelRfl
namespace Go.Proofs.Ytcckeabholabcaa
open Go A
set_option linter.unusedVariables false
section
variable {H : Type}
theorem dec_33 : Dec H Try.prog 33 (eInt .u64) (inR .u64) := Dec.int Try.underlying33
theorem dec_35 : Dec H Try.prog 35 Cell.enc Cell.wf := Dec.conv (Dec.struct Try.underlying35 (DecL.cons dec_33 (DecL.cons dec_33 DecL.nil))) (fun x => Cell.mk x.1 x.2.1) (fun _ => rfl) (fun x h => ⟨h.1, h.2.1⟩)
theorem dec_22 : Dec H Try.prog 22 (eSl Cell.enc) (fun l => l.length ≤ maxLen ∧ ∀ z ∈ l, Cell.wf z) := Dec.slice Try.underlying22 dec_35
theorem dec_3 : Dec H Try.prog 3 (eInt .i64) (inR .i64) := Dec.int Try.underlying3
theorem dec_4 : Dec H Try.prog 4 eBool (fun _ => True) := Dec.bool Try.underlying4
theorem dec_24 : Dec H Try.prog 24 (eSl (eInt .i64)) (fun l => l.length ≤ maxLen ∧ ∀ z ∈ l, inR .i64 z) := Dec.slice Try.underlying24 dec_3
theorem dec_40 : Dec H Try.prog 40 Deps.enc Deps.wf := Dec.conv (Dec.struct Try.underlying40 (DecL.cons dec_24 (DecL.cons dec_24 (DecL.cons dec_24 DecL.nil)))) (fun x => Deps.mk x.1 x.2.1 x.2.2.1) (fun _ => rfl) (fun x h => ⟨h.1, h.2.1, h.2.2.1⟩)
theorem dec_42 : Dec H Try.prog 42 Event.enc Event.wf := Dec.conv (Dec.struct Try.underlying42 (DecL.cons dec_3 (DecL.cons dec_3 (DecL.cons dec_3 (DecL.cons dec_33 (DecL.cons dec_33 (DecL.cons dec_33 (DecL.cons dec_4 (DecL.cons dec_4 (DecL.cons dec_3 (DecL.cons dec_3 (DecL.cons dec_3 (DecL.cons dec_40 DecL.nil))))))))))))) (fun x => Event.mk x.1 x.2.1 x.2.2.1 x.2.2.2.1 x.2.2.2.2.1 x.2.2.2.2.2.1 x.2.2.2.2.2.2.1 x.2.2.2.2.2.2.2.1 x.2.2.2.2.2.2.2.2.1 x.2.2.2.2.2.2.2.2.2.1 x.2.2.2.2.2.2.2.2.2.2.1 x.2.2.2.2.2.2.2.2.2.2.2.1) (fun _ => rfl) (fun x h => ⟨h.1, h.2.1, h.2.2.1, h.2.2.2.1, h.2.2.2.2.1, h.2.2.2.2.2.1, h.2.2.2.2.2.2.1, h.2.2.2.2.2.2.2.1, h.2.2.2.2.2.2.2.2.1, h.2.2.2.2.2.2.2.2.2.1, h.2.2.2.2.2.2.2.2.2.2.1, h.2.2.2.2.2.2.2.2.2.2.2.1⟩)
theorem dec_37 : Dec H Try.prog 37 (eSl Event.enc) (fun l => l.length ≤ maxLen ∧ ∀ z ∈ l, Event.wf z) := Dec.slice Try.underlying37 dec_42
theorem dec_23 : Dec H Try.prog 23 (eSl (eSl Event.enc)) (fun l => l.length ≤ maxLen ∧ ∀ z ∈ l, z.length ≤ maxLen ∧ ∀ zz ∈ z, Event.wf zz) := Dec.slice Try.underlying23 dec_37
theorem dec_26 : Dec H Try.prog 26 Cand.enc Cand.wf := Dec.conv (Dec.struct Try.underlying26 (DecL.cons dec_22 (DecL.cons dec_23 (DecL.cons dec_24 (DecL.cons dec_24 DecL.nil))))) (fun x => Cand.mk x.1 x.2.1 x.2.2.1 x.2.2.2.1) (fun _ => rfl) (fun x h => ⟨h.1, h.2.1, h.2.2.1, h.2.2.2.1⟩)
end
end Go.Proofs.Ytcckeabholabcaa
