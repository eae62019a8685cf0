/- Data that are read as values of the types of the code. Printed by a program; nothing is claimed here of the code. -/
import Derived.Test.YtigcbjbaibcgfaaGreatP0
import Derived.KernelRfl
namespace Go.Proofs.YtigcbjbaibcgfaaGreat
open Go A
set_option linter.unusedVariables false
section
variable {H : Type}
theorem dec_50 : Dec H Tryz.prog 50 (eInt .u64) (inR .u64) := Dec.int Tryz.underlying50
theorem dec_58 : Dec H Tryz.prog 58 Cell.enc Cell.wf := Dec.conv (Dec.struct Tryz.underlying58 (DecL.cons dec_50 (DecL.cons dec_50 DecL.nil))) (fun x => Cell.mk x.1 x.2.1) (fun _ => rfl) (fun x h => ⟨h.1, h.2.1⟩)
theorem dec_22 : Dec H Tryz.prog 22 (eSl Cell.enc) (fun l => l.length ≤ maxLen ∧ ∀ z ∈ l, Cell.wf z) := Dec.slice Tryz.underlying22 dec_58
theorem dec_3 : Dec H Tryz.prog 3 (eInt .i64) (inR .i64) := Dec.int Tryz.underlying3
theorem dec_4 : Dec H Tryz.prog 4 eBool (fun _ => True) := Dec.bool Tryz.underlying4
theorem dec_24 : Dec H Tryz.prog 24 (eSl (eInt .i64)) (fun l => l.length ≤ maxLen ∧ ∀ z ∈ l, inR .i64 z) := Dec.slice Tryz.underlying24 dec_3
theorem dec_52 : Dec H Tryz.prog 52 Deps.enc Deps.wf := Dec.conv (Dec.struct Tryz.underlying52 (DecL.cons dec_24 (DecL.cons dec_24 (DecL.cons dec_24 DecL.nil)))) (fun x => Deps.mk x.1 x.2.1 x.2.2.1) (fun _ => rfl) (fun x h => ⟨h.1, h.2.1, h.2.2.1⟩)
theorem dec_54 : Dec H Tryz.prog 54 Event.enc Event.wf := Dec.conv (Dec.struct Tryz.underlying54 (DecL.cons dec_3 (DecL.cons dec_3 (DecL.cons dec_3 (DecL.cons dec_50 (DecL.cons dec_50 (DecL.cons dec_50 (DecL.cons dec_4 (DecL.cons dec_4 (DecL.cons dec_3 (DecL.cons dec_3 (DecL.cons dec_3 (DecL.cons dec_52 DecL.nil))))))))))))) (fun x => Event.mk x.1 x.2.1 x.2.2.1 x.2.2.2.1 x.2.2.2.2.1 x.2.2.2.2.2.1 x.2.2.2.2.2.2.1 x.2.2.2.2.2.2.2.1 x.2.2.2.2.2.2.2.2.1 x.2.2.2.2.2.2.2.2.2.1 x.2.2.2.2.2.2.2.2.2.2.1 x.2.2.2.2.2.2.2.2.2.2.2.1) (fun _ => rfl) (fun x h => ⟨h.1, h.2.1, h.2.2.1, h.2.2.2.1, h.2.2.2.2.1, h.2.2.2.2.2.1, h.2.2.2.2.2.2.1, h.2.2.2.2.2.2.2.1, h.2.2.2.2.2.2.2.2.1, h.2.2.2.2.2.2.2.2.2.1, h.2.2.2.2.2.2.2.2.2.2.1, h.2.2.2.2.2.2.2.2.2.2.2.1⟩)
theorem dec_42 : Dec H Tryz.prog 42 (eSl Event.enc) (fun l => l.length ≤ maxLen ∧ ∀ z ∈ l, Event.wf z) := Dec.slice Tryz.underlying42 dec_54
theorem dec_23 : Dec H Tryz.prog 23 (eSl (eSl Event.enc)) (fun l => l.length ≤ maxLen ∧ ∀ z ∈ l, z.length ≤ maxLen ∧ ∀ zz ∈ z, Event.wf zz) := Dec.slice Tryz.underlying23 dec_42
theorem dec_26 : Dec H Tryz.prog 26 Cand.enc Cand.wf := Dec.conv (Dec.struct Tryz.underlying26 (DecL.cons dec_22 (DecL.cons dec_23 (DecL.cons dec_24 (DecL.cons dec_24 DecL.nil))))) (fun x => Cand.mk x.1 x.2.1 x.2.2.1 x.2.2.2.1) (fun _ => rfl) (fun x h => ⟨h.1, h.2.1, h.2.2.1, h.2.2.2.1⟩)
end
end Go.Proofs.YtigcbjbaibcgfaaGreat
