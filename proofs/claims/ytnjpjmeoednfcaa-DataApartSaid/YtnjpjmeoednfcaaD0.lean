/- Data that are read as values of the types of the code. Printed by a program; nothing is claimed here of the code. -/
import Derived.Test.YtnjpjmeoednfcaaP0
import Derived.KernelRfl
namespace Go.Proofs.Ytnjpjmeoednfcaa
open Go A
set_option linter.unusedVariables false
section
variable {H : Type}
theorem dec_9 : Dec H Try.prog 9 eStr (fun s => s.size ≤ maxLen) := Dec.str Try.underlying9
theorem dec_3 : Dec H Try.prog 3 (eInt .i64) (inR .i64) := Dec.int Try.underlying3
theorem dec_34 : Dec H Try.prog 34 Piece.enc Piece.wf := Dec.conv (Dec.struct Try.underlying34 (DecL.cons dec_9 (DecL.cons dec_3 (DecL.cons dec_3 DecL.nil)))) (fun x => Piece.mk x.1 x.2.1 x.2.2.1) (fun _ => rfl) (fun x h => ⟨h.1, h.2.1, h.2.2.1⟩)
theorem dec_22 : Dec H Try.prog 22 (eSl Piece.enc) (fun l => l.length ≤ maxLen ∧ ∀ x ∈ l, Piece.wf x) := Dec.slice Try.underlying22 dec_34
end
end Go.Proofs.Ytnjpjmeoednfcaa
