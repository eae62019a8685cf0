/- Data that are read as values of the types of the code. Printed by a program; nothing is claimed here of the code. -/
import Derived.Test.YtnmmknnnggcijaaDoorP0
import Derived.KernelRfl
namespace Go.Proofs.YtnmmknnnggcijaaDoor
open Go A
set_option linter.unusedVariables false
section
variable {H : Type}
theorem uh : ma H Tryd.prog 3 (ak .i64) (xn .i64) := ma.int Tryd.underlying3
theorem zZ : ma H Tryd.prog 28 (ak .u64) (xn .u64) := ma.int Tryd.underlying28
theorem DX : ma H Tryd.prog 4 DL (fun _ => True) := ma.bool Tryd.underlying4
theorem ED : ma H Tryd.prog 38 Ask.enc Ask.wf := ma.conv (ma.struct Tryd.underlying38 (lJ.cons uh (lJ.cons zZ (lJ.cons zZ (lJ.cons uh (lJ.cons DX (lJ.cons DX (lJ.cons uh (lJ.cons uh lJ.nil))))))))) (fun x => Ask.mk x.1 x.2.1 x.2.2.1 x.2.2.2.1 x.2.2.2.2.1 x.2.2.2.2.2.1 x.2.2.2.2.2.2.1 x.2.2.2.2.2.2.2.1) (fun _ => rfl) (fun x h => ⟨h.1, h.2.1, h.2.2.1, h.2.2.2.1, h.2.2.2.2.1, h.2.2.2.2.2.1, h.2.2.2.2.2.2.1, h.2.2.2.2.2.2.2.1⟩)
theorem z3 : ma H Tryd.prog 29 (F5 (ak .i64)) (fun l => l.length ≤ maxLen ∧ ∀ z ∈ l, xn .i64 z) := ma.slice Tryd.underlying29 uh
theorem EE : ma H Tryd.prog 31 Deps.enc Deps.wf := ma.conv (ma.struct Tryd.underlying31 (lJ.cons z3 (lJ.cons z3 (lJ.cons z3 lJ.nil)))) (fun x => Deps.mk x.1 x.2.1 x.2.2.1) (fun _ => rfl) (fun x h => ⟨h.1, h.2.1, h.2.2.1⟩)
end
end Go.Proofs.YtnmmknnnggcijaaDoor
