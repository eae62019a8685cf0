/- Data that are read as values of the types of the code. Printed by a program; nothing is claimed here of the code. -/
import Derived.Test.YtaekcekecdocnaaP0
import Derived.KernelRfl
namespace Go.Proofs.Ytaekcekecdocnaa
open Go A
set_option linter.unusedVariables false
section
variable {H : Type}
theorem wP : p8 H Try.prog 3 (vp .i64) (zA .i64) := p8.int Try.underlying3
theorem zg : p8 H Try.prog 2 (vp .i64) (zA .i64) := p8.int Try.underlying2
end
end Go.Proofs.Ytaekcekecdocnaa
