/- Data that are read as values of the types of the code. Printed by a program; nothing is claimed here of the code. -/
import Derived.Test.YtomahedcdcnnhaaDoorP0
import Derived.KernelRfl
namespace Go.Proofs.YtomahedcdcnnhaaDoor
open Go A
set_option linter.unusedVariables false
section
variable {H : Type}
end
end Go.Proofs.YtomahedcdcnnhaaDoor
