/- The chapter's examples: what the code computes, computed. -/
import Derived.Test.YtomahedcdcnnhaaDoorM1
import Derived.KernelRfl
namespace Go.Proofs.YtomahedcdcnnhaaDoor
open Go A
set_option maxRecDepth 1000000 in
set_option maxHeartbeats 0 in
theorem names_true:law_AxiomNames 1000=some true:=by kernel_rfl
end Go.Proofs.YtomahedcdcnnhaaDoor
