/- AirNil: the statement's function answers true, for every call. Plain Lean, no program in sight. -/
import Derived.Test.YteafbimadlcljaaDoorM1
namespace Go.Proofs.YteafbimadlcljaaDoor
open Go A

theorem nil_true (a:fencepostlaw21_Act):law_AirNil 1000 a=some true:=by
  rfl

end Go.Proofs.YteafbimadlcljaaDoor
