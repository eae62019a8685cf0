/- The chapter's examples have the results that it gives.: the law, on data. -/
import Derived.Test.YtomahedcdcnnhaaDoorP4
import Derived.Test.YtomahedcdcnnhaaDoorD0
import Derived.Test.YtomahedcdcnnhaaDoorN1
import Derived.Test.YtomahedcdcnnhaaDoorK6
namespace Go.Proofs.YtomahedcdcnnhaaDoor
namespace axiomNames
open Go A
theorem params3 : Tryd.f3.params.toList = [] := by kernel_rfl
set_option maxRecDepth 100000 in
theorem law {H : Type} (ds : List (DataW H)) (hl : ds.length = Tryd.f3.params.toList.length) (hs : ((Tryd.f3.params.toList.zip ds).all fun x => shapeD Tryd.prog 8 x.1 x.2) = true) : PCall Tryd.prog 3 ((Tryd.f3.params.toList.zip ds).map fun x => argAV Tryd.prog 8 x.1 x.2) (fun r => r = .v (.bool true)) := by
  rw [params3] at hl hs ⊢
  match ds, hl with
  | [], _ =>
    exact (law_AxiomNames_sim 1000 true (names_true)).le LeR.nil
end axiomNames
end Go.Proofs.YtomahedcdcnnhaaDoor
