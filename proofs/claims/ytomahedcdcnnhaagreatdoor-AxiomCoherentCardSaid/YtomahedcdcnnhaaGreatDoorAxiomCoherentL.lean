/- Coherence is checked order by order.: the law, on data. -/
import Derived.Test.YtomahedcdcnnhaaGreatDoorP4
import Derived.Test.YtomahedcdcnnhaaGreatDoorD0
import Derived.Test.YtomahedcdcnnhaaGreatDoorA8
import Derived.Test.YtomahedcdcnnhaaGreatDoorK6
namespace Go.Proofs.YtomahedcdcnnhaaGreatDoor
namespace axiomCoherent
open Go A
theorem JE : Tryz.f4.params.toList = [26] := by kernel_rfl
set_option maxRecDepth 100000 in
theorem law {H : Type} (ds : List (DataW H)) (hl : ds.length = Tryz.f4.params.toList.length) (hs : ((Tryz.f4.params.toList.zip ds).all fun x => de Tryz.prog 8 x.1 x.2) = true) : az Tryz.prog 4 ((Tryz.f4.params.toList.zip ds).map fun x => p0 Tryz.prog 8 x.1 x.2) (fun r => r = .v (.bool true)) := by
  rw [JE] at hl hs ⊢
  match ds, hl with
  | [d0], _ =>
    simp only [List.zip_cons_cons, List.all_cons, Bool.and_eq_true] at hs
    obtain ⟨x0, l0, w0⟩ := lO.argS Tryz.underlying26 L5 (H := H) (n := 8) hs.1
    exact (nH 4000 x0 true (x_ x0)).le (aV.cons l0 aV.nil)
end axiomCoherent
end Go.Proofs.YtomahedcdcnnhaaGreatDoor
