/- The orders are read.: the law, on data. -/
import Derived.Test.YtomahedcdcnnhaaGreatDoorP4
import Derived.Test.YtomahedcdcnnhaaGreatDoorD0
import Derived.Test.YtomahedcdcnnhaaGreatDoorA7
import Derived.Test.YtomahedcdcnnhaaGreatDoorK6
namespace Go.Proofs.YtomahedcdcnnhaaGreatDoor
namespace axiomOrders
open Go A
theorem Lq : Tryz.f3.params.toList = [26, 3, 3] := by kernel_rfl
set_option maxRecDepth 100000 in
theorem law {H : Type} (ds : List (DataW H)) (hl : ds.length = Tryz.f3.params.toList.length) (hs : ((Tryz.f3.params.toList.zip ds).all fun x => dm Tryz.prog 8 x.1 x.2) = true) : aw Tryz.prog 3 ((Tryz.f3.params.toList.zip ds).map fun x => q_ Tryz.prog 8 x.1 x.2) (fun r => r = .v (.bool true)) := by
  rw [Lq] at hl hs ⊢
  match ds, hl with
  | [d0, d1, d2], _ =>
    simp only [List.zip_cons_cons, List.all_cons, Bool.and_eq_true] at hs
    obtain ⟨x0, l0, w0⟩ := mt.argS Tryz.underlying26 Ol (H := H) (n := 8) hs.1
    obtain ⟨x1, l1, w1⟩ := mt.arg1 (g := aS .i64) (by kernel_rfl) (tL (H := H)) (fun _ => rfl) (n := 8) hs.2.1
    obtain ⟨x2, l2, w2⟩ := mt.arg1 (g := aS .i64) (by kernel_rfl) (tL (H := H)) (fun _ => rfl) (n := 8) hs.2.2.1
    exact (qR 4000 x0 x1 x2 true (Dx x0 x1 x2)).le (dE.cons l0 (dE.cons l1 (dE.cons l2 dE.nil)))
end axiomOrders
end Go.Proofs.YtomahedcdcnnhaaGreatDoor
