/- A register is live where a way leads to its use.: the law, on data. -/
import Derived.Test.YteafbimadlcljaaDoorP1
import Derived.Test.YteafbimadlcljaaDoorD0
import Derived.Test.YteafbimadlcljaaDoorA0
import Derived.Test.YteafbimadlcljaaDoorK6
namespace Go.Proofs.YteafbimadlcljaaDoor
namespace airLive
open Go A
theorem Bs : Tryd.f3.params.toList = [24] := by kernel_rfl
set_option maxRecDepth 100000 in
theorem law {H : Type} (ds : List (DataW H)) (hl : ds.length = Tryd.f3.params.toList.length) (hs : ((Tryd.f3.params.toList.zip ds).all fun x => cy Tryd.prog 8 x.1 x.2) = true) : cC Tryd.prog 3 ((Tryd.f3.params.toList.zip ds).map fun x => pB Tryd.prog 8 x.1 x.2) (fun r => r = .v (.bool true)) := by
  rw [Bs] at hl hs ⊢
  match ds, hl with
  | [d0], _ =>
    simp only [List.zip_cons_cons, List.all_cons, Bool.and_eq_true] at hs
    obtain ⟨x0, l0, w0⟩ := mV.argS Tryd.underlying24 Cq (H := H) (n := 8) hs.1
    exact (pY 6000000 x0 true (zE x0)).le (kp.cons l0 kp.nil)
end airLive
end Go.Proofs.YteafbimadlcljaaDoor
