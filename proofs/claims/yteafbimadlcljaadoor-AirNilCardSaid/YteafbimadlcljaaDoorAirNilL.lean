/- An invalid plan returns ErrNil, or nothing.: the law, on data. -/
import Derived.Test.YteafbimadlcljaaDoorP1
import Derived.Test.YteafbimadlcljaaDoorD0
import Derived.Test.YteafbimadlcljaaDoorN9
import Derived.Test.YteafbimadlcljaaDoorK6
namespace Go.Proofs.YteafbimadlcljaaDoor
namespace airNil
open Go A
theorem params4 : Tryd.f4.params.toList = [41] := by kernel_rfl
set_option maxRecDepth 100000 in
theorem law {H : Type} (ds : List (DataW H)) (hl : ds.length = Tryd.f4.params.toList.length) (hs : ((Tryd.f4.params.toList.zip ds).all fun x => shapeD Tryd.prog 8 x.1 x.2) = true) : PCall Tryd.prog 4 ((Tryd.f4.params.toList.zip ds).map fun x => argAV Tryd.prog 8 x.1 x.2) (fun r => r = .v (.bool true)) := by
  rw [params4] at hl hs ⊢
  match ds, hl with
  | [d0], _ =>
    simp only [List.zip_cons_cons, List.all_cons, Bool.and_eq_true] at hs
    obtain ⟨x0, l0, w0⟩ := Dec.argS Tryd.underlying41 dec_41 (H := H) (n := 8) hs.1
    exact (law_AirNil_sim 1000 x0 true (nil_true x0)).le (LeR.cons l0 LeR.nil)
end airNil
end Go.Proofs.YteafbimadlcljaaDoor
