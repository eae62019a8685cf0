/- The event that an ask makes is valid and has what was asked for.: the law, on data. -/
import Derived.Test.YtnmmknnnggcijaaDoorP3
import Derived.Test.YtnmmknnnggcijaaDoorD0
import Derived.Test.YtnmmknnnggcijaaDoorG6
import Derived.Test.YtnmmknnnggcijaaDoorK6
namespace Go.Proofs.YtnmmknnnggcijaaDoor
namespace eventMakes
open Go A
theorem Ds : Tryd.f4.params.toList = [3, 3, 38, 28, 31] := by kernel_rfl
set_option maxRecDepth 100000 in
theorem law {H : Type} (ds : List (DataW H)) (hl : ds.length = Tryd.f4.params.toList.length) (hs : ((Tryd.f4.params.toList.zip ds).all fun x => cU Tryd.prog 8 x.1 x.2) = true) : dz Tryd.prog 4 ((Tryd.f4.params.toList.zip ds).map fun x => nF Tryd.prog 8 x.1 x.2) (fun r => r = .v (.bool true)) := by
  rw [Ds] at hl hs ⊢
  match ds, hl with
  | [d0, d1, d2, d3, d4], _ =>
    simp only [List.zip_cons_cons, List.all_cons, Bool.and_eq_true] at hs
    obtain ⟨x0, l0, w0⟩ := ma.arg1 (g := Et .i64) (by kernel_rfl) (uh (H := H)) (fun _ => rfl) (n := 8) hs.1
    obtain ⟨x1, l1, w1⟩ := ma.arg1 (g := Et .i64) (by kernel_rfl) (uh (H := H)) (fun _ => rfl) (n := 8) hs.2.1
    obtain ⟨x2, l2, w2⟩ := ma.argS Tryd.underlying38 ED (H := H) (n := 8) hs.2.2.1
    obtain ⟨x3, l3, w3⟩ := ma.arg1 (g := Et .u64) (by kernel_rfl) (zZ (H := H)) (fun _ => rfl) (n := 8) hs.2.2.2.1
    obtain ⟨x4, l4, w4⟩ := ma.argS Tryd.underlying31 EE (H := H) (n := 8) hs.2.2.2.2.1
    exact (o5 1000 x0 x1 x2 x3 x4 true (Ad x0 x1 x2 x3 x4 w0 w1 w2 w3 w4)).le (bm.cons l0 (bm.cons l1 (bm.cons l2 (bm.cons l3 (bm.cons l4 bm.nil)))))
end eventMakes
end Go.Proofs.YtnmmknnnggcijaaDoor
