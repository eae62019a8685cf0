/- A code whose registers are renamed is like it, right if it is, and what is live is renamed.: the law, on data. -/
import Derived.Test.YteafbimadlcljaaDoorP2
import Derived.Test.YteafbimadlcljaaDoorD0
import Derived.Test.YteafbimadlcljaaDoorR0
import Derived.Test.YteafbimadlcljaaDoorK6
namespace Go.Proofs.YteafbimadlcljaaDoor
namespace airRenames
open Go A
theorem D6 : Tryd.f6.params.toList = [24, 3] := by kernel_rfl
set_option maxRecDepth 100000 in
theorem law {H : Type} (ds : List (DataW H)) (hl : ds.length = Tryd.f6.params.toList.length) (hs : ((Tryd.f6.params.toList.zip ds).all fun x => cV Tryd.prog 8 x.1 x.2) = true) : di Tryd.prog 6 ((Tryd.f6.params.toList.zip ds).map fun x => nr Tryd.prog 8 x.1 x.2) (fun r => r = .v (.bool true)) := by
  rw [D6] at hl hs ⊢
  match ds, hl with
  | [d0, d1], _ =>
    simp only [List.zip_cons_cons, List.all_cons, Bool.and_eq_true] at hs
    obtain ⟨x0, l0, w0⟩ := m5.argS Tryd.underlying24 Fg (H := H) (n := 8) hs.1
    obtain ⟨x1, l1, w1⟩ := m5.arg1 (g := bN .i64) (by kernel_rfl) (p_ (H := H)) (fun _ => rfl) (n := 8) hs.2.1
    exact (oY 6000000 x0 x1 true (Dc x0 x1)).le (lM.cons l0 (lM.cons l1 lM.nil))
end airRenames
end Go.Proofs.YteafbimadlcljaaDoor
