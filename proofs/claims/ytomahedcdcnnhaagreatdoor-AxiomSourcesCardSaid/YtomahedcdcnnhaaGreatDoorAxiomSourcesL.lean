/- An order alone determines what is read: a candidate that reads something else is not allowed.: the law, on data. -/
import Derived.Test.YtomahedcdcnnhaaGreatDoorP4
import Derived.Test.YtomahedcdcnnhaaGreatDoorD0
import Derived.Test.YtomahedcdcnnhaaGreatDoorA9
import Derived.Test.YtomahedcdcnnhaaGreatDoorK6
namespace Go.Proofs.YtomahedcdcnnhaaGreatDoor
namespace axiomSources
open Go A
theorem JE : Tryz.f6.params.toList = [26, 3, 3] := by kernel_rfl
set_option maxRecDepth 100000 in
theorem law {H : Type} (ds : List (DataW H)) (hl : ds.length = Tryz.f6.params.toList.length) (hs : ((Tryz.f6.params.toList.zip ds).all fun x => cX Tryz.prog 8 x.1 x.2) = true) : ax Tryz.prog 6 ((Tryz.f6.params.toList.zip ds).map fun x => p_ Tryz.prog 8 x.1 x.2) (fun r => r = .v (.bool true)) := by
  rw [JE] at hl hs ⊢
  match ds, hl with
  | [d0, d1, d2], _ =>
    simp only [List.zip_cons_cons, List.all_cons, Bool.and_eq_true] at hs
    obtain ⟨x0, l0, w0⟩ := ly.argS Tryz.underlying26 Ma (H := H) (n := 8) hs.1
    obtain ⟨x1, l1, w1⟩ := ly.arg1 (g := aH .i64) (by kernel_rfl) (sj (H := H)) (fun _ => rfl) (n := 8) hs.2.1
    obtain ⟨x2, l2, w2⟩ := ly.arg1 (g := aH .i64) (by kernel_rfl) (sj (H := H)) (fun _ => rfl) (n := 8) hs.2.2.1
    exact (po 4000 x0 x1 x2 true (AG x0 x1 x2)).le (aT.cons l0 (aT.cons l1 (aT.cons l2 aT.nil)))
end axiomSources
end Go.Proofs.YtomahedcdcnnhaaGreatDoor
