/- Which candidates are allowed is what the document says.: the law, on data. -/
import Derived.Test.YtomahedcdcnnhaaGreatDoorP2
import Derived.Test.YtomahedcdcnnhaaGreatDoorD0
import Derived.Test.YtomahedcdcnnhaaGreatDoorA0
import Derived.Test.YtomahedcdcnnhaaGreatDoorK6
namespace Go.Proofs.YtomahedcdcnnhaaGreatDoor
namespace axiomCalls
open Go A
theorem Jw : Tryz.f5.params.toList = [26, 3, 48] := by kernel_rfl
set_option maxRecDepth 100000 in
theorem law {H : Type} (ds : List (DataW H)) (hl : ds.length = Tryz.f5.params.toList.length) (hs : ((Tryz.f5.params.toList.zip ds).all fun x => dk Tryz.prog 8 x.1 x.2) = true) : ft Tryz.prog 5 ((Tryz.f5.params.toList.zip ds).map fun x => ri Tryz.prog 8 x.1 x.2) (fun r => r = .v (.bool true)) := by
  rw [Jw] at hl hs ⊢
  match ds, hl with
  | [d0, d1, d2], _ =>
    simp only [List.zip_cons_cons, List.all_cons, Bool.and_eq_true] at hs
    obtain ⟨x0, l0, w0⟩ := kY.argS Tryz.underlying26 K4 (H := H) (n := 8) hs.1
    obtain ⟨x1, l1, w1⟩ := kY.arg1 (g := dl .i64) (by kernel_rfl) (qn (H := H)) (fun _ => rfl) (n := 8) hs.2.1
    obtain ⟨x2, l2, w2⟩ := kY.argS Tryz.underlying48 K5 (H := H) (n := 8) hs.2.2.1
    exact (ss 4000 x0 x1 x2 true (sc x0 x1 x2 w0 w1 w2)).le (fj.cons l0 (fj.cons l1 (fj.cons l2 fj.nil)))
end axiomCalls
end Go.Proofs.YtomahedcdcnnhaaGreatDoor
