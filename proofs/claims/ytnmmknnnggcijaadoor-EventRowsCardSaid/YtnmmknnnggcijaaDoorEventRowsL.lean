/- A first part of a valid list is valid; a pair is used once, with nothing in between; one of another hart is invalid.: the law, on data. -/
import Derived.Test.YtnmmknnnggcijaaDoorP1
import Derived.Test.YtnmmknnnggcijaaDoorD0
import Derived.Test.YtnmmknnnggcijaaDoorR9
import Derived.Test.YtnmmknnnggcijaaDoorK6
namespace Go.Proofs.YtnmmknnnggcijaaDoor
namespace eventRows
open Go A
theorem params3 : Tryd.f3.params.toList = [3, 22, 3] := by kernel_rfl
set_option maxRecDepth 100000 in
theorem law {H : Type} (ds : List (DataW H)) (hl : ds.length = Tryd.f3.params.toList.length) (hs : ((Tryd.f3.params.toList.zip ds).all fun x => shapeD Tryd.prog 8 x.1 x.2) = true) : PCall Tryd.prog 3 ((Tryd.f3.params.toList.zip ds).map fun x => argAV Tryd.prog 8 x.1 x.2) (fun r => r = .v (.bool true)) := by
  rw [params3] at hl hs ⊢
  match ds, hl with
  | [d0, d1, d2], _ =>
    simp only [List.zip_cons_cons, List.all_cons, Bool.and_eq_true] at hs
    obtain ⟨x0, l0, w0⟩ := Dec.arg1 (g := aInt .i64) (by kernel_rfl) (dec_3 (H := H)) (fun _ => rfl) (n := 8) hs.1
    obtain ⟨x1, l1, w1⟩ := Dec.arg1 (g := aSl Event.enc) (by kernel_rfl) (dec_22 (H := H)) (fun _ => rfl) (n := 8) hs.2.1
    obtain ⟨x2, l2, w2⟩ := Dec.arg1 (g := aInt .i64) (by kernel_rfl) (dec_3 (H := H)) (fun _ => rfl) (n := 8) hs.2.2.1
    exact (law_EventRows_sim 1000 x0 x1 x2 true (rows_true x0 x1 x2)).le (LeR.cons l0 (LeR.cons l1 (LeR.cons l2 LeR.nil)))
end eventRows
end Go.Proofs.YtnmmknnnggcijaaDoor
