/- An event reads what was stored there; another From, or an Order with an event missing or repeated, is invalid, or fits as well.: the law, on data. -/
import Derived.Test.YtcckeabholabcaaP3
import Derived.Test.YtcckeabholabcaaD0
import Derived.Test.YtcckeabholabcaaN8
import Derived.Test.YtcckeabholabcaaK6
namespace Go.Proofs.Ytcckeabholabcaa
namespace candFrom
open Go A
theorem params5 : Try.f5.params.toList = [26, 3, 3] := by kernel_rfl
set_option maxRecDepth 100000 in
theorem law {H : Type} (ds : List (DataW H)) (hl : ds.length = Try.f5.params.toList.length) (hs : ((Try.f5.params.toList.zip ds).all fun x => shapeD Try.prog 8 x.1 x.2) = true) : PCall Try.prog 5 ((Try.f5.params.toList.zip ds).map fun x => argAV Try.prog 8 x.1 x.2) (fun r => r = .v (.bool true)) := by
  rw [params5] at hl hs ⊢
  match ds, hl with
  | [d0, d1, d2], _ =>
    simp only [List.zip_cons_cons, List.all_cons, Bool.and_eq_true] at hs
    obtain ⟨x0, l0, w0⟩ := Dec.argS Try.underlying26 dec_26 (H := H) (n := 8) hs.1
    obtain ⟨x1, l1, w1⟩ := Dec.arg1 (g := aInt .i64) (by kernel_rfl) (dec_3 (H := H)) (fun _ => rfl) (n := 8) hs.2.1
    obtain ⟨x2, l2, w2⟩ := Dec.arg1 (g := aInt .i64) (by kernel_rfl) (dec_3 (H := H)) (fun _ => rfl) (n := 8) hs.2.2.1
    exact (law_CandFrom_sim 1000 x0 x1 x2 true (from_true x0 x1 x2)).le (LeR.cons l0 (LeR.cons l1 (LeR.cons l2 LeR.nil)))
end candFrom
end Go.Proofs.Ytcckeabholabcaa
