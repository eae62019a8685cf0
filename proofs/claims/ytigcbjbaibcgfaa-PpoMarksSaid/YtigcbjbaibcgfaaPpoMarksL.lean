/- An acquire is before everything after it, a release after everything before it, a store after everything earlier at its address; a pair is in its order.: the law, on data. -/
import Derived.Test.YtigcbjbaibcgfaaP3
import Derived.Test.YtigcbjbaibcgfaaD0
import Derived.Test.YtigcbjbaibcgfaaN9
import Derived.Test.YtigcbjbaibcgfaaK6
namespace Go.Proofs.Ytigcbjbaibcgfaa
namespace ppoMarks
open Go A
theorem params3 : Try.f3.params.toList = [26] := by kernel_rfl
set_option maxRecDepth 100000 in
theorem law {H : Type} (ds : List (DataW H)) (hl : ds.length = Try.f3.params.toList.length) (hs : ((Try.f3.params.toList.zip ds).all fun x => shapeD Try.prog 8 x.1 x.2) = true) : PCall Try.prog 3 ((Try.f3.params.toList.zip ds).map fun x => argAV Try.prog 8 x.1 x.2) (fun r => r = .v (.bool true)) := by
  rw [params3] at hl hs ⊢
  match ds, hl with
  | [d0], _ =>
    simp only [List.zip_cons_cons, List.all_cons, Bool.and_eq_true] at hs
    obtain ⟨x0, l0, w0⟩ := Dec.argS Try.underlying26 dec_26 (H := H) (n := 8) hs.1
    exact (law_PpoMarks_sim 1000 x0 true (marks_true x0)).le (LeR.cons l0 LeR.nil)
end ppoMarks
end Go.Proofs.Ytigcbjbaibcgfaa
