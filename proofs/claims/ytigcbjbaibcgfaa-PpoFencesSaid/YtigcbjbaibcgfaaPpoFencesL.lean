/- One more fence never removes a pair; with a fence of all to all between each two events, every pair is preserved.: the law, on data. -/
import Derived.Test.YtigcbjbaibcgfaaP4
import Derived.Test.YtigcbjbaibcgfaaD0
import Derived.Test.YtigcbjbaibcgfaaF9
import Derived.Test.YtigcbjbaibcgfaaK6
namespace Go.Proofs.Ytigcbjbaibcgfaa
namespace ppoFences
open Go A
theorem params5 : Try.f5.params.toList = [26] := by kernel_rfl
set_option maxRecDepth 100000 in
theorem law {H : Type} (ds : List (DataW H)) (hl : ds.length = Try.f5.params.toList.length) (hs : ((Try.f5.params.toList.zip ds).all fun x => shapeD Try.prog 8 x.1 x.2) = true) : PCall Try.prog 5 ((Try.f5.params.toList.zip ds).map fun x => argAV Try.prog 8 x.1 x.2) (fun r => r = .v (.bool true)) := by
  rw [params5] at hl hs ⊢
  match ds, hl with
  | [d0], _ =>
    simp only [List.zip_cons_cons, List.all_cons, Bool.and_eq_true] at hs
    obtain ⟨x0, l0, w0⟩ := Dec.argS Try.underlying26 dec_26 (H := H) (n := 8) hs.1
    exact (law_PpoFences_sim 2000 x0 true (fences_true x0)).le (LeR.cons l0 LeR.nil)
end ppoFences
end Go.Proofs.Ytigcbjbaibcgfaa
