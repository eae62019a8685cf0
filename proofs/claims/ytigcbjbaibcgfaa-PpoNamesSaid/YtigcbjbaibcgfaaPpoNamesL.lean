/- The chapter's examples have the results that it gives.: the law, on data. -/
import Derived.Test.YtigcbjbaibcgfaaP6
import Derived.Test.YtigcbjbaibcgfaaD0
import Derived.Test.YtigcbjbaibcgfaaN1
import Derived.Test.YtigcbjbaibcgfaaK6
namespace Go.Proofs.Ytigcbjbaibcgfaa
namespace ppoNames
open Go A
theorem params6 : Try.f6.params.toList = [] := by kernel_rfl
theorem law {H : Type} (ds : List (DataW H)) (hl : ds.length = Try.f6.params.toList.length) (hs : ((Try.f6.params.toList.zip ds).all fun x => shapeD Try.prog 6 x.1 x.2) = true) : PCall Try.prog 6 ((Try.f6.params.toList.zip ds).map fun x => argAV Try.prog 6 x.1 x.2) (fun r => r = .v (.bool true)) := by
  rw [params6] at hl hs ⊢
  match ds, hl with
  | [], _ =>
    exact (law_PpoNames_sim 200 true (names_true)).le LeR.nil
end ppoNames
end Go.Proofs.Ytigcbjbaibcgfaa
