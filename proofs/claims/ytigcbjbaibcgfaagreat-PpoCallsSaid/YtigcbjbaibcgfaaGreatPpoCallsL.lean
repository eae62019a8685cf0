/- Which rule preserves which pair is what the document says.: the law, on data. -/
import Derived.Test.YtigcbjbaibcgfaaGreatP5
import Derived.Test.YtigcbjbaibcgfaaGreatD0
import Derived.Test.YtigcbjbaibcgfaaGreatQ9
import Derived.Test.YtigcbjbaibcgfaaGreatK6
namespace Go.Proofs.YtigcbjbaibcgfaaGreat
namespace ppoCalls
open Go A
theorem params3 : Tryz.f3.params.toList = [26, 3, 3, 3] := by kernel_rfl
set_option maxRecDepth 100000 in
theorem law {H : Type} (ds : List (DataW H)) (hl : ds.length = Tryz.f3.params.toList.length) (hs : ((Tryz.f3.params.toList.zip ds).all fun x => shapeD Tryz.prog 8 x.1 x.2) = true) : PCall Tryz.prog 3 ((Tryz.f3.params.toList.zip ds).map fun x => argAV Tryz.prog 8 x.1 x.2) (fun r => r = .v (.bool true)) := by
  rw [params3] at hl hs ⊢
  match ds, hl with
  | [d0, d1, d2, d3], _ =>
    simp only [List.zip_cons_cons, List.all_cons, Bool.and_eq_true] at hs
    obtain ⟨x0, l0, w0⟩ := Dec.argS Tryz.underlying26 dec_26 (H := H) (n := 8) hs.1
    obtain ⟨x1, l1, w1⟩ := Dec.arg1 (g := aInt .i64) (by kernel_rfl) (dec_3 (H := H)) (fun _ => rfl) (n := 8) hs.2.1
    obtain ⟨x2, l2, w2⟩ := Dec.arg1 (g := aInt .i64) (by kernel_rfl) (dec_3 (H := H)) (fun _ => rfl) (n := 8) hs.2.2.1
    obtain ⟨x3, l3, w3⟩ := Dec.arg1 (g := aInt .i64) (by kernel_rfl) (dec_3 (H := H)) (fun _ => rfl) (n := 8) hs.2.2.2.1
    exact (law_PpoCalls_sim 2000 x0 x1 x2 x3 true (calls_true x0 x1 x2 x3)).le (LeR.cons l0 (LeR.cons l1 (LeR.cons l2 (LeR.cons l3 LeR.nil))))
end ppoCalls
end Go.Proofs.YtigcbjbaibcgfaaGreat
