/- Parts follow each other, the common one first, then hart by hart; what belongs to a hart is in its own part.: the law, on data. -/
import Derived.Test.YtnjpjmeoednfcaaP1
import Derived.Test.YtnjpjmeoednfcaaD0
import Derived.Test.YtnjpjmeoednfcaaL1
import Derived.Test.YtnjpjmeoednfcaaK6
namespace Go.Proofs.Ytnjpjmeoednfcaa
namespace dataParts
open Go A
theorem params3 : Try.f3.params.toList = [22, 3, 3] := by kernel_rfl
theorem law {H : Type} (ds : List (DataW H)) (hl : ds.length = Try.f3.params.toList.length) (hs : ((Try.f3.params.toList.zip ds).all fun x => shapeD Try.prog 6 x.1 x.2) = true) : PCall Try.prog 3 ((Try.f3.params.toList.zip ds).map fun x => argAV Try.prog 6 x.1 x.2) (fun r => r = .v (.bool true)) := by
  rw [params3] at hl hs ⊢
  match ds, hl with
  | [d0, d1, d2], _ =>
    simp only [List.zip_cons_cons, List.all_cons, Bool.and_eq_true] at hs
    obtain ⟨x0, l0, w0⟩ := Dec.arg1 (g := aSl Piece.enc) (by kernel_rfl) (dec_22 (H := H)) (fun _ => rfl) (n := 6) hs.1
    obtain ⟨x1, l1, w1⟩ := Dec.arg1 (g := aInt .i64) (by kernel_rfl) (dec_3 (H := H)) (fun _ => rfl) (n := 6) hs.2.1
    obtain ⟨x2, l2, w2⟩ := Dec.arg1 (g := aInt .i64) (by kernel_rfl) (dec_3 (H := H)) (fun _ => rfl) (n := 6) hs.2.2.1
    exact (law_DataParts_sim 100 x0 x1 x2 true (parts_true x0 x1 x2)).le (LeR.cons l0 (LeR.cons l1 (LeR.cons l2 LeR.nil)))
end dataParts
end Go.Proofs.Ytnjpjmeoednfcaa
