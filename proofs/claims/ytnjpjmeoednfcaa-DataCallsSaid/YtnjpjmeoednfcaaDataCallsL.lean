/- Pieces are checked, laid out and found as the document says.: the law, on data. -/
import Derived.Test.YtnjpjmeoednfcaaP4
import Derived.Test.YtnjpjmeoednfcaaD0
import Derived.Test.YtnjpjmeoednfcaaL3
import Derived.Test.YtnjpjmeoednfcaaK6
namespace Go.Proofs.Ytnjpjmeoednfcaa
namespace dataCalls
open Go A
theorem params5 : Try.f5.params.toList = [22, 36, 9, 3, 27] := by kernel_rfl
theorem law {H : Type} (ds : List (DataW H)) (hl : ds.length = Try.f5.params.toList.length) (hs : ((Try.f5.params.toList.zip ds).all fun x => shapeD Try.prog 6 x.1 x.2) = true) : PCall Try.prog 5 ((Try.f5.params.toList.zip ds).map fun x => argAV Try.prog 6 x.1 x.2) (fun r => r = .v (.bool true)) := by
  rw [params5] at hl hs ⊢
  match ds, hl with
  | [d0, d1, d2, d3, d4], _ =>
    simp only [List.zip_cons_cons, List.all_cons, Bool.and_eq_true] at hs
    obtain ⟨x0, l0, w0⟩ := Dec.arg1 (g := aSl Piece.enc) (by kernel_rfl) (dec_22 (H := H)) (fun _ => rfl) (n := 6) hs.1
    obtain ⟨x1, l1, w1⟩ := Dec.arg1 (g := aSl Seat.enc) (by kernel_rfl) (dec_36 (H := H)) (fun _ => rfl) (n := 6) hs.2.1
    obtain ⟨x2, l2, w2⟩ := Dec.arg1 (g := aStr) (by kernel_rfl) (dec_9 (H := H)) (fun _ => rfl) (n := 6) hs.2.2.1
    obtain ⟨x3, l3, w3⟩ := Dec.arg1 (g := aInt .i64) (by kernel_rfl) (dec_3 (H := H)) (fun _ => rfl) (n := 6) hs.2.2.2.1
    obtain ⟨x4, l4, w4⟩ := Dec.arg1 (g := aInt .u64) (by kernel_rfl) (dec_27 (H := H)) (fun _ => rfl) (n := 6) hs.2.2.2.2.1
    exact (law_DataCalls_sim 1000 x0 x1 x2 x3 x4 true (calls_true x0 x1 x2 x3 x4)).le (LeR.cons l0 (LeR.cons l1 (LeR.cons l2 (LeR.cons l3 (LeR.cons l4 LeR.nil)))))
end dataCalls
end Go.Proofs.Ytnjpjmeoednfcaa
