/- No two seats have a byte in common; all are in their parts, next to each other; each double of each piece is found by its address.: the law, on data. -/
import Derived.Test.YtnjpjmeoednfcaaP3
import Derived.Test.YtnjpjmeoednfcaaD0
import Derived.Test.YtnjpjmeoednfcaaL4
import Derived.Test.YtnjpjmeoednfcaaK6
namespace Go.Proofs.Ytnjpjmeoednfcaa
namespace dataApart
open Go A
theorem params6 : Try.f6.params.toList = [22, 3] := by kernel_rfl
theorem law {H : Type} (ds : List (DataW H)) (hl : ds.length = Try.f6.params.toList.length) (hs : ((Try.f6.params.toList.zip ds).all fun x => shapeD Try.prog 6 x.1 x.2) = true) : PCall Try.prog 6 ((Try.f6.params.toList.zip ds).map fun x => argAV Try.prog 6 x.1 x.2) (fun r => r = .v (.bool true)) := by
  rw [params6] at hl hs ⊢
  match ds, hl with
  | [d0, d1], _ =>
    simp only [List.zip_cons_cons, List.all_cons, Bool.and_eq_true] at hs
    obtain ⟨x0, l0, w0⟩ := Dec.arg1 (g := aSl Piece.enc) (by kernel_rfl) (dec_22 (H := H)) (fun _ => rfl) (n := 6) hs.1
    obtain ⟨x1, l1, w1⟩ := Dec.arg1 (g := aInt .i64) (by kernel_rfl) (dec_3 (H := H)) (fun _ => rfl) (n := 6) hs.2.1
    exact (law_DataApart_sim 1000 x0 x1 true (apart_true x0 x1)).le (LeR.cons l0 (LeR.cons l1 LeR.nil))
end dataApart
end Go.Proofs.Ytnjpjmeoednfcaa
