/- Candidates are checked and queried as the document says.: the law, on data. -/
import Derived.Test.YtcckeabholabcaaGreatP2
import Derived.Test.YtcckeabholabcaaGreatD0
import Derived.Test.YtcckeabholabcaaGreatQ0
import Derived.Test.YtcckeabholabcaaGreatK6
namespace Go.Proofs.YtcckeabholabcaaGreat
namespace candCalls
open Go A
theorem Im : Tryz.f3.params.toList = [26, 26, 3, 3, 27] := by kernel_rfl
set_option maxRecDepth 100000 in
theorem law {H : Type} (ds : List (DataW H)) (hl : ds.length = Tryz.f3.params.toList.length) (hs : ((Tryz.f3.params.toList.zip ds).all fun x => ef Tryz.prog 8 x.1 x.2) = true) : fD Tryz.prog 3 ((Tryz.f3.params.toList.zip ds).map fun x => qp Tryz.prog 8 x.1 x.2) (fun r => r = .v (.bool true)) := by
  rw [Im] at hl hs ⊢
  match ds, hl with
  | [d0, d1, d2, d3, d4], _ =>
    simp only [List.zip_cons_cons, List.all_cons, Bool.and_eq_true] at hs
    obtain ⟨x0, l0, w0⟩ := lu.argS Tryz.underlying26 G0 (H := H) (n := 8) hs.1
    obtain ⟨x1, l1, w1⟩ := lu.argS Tryz.underlying26 G0 (H := H) (n := 8) hs.2.1
    obtain ⟨x2, l2, w2⟩ := lu.arg1 (g := ft .i64) (by kernel_rfl) (sn (H := H)) (fun _ => rfl) (n := 8) hs.2.2.1
    obtain ⟨x3, l3, w3⟩ := lu.arg1 (g := ft .i64) (by kernel_rfl) (sn (H := H)) (fun _ => rfl) (n := 8) hs.2.2.2.1
    obtain ⟨x4, l4, w4⟩ := lu.arg1 (g := ft .u64) (by kernel_rfl) (tH (H := H)) (fun _ => rfl) (n := 8) hs.2.2.2.2.1
    exact (sk 1000000 x0 x1 x2 x3 x4 true (q8 x0 x1 x2 x3 x4 w0 w1 w2 w3 w4)).le (cZ.cons l0 (cZ.cons l1 (cZ.cons l2 (cZ.cons l3 (cZ.cons l4 cZ.nil)))))
end candCalls
end Go.Proofs.YtcckeabholabcaaGreat
