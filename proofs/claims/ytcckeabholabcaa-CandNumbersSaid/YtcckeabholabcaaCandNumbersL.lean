/- Numbers and places correspond one to one.: the law, on data. -/
import Derived.Test.YtcckeabholabcaaP2
import Derived.Test.YtcckeabholabcaaD0
import Derived.Test.YtcckeabholabcaaN9
import Derived.Test.YtcckeabholabcaaK6
namespace Go.Proofs.Ytcckeabholabcaa
namespace candNumbers
open Go A
theorem params6 : Try.f6.params.toList = [26] := by kernel_rfl
set_option maxRecDepth 100000 in
theorem law {H : Type} (ds : List (DataW H)) (hl : ds.length = Try.f6.params.toList.length) (hs : ((Try.f6.params.toList.zip ds).all fun x => shapeD Try.prog 8 x.1 x.2) = true) : PCall Try.prog 6 ((Try.f6.params.toList.zip ds).map fun x => argAV Try.prog 8 x.1 x.2) (fun r => r = .v (.bool true)) := by
  rw [params6] at hl hs ⊢
  match ds, hl with
  | [d0], _ =>
    simp only [List.zip_cons_cons, List.all_cons, Bool.and_eq_true] at hs
    obtain ⟨x0, l0, w0⟩ := Dec.argS Try.underlying26 dec_26 (H := H) (n := 8) hs.1
    exact (law_CandNumbers_sim 1000 x0 true (numbers_true x0)).le (LeR.cons l0 LeR.nil)
end candNumbers
end Go.Proofs.Ytcckeabholabcaa
