/- On no path of the result of Put do two shared steps follow each other without a fence; none of its fences can be removed; the same for Strip.: the law, on data. -/
import Derived.Test.YtaiokpalfdbnnaaP2
import Derived.Test.YtaiokpalfdbnnaaD0
import Derived.Test.YtaiokpalfdbnnaaW4
import Derived.Test.YtaiokpalfdbnnaaK6
namespace Go.Proofs.Ytaiokpalfdbnnaa
namespace fenceWays
open Go A
theorem GO : Try.f5.params.toList = [29] := by kernel_rfl
set_option maxRecDepth 100000 in
theorem law {H : Type} (ds : List (DataW H)) (hl : ds.length = Try.f5.params.toList.length) (hs : ((Try.f5.params.toList.zip ds).all fun x => dy Try.prog 8 x.1 x.2) = true) : d9 Try.prog 5 ((Try.f5.params.toList.zip ds).map fun x => tl Try.prog 8 x.1 x.2) (fun r => r = .v (.bool true)) := by
  rw [GO] at hl hs ⊢
  match ds, hl with
  | [d0], _ =>
    simp only [List.zip_cons_cons, List.all_cons, Bool.and_eq_true] at hs
    obtain ⟨x0, l0, w0⟩ := qq.argS Try.underlying29 HS (H := H) (n := 8) hs.1
    exact (rv 1000001 x0 true (Ei x0)).le (dw.cons l0 dw.nil)
end fenceWays
end Go.Proofs.Ytaiokpalfdbnnaa
