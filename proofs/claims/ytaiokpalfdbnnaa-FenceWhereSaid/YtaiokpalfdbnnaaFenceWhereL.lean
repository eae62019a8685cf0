/- Put inserts as many fences as shared steps are open in the bare code, each directly before such a step.: the law, on data. -/
import Derived.Test.YtaiokpalfdbnnaaP2
import Derived.Test.YtaiokpalfdbnnaaD0
import Derived.Test.YtaiokpalfdbnnaaC6
import Derived.Test.YtaiokpalfdbnnaaK6
namespace Go.Proofs.Ytaiokpalfdbnnaa
namespace fenceWhere
open Go A
theorem Fg : Try.f4.params.toList = [29] := by kernel_rfl
set_option maxRecDepth 100000 in
theorem law {H : Type} (ds : List (DataW H)) (hl : ds.length = Try.f4.params.toList.length) (hs : ((Try.f4.params.toList.zip ds).all fun x => de Try.prog 8 x.1 x.2) = true) : dL Try.prog 4 ((Try.f4.params.toList.zip ds).map fun x => rH Try.prog 8 x.1 x.2) (fun r => r = .v (.bool true)) := by
  rw [Fg] at hl hs ⊢
  match ds, hl with
  | [d0], _ =>
    simp only [List.zip_cons_cons, List.all_cons, Bool.and_eq_true] at hs
    obtain ⟨x0, l0, w0⟩ := o9.argS Try.underlying29 Gs (H := H) (n := 8) hs.1
    exact (o6 1000001 x0 true (AH x0)).le (dQ.cons l0 dQ.nil)
end fenceWhere
end Go.Proofs.Ytaiokpalfdbnnaa
