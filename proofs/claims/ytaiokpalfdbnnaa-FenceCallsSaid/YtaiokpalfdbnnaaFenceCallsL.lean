/- Fences are inserted, removed and checked as the document says.: the law, on data. -/
import Derived.Test.YtaiokpalfdbnnaaP2
import Derived.Test.YtaiokpalfdbnnaaD0
import Derived.Test.YtaiokpalfdbnnaaZ1
import Derived.Test.YtaiokpalfdbnnaaK6
namespace Go.Proofs.Ytaiokpalfdbnnaa
namespace fenceCalls
open Go A
theorem H9 : Try.f7.params.toList = [29] := by kernel_rfl
set_option maxRecDepth 100000 in
theorem law {H : Type} (ds : List (DataW H)) (hl : ds.length = Try.f7.params.toList.length) (hs : ((Try.f7.params.toList.zip ds).all fun x => dE Try.prog 8 x.1 x.2) = true) : d_ Try.prog 7 ((Try.f7.params.toList.zip ds).map fun x => uE Try.prog 8 x.1 x.2) (fun r => r = .v (.bool true)) := by
  rw [H9] at hl hs ⊢
  match ds, hl with
  | [d0], _ =>
    simp only [List.zip_cons_cons, List.all_cons, Bool.and_eq_true] at hs
    obtain ⟨x0, l0, w0⟩ := ru.argS Try.underlying29 Jl (H := H) (n := 8) hs.1
    exact (rl 1000001 x0 true (q7 x0)).le (c8.cons l0 c8.nil)
end fenceCalls
end Go.Proofs.Ytaiokpalfdbnnaa
