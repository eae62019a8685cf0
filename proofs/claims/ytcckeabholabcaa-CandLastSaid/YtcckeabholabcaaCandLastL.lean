/- The last value at an address is what its last event stored, or the initial one; zeros are left out.: the law, on data. -/
import Derived.Test.YtcckeabholabcaaP1
import Derived.Test.YtcckeabholabcaaD0
import Derived.Test.YtcckeabholabcaaK0
import Derived.Test.YtcckeabholabcaaK6
namespace Go.Proofs.Ytcckeabholabcaa
namespace candLast
open Go A
theorem FF : Try.f4.params.toList = [26] := by kernel_rfl
set_option maxRecDepth 100000 in
theorem law {H : Type} (ds : List (DataW H)) (hl : ds.length = Try.f4.params.toList.length) (hs : ((Try.f4.params.toList.zip ds).all fun x => dH Try.prog 8 x.1 x.2) = true) : eM Try.prog 4 ((Try.f4.params.toList.zip ds).map fun x => nL Try.prog 8 x.1 x.2) (fun r => r = .v (.bool true)) := by
  rw [FF] at hl hs ⊢
  match ds, hl with
  | [d0], _ =>
    simp only [List.zip_cons_cons, List.all_cons, Bool.and_eq_true] at hs
    obtain ⟨x0, l0, w0⟩ := kD.argS Try.underlying26 GV (H := H) (n := 8) hs.1
    exact (qH 1000000 x0 true (CY x0 w0)).le (cR.cons l0 cR.nil)
end candLast
end Go.Proofs.Ytcckeabholabcaa
