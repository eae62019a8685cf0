/- If harts are exchanged only numbers change.: the law, on data. -/
import Derived.Test.YtcckeabholabcaaP2
import Derived.Test.YtcckeabholabcaaD0
import Derived.Test.YtcckeabholabcaaH0
import Derived.Test.YtcckeabholabcaaK6
namespace Go.Proofs.Ytcckeabholabcaa
namespace candHarts
open Go A
theorem FH : Try.f3.params.toList = [26, 3] := by kernel_rfl
set_option maxRecDepth 100000 in
theorem law {H : Type} (ds : List (DataW H)) (hl : ds.length = Try.f3.params.toList.length) (hs : ((Try.f3.params.toList.zip ds).all fun x => dI Try.prog 8 x.1 x.2) = true) : eO Try.prog 3 ((Try.f3.params.toList.zip ds).map fun x => nW Try.prog 8 x.1 x.2) (fun r => r = .v (.bool true)) := by
  rw [FH] at hl hs ⊢
  match ds, hl with
  | [d0, d1], _ =>
    simp only [List.zip_cons_cons, List.all_cons, Bool.and_eq_true] at hs
    obtain ⟨x0, l0, w0⟩ := ku.argS Try.underlying26 GW (H := H) (n := 8) hs.1
    obtain ⟨x1, l1, w1⟩ := ku.arg1 (g := b8 .i64) (by kernel_rfl) (rG (H := H)) (fun _ => rfl) (n := 8) hs.2.1
    exact (p9 1000000 x0 x1 true (Bf x0 x1 w0 w1)).le (cM.cons l0 (cM.cons l1 cM.nil))
end candHarts
end Go.Proofs.Ytcckeabholabcaa
