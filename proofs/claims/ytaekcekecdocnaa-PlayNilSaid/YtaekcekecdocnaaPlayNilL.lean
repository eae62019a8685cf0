/- An invalid play returns ErrNil, or nothing; picks by turns are what the document says.: the law, on data. -/
import Derived.Test.YtaekcekecdocnaaP1
import Derived.Test.YtaekcekecdocnaaD0
import Derived.Test.YtaekcekecdocnaaN1
import Derived.Test.YtaekcekecdocnaaK6
namespace Go.Proofs.Ytaekcekecdocnaa
namespace playNil
open Go A
theorem xE : Try.f4.params.toList = [3, 3, 2, 3] := by kernel_rfl
set_option maxRecDepth 100000 in
theorem law {H : Type} (ds : List (DataW H)) (hl : ds.length = Try.f4.params.toList.length) (hs : ((Try.f4.params.toList.zip ds).all fun x => bO Try.prog 8 x.1 x.2) = true) : bW Try.prog 4 ((Try.f4.params.toList.zip ds).map fun x => lO Try.prog 8 x.1 x.2) (fun r => r = .v (.bool true)) := by
  rw [xE] at hl hs ⊢
  match ds, hl with
  | [d0, d1, d2, d3], _ =>
    simp only [List.zip_cons_cons, List.all_cons, Bool.and_eq_true] at hs
    obtain ⟨x0, l0, w0⟩ := p8.arg1 (g := xv .i64) (by kernel_rfl) (wP (H := H)) (fun _ => rfl) (n := 8) hs.1
    obtain ⟨x1, l1, w1⟩ := p8.arg1 (g := xv .i64) (by kernel_rfl) (wP (H := H)) (fun _ => rfl) (n := 8) hs.2.1
    obtain ⟨x2, l2, w2⟩ := p8.arg1 (g := xv .i64) (by kernel_rfl) (zg (H := H)) (fun _ => rfl) (n := 8) hs.2.2.1
    obtain ⟨x3, l3, w3⟩ := p8.arg1 (g := xv .i64) (by kernel_rfl) (wP (H := H)) (fun _ => rfl) (n := 8) hs.2.2.2.1
    exact (mg 70000 x0 x1 x2 x3 true (wQ x0 x1 x2 x3)).le (gK.cons l0 (gK.cons l1 (gK.cons l2 (gK.cons l3 gK.nil))))
end playNil
end Go.Proofs.Ytaekcekecdocnaa
