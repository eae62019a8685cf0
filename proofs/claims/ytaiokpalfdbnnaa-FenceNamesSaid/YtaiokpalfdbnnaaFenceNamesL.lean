/- The examples of the chapter have the results that it states.: proved by running a sound evaluator of the model in the kernel. -/
import Derived.Test.YtaiokpalfdbnnaaRows
import Derived.Test.YtaiokpalfdbnnaaK6
import Derived.KernelRfl
namespace Go.Proofs.Ytaiokpalfdbnnaa
namespace fenceNames
open Go A
noncomputable def stN : List Nat := [2, 3, 4, 5, 6, 7, 8, 9, 11, 12, 13, 14, 15, 16, 19, 20, 28, 29, 30, 31, 37, 38, 39, 41, 42, 43, 44, 45, 47, 48, 49, 50, 51, 52, 53, 54, 55, 56, 57, 58, 59, 61, 62, 63, 64, 66, 67, 68, 69, 71, 72, 73, 74, 75, 76, 77, 78, 79, 80, 81, 82, 84, 85, 86, 87, 88, 89, 90, 91, 92, 93, 94, 95, 96, 97, 99, 100, 101, 102, 103, 104, 105, 106, 107, 108, 109]
noncomputable def cfg : A.Cfg := { P := Try.prog, pure := fun f => !(A.hasN stN f), pol := fun f => { esc := match f with | 11 => [1] | 13 => [4] | 14 => [25] | 38 => [1, 3] | 39 => [3, 8] | 48 => [17] | 49 => [10] | 61 => [8] | 62 => [3, 11] | 94 => [7] | 95 => [9] | _ => [], ms := match f with | 3 => [123, 127, 143] | 12 => [30, 44, 52] | 14 => [21] | 19 => [15, 81] | 37 => [37] | 42 => [15, 55] | 45 => [5] | 48 => [34] | 52 => [3] | 53 => [58, 87] | 61 => [33] | 62 => [22, 82] | 66 => [40, 63] | 77 => [5] | 82 => [28] | _ => [], bx := match f with | 3 => [11, 13, 15, 26, 30] | 4 => [1, 3, 5, 7, 9] | 5 => [1, 6, 8] | 6 => [1, 2, 4, 6] | 7 => [1, 3, 5, 7, 9, 11, 13] | 8 => [1, 2, 4, 5] | 9 => [2] | 10 => [1] | 11 => [2] | 12 => [1, 2, 4] | 13 => [1, 2, 5] | 16 => [4, 9] | 17 => [2, 3] | 18 => [1, 4] | 19 => [1, 5] | 20 => [1] | 21 => [1] | 22 => [1] | 23 => [1, 4] | 24 => [1] | 27 => [1] | 28 => [1, 2] | 29 => [1, 2, 4, 8] | 30 => [1, 2, 4, 7] | 31 => [1, 2] | 32 => [1] | 33 => [1] | 34 => [1] | 35 => [1] | 36 => [3, 7] | 37 => [1] | 39 => [2, 4] | 41 => [1] | 42 => [1] | 43 => [1] | 44 => [6] | 47 => [1] | 48 => [5] | 49 => [4, 9] | 51 => [2, 5] | 53 => [3, 6, 10, 12] | 54 => [1] | 55 => [1] | 57 => [1] | 58 => [1] | 60 => [3] | 61 => [3, 10] | 62 => [1, 12] | 63 => [7] | 64 => [3] | 65 => [3] | 66 => [2, 5] | 68 => [3] | 72 => [7] | 78 => [1] | 82 => [1] | _ => [], st := stN } }
set_option maxRecDepth 1000000 in
set_option maxHeartbeats 0 in
theorem run : A.Gives cfg 4000 6 [] (.v (.bool true)) = (A.AV.v (.bool true) = A.AV.v (.bool true)) := by kernel_rfl
theorem mixed : cfg.P.follows .mixedOrders = true := by kernel_rfl
theorem names : (cfg.P.funcs.all fun fn => !(fn.name == "runtime.NumGoroutine")) = true := by kernel_rfl
theorem cfgP : cfg.P = Try.prog := rfl
set_option maxRecDepth 1000000 in
theorem ran : A.Gives cfg 4000 6 [] (.v (.bool true)) := by rw [run]
theorem params6 : Try.f6.params.toList = [] := by kernel_rfl
set_option maxRecDepth 1000000 in
theorem law {H : Type} (ds : List (DataW H)) (hl : ds.length = Try.f6.params.toList.length) (hs : ((Try.f6.params.toList.zip ds).all fun x => shapeD Try.prog 8 x.1 x.2) = true) : PCall Try.prog 6 ((Try.f6.params.toList.zip ds).map fun x => argAV Try.prog 8 x.1 x.2) (fun r => r = .v (.bool true)) := by
  rw [params6] at hl hs ⊢
  match ds, hl with
  | [], _ =>
    have h := PCall.ofN (noNum_of names) mixed ran
    rw [cfgP] at h
    exact h
end fenceNames
end Go.Proofs.Ytaiokpalfdbnnaa
