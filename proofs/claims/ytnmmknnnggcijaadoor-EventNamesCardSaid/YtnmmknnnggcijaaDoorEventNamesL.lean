/- The chapter's examples have the results that it gives.: proved by running a sound evaluator of the model in the kernel. -/
import Derived.Test.YtnmmknnnggcijaaDoorRows
import Derived.Test.YtnmmknnnggcijaaDoorK6
import Derived.KernelRfl
namespace Go.Proofs.YtnmmknnnggcijaaDoor
namespace eventNames
open Go A
noncomputable def stN : List Nat := [2, 3, 4, 5, 6, 7, 8, 10, 11, 12, 13, 16, 17, 18, 19, 20, 21, 22, 23, 24, 25, 26, 27, 30, 31, 32, 33, 34, 35, 36, 38, 39, 40, 41, 43, 44, 45, 46, 47, 48, 49, 50, 60, 61, 62, 63, 64, 65, 66, 67, 68, 69, 70, 71, 72, 73, 74, 96]
noncomputable def cfg : A.Cfg := { P := Tryd.prog, pure := fun f => !(A.hasN stN f), pol := fun f => { esc := match f with | 45 => [5] | 46 => [7] | 65 => [12] | _ => [], ms := match f with | 5 => [9, 65, 71, 77] | 10 => [17] | 17 => [12, 18, 31, 39] | 44 => [13] | _ => [], bx := match f with | 4 => [7, 9, 13] | 5 => [1, 3, 5, 6] | 8 => [7] | 11 => [2] | 14 => [8, 11, 12, 14] | 15 => [1, 2] | 16 => [1, 4, 5] | 17 => [1] | 18 => [1] | 19 => [2, 3] | 20 => [1] | 21 => [1] | 23 => [2, 3, 5, 6] | 24 => [1, 2] | 28 => [1, 2] | 37 => [1, 2] | _ => [], st := stN } }
set_option maxRecDepth 1000000 in
set_option maxHeartbeats 0 in
theorem run : A.Gives cfg 2000 5 [] (.v (.bool true)) = (A.AV.v (.bool true) = A.AV.v (.bool true)) := by kernel_rfl
theorem mixed : cfg.P.follows .mixedOrders = true := by kernel_rfl
theorem names : (cfg.P.funcs.all fun fn => !(fn.name == "runtime.NumGoroutine")) = true := by kernel_rfl
theorem cfgP : cfg.P = Tryd.prog := rfl
set_option maxRecDepth 1000000 in
theorem ran : A.Gives cfg 2000 5 [] (.v (.bool true)) := by rw [run]
theorem params5 : Tryd.f5.params.toList = [] := by kernel_rfl
set_option maxRecDepth 1000000 in
theorem law {H : Type} (ds : List (DataW H)) (hl : ds.length = Tryd.f5.params.toList.length) (hs : ((Tryd.f5.params.toList.zip ds).all fun x => shapeD Tryd.prog 8 x.1 x.2) = true) : PCall Tryd.prog 5 ((Tryd.f5.params.toList.zip ds).map fun x => argAV Tryd.prog 8 x.1 x.2) (fun r => r = .v (.bool true)) := by
  rw [params5] at hl hs ⊢
  match ds, hl with
  | [], _ =>
    have h := PCall.ofN (noNum_of names) mixed ran
    rw [cfgP] at h
    exact h
end eventNames
end Go.Proofs.YtnmmknnnggcijaaDoor
