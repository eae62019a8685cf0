/- The examples of the chapter have the results that it states: proved by running a sound evaluator of the model in the kernel, call by call. -/
import Derived.Test.YtaekcekecdocnaaRows
import Derived.Test.YtaekcekecdocnaaK6
import Derived.KernelRfl
namespace Go.Proofs.Ytaekcekecdocnaa
namespace playNames
open Go A
noncomputable def stN : List Nat := [2, 3, 4, 5, 7, 9, 10, 11, 12, 13, 14, 15, 16, 18, 19, 20, 21, 22, 24, 26, 27, 28, 29, 30, 33, 35, 38, 39, 40, 41, 42, 45, 46, 47, 48, 49, 50, 52, 53, 54, 55, 56, 57, 58, 60, 61, 62, 63, 64, 65, 66, 67, 68, 69, 70, 71, 72, 73, 74, 75, 76, 77, 78, 80, 81, 82, 83, 84, 85, 86, 87, 88, 89, 90, 91, 92, 94, 96, 97, 98, 99, 100, 101, 102, 103, 105, 106, 107, 108, 110, 111, 112, 113, 114, 115, 116, 117, 118, 119, 120, 121]
noncomputable def polN (f : Nat) : Pol := { esc := match f with | 7 => [29] | 10 => [45] | 11 => [18] | 19 => [6] | 22 => [6, 13] | 25 => [3, 4] | 28 => [3] | 32 => [1, 3] | 41 => [3, 4, 5] | 45 => [6] | 49 => [4] | 52 => [1, 3] | 60 => [8] | 61 => [3, 11] | 71 => [2, 5] | 100 => [7] | 101 => [9] | _ => [], ms := match f with | 4 => [41] | 5 => [26, 33, 40, 46, 56] | 7 => [51] | 21 => [26] | 22 => [44, 60] | 33 => [5] | 38 => [5] | 45 => [24] | 54 => [45, 62] | 60 => [33] | 61 => [22, 82] | 71 => [10] | 82 => [40, 63] | 86 => [28] | 88 => [16] | 91 => [5] | _ => [], bx := match f with | 3 => [5, 8, 12, 15, 22] | 4 => [10, 13] | 5 => [1, 3] | 7 => [8] | 8 => [2] | 9 => [4, 9] | 10 => [4] | 22 => [2, 4, 9, 10, 16, 17] | 23 => [0] | 24 => [1, 3] | 25 => [2] | 26 => [1] | 28 => [1] | 29 => [2, 3] | 31 => [1] | 36 => [1] | 37 => [0] | 45 => [8] | 47 => [3] | 48 => [2, 4] | 54 => [1] | 55 => [1] | 59 => [3] | 60 => [3, 10] | 61 => [1, 12] | 62 => [3] | 72 => [8] | 79 => [2] | 81 => [5] | 82 => [2, 5] | 86 => [1] | _ => [], st := stN, fz := match f with | 6 => [15] | _ => [], dc := match f with | 10 => [1075] | _ => [], ow := match f with | 6 => [] | 7 => [] | 10 => [] | 11 => [] | _ => [], cl := match f with | 6 => [9999] | 7 => [9999] | 10 => [9999] | 11 => [9999] | _ => [] }
noncomputable def cfg0 : A.Cfg := { P := Try.prog, pure := fun f => !(A.hasN stN f), pol := polN }
theorem mixed : cfg0.P.follows .mixedOrders = true := by kernel_rfl
theorem names : (cfg0.P.funcs.all fun fn => !(fn.name == "runtime.NumGoroutine")) = true := by kernel_rfl
noncomputable def cfgT (tab : List (Nat × List AV × AV)) : A.Cfg := { P := Try.prog, pure := fun f => !(A.hasN stN f), pol := polN, xq := tabQ tab }
def TabOK (tab : List (Nat × List AV × AV)) : Prop := ∀ e ∈ tab, PCall Try.prog e.1 e.2.1 fun x => x = e.2.2
theorem fact {tab : List (Nat × List AV × AV)} (ht : TabOK tab) {f : Nat} {args : List AV} {r : AV} {n : Nat} (h : A.Gives (cfgT tab) n f args r) : PCall Try.prog f args fun x => x = r :=
  PCall.ofN (cfg := cfgT tab) ⟨fun _ _ _ _ h => h.elim, fun _ _ _ => Det2.failN (n := 0), fun f args r e => tabQ_ok ht f args r e⟩ (noNum_of names) mixed h
theorem TabOK.nil : TabOK [] := fun e h => by cases h
theorem TabOK.cons {tab : List (Nat × List AV × AV)} {f : Nat} {args : List AV} {r : AV} (h : PCall Try.prog f args fun x => x = r) (ht : TabOK tab) : TabOK ((f, args, r) :: tab) := fun e he => by
  rcases List.mem_cons.1 he with rfl | he
  · exact h
  · exact ht e he
set_option maxRecDepth 1000000 in
set_option maxHeartbeats 0 in
theorem run0 : A.Gives (cfgT []) 4000 6 [] (.v (.bool true)) = ((.v (.bool true) : AV) = .v (.bool true)) := by kernel_rfl
theorem fact0 : PCall Try.prog 6 [] fun x => x = .v (.bool true) := fact TabOK.nil (n := 4000) (by rw [run0])
def tab0 : List (Nat × List AV × AV) := (6, [], .v (.bool true)) :: []
theorem tabOK0 : TabOK tab0 := .cons fact0 TabOK.nil
set_option maxRecDepth 1000000 in
set_option maxHeartbeats 0 in
theorem run : A.Gives (cfgT tab0) 4000 3 [] (.v (.bool true)) = (A.AV.v (.bool true) = A.AV.v (.bool true)) := by kernel_rfl
set_option maxRecDepth 1000000 in
theorem ran : PCall Try.prog 3 [] fun x => x = .v (.bool true) := fact tabOK0 (n := 4000) (by rw [run])
theorem params3 : Try.f3.params.toList = [] := by kernel_rfl
set_option maxRecDepth 1000000 in
theorem law {H : Type} (ds : List (DataW H)) (hl : ds.length = Try.f3.params.toList.length) (hs : ((Try.f3.params.toList.zip ds).all fun x => shapeD Try.prog 8 x.1 x.2) = true) : PCall Try.prog 3 ((Try.f3.params.toList.zip ds).map fun x => argAV Try.prog 8 x.1 x.2) (fun r => r = .v (.bool true)) := by
  rw [params3] at hl hs ⊢
  match ds, hl with
  | [], _ => exact ran
end playNames
end Go.Proofs.Ytaekcekecdocnaa
