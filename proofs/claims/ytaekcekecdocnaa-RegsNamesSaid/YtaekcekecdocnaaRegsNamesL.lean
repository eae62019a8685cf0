/- The example of the chapter has the results that it states: proved by running a sound evaluator of the model in the kernel, call by call. -/
import Derived.Test.YtaekcekecdocnaaRows
import Derived.Test.YtaekcekecdocnaaK6
import Derived.KernelRfl
namespace Go.Proofs.Ytaekcekecdocnaa
namespace regsNames
open Go A
noncomputable def stN : List Nat := [2, 3, 4, 5, 6, 7, 9, 10, 11, 12, 13, 14, 15, 16, 18, 19, 20, 21, 27, 30, 33, 35, 38, 39, 40, 41, 42, 45, 46, 47, 48, 49, 50, 52, 53, 55, 56, 57, 58, 60, 61, 62, 63, 64, 65, 66, 67, 68, 69, 70, 71, 73, 74, 75, 76, 77, 78, 80, 81, 82, 83, 84, 85, 86, 87, 88, 89, 90, 91, 92, 94, 96, 97, 98, 99, 100, 101, 102, 103, 105, 106, 107, 108, 110, 111, 112, 113, 114, 115, 116, 117, 118, 119, 120, 121]
noncomputable def polN (f : Nat) : Pol := { esc := match f with | 7 => [29] | 10 => [45] | 11 => [18] | 19 => [6] | 22 => [6, 13] | 25 => [3, 4] | 28 => [3] | 32 => [1, 3] | 41 => [3, 4, 5] | 45 => [6] | 49 => [4] | 52 => [1, 3] | 60 => [8] | 61 => [3, 11] | 71 => [2, 5] | 100 => [7] | 101 => [9] | _ => [], ms := match f with | 3 => [29, 30, 75, 77, 155] | 4 => [41] | 5 => [26, 33, 40, 46, 56] | 6 => [27] | 21 => [26] | 33 => [5] | 38 => [5] | 45 => [24] | 60 => [33] | 61 => [22, 82] | 71 => [10] | 82 => [40, 63] | 86 => [28] | 88 => [16] | 91 => [5] | _ => [], bx := match f with | 3 => [5, 8, 12, 15, 22] | 4 => [10, 13] | 5 => [1, 3] | 7 => [8] | 8 => [2] | 9 => [4, 9] | 10 => [4] | 22 => [2, 4, 9, 10, 16, 17] | 23 => [0] | 24 => [1, 3] | 25 => [2] | 26 => [1] | 28 => [1] | 29 => [2, 3] | 31 => [1] | 36 => [1] | 37 => [0] | 45 => [8] | 47 => [3] | 48 => [2, 4] | 54 => [1] | 55 => [1] | 59 => [3] | 60 => [3, 10] | 61 => [1, 12] | 62 => [3] | 72 => [8] | 79 => [2] | 81 => [5] | 82 => [2, 5] | 86 => [1] | _ => [], st := stN, ow := match f with | 54 => [26, 30, 42, 59, 64, 95, 129, 136, 141, 147, 155] | _ => [], cl := match f with | 54 => [8, 13, 23, 33, 34, 39, 41] | _ => [], fr := match f with | 54 => [41] | _ => [], ix := match f with | 54 => [(26, 2), (30, 3)] | _ => [] }
noncomputable def cfg0 : A.Cfg := { P := Try.prog, pure := fun f => !(A.hasN stN f), pol := polN }
theorem mixed : cfg0.P.follows .mixedOrders = true := by kernel_rfl
theorem names : (cfg0.P.funcs.all fun fn => !(fn.name == "runtime.NumGoroutine")) = true := by kernel_rfl
noncomputable def cfgT (tab : List (Nat × List AV × AV)) : A.Cfg := { P := Try.prog, pure := fun f => !(A.hasN stN f), pol := polN, xq := tabQ tab }
def TabOK (tab : List (Nat × List AV × AV)) : Prop := ∀ e ∈ tab, PCall Try.prog e.1 e.2.1 fun x => x = e.2.2
theorem fact {tab : List (Nat × List AV × AV)} (ht : TabOK tab) {f : Nat} {args : List AV} {r : AV} {n : Nat} (h : A.Gives (cfgT tab) n f args r) : PCall Try.prog f args fun x => x = r :=
  PCall.ofN (cfg := cfgT tab) ⟨fun _ _ _ _ h => h.elim, fun _ _ _ => Det2.failN (n := 0), fun f args r e => tabQ_ok ht f args r e⟩ (noNum_of names) mixed h
theorem TabOK.nil : TabOK [] := fun e h => by cases h
theorem TabOK.cons {tab : List (Nat × List AV × AV)} {f : Nat} {args : List AV} {r : AV} (h : PCall Try.prog f args fun x => x = r) (ht : TabOK tab) : TabOK ((f, args, r) :: tab) := fun e he => by
  rcases List.mem_cons.1 he with rfl | he
  · exact h
  · exact ht e he
def a0 : AV := .agg [.v (.int .i64 2), .sl [[.v (.int .i64 1), .v (.int .i64 0), .v (.int .i64 0), .v (.int .i64 0), .v (.int .i64 0), .v (.int .i64 1), .v (.int .i64 0), .v (.int .i64 0), .v (.bool false)], [.v (.int .i64 1), .v (.int .i64 1), .v (.int .i64 0), .v (.int .i64 0), .v (.int .i64 0), .v (.int .i64 2), .v (.int .i64 0), .v (.int .i64 0), .v (.bool false)], [.v (.int .i64 3), .v (.int .i64 1), .v (.int .i64 1), .v (.int .i64 1), .v (.int .i64 0), .v (.int .i64 0), .v (.int .i64 4), .v (.int .i64 0), .v (.bool false)], [.v (.int .i64 10), .v (.int .i64 0), .v (.int .i64 0), .v (.int .i64 0), .v (.int .i64 0), .v (.int .i64 0), .v (.int .i64 0), .v (.int .i64 0), .v (.bool false)]]]
def a1 : AV := .sl [[.nilsl], [.sl [[.v (.int .i64 0)]]], [.sl [[.v (.int .i64 0)], [.v (.int .i64 1)]]], [.sl [[.v (.int .i64 0)]]]]
def a2 : AV := .sl [[.v (.int .i64 0), .v (.int .i64 3)], [.v (.int .i64 1), .v (.int .i64 2)]]
def a3 : AV := .tup [.agg [.sl [[.v (.int .i64 (-1))], [.v (.int .i64 0)]], .v (.int .i64 1)], .v (.int .i64 0)]
def a4 : AV := .tup [.agg [.sl [[.v (.int .i64 0)], [.v (.int .i64 1)]], .v (.int .i64 0)], .v (.int .i64 0)]
def a5 : AV := .agg [.sl [[.v (.int .i64 (-1))], [.v (.int .i64 0)]], .v (.int .i64 1)]
def a6 : AV := .agg [.sl [[.v (.int .i64 0)], [.v (.int .i64 0)]], .v (.int .i64 0)]
set_option maxRecDepth 1000000 in
set_option maxHeartbeats 0 in
theorem run0 : A.Gives (cfgT []) 4000 32 [a0] (.v (.int .i64 0)) = ((.v (.int .i64 0) : AV) = .v (.int .i64 0)) := by kernel_rfl
theorem fact0 : PCall Try.prog 32 [a0] fun x => x = .v (.int .i64 0) := fact TabOK.nil (n := 4000) (by rw [run0])
def tab0 : List (Nat × List AV × AV) := (32, [a0], .v (.int .i64 0)) :: []
theorem tabOK0 : TabOK tab0 := .cons fact0 TabOK.nil
set_option maxRecDepth 1000000 in
set_option maxHeartbeats 0 in
theorem run1 : A.Gives (cfgT tab0) 4000 54 [a0] (a1) = ((a1 : AV) = a1) := by kernel_rfl
theorem fact1 : PCall Try.prog 54 [a0] fun x => x = a1 := fact tabOK0 (n := 4000) (by rw [run1])
def tab1 : List (Nat × List AV × AV) := (54, [a0], a1) :: tab0
theorem tabOK1 : TabOK tab1 := .cons fact1 tabOK0
set_option maxRecDepth 1000000 in
set_option maxHeartbeats 0 in
theorem run2 : A.Gives (cfgT tab1) 4000 28 [a0] (a2) = ((a2 : AV) = a2) := by kernel_rfl
theorem fact2 : PCall Try.prog 28 [a0] fun x => x = a2 := fact tabOK1 (n := 4000) (by rw [run2])
def tab2 : List (Nat × List AV × AV) := (28, [a0], a2) :: tab1
theorem tabOK2 : TabOK tab2 := .cons fact2 tabOK1
set_option maxRecDepth 1000000 in
set_option maxHeartbeats 0 in
theorem run3 : A.Gives (cfgT tab2) 4000 22 [a0, .v (.int .i64 1)] (a3) = ((a3 : AV) = a3) := by kernel_rfl
theorem fact3 : PCall Try.prog 22 [a0, .v (.int .i64 1)] fun x => x = a3 := fact tabOK2 (n := 4000) (by rw [run3])
def tab3 : List (Nat × List AV × AV) := (22, [a0, .v (.int .i64 1)], a3) :: tab2
theorem tabOK3 : TabOK tab3 := .cons fact3 tabOK2
set_option maxRecDepth 1000000 in
set_option maxHeartbeats 0 in
theorem run4 : A.Gives (cfgT tab3) 4000 22 [a0, .v (.int .i64 2)] (a4) = ((a4 : AV) = a4) := by kernel_rfl
theorem fact4 : PCall Try.prog 22 [a0, .v (.int .i64 2)] fun x => x = a4 := fact tabOK3 (n := 4000) (by rw [run4])
def tab4 : List (Nat × List AV × AV) := (22, [a0, .v (.int .i64 2)], a4) :: tab3
theorem tabOK4 : TabOK tab4 := .cons fact4 tabOK3
set_option maxRecDepth 1000000 in
set_option maxHeartbeats 0 in
theorem run5 : A.Gives (cfgT tab4) 4000 25 [a0, a5] (.v (.int .i64 0)) = ((.v (.int .i64 0) : AV) = .v (.int .i64 0)) := by kernel_rfl
theorem fact5 : PCall Try.prog 25 [a0, a5] fun x => x = .v (.int .i64 0) := fact tabOK4 (n := 4000) (by rw [run5])
def tab5 : List (Nat × List AV × AV) := (25, [a0, a5], .v (.int .i64 0)) :: tab4
theorem tabOK5 : TabOK tab5 := .cons fact5 tabOK4
set_option maxRecDepth 1000000 in
set_option maxHeartbeats 0 in
theorem run6 : A.Gives (cfgT tab5) 4000 24 [] (.v (.bool true)) = ((.v (.bool true) : AV) = .v (.bool true)) := by kernel_rfl
theorem fact6 : PCall Try.prog 24 [] fun x => x = .v (.bool true) := fact tabOK5 (n := 4000) (by rw [run6])
def tab6 : List (Nat × List AV × AV) := (24, [], .v (.bool true)) :: tab5
theorem tabOK6 : TabOK tab6 := .cons fact6 tabOK5
set_option maxRecDepth 1000000 in
set_option maxHeartbeats 0 in
theorem run7 : A.Gives (cfgT tab6) 4000 25 [a0, a6] (.v (.int .i64 4)) = ((.v (.int .i64 4) : AV) = .v (.int .i64 4)) := by kernel_rfl
theorem fact7 : PCall Try.prog 25 [a0, a6] fun x => x = .v (.int .i64 4) := fact tabOK6 (n := 4000) (by rw [run7])
def tab7 : List (Nat × List AV × AV) := (25, [a0, a6], .v (.int .i64 4)) :: tab6
theorem tabOK7 : TabOK tab7 := .cons fact7 tabOK6
set_option maxRecDepth 1000000 in
set_option maxHeartbeats 0 in
theorem run8 : A.Gives (cfgT tab7) 4000 5 [] (.v (.bool true)) = ((.v (.bool true) : AV) = .v (.bool true)) := by kernel_rfl
theorem fact8 : PCall Try.prog 5 [] fun x => x = .v (.bool true) := fact tabOK7 (n := 4000) (by rw [run8])
def tab8 : List (Nat × List AV × AV) := (5, [], .v (.bool true)) :: tab7
theorem tabOK8 : TabOK tab8 := .cons fact8 tabOK7
set_option maxRecDepth 1000000 in
set_option maxHeartbeats 0 in
theorem run : A.Gives (cfgT tab8) 4000 5 [] (.v (.bool true)) = (A.AV.v (.bool true) = A.AV.v (.bool true)) := by kernel_rfl
set_option maxRecDepth 1000000 in
theorem ran : PCall Try.prog 5 [] fun x => x = .v (.bool true) := fact tabOK8 (n := 4000) (by rw [run])
theorem params5 : Try.f5.params.toList = [] := by kernel_rfl
set_option maxRecDepth 1000000 in
theorem law {H : Type} (ds : List (DataW H)) (hl : ds.length = Try.f5.params.toList.length) (hs : ((Try.f5.params.toList.zip ds).all fun x => shapeD Try.prog 8 x.1 x.2) = true) : PCall Try.prog 5 ((Try.f5.params.toList.zip ds).map fun x => argAV Try.prog 8 x.1 x.2) (fun r => r = .v (.bool true)) := by
  rw [params5] at hl hs ⊢
  match ds, hl with
  | [], _ => exact ran
end regsNames
end Go.Proofs.Ytaekcekecdocnaa
