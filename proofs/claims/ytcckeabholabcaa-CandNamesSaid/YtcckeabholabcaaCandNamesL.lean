/- The chapter's examples have the results that it gives.: proved by running a sound evaluator of the model in the kernel, call by call. -/
import Derived.Test.YtcckeabholabcaaRows
import Derived.Test.YtcckeabholabcaaIV
import Derived.KernelRfl
namespace Go.Proofs.Ytcckeabholabcaa
namespace candNames
open Go A
noncomputable def stN : List Nat := [2, 3, 4, 5, 6, 7, 9, 11, 22, 24, 28, 29, 30, 31, 32, 33, 34, 35, 36, 37, 38, 41, 42, 43, 45, 46, 47, 48, 49, 50, 51, 52, 53, 54, 55, 56, 57, 58, 61, 63, 64, 65, 67, 68, 69, 70, 71, 72, 73, 74, 75, 76, 77, 78, 79, 80, 81, 83, 84, 85, 86, 87, 88, 89, 90, 91, 92]
noncomputable def polN (f : Nat) : Pol := { esc := match f with | 10 => [1] | 15 => [1] | 16 => [1] | 22 => [3] | 37 => [1] | 42 => [1, 3, 4] | 78 => [7] | 79 => [9] | _ => [], ms := match f with | 3 => [99] | _ => [], bx := match f with | 3 => [2, 6] | 4 => [1, 7] | 5 => [3, 8, 10, 11] | 6 => [1] | 7 => [1, 8] | 9 => [2] | 15 => [6, 9] | 16 => [5] | 17 => [2] | 18 => [1] | 19 => [1, 2, 3] | 20 => [1] | 21 => [1] | 23 => [2, 3] | 24 => [1] | 25 => [2, 3, 4] | 27 => [2, 3] | 29 => [4] | 30 => [7] | 32 => [7, 9] | 33 => [8] | 34 => [1, 2] | 35 => [1] | 38 => [1, 2] | 43 => [2, 3] | 45 => [8, 9] | 46 => [2, 3, 5, 6] | 50 => [2] | 51 => [1, 4, 5] | 53 => [1] | 54 => [1] | 55 => [1, 2] | 62 => [2] | 66 => [1, 2] | 69 => [2] | _ => [], st := stN }
noncomputable def cfg0 : A.Cfg := { P := Try.prog, pure := fun f => !(A.hasN stN f), pol := polN }
theorem mixed : cfg0.P.follows .mixedOrders = true := by kernel_rfl
theorem names : (cfg0.P.funcs.all fun fn => !(fn.name == "runtime.NumGoroutine")) = true := by kernel_rfl
set_option maxRecDepth 1000000 in
set_option maxHeartbeats 0 in
theorem srt0r : astore (ctxN cfg0 200) 58 [.mf 0] [.arr true 1 (rowsU [8])] (fun r o' => r = .tup [] ∧ o' = [.arr true 1 (rowsU [8])]) = (AV.tup [] = AV.tup [] ∧ [Ob.arr true 1 [[.v (.int .u64 8)]]] = [Ob.arr true 1 (rowsU [8])]) := by kernel_rfl
set_option maxRecDepth 1000000 in
theorem srt0 : SortsTo [8] [8] := by
  have h : astore (ctxN cfg0 200) 58 [.mf 0] [.arr true 1 (rowsU [8])] (fun r o' => r = .tup [] ∧ o' = [.arr true 1 (rowsU [8])]) := by rw [srt0r]; exact ⟨rfl, rfl⟩
  obtain ⟨h1, h2, h3⟩ := ctxN_sound (cfg := cfg0) (.none rfl rfl) (noNum_of names) mixed 200
  have h4 := astore_sound h1 h2 h3 (by rw [ctxN_P]; exact noNum_of names) h
  rw [ctxN_P] at h4
  exact h4
set_option maxRecDepth 1000000 in
set_option maxHeartbeats 0 in
theorem srt1r : astore (ctxN cfg0 200) 58 [.mf 0] [.arr true 1 (rowsU [16, 8])] (fun r o' => r = .tup [] ∧ o' = [.arr true 1 (rowsU [8, 16])]) = (AV.tup [] = AV.tup [] ∧ [Ob.arr true 1 [[.v (.int .u64 8)], [.v (.int .u64 16)]]] = [Ob.arr true 1 (rowsU [8, 16])]) := by kernel_rfl
set_option maxRecDepth 1000000 in
theorem srt1 : SortsTo [16, 8] [8, 16] := by
  have h : astore (ctxN cfg0 200) 58 [.mf 0] [.arr true 1 (rowsU [16, 8])] (fun r o' => r = .tup [] ∧ o' = [.arr true 1 (rowsU [8, 16])]) := by rw [srt1r]; exact ⟨rfl, rfl⟩
  obtain ⟨h1, h2, h3⟩ := ctxN_sound (cfg := cfg0) (.none rfl rfl) (noNum_of names) mixed 200
  have h4 := astore_sound h1 h2 h3 (by rw [ctxN_P]; exact noNum_of names) h
  rw [ctxN_P] at h4
  exact h4
set_option maxRecDepth 1000000 in
set_option maxHeartbeats 0 in
theorem srt2r : astore (ctxN cfg0 200) 58 [.mf 0] [.arr true 1 (rowsU [8, 16])] (fun r o' => r = .tup [] ∧ o' = [.arr true 1 (rowsU [8, 16])]) = (AV.tup [] = AV.tup [] ∧ [Ob.arr true 1 [[.v (.int .u64 8)], [.v (.int .u64 16)]]] = [Ob.arr true 1 (rowsU [8, 16])]) := by kernel_rfl
set_option maxRecDepth 1000000 in
theorem srt2 : SortsTo [8, 16] [8, 16] := by
  have h : astore (ctxN cfg0 200) 58 [.mf 0] [.arr true 1 (rowsU [8, 16])] (fun r o' => r = .tup [] ∧ o' = [.arr true 1 (rowsU [8, 16])]) := by rw [srt2r]; exact ⟨rfl, rfl⟩
  obtain ⟨h1, h2, h3⟩ := ctxN_sound (cfg := cfg0) (.none rfl rfl) (noNum_of names) mixed 200
  have h4 := astore_sound h1 h2 h3 (by rw [ctxN_P]; exact noNum_of names) h
  rw [ctxN_P] at h4
  exact h4
def known : List (List Int × List Int) := [([8], [8]), ([16, 8], [8, 16])]
theorem knownOK : KnownOK known := by
  intro p hp
  simp only [known, List.mem_cons, List.not_mem_nil, or_false] at hp
  rcases hp with rfl | rfl
  · exact ⟨by decide, by decide, by decide, by decide, rfl, fun ss h => by rw [List.perm_singleton.1 h]; exact srt0⟩
  · exact ⟨by decide, by decide, by decide, by decide, rfl, fun ss h => by rcases perm_two h with rfl | rfl <;> first | exact srt1 | exact srt2⟩
noncomputable def cfgT (tab : List (Nat × List AV × AV)) : A.Cfg := { P := Try.prog, pure := fun f => !(A.hasN stN f), pol := polN, xs := fun f => Nat.beq f 36, xc := srtC known, xq := tabQ tab }
def TabOK (tab : List (Nat × List AV × AV)) : Prop := ∀ e ∈ tab, PCall Try.prog e.1 e.2.1 fun x => x = e.2.2
theorem fact {tab : List (Nat × List AV × AV)} (ht : TabOK tab) {f : Nat} {args : List AV} {r : AV} {n : Nat} (h : A.Gives (cfgT tab) n f args r) : PCall Try.prog f args fun x => x = r :=
  PCall.ofN (cfg := cfgT tab) (srtX knownOK rfl rfl ht rfl) (noNum_of names) mixed h
theorem TabOK.nil : TabOK [] := fun e h => by cases h
theorem TabOK.cons {tab : List (Nat × List AV × AV)} {f : Nat} {args : List AV} {r : AV} (h : PCall Try.prog f args fun x => x = r) (ht : TabOK tab) : TabOK ((f, args, r) :: tab) := fun e he => by
  rcases List.mem_cons.1 he with rfl | he
  · exact h
  · exact ht e he
def a0 : AV := .agg [.sl [[.v (.int .u64 16), .v (.int .u64 4)]], .sl [[.sl [[.v (.int .i64 0), .v (.int .i64 0), .v (.int .i64 2), .v (.int .u64 8), .v (.int .u64 0), .v (.int .u64 1), .v (.bool false), .v (.bool false), .v (.int .i64 0), .v (.int .i64 0), .v (.int .i64 0), .nilsl, .nilsl, .nilsl]]], [.sl [[.v (.int .i64 1), .v (.int .i64 0), .v (.int .i64 1), .v (.int .u64 8), .v (.int .u64 1), .v (.int .u64 0), .v (.bool false), .v (.bool false), .v (.int .i64 0), .v (.int .i64 0), .v (.int .i64 0), .nilsl, .nilsl, .nilsl]]]], .sl [[.v (.int .i64 (-1))], [.v (.int .i64 0)]], .sl [[.v (.int .i64 0)], [.v (.int .i64 1)]]]
def a1 : AV := .sl [[.v (.int .u64 8), .v (.int .u64 1)], [.v (.int .u64 16), .v (.int .u64 4)]]
def a2 : AV := .agg [.nilsl, .sl [[.sl [[.v (.int .i64 0), .v (.int .i64 0), .v (.int .i64 2), .v (.int .u64 8), .v (.int .u64 0), .v (.int .u64 1), .v (.bool false), .v (.bool false), .v (.int .i64 0), .v (.int .i64 0), .v (.int .i64 0), .nilsl, .nilsl, .nilsl]]], [.sl [[.v (.int .i64 1), .v (.int .i64 0), .v (.int .i64 1), .v (.int .u64 8), .v (.int .u64 1), .v (.int .u64 0), .v (.bool false), .v (.bool false), .v (.int .i64 0), .v (.int .i64 0), .v (.int .i64 0), .nilsl, .nilsl, .nilsl]]]], .sl [[.v (.int .i64 (-1))], [.v (.int .i64 0)]], .sl [[.v (.int .i64 1)], [.v (.int .i64 1)]]]
def a3 : AV := .sl [[.v (.int .i64 0), .v (.int .i64 0), .v (.int .i64 2), .v (.int .u64 8), .v (.int .u64 0), .v (.int .u64 1), .v (.bool false), .v (.bool false), .v (.int .i64 0), .v (.int .i64 0), .v (.int .i64 0), .nilsl, .nilsl, .nilsl], [.v (.int .i64 1), .v (.int .i64 0), .v (.int .i64 1), .v (.int .u64 8), .v (.int .u64 1), .v (.int .u64 0), .v (.bool false), .v (.bool false), .v (.int .i64 0), .v (.int .i64 0), .v (.int .i64 0), .nilsl, .nilsl, .nilsl]]
set_option maxRecDepth 1000000 in
set_option maxHeartbeats 0 in
theorem run0 : A.Gives (cfgT []) 3000 10 [a0] (.v (.int .i64 0)) = ((.v (.int .i64 0) : AV) = .v (.int .i64 0)) := by kernel_rfl
theorem fact0 : PCall Try.prog 10 [a0] fun x => x = .v (.int .i64 0) := fact TabOK.nil (n := 3000) (by rw [run0])
def tab0 : List (Nat × List AV × AV) := (10, [a0], .v (.int .i64 0)) :: []
theorem tabOK0 : TabOK tab0 := .cons fact0 TabOK.nil
set_option maxRecDepth 1000000 in
set_option maxHeartbeats 0 in
theorem run1 : A.Gives (cfgT tab0) 3000 8 [] (.v (.bool true)) = ((.v (.bool true) : AV) = .v (.bool true)) := by kernel_rfl
theorem fact1 : PCall Try.prog 8 [] fun x => x = .v (.bool true) := fact tabOK0 (n := 3000) (by rw [run1])
def tab1 : List (Nat × List AV × AV) := (8, [], .v (.bool true)) :: tab0
theorem tabOK1 : TabOK tab1 := .cons fact1 tabOK0
set_option maxRecDepth 1000000 in
set_option maxHeartbeats 0 in
theorem run2 : A.Gives (cfgT tab1) 3000 17 [a0, .v (.int .u64 16)] (.v (.int .u64 4)) = ((.v (.int .u64 4) : AV) = .v (.int .u64 4)) := by kernel_rfl
theorem fact2 : PCall Try.prog 17 [a0, .v (.int .u64 16)] fun x => x = .v (.int .u64 4) := fact tabOK1 (n := 3000) (by rw [run2])
def tab2 : List (Nat × List AV × AV) := (17, [a0, .v (.int .u64 16)], .v (.int .u64 4)) :: tab1
theorem tabOK2 : TabOK tab2 := .cons fact2 tabOK1
set_option maxRecDepth 1000000 in
set_option maxHeartbeats 0 in
theorem run3 : A.Gives (cfgT tab2) 3000 17 [a0, .v (.int .u64 8)] (.v (.int .u64 0)) = ((.v (.int .u64 0) : AV) = .v (.int .u64 0)) := by kernel_rfl
theorem fact3 : PCall Try.prog 17 [a0, .v (.int .u64 8)] fun x => x = .v (.int .u64 0) := fact tabOK2 (n := 3000) (by rw [run3])
def tab3 : List (Nat × List AV × AV) := (17, [a0, .v (.int .u64 8)], .v (.int .u64 0)) :: tab2
theorem tabOK3 : TabOK tab3 := .cons fact3 tabOK2
set_option maxRecDepth 1000000 in
set_option maxHeartbeats 0 in
theorem run4 : A.Gives (cfgT tab3) 3000 15 [a0] (a1) = ((a1 : AV) = a1) := by kernel_rfl
theorem fact4 : PCall Try.prog 15 [a0] fun x => x = a1 := fact tabOK3 (n := 3000) (by rw [run4])
def tab4 : List (Nat × List AV × AV) := (15, [a0], a1) :: tab3
theorem tabOK4 : TabOK tab4 := .cons fact4 tabOK3
set_option maxRecDepth 1000000 in
set_option maxHeartbeats 0 in
theorem run5 : A.Gives (cfgT tab4) 3000 10 [a2] (.v (.int .i64 2)) = ((.v (.int .i64 2) : AV) = .v (.int .i64 2)) := by kernel_rfl
theorem fact5 : PCall Try.prog 10 [a2] fun x => x = .v (.int .i64 2) := fact tabOK4 (n := 3000) (by rw [run5])
def tab5 : List (Nat × List AV × AV) := (10, [a2], .v (.int .i64 2)) :: tab4
theorem tabOK5 : TabOK tab5 := .cons fact5 tabOK4
set_option maxRecDepth 1000000 in
set_option maxHeartbeats 0 in
theorem run6 : A.Gives (cfgT tab5) 3000 16 [a0] (a3) = ((a3 : AV) = a3) := by kernel_rfl
theorem fact6 : PCall Try.prog 16 [a0] fun x => x = a3 := fact tabOK5 (n := 3000) (by rw [run6])
def tab6 : List (Nat × List AV × AV) := (16, [a0], a3) :: tab5
theorem tabOK6 : TabOK tab6 := .cons fact6 tabOK5
set_option maxRecDepth 1000000 in
set_option maxHeartbeats 0 in
theorem run7 : A.Gives (cfgT tab6) 3000 21 [a0] (.sl [[.v (.int .i64 0)], [.v (.int .i64 1)]]) = ((.sl [[.v (.int .i64 0)], [.v (.int .i64 1)]] : AV) = .sl [[.v (.int .i64 0)], [.v (.int .i64 1)]]) := by kernel_rfl
theorem fact7 : PCall Try.prog 21 [a0] fun x => x = .sl [[.v (.int .i64 0)], [.v (.int .i64 1)]] := fact tabOK6 (n := 3000) (by rw [run7])
def tab7 : List (Nat × List AV × AV) := (21, [a0], .sl [[.v (.int .i64 0)], [.v (.int .i64 1)]]) :: tab6
theorem tabOK7 : TabOK tab7 := .cons fact7 tabOK6
set_option maxRecDepth 1000000 in
set_option maxHeartbeats 0 in
theorem run8 : A.Gives (cfgT tab7) 3000 27 [a0, a0] (.v (.bool true)) = ((.v (.bool true) : AV) = .v (.bool true)) := by kernel_rfl
theorem fact8 : PCall Try.prog 27 [a0, a0] fun x => x = .v (.bool true) := fact tabOK7 (n := 3000) (by rw [run8])
def tab8 : List (Nat × List AV × AV) := (27, [a0, a0], .v (.bool true)) :: tab7
theorem tabOK8 : TabOK tab8 := .cons fact8 tabOK7
set_option maxRecDepth 1000000 in
set_option maxHeartbeats 0 in
theorem run : A.Gives (cfgT tab8) 3000 7 [] (.v (.bool true)) = (A.AV.v (.bool true) = A.AV.v (.bool true)) := by kernel_rfl
set_option maxRecDepth 1000000 in
theorem ran : PCall Try.prog 7 [] fun x => x = .v (.bool true) := fact tabOK8 (n := 3000) (by rw [run])
theorem params7 : Try.f7.params.toList = [] := by kernel_rfl
set_option maxRecDepth 1000000 in
theorem law {H : Type} (ds : List (DataW H)) (hl : ds.length = Try.f7.params.toList.length) (hs : ((Try.f7.params.toList.zip ds).all fun x => shapeD Try.prog 8 x.1 x.2) = true) : PCall Try.prog 7 ((Try.f7.params.toList.zip ds).map fun x => argAV Try.prog 8 x.1 x.2) (fun r => r = .v (.bool true)) := by
  rw [params7] at hl hs ⊢
  match ds, hl with
  | [], _ => exact ran
end candNames
end Go.Proofs.Ytcckeabholabcaa
