/- What the functions compute, they compute: printed by a program, path by path. No conditions. -/
import Derived.Test.YtigcbjbaibcgfaaP3
import Derived.KernelRfl
namespace Go.Proofs.Ytigcbjbaibcgfaa
open Go A
set_option linter.unusedVariables false
set_option maxRecDepth 100000
set_option maxHeartbeats 0
section
variable (pc : Nat → List AV → (AV → Prop) → Prop) (sc : Nat → List AV → List Ob → (AV → List Ob → Prop) → Prop) (lp : Pol → Code → St → (Ex → St → Prop) → Prop) (cd : CutP)

def ord4 : List (Nat × PT) := [(11, (ptS [0, 1, 2, 3, 4, 5, 6, 7, 8, 9, 10, 11])), (12, (ptS [0, 1, 2, 3, 4, 5, 6, 7, 8, 9, 10, 11, 12, 13, 14, 15, 16, 17, 18, 19, 20, 21, 22, 23, 24, 25, 26, 27, 28, 29, 30, 31, 32, 33, 34, 35, 36, 37, 38, 39, 40, 41])), (37, (ptS [0, 1, 2, 3, 4, 5, 6, 7, 8, 9, 10, 11, 12, 13, 14, 15, 16, 17, 18, 19, 20, 21, 22, 23, 24, 25]))]
theorem ordB4 : ordB (polF 4) ord4 (bodyOf Try.prog 4) = true := by kernel_rfl
noncomputable def c_law_PpoWithin_L1 : Code := sub (bodyOf Try.prog 4) [1, 1, 1, 1, 1, 1, 0, 1, 0, 0]
noncomputable def c_law_PpoWithin_L2 : Code := sub (bodyOf Try.prog 4) [1, 1, 1, 1, 1, 1, 1, 0, 1, 0, 0]
noncomputable def c_law_PpoWithin_L5 : Code := sub (bodyOf Try.prog 4) [1, 1, 1, 1, 1, 1, 1, 1, 0, 1, 0, 0]
noncomputable def c_law_PpoWithin_L3 : Code := sub c_law_PpoWithin_L2 [1, 0, 0, 1, 0, 0]
noncomputable def c_law_PpoWithin_L6 : Code := sub c_law_PpoWithin_L5 [1, 0, 0, 1, 0, 0]
noncomputable def c_law_PpoWithin_L4 : Code := sub c_law_PpoWithin_L3 [1, 0, 0, 1, 1, 1, 0, 0]
theorem ordB_law_PpoWithin_L1 : ordB (polF 4) ord4 c_law_PpoWithin_L1 = true := by kernel_rfl
def law_PpoWithin_L1_S (c : Cand) (y7 : (List Event)) (y9 : (List (Arr2 Int))) (sa : (List ((Arr2 Int) × Bool)) × Int) : St := mkS 234 [(1, .ptr (.L 1) 0 0), (3, .sl (y7.map Event.enc)), (4, .sl (y9.map (eArr2 eI))), (5, .mp 0), (6, (vI sa.2))] [(1, (Cand.enc c))] [.mapo true (sa.1.map (eKV (aAgg (eArr2 eI)) aBool))] 0
def law_PpoWithin_L1_T0 (c : Cand) (y7 : (List Event)) (y9 : (List (Arr2 Int))) (tt : (List ((Arr2 Int) × Bool))) : St := mkS 234 [(1, .ptr (.L 1) 0 0), (3, .sl (y7.map Event.enc)), (4, .sl (y9.map (eArr2 eI))), (5, .mp 0)] [(1, (Cand.enc c))] [.mapo true (tt.map (eKV (aAgg (eArr2 eI)) aBool))] 0
def law_PpoWithin_L1_T1 (c : Cand) (y7 : (List Event)) (y9 : (List (Arr2 Int))) (tt : Unit) : St := mkS 234 [(2, vF)] [] [] 0
def law_PpoWithin_L1_out (c : Cand) (y7 : (List Event)) (y9 : (List (Arr2 Int))) (t0 : (((List ((Arr2 Int) × Bool))) ⊕ Unit)) : Ex × St := match t0 with | .inl tt => (.ex 0, law_PpoWithin_L1_T0 c y7 y9 tt) | .inr tt => (.ret, law_PpoWithin_L1_T1 c y7 y9 tt)
theorem law_PpoWithin_L1_sim (n : Nat) (c : Cand) (y7 : (List Event)) (y9 : (List (Arr2 Int))) : ∀ sa r, law_PpoWithin_L1 n c y7 y9 sa = some r → CodeD Try.prog c_law_PpoWithin_L1 (law_PpoWithin_L1_S c y7 y9 sa) (rk (law_PpoWithin_L1_S c y7 y9) (law_PpoWithin_L1_out c y7 y9) r) := by
 intro sa r h
 unfold law_PpoWithin_L1 at h
 rcases iteN h with ⟨ha1, h⟩ | ⟨ha1, h⟩
 ·
  obtain rfl := soI h
  exact kR ⟨ord4, [rV 9 [(33, (vI (y9.length : Int))), (34, vF)]], [], [], []⟩ [(2, ⟨[1, 3, 4, 5], [], 1, [], []⟩, ⟨[], [], []⟩)] ordB_law_PpoWithin_L1 (rkE rfl neE) (fun z => (aL (eArr2 eI) y9 (aB ha1 z))) (by kernel_rfl)
 obtain ⟨xa2, gxa2, h⟩ := bindE h
 rcases iteE h with ⟨ha3, h⟩ | ⟨ha3, h⟩
 ·
  obtain rfl := soI h
  exact kR ⟨ord4, [rV 9 [(33, (vI (y9.length : Int))), (34, vT)], (11, ⟨[], [], [(39, [(vI xa2.e0), (vI xa2.e1)]), (44, [(vI xa2.e0), (vI xa2.e1)])], [], [], [], [], []⟩), rV 12 [(49, vT)]], [], [], []⟩ [(1, ⟨[2], [1], 0, [], []⟩, ⟨[], [], []⟩)] ordB_law_PpoWithin_L1 (rkE rfl neR) (fun z => (aL (eArr2 eI) y9 (aB ha1 (aI (at_map (eArr2 eI) gxa2 : at? (y9.map (eArr2 eI)) sa.2 = some [(vI xa2.e0), (vI xa2.e1)]) (aI (at_map (eArr2 eI) gxa2 : at? (y9.map (eArr2 eI)) sa.2 = some [(vI xa2.e0), (vI xa2.e1)]) (aB ha3 z)))))) (by kernel_rfl)
 rcases iteE h with ⟨ha4, h⟩ | ⟨ha4, h⟩
 ·
  obtain rfl := soI h
  exact kR ⟨ord4, [rV 9 [(33, (vI (y9.length : Int))), (34, vT)], (11, ⟨[], [], [(39, [(vI xa2.e0), (vI xa2.e1)]), (44, [(vI xa2.e0), (vI xa2.e1)])], [], [], [], [], []⟩), rV 12 [(49, vF), (52, (vI (y7.length : Int))), (55, vT)]], [], [], []⟩ [(1, ⟨[2], [1], 0, [], []⟩, ⟨[], [], []⟩)] ordB_law_PpoWithin_L1 (rkE rfl neR) (fun z => (aL (eArr2 eI) y9 (aB ha1 (aI (at_map (eArr2 eI) gxa2 : at? (y9.map (eArr2 eI)) sa.2 = some [(vI xa2.e0), (vI xa2.e1)]) (aI (at_map (eArr2 eI) gxa2 : at? (y9.map (eArr2 eI)) sa.2 = some [(vI xa2.e0), (vI xa2.e1)]) (aB ha3 (aL Event.enc y7 (aB ha4 z)))))))) (by kernel_rfl)
 rcases iteE h with ⟨ha5, h⟩ | ⟨ha5, h⟩
 ·
  obtain rfl := soI h
  exact kR ⟨ord4, [rV 9 [(33, (vI (y9.length : Int))), (34, vT)], (11, ⟨[], [], [(39, [(vI xa2.e0), (vI xa2.e1)]), (44, [(vI xa2.e0), (vI xa2.e1)])], [], [], [], [], []⟩), rV 12 [(49, vF), (52, (vI (y7.length : Int))), (55, vF), (60, vT)]], [], [], []⟩ [(1, ⟨[2], [1], 0, [], []⟩, ⟨[], [], []⟩)] ordB_law_PpoWithin_L1 (rkE rfl neR) (fun z => (aL (eArr2 eI) y9 (aB ha1 (aI (at_map (eArr2 eI) gxa2 : at? (y9.map (eArr2 eI)) sa.2 = some [(vI xa2.e0), (vI xa2.e1)]) (aI (at_map (eArr2 eI) gxa2 : at? (y9.map (eArr2 eI)) sa.2 = some [(vI xa2.e0), (vI xa2.e1)]) (aB ha3 (aL Event.enc y7 (aB ha4 (aB ha5 z))))))))) (by kernel_rfl)
 obtain ⟨xa6, gxa6, h⟩ := bindE h
 obtain ⟨xa7, gxa7, h⟩ := bindE h
 rcases iteE h with ⟨ha8, h⟩ | ⟨ha8, h⟩
 ·
  obtain rfl := soI h
  exact kR ⟨ord4, [rV 9 [(33, (vI (y9.length : Int))), (34, vT)], (11, ⟨[], [], [(39, [(vI xa2.e0), (vI xa2.e1)]), (44, [(vI xa2.e0), (vI xa2.e1)])], [], [], [], [], []⟩), (12, ⟨[], [], [(63, (Event.enc xa6)), (68, (Event.enc xa7))], [(49, vF), (52, (vI (y7.length : Int))), (55, vF), (60, vF), (73, vT)], [], [], [], []⟩)], [], [], []⟩ [(1, ⟨[2], [1], 0, [], []⟩, ⟨[], [], []⟩)] ordB_law_PpoWithin_L1 (rkE rfl neR) (fun z => (aL (eArr2 eI) y9 (aB ha1 (aI (at_map (eArr2 eI) gxa2 : at? (y9.map (eArr2 eI)) sa.2 = some [(vI xa2.e0), (vI xa2.e1)]) (aI (at_map (eArr2 eI) gxa2 : at? (y9.map (eArr2 eI)) sa.2 = some [(vI xa2.e0), (vI xa2.e1)]) (aB ha3 (aL Event.enc y7 (aB ha4 (aB ha5 (aM Event.enc gxa6 (aM Event.enc gxa7 (aB ha8 z)))))))))))) (by kernel_rfl)
 obtain ⟨ya9, gya9, h⟩ := bindE h
 rcases iteE h with ⟨ha10, h⟩ | ⟨ha10, h⟩
 ·
  obtain rfl := soI h
  exact kR ⟨ord4, [rV 9 [(33, (vI (y9.length : Int))), (34, vT)], (11, ⟨[], [], [(39, [(vI xa2.e0), (vI xa2.e1)]), (44, [(vI xa2.e0), (vI xa2.e1)])], [], [], [], [], []⟩), (12, ⟨[], [], [(63, (Event.enc xa6)), (68, (Event.enc xa7)), (76, (Event.enc xa6))], [(49, vF), (52, (vI (y7.length : Int))), (55, vF), (60, vF), (73, vF), (81, vT)], [(78, .v (.bool ya9))], [], [], []⟩)], [], [], []⟩ [(1, ⟨[2], [1], 0, [], []⟩, ⟨[], [], []⟩)] ordB_law_PpoWithin_L1 (rkE rfl neR) (fun z => (aL (eArr2 eI) y9 (aB ha1 (aI (at_map (eArr2 eI) gxa2 : at? (y9.map (eArr2 eI)) sa.2 = some [(vI xa2.e0), (vI xa2.e1)]) (aI (at_map (eArr2 eI) gxa2 : at? (y9.map (eArr2 eI)) sa.2 = some [(vI xa2.e0), (vI xa2.e1)]) (aB ha3 (aL Event.enc y7 (aB ha4 (aB ha5 (aM Event.enc gxa6 (aM Event.enc gxa7 (aB ha8 (aM Event.enc gxa6 (aI (ref_Memory_sim n xa6 ya9 gya9) (aB ha10 z))))))))))))))) (by kernel_rfl)
 obtain ⟨ya11, gya11, h⟩ := bindE h
 rcases iteE h with ⟨ha12, h⟩ | ⟨ha12, h⟩
 ·
  obtain rfl := soI h
  exact kR ⟨ord4, [rV 9 [(33, (vI (y9.length : Int))), (34, vT)], (11, ⟨[], [], [(39, [(vI xa2.e0), (vI xa2.e1)]), (44, [(vI xa2.e0), (vI xa2.e1)])], [], [], [], [], []⟩), (12, ⟨[], [], [(63, (Event.enc xa6)), (68, (Event.enc xa7)), (76, (Event.enc xa6)), (84, (Event.enc xa7))], [(49, vF), (52, (vI (y7.length : Int))), (55, vF), (60, vF), (73, vF), (81, vF), (88, vT)], [(78, .v (.bool ya9)), (86, .v (.bool ya11))], [], [], []⟩)], [], [], []⟩ [(1, ⟨[2], [1], 0, [], []⟩, ⟨[], [], []⟩)] ordB_law_PpoWithin_L1 (rkE rfl neR) (fun z => (aL (eArr2 eI) y9 (aB ha1 (aI (at_map (eArr2 eI) gxa2 : at? (y9.map (eArr2 eI)) sa.2 = some [(vI xa2.e0), (vI xa2.e1)]) (aI (at_map (eArr2 eI) gxa2 : at? (y9.map (eArr2 eI)) sa.2 = some [(vI xa2.e0), (vI xa2.e1)]) (aB ha3 (aL Event.enc y7 (aB ha4 (aB ha5 (aM Event.enc gxa6 (aM Event.enc gxa7 (aB ha8 (aM Event.enc gxa6 (aI (ref_Memory_sim n xa6 ya9 gya9) (aB ha10 (aM Event.enc gxa7 (aI (ref_Memory_sim n xa7 ya11 gya11) (aB ha12 z)))))))))))))))))) (by kernel_rfl)
 rcases iteN h with ⟨ha13, h⟩ | ⟨ha13, h⟩
 ·
  obtain ⟨ya14, gya14, h⟩ := bindE h
  rcases iteE h with ⟨ha15, h⟩ | ⟨ha15, h⟩
  ·
   obtain rfl := soI h
   exact kR ⟨ord4, [rV 9 [(33, (vI (y9.length : Int))), (34, vT)], (11, ⟨[], [], [(39, [(vI xa2.e0), (vI xa2.e1)]), (44, [(vI xa2.e0), (vI xa2.e1)])], [], [], [], [], []⟩), (12, ⟨[], [], [(63, (Event.enc xa6)), (68, (Event.enc xa7)), (76, (Event.enc xa6)), (84, (Event.enc xa7))], [(49, vF), (52, (vI (y7.length : Int))), (55, vF), (60, vF), (73, vF), (81, vF), (88, vF)], [(78, .v (.bool ya9)), (86, .v (.bool ya11))], [], [], []⟩), rVC 14 [(91, vF), (127, vT)] [(125, .v (.bool ya14))]], [], [], []⟩ [(1, ⟨[2], [1], 0, [], []⟩, ⟨[], [], []⟩)] ordB_law_PpoWithin_L1 (rkE rfl neR) (fun z => (aL (eArr2 eI) y9 (aB ha1 (aI (at_map (eArr2 eI) gxa2 : at? (y9.map (eArr2 eI)) sa.2 = some [(vI xa2.e0), (vI xa2.e1)]) (aI (at_map (eArr2 eI) gxa2 : at? (y9.map (eArr2 eI)) sa.2 = some [(vI xa2.e0), (vI xa2.e1)]) (aB ha3 (aL Event.enc y7 (aB ha4 (aB ha5 (aM Event.enc gxa6 (aM Event.enc gxa7 (aB ha8 (aM Event.enc gxa6 (aI (ref_Memory_sim n xa6 ya9 gya9) (aB ha10 (aM Event.enc gxa7 (aI (ref_Memory_sim n xa7 ya11 gya11) (aB ha12 (aB ha13 (aI (ppo_Whole_sim n c xa2.e0 xa2.e1 ya14 gya14) (aB ha15 z))))))))))))))))))))) (by kernel_rfl)
  obtain rfl := soI h
  exact kR ⟨ord4, [rV 9 [(33, (vI (y9.length : Int))), (34, vT)], (11, ⟨[], [], [(39, [(vI xa2.e0), (vI xa2.e1)]), (44, [(vI xa2.e0), (vI xa2.e1)])], [], [], [], [], []⟩), (12, ⟨[], [], [(63, (Event.enc xa6)), (68, (Event.enc xa7)), (76, (Event.enc xa6)), (84, (Event.enc xa7))], [(49, vF), (52, (vI (y7.length : Int))), (55, vF), (60, vF), (73, vF), (81, vF), (88, vF)], [(78, .v (.bool ya9)), (86, .v (.bool ya11))], [], [], []⟩), rVC 14 [(91, vF), (127, vF)] [(125, .v (.bool ya14))], (16, ⟨[], [], [(131, [(vI xa2.e0), (vI xa2.e1)])], [], [], [], [], [(1000128, ((mput arr45_beq sa.1 xa2 true).map (eKV (aAgg (eArr2 eI)) aBool)))]⟩)], [], [], []⟩ [(0, ⟨[1, 3, 4, 5, 6], [], 1, [], []⟩, ⟨[], [], []⟩)] ordB_law_PpoWithin_L1 rkN (fun z => (aL (eArr2 eI) y9 (aB ha1 (aI (at_map (eArr2 eI) gxa2 : at? (y9.map (eArr2 eI)) sa.2 = some [(vI xa2.e0), (vI xa2.e1)]) (aI (at_map (eArr2 eI) gxa2 : at? (y9.map (eArr2 eI)) sa.2 = some [(vI xa2.e0), (vI xa2.e1)]) (aB ha3 (aL Event.enc y7 (aB ha4 (aB ha5 (aM Event.enc gxa6 (aM Event.enc gxa7 (aB ha8 (aM Event.enc gxa6 (aI (ref_Memory_sim n xa6 ya9 gya9) (aB ha10 (aM Event.enc gxa7 (aI (ref_Memory_sim n xa7 ya11 gya11) (aB ha12 (aB ha13 (aI (ppo_Whole_sim n c xa2.e0 xa2.e1 ya14 gya14) (aB ha15 (aI (at_map (eArr2 eI) gxa2 : at? (y9.map (eArr2 eI)) sa.2 = some [(vI xa2.e0), (vI xa2.e1)]) (aI (mapPut_44 sa.1 xa2 true : ∀ K' : List (AV × AV) → Prop, K' ((mput arr45_beq sa.1 xa2 true).map (eKV (aAgg (eArr2 eI)) aBool)) → findK Try.prog 45 (.agg [(vI xa2.e0), (vI xa2.e1)]) (sa.1.map (eKV (aAgg (eArr2 eI)) aBool)) fun kv r => Chk (ckOk Try.prog 45 kv) (match r with | some i => Chk (Instr.sameBits 10000 (((sa.1.map (eKV (aAgg (eArr2 eI)) aBool))[i]?.bind fun e => toK e.1).getD (.bool false)) kv) (K' ((sa.1.map (eKV (aAgg (eArr2 eI)) aBool)).set i (.agg [(vI xa2.e0), (vI xa2.e1)], vT))) | none => K' ((sa.1.map (eKV (aAgg (eArr2 eI)) aBool)) ++ [(.agg [(vI xa2.e0), (vI xa2.e1)], vT)]))) z))))))))))))))))))))))) (by kernel_rfl)
 obtain ⟨xa14, gxa14, h⟩ := bindE h
 rcases iteE h with ⟨ha15, h⟩ | ⟨ha15, h⟩
 ·
  obtain rfl := soI h
  exact kR ⟨ord4, [rV 9 [(33, (vI (y9.length : Int))), (34, vT)], (11, ⟨[], [], [(39, [(vI xa2.e0), (vI xa2.e1)]), (44, [(vI xa2.e0), (vI xa2.e1)])], [], [], [], [], []⟩), (12, ⟨[], [], [(63, (Event.enc xa6)), (68, (Event.enc xa7)), (76, (Event.enc xa6)), (84, (Event.enc xa7))], [(49, vF), (52, (vI (y7.length : Int))), (55, vF), (60, vF), (73, vF), (81, vF), (88, vF)], [(78, .v (.bool ya9)), (86, .v (.bool ya11))], [], [], []⟩), (14, ⟨[], [], [(95, [(vI xa14.e0), (vI xa14.e1)])], [(91, vT), (100, vT)], [], [], [], []⟩)], [], [], []⟩ [(1, ⟨[2], [1], 0, [], []⟩, ⟨[], [], []⟩)] ordB_law_PpoWithin_L1 (rkE rfl neR) (fun z => (aL (eArr2 eI) y9 (aB ha1 (aI (at_map (eArr2 eI) gxa2 : at? (y9.map (eArr2 eI)) sa.2 = some [(vI xa2.e0), (vI xa2.e1)]) (aI (at_map (eArr2 eI) gxa2 : at? (y9.map (eArr2 eI)) sa.2 = some [(vI xa2.e0), (vI xa2.e1)]) (aB ha3 (aL Event.enc y7 (aB ha4 (aB ha5 (aM Event.enc gxa6 (aM Event.enc gxa7 (aB ha8 (aM Event.enc gxa6 (aI (ref_Memory_sim n xa6 ya9 gya9) (aB ha10 (aM Event.enc gxa7 (aI (ref_Memory_sim n xa7 ya11 gya11) (aB ha12 (aB ha13 (aI (at_map (eArr2 eI) gxa14 : at? (y9.map (eArr2 eI)) (subW .i64 sa.2 1) = some [(vI xa14.e0), (vI xa14.e1)]) (aB ha15 z))))))))))))))))))))) (by kernel_rfl)
 rcases iteN h with ⟨ha16, h⟩ | ⟨ha16, h⟩
 ·
  obtain ⟨ya17, gya17, h⟩ := bindE h
  rcases iteE h with ⟨ha18, h⟩ | ⟨ha18, h⟩
  ·
   obtain rfl := soI h
   exact kR ⟨ord4, [rV 9 [(33, (vI (y9.length : Int))), (34, vT)], (11, ⟨[], [], [(39, [(vI xa2.e0), (vI xa2.e1)]), (44, [(vI xa2.e0), (vI xa2.e1)])], [], [], [], [], []⟩), (12, ⟨[], [], [(63, (Event.enc xa6)), (68, (Event.enc xa7)), (76, (Event.enc xa6)), (84, (Event.enc xa7))], [(49, vF), (52, (vI (y7.length : Int))), (55, vF), (60, vF), (73, vF), (81, vF), (88, vF)], [(78, .v (.bool ya9)), (86, .v (.bool ya11))], [], [], []⟩), (14, ⟨[], [], [(95, [(vI xa14.e0), (vI xa14.e1)]), (104, [(vI xa14.e0), (vI xa14.e1)])], [(91, vT), (100, vF), (109, vF), (127, vT)], [(125, .v (.bool ya17))], [], [], []⟩)], [], [], []⟩ [(1, ⟨[2], [1], 0, [], []⟩, ⟨[], [], []⟩)] ordB_law_PpoWithin_L1 (rkE rfl neR) (fun z => (aL (eArr2 eI) y9 (aB ha1 (aI (at_map (eArr2 eI) gxa2 : at? (y9.map (eArr2 eI)) sa.2 = some [(vI xa2.e0), (vI xa2.e1)]) (aI (at_map (eArr2 eI) gxa2 : at? (y9.map (eArr2 eI)) sa.2 = some [(vI xa2.e0), (vI xa2.e1)]) (aB ha3 (aL Event.enc y7 (aB ha4 (aB ha5 (aM Event.enc gxa6 (aM Event.enc gxa7 (aB ha8 (aM Event.enc gxa6 (aI (ref_Memory_sim n xa6 ya9 gya9) (aB ha10 (aM Event.enc gxa7 (aI (ref_Memory_sim n xa7 ya11 gya11) (aB ha12 (aB ha13 (aI (at_map (eArr2 eI) gxa14 : at? (y9.map (eArr2 eI)) (subW .i64 sa.2 1) = some [(vI xa14.e0), (vI xa14.e1)]) (aB ha15 (aI (at_map (eArr2 eI) gxa14 : at? (y9.map (eArr2 eI)) (subW .i64 sa.2 1) = some [(vI xa14.e0), (vI xa14.e1)]) (aB ha16 (aI (ppo_Whole_sim n c xa2.e0 xa2.e1 ya17 gya17) (aB ha18 z))))))))))))))))))))))))) (by kernel_rfl)
  obtain rfl := soI h
  exact kR ⟨ord4, [rV 9 [(33, (vI (y9.length : Int))), (34, vT)], (11, ⟨[], [], [(39, [(vI xa2.e0), (vI xa2.e1)]), (44, [(vI xa2.e0), (vI xa2.e1)])], [], [], [], [], []⟩), (12, ⟨[], [], [(63, (Event.enc xa6)), (68, (Event.enc xa7)), (76, (Event.enc xa6)), (84, (Event.enc xa7))], [(49, vF), (52, (vI (y7.length : Int))), (55, vF), (60, vF), (73, vF), (81, vF), (88, vF)], [(78, .v (.bool ya9)), (86, .v (.bool ya11))], [], [], []⟩), (14, ⟨[], [], [(95, [(vI xa14.e0), (vI xa14.e1)]), (104, [(vI xa14.e0), (vI xa14.e1)])], [(91, vT), (100, vF), (109, vF), (127, vF)], [(125, .v (.bool ya17))], [], [], []⟩), (16, ⟨[], [], [(131, [(vI xa2.e0), (vI xa2.e1)])], [], [], [], [], [(1000128, ((mput arr45_beq sa.1 xa2 true).map (eKV (aAgg (eArr2 eI)) aBool)))]⟩)], [], [], []⟩ [(0, ⟨[1, 3, 4, 5, 6], [], 1, [], []⟩, ⟨[], [], []⟩)] ordB_law_PpoWithin_L1 rkN (fun z => (aL (eArr2 eI) y9 (aB ha1 (aI (at_map (eArr2 eI) gxa2 : at? (y9.map (eArr2 eI)) sa.2 = some [(vI xa2.e0), (vI xa2.e1)]) (aI (at_map (eArr2 eI) gxa2 : at? (y9.map (eArr2 eI)) sa.2 = some [(vI xa2.e0), (vI xa2.e1)]) (aB ha3 (aL Event.enc y7 (aB ha4 (aB ha5 (aM Event.enc gxa6 (aM Event.enc gxa7 (aB ha8 (aM Event.enc gxa6 (aI (ref_Memory_sim n xa6 ya9 gya9) (aB ha10 (aM Event.enc gxa7 (aI (ref_Memory_sim n xa7 ya11 gya11) (aB ha12 (aB ha13 (aI (at_map (eArr2 eI) gxa14 : at? (y9.map (eArr2 eI)) (subW .i64 sa.2 1) = some [(vI xa14.e0), (vI xa14.e1)]) (aB ha15 (aI (at_map (eArr2 eI) gxa14 : at? (y9.map (eArr2 eI)) (subW .i64 sa.2 1) = some [(vI xa14.e0), (vI xa14.e1)]) (aB ha16 (aI (ppo_Whole_sim n c xa2.e0 xa2.e1 ya17 gya17) (aB ha18 (aI (at_map (eArr2 eI) gxa2 : at? (y9.map (eArr2 eI)) sa.2 = some [(vI xa2.e0), (vI xa2.e1)]) (aI (mapPut_44 sa.1 xa2 true : ∀ K' : List (AV × AV) → Prop, K' ((mput arr45_beq sa.1 xa2 true).map (eKV (aAgg (eArr2 eI)) aBool)) → findK Try.prog 45 (.agg [(vI xa2.e0), (vI xa2.e1)]) (sa.1.map (eKV (aAgg (eArr2 eI)) aBool)) fun kv r => Chk (ckOk Try.prog 45 kv) (match r with | some i => Chk (Instr.sameBits 10000 (((sa.1.map (eKV (aAgg (eArr2 eI)) aBool))[i]?.bind fun e => toK e.1).getD (.bool false)) kv) (K' ((sa.1.map (eKV (aAgg (eArr2 eI)) aBool)).set i (.agg [(vI xa2.e0), (vI xa2.e1)], vT))) | none => K' ((sa.1.map (eKV (aAgg (eArr2 eI)) aBool)) ++ [(.agg [(vI xa2.e0), (vI xa2.e1)], vT)]))) z))))))))))))))))))))))))))) (by kernel_rfl)
 rcases iteE h with ⟨ha17, h⟩ | ⟨ha17, h⟩
 ·
  obtain rfl := soI h
  exact kR ⟨ord4, [rV 9 [(33, (vI (y9.length : Int))), (34, vT)], (11, ⟨[], [], [(39, [(vI xa2.e0), (vI xa2.e1)]), (44, [(vI xa2.e0), (vI xa2.e1)])], [], [], [], [], []⟩), (12, ⟨[], [], [(63, (Event.enc xa6)), (68, (Event.enc xa7)), (76, (Event.enc xa6)), (84, (Event.enc xa7))], [(49, vF), (52, (vI (y7.length : Int))), (55, vF), (60, vF), (73, vF), (81, vF), (88, vF)], [(78, .v (.bool ya9)), (86, .v (.bool ya11))], [], [], []⟩), (14, ⟨[], [], [(95, [(vI xa14.e0), (vI xa14.e1)]), (104, [(vI xa14.e0), (vI xa14.e1)]), (113, [(vI xa14.e0), (vI xa14.e1)])], [(91, vT), (100, vF), (109, vT), (121, vT)], [], [], [], []⟩)], [], [], []⟩ [(1, ⟨[2], [1], 0, [], []⟩, ⟨[], [], []⟩)] ordB_law_PpoWithin_L1 (rkE rfl neR) (fun z => (aL (eArr2 eI) y9 (aB ha1 (aI (at_map (eArr2 eI) gxa2 : at? (y9.map (eArr2 eI)) sa.2 = some [(vI xa2.e0), (vI xa2.e1)]) (aI (at_map (eArr2 eI) gxa2 : at? (y9.map (eArr2 eI)) sa.2 = some [(vI xa2.e0), (vI xa2.e1)]) (aB ha3 (aL Event.enc y7 (aB ha4 (aB ha5 (aM Event.enc gxa6 (aM Event.enc gxa7 (aB ha8 (aM Event.enc gxa6 (aI (ref_Memory_sim n xa6 ya9 gya9) (aB ha10 (aM Event.enc gxa7 (aI (ref_Memory_sim n xa7 ya11 gya11) (aB ha12 (aB ha13 (aI (at_map (eArr2 eI) gxa14 : at? (y9.map (eArr2 eI)) (subW .i64 sa.2 1) = some [(vI xa14.e0), (vI xa14.e1)]) (aB ha15 (aI (at_map (eArr2 eI) gxa14 : at? (y9.map (eArr2 eI)) (subW .i64 sa.2 1) = some [(vI xa14.e0), (vI xa14.e1)]) (aB ha16 (aI (at_map (eArr2 eI) gxa14 : at? (y9.map (eArr2 eI)) (subW .i64 sa.2 1) = some [(vI xa14.e0), (vI xa14.e1)]) (aB ha17 z))))))))))))))))))))))))) (by kernel_rfl)
 obtain ⟨ya18, gya18, h⟩ := bindE h
 rcases iteE h with ⟨ha19, h⟩ | ⟨ha19, h⟩
 ·
  obtain rfl := soI h
  exact kR ⟨ord4, [rV 9 [(33, (vI (y9.length : Int))), (34, vT)], (11, ⟨[], [], [(39, [(vI xa2.e0), (vI xa2.e1)]), (44, [(vI xa2.e0), (vI xa2.e1)])], [], [], [], [], []⟩), (12, ⟨[], [], [(63, (Event.enc xa6)), (68, (Event.enc xa7)), (76, (Event.enc xa6)), (84, (Event.enc xa7))], [(49, vF), (52, (vI (y7.length : Int))), (55, vF), (60, vF), (73, vF), (81, vF), (88, vF)], [(78, .v (.bool ya9)), (86, .v (.bool ya11))], [], [], []⟩), (14, ⟨[], [], [(95, [(vI xa14.e0), (vI xa14.e1)]), (104, [(vI xa14.e0), (vI xa14.e1)]), (113, [(vI xa14.e0), (vI xa14.e1)])], [(91, vT), (100, vF), (109, vT), (121, vF), (127, vT)], [(125, .v (.bool ya18))], [], [], []⟩)], [], [], []⟩ [(1, ⟨[2], [1], 0, [], []⟩, ⟨[], [], []⟩)] ordB_law_PpoWithin_L1 (rkE rfl neR) (fun z => (aL (eArr2 eI) y9 (aB ha1 (aI (at_map (eArr2 eI) gxa2 : at? (y9.map (eArr2 eI)) sa.2 = some [(vI xa2.e0), (vI xa2.e1)]) (aI (at_map (eArr2 eI) gxa2 : at? (y9.map (eArr2 eI)) sa.2 = some [(vI xa2.e0), (vI xa2.e1)]) (aB ha3 (aL Event.enc y7 (aB ha4 (aB ha5 (aM Event.enc gxa6 (aM Event.enc gxa7 (aB ha8 (aM Event.enc gxa6 (aI (ref_Memory_sim n xa6 ya9 gya9) (aB ha10 (aM Event.enc gxa7 (aI (ref_Memory_sim n xa7 ya11 gya11) (aB ha12 (aB ha13 (aI (at_map (eArr2 eI) gxa14 : at? (y9.map (eArr2 eI)) (subW .i64 sa.2 1) = some [(vI xa14.e0), (vI xa14.e1)]) (aB ha15 (aI (at_map (eArr2 eI) gxa14 : at? (y9.map (eArr2 eI)) (subW .i64 sa.2 1) = some [(vI xa14.e0), (vI xa14.e1)]) (aB ha16 (aI (at_map (eArr2 eI) gxa14 : at? (y9.map (eArr2 eI)) (subW .i64 sa.2 1) = some [(vI xa14.e0), (vI xa14.e1)]) (aB ha17 (aI (ppo_Whole_sim n c xa2.e0 xa2.e1 ya18 gya18) (aB ha19 z))))))))))))))))))))))))))) (by kernel_rfl)
 obtain rfl := soI h
 exact kR ⟨ord4, [rV 9 [(33, (vI (y9.length : Int))), (34, vT)], (11, ⟨[], [], [(39, [(vI xa2.e0), (vI xa2.e1)]), (44, [(vI xa2.e0), (vI xa2.e1)])], [], [], [], [], []⟩), (12, ⟨[], [], [(63, (Event.enc xa6)), (68, (Event.enc xa7)), (76, (Event.enc xa6)), (84, (Event.enc xa7))], [(49, vF), (52, (vI (y7.length : Int))), (55, vF), (60, vF), (73, vF), (81, vF), (88, vF)], [(78, .v (.bool ya9)), (86, .v (.bool ya11))], [], [], []⟩), (14, ⟨[], [], [(95, [(vI xa14.e0), (vI xa14.e1)]), (104, [(vI xa14.e0), (vI xa14.e1)]), (113, [(vI xa14.e0), (vI xa14.e1)])], [(91, vT), (100, vF), (109, vT), (121, vF), (127, vF)], [(125, .v (.bool ya18))], [], [], []⟩), (16, ⟨[], [], [(131, [(vI xa2.e0), (vI xa2.e1)])], [], [], [], [], [(1000128, ((mput arr45_beq sa.1 xa2 true).map (eKV (aAgg (eArr2 eI)) aBool)))]⟩)], [], [], []⟩ [(0, ⟨[1, 3, 4, 5, 6], [], 1, [], []⟩, ⟨[], [], []⟩)] ordB_law_PpoWithin_L1 rkN (fun z => (aL (eArr2 eI) y9 (aB ha1 (aI (at_map (eArr2 eI) gxa2 : at? (y9.map (eArr2 eI)) sa.2 = some [(vI xa2.e0), (vI xa2.e1)]) (aI (at_map (eArr2 eI) gxa2 : at? (y9.map (eArr2 eI)) sa.2 = some [(vI xa2.e0), (vI xa2.e1)]) (aB ha3 (aL Event.enc y7 (aB ha4 (aB ha5 (aM Event.enc gxa6 (aM Event.enc gxa7 (aB ha8 (aM Event.enc gxa6 (aI (ref_Memory_sim n xa6 ya9 gya9) (aB ha10 (aM Event.enc gxa7 (aI (ref_Memory_sim n xa7 ya11 gya11) (aB ha12 (aB ha13 (aI (at_map (eArr2 eI) gxa14 : at? (y9.map (eArr2 eI)) (subW .i64 sa.2 1) = some [(vI xa14.e0), (vI xa14.e1)]) (aB ha15 (aI (at_map (eArr2 eI) gxa14 : at? (y9.map (eArr2 eI)) (subW .i64 sa.2 1) = some [(vI xa14.e0), (vI xa14.e1)]) (aB ha16 (aI (at_map (eArr2 eI) gxa14 : at? (y9.map (eArr2 eI)) (subW .i64 sa.2 1) = some [(vI xa14.e0), (vI xa14.e1)]) (aB ha17 (aI (ppo_Whole_sim n c xa2.e0 xa2.e1 ya18 gya18) (aB ha19 (aI (at_map (eArr2 eI) gxa2 : at? (y9.map (eArr2 eI)) sa.2 = some [(vI xa2.e0), (vI xa2.e1)]) (aI (mapPut_44 sa.1 xa2 true : ∀ K' : List (AV × AV) → Prop, K' ((mput arr45_beq sa.1 xa2 true).map (eKV (aAgg (eArr2 eI)) aBool)) → findK Try.prog 45 (.agg [(vI xa2.e0), (vI xa2.e1)]) (sa.1.map (eKV (aAgg (eArr2 eI)) aBool)) fun kv r => Chk (ckOk Try.prog 45 kv) (match r with | some i => Chk (Instr.sameBits 10000 (((sa.1.map (eKV (aAgg (eArr2 eI)) aBool))[i]?.bind fun e => toK e.1).getD (.bool false)) kv) (K' ((sa.1.map (eKV (aAgg (eArr2 eI)) aBool)).set i (.agg [(vI xa2.e0), (vI xa2.e1)], vT))) | none => K' ((sa.1.map (eKV (aAgg (eArr2 eI)) aBool)) ++ [(.agg [(vI xa2.e0), (vI xa2.e1)], vT)]))) z))))))))))))))))))))))))))))) (by kernel_rfl)

theorem ordB_law_PpoWithin_L4 : ordB (polF 4) ord4 c_law_PpoWithin_L4 = true := by kernel_rfl
def law_PpoWithin_L4_S (c : Cand) (y7 : (List Event)) (y9 : (List (Arr2 Int))) (w11 : (List ((Arr2 Int) × Bool))) (yb2 : Int) (sd : Int × Int × Int) : St := mkS 234 [(1, .ptr (.L 1) 0 0), (3, .sl (y7.map Event.enc)), (4, .sl (y9.map (eArr2 eI))), (5, .mp 0), (9, (vI sd.2.2)), (10, (vI sd.1)), (11, (vI yb2)), (12, (vI sd.2.1)), (158, (vI yb2)), (159, .v (.bool (decide (yb2 < 0)))), (162, (vI yb2)), (163, .v (.bool (decide (yb2 > 13))))] [(1, (Cand.enc c))] [.mapo true (w11.map (eKV (aAgg (eArr2 eI)) aBool))] 0
def law_PpoWithin_L4_T0 (c : Cand) (y7 : (List Event)) (y9 : (List (Arr2 Int))) (w11 : (List ((Arr2 Int) × Bool))) (yb2 : Int) (tt : Int × Int) : St := mkS 234 [(1, .ptr (.L 1) 0 0), (3, .sl (y7.map Event.enc)), (4, .sl (y9.map (eArr2 eI))), (5, .mp 0), (9, (vI tt.2)), (10, (vI tt.1)), (158, (vI yb2)), (159, .v (.bool (decide (yb2 < 0)))), (162, (vI yb2)), (163, .v (.bool (decide (yb2 > 13))))] [(1, (Cand.enc c))] [.mapo true (w11.map (eKV (aAgg (eArr2 eI)) aBool))] 0
def law_PpoWithin_L4_T1 (c : Cand) (y7 : (List Event)) (y9 : (List (Arr2 Int))) (w11 : (List ((Arr2 Int) × Bool))) (yb2 : Int) (tt : Unit) : St := mkS 234 [(2, vF)] [] [] 0
def law_PpoWithin_L4_out (c : Cand) (y7 : (List Event)) (y9 : (List (Arr2 Int))) (w11 : (List ((Arr2 Int) × Bool))) (yb2 : Int) (t0 : ((Int × Int) ⊕ Unit)) : Ex × St := match t0 with | .inl tt => (.ex 6, law_PpoWithin_L4_T0 c y7 y9 w11 yb2 tt) | .inr tt => (.ret, law_PpoWithin_L4_T1 c y7 y9 w11 yb2 tt)
theorem law_PpoWithin_L4_sim (n : Nat) (c : Cand) (y7 : (List Event)) (y9 : (List (Arr2 Int))) (w11 : (List ((Arr2 Int) × Bool))) (yb2 : Int) : ∀ sd r, law_PpoWithin_L4 n c y7 y9 w11 yb2 sd = some r → CodeD Try.prog c_law_PpoWithin_L4 (law_PpoWithin_L4_S c y7 y9 w11 yb2 sd) (rk (law_PpoWithin_L4_S c y7 y9 w11 yb2) (law_PpoWithin_L4_out c y7 y9 w11 yb2) r) := by
 intro sd r h
 unfold law_PpoWithin_L4 at h
 rcases iteN h with ⟨hd1, h⟩ | ⟨hd1, h⟩
 ·
  obtain rfl := soI h
  exact kR ⟨ord4, [rV 27 [(166, vF)]], [], [], []⟩ [(8, ⟨[1, 3, 4, 5, 9, 10, 158, 159, 162, 163], [], 1, [], []⟩, ⟨[], [], []⟩)] ordB_law_PpoWithin_L4 (rkE rfl neE) (fun z => (aB hd1 z)) (by kernel_rfl)
 obtain ⟨yd2, gyd2, h⟩ := bindE h
 rcases iteN h with ⟨hd3, h⟩ | ⟨hd3, h⟩
 ·
  rcases iteN h with ⟨hd4, h⟩ | ⟨hd4, h⟩
  ·
   obtain rfl := soI h
   exact kR ⟨ord4, [rV 27 [(166, vT)], rVC 29 [(174, vF), (187, vF)] [(173, .v (.bool yd2))]], [], [], []⟩ [(0, ⟨[1, 3, 4, 5, 9, 10, 11, 12, 158, 159, 162, 163], [], 1, [], []⟩, ⟨[], [], []⟩)] ordB_law_PpoWithin_L4 rkN (fun z => (aB hd1 (aI (ppo_Holds_sim n c sd.2.2 sd.1 sd.2.1 yd2 gyd2) (aB hd3 (aB hd4 z))))) (by kernel_rfl)
  obtain ⟨yd5, gyd5, h⟩ := bindE h
  rcases iteE h with ⟨hd6, h⟩ | ⟨hd6, h⟩
  ·
   obtain rfl := soI h
   exact kR ⟨ord4, [rV 27 [(166, vT)], rVC 29 [(174, vF), (187, vT), (195, vT)] [(173, .v (.bool yd2)), (192, .v (.bool yd5))]], [], [], []⟩ [(1, ⟨[2], [1], 0, [], []⟩, ⟨[], [], []⟩)] ordB_law_PpoWithin_L4 (rkE rfl neR) (fun z => (aB hd1 (aI (ppo_Holds_sim n c sd.2.2 sd.1 sd.2.1 yd2 gyd2) (aB hd3 (aB hd4 (aI (ppo_Holds_sim n c sd.2.2 sd.1 sd.2.1 yd5 gyd5) (aB hd6 z))))))) (by kernel_rfl)
  obtain rfl := soI h
  exact kR ⟨ord4, [rV 27 [(166, vT)], rVC 29 [(174, vF), (187, vT), (195, vF)] [(173, .v (.bool yd2)), (192, .v (.bool yd5))]], [], [], []⟩ [(0, ⟨[1, 3, 4, 5, 9, 10, 11, 12, 158, 159, 162, 163], [], 1, [], []⟩, ⟨[], [], []⟩)] ordB_law_PpoWithin_L4 rkN (fun z => (aB hd1 (aI (ppo_Holds_sim n c sd.2.2 sd.1 sd.2.1 yd2 gyd2) (aB hd3 (aB hd4 (aI (ppo_Holds_sim n c sd.2.2 sd.1 sd.2.1 yd5 gyd5) (aB hd6 z))))))) (by kernel_rfl)
 rcases iteE h with ⟨hd4, h⟩ | ⟨hd4, h⟩
 ·
  obtain rfl := soI h
  exact kR ⟨ord4, [rV 27 [(166, vT)], rVC 29 [(174, vT), (177, vT)] [(173, .v (.bool yd2))]], [], [], []⟩ [(1, ⟨[2], [1], 0, [], []⟩, ⟨[], [], []⟩)] ordB_law_PpoWithin_L4 (rkE rfl neR) (fun z => (aB hd1 (aI (ppo_Holds_sim n c sd.2.2 sd.1 sd.2.1 yd2 gyd2) (aB hd3 (aB hd4 z))))) (by kernel_rfl)
 rcases iteE h with ⟨hd5, h⟩ | ⟨hd5, h⟩
 ·
  obtain rfl := soI h
  exact kR ⟨ord4, [rV 27 [(166, vT)], rVC 29 [(174, vT), (177, vF), (183, vT)] [(173, .v (.bool yd2))]], [], [], []⟩ [(1, ⟨[2], [1], 0, [], []⟩, ⟨[], [], []⟩)] ordB_law_PpoWithin_L4 (rkE rfl neR) (fun z => (aB hd1 (aI (ppo_Holds_sim n c sd.2.2 sd.1 sd.2.1 yd2 gyd2) (aB hd3 (aB hd4 (aB hd5 z)))))) (by kernel_rfl)
 rcases iteN h with ⟨hd6, h⟩ | ⟨hd6, h⟩
 ·
  obtain rfl := soI h
  exact kR ⟨ord4, [rV 27 [(166, vT)], rVC 29 [(174, vT), (177, vF), (183, vF), (187, vF)] [(173, .v (.bool yd2))]], [], [], []⟩ [(0, ⟨[1, 3, 4, 5, 9, 10, 11, 12, 158, 159, 162, 163], [], 1, [], []⟩, ⟨[], [], []⟩)] ordB_law_PpoWithin_L4 rkN (fun z => (aB hd1 (aI (ppo_Holds_sim n c sd.2.2 sd.1 sd.2.1 yd2 gyd2) (aB hd3 (aB hd4 (aB hd5 (aB hd6 z))))))) (by kernel_rfl)
 obtain ⟨yd7, gyd7, h⟩ := bindE h
 rcases iteE h with ⟨hd8, h⟩ | ⟨hd8, h⟩
 ·
  obtain rfl := soI h
  exact kR ⟨ord4, [rV 27 [(166, vT)], rVC 29 [(174, vT), (177, vF), (183, vF), (187, vT), (195, vT)] [(173, .v (.bool yd2)), (192, .v (.bool yd7))]], [], [], []⟩ [(1, ⟨[2], [1], 0, [], []⟩, ⟨[], [], []⟩)] ordB_law_PpoWithin_L4 (rkE rfl neR) (fun z => (aB hd1 (aI (ppo_Holds_sim n c sd.2.2 sd.1 sd.2.1 yd2 gyd2) (aB hd3 (aB hd4 (aB hd5 (aB hd6 (aI (ppo_Holds_sim n c sd.2.2 sd.1 sd.2.1 yd7 gyd7) (aB hd8 z))))))))) (by kernel_rfl)
 obtain rfl := soI h
 exact kR ⟨ord4, [rV 27 [(166, vT)], rVC 29 [(174, vT), (177, vF), (183, vF), (187, vT), (195, vF)] [(173, .v (.bool yd2)), (192, .v (.bool yd7))]], [], [], []⟩ [(0, ⟨[1, 3, 4, 5, 9, 10, 11, 12, 158, 159, 162, 163], [], 1, [], []⟩, ⟨[], [], []⟩)] ordB_law_PpoWithin_L4 rkN (fun z => (aB hd1 (aI (ppo_Holds_sim n c sd.2.2 sd.1 sd.2.1 yd2 gyd2) (aB hd3 (aB hd4 (aB hd5 (aB hd6 (aI (ppo_Holds_sim n c sd.2.2 sd.1 sd.2.1 yd7 gyd7) (aB hd8 z))))))))) (by kernel_rfl)

theorem ordB_law_PpoWithin_L3 : ordB (polF 4) ord4 c_law_PpoWithin_L3 = true := by kernel_rfl
def law_PpoWithin_L3_S (c : Cand) (y7 : (List Event)) (y9 : (List (Arr2 Int))) (w11 : (List ((Arr2 Int) × Bool))) (sb : Int × Int) : St := mkS 234 [(1, .ptr (.L 1) 0 0), (3, .sl (y7.map Event.enc)), (4, .sl (y9.map (eArr2 eI))), (5, .mp 0), (9, (vI sb.2)), (10, (vI sb.1))] [(1, (Cand.enc c))] [.mapo true (w11.map (eKV (aAgg (eArr2 eI)) aBool))] 0
def law_PpoWithin_L3_T0 (c : Cand) (y7 : (List Event)) (y9 : (List (Arr2 Int))) (w11 : (List ((Arr2 Int) × Bool))) (tt : Int) : St := mkS 234 [(1, .ptr (.L 1) 0 0), (3, .sl (y7.map Event.enc)), (4, .sl (y9.map (eArr2 eI))), (5, .mp 0), (9, (vI tt))] [(1, (Cand.enc c))] [.mapo true (w11.map (eKV (aAgg (eArr2 eI)) aBool))] 0
def law_PpoWithin_L3_T1 (c : Cand) (y7 : (List Event)) (y9 : (List (Arr2 Int))) (w11 : (List ((Arr2 Int) × Bool))) (tt : Unit) : St := mkS 234 [(2, vF)] [] [] 0
def law_PpoWithin_L3_out (c : Cand) (y7 : (List Event)) (y9 : (List (Arr2 Int))) (w11 : (List ((Arr2 Int) × Bool))) (t0 : (Int ⊕ Unit)) : Ex × St := match t0 with | .inl tt => (.ex 4, law_PpoWithin_L3_T0 c y7 y9 w11 tt) | .inr tt => (.ret, law_PpoWithin_L3_T1 c y7 y9 w11 tt)
theorem law_PpoWithin_L3_sim (n : Nat) (c : Cand) (y7 : (List Event)) (y9 : (List (Arr2 Int))) (w11 : (List ((Arr2 Int) × Bool))) : ∀ sb r, law_PpoWithin_L3 n c y7 y9 w11 sb = some r → CodeD Try.prog c_law_PpoWithin_L3 (law_PpoWithin_L3_S c y7 y9 w11 sb) (rk (law_PpoWithin_L3_S c y7 y9 w11) (law_PpoWithin_L3_out c y7 y9 w11) r) := by
 intro sb r h
 unfold law_PpoWithin_L3 at h
 rcases iteN h with ⟨hb1, h⟩ | ⟨hb1, h⟩
 ·
  obtain rfl := soI h
  exact kR ⟨ord4, [rV 21 [(141, (vI (y7.length : Int))), (142, vF)]], [], [], []⟩ [(6, ⟨[1, 3, 4, 5, 9], [], 1, [], []⟩, ⟨[], [], []⟩)] ordB_law_PpoWithin_L3 (rkE rfl neE) (fun z => (aL Event.enc y7 (aB hb1 z))) (by kernel_rfl)
 obtain ⟨yb2, gyb2, h⟩ := bindE h
 rcases iteE h with ⟨hb3, h⟩ | ⟨hb3, h⟩
 ·
  obtain rfl := soI h
  exact kR ⟨ord4, [rV 21 [(141, (vI (y7.length : Int))), (142, vT)], rVC 23 [] [(148, (vI yb2))], rVC 24 [(157, vT)] [(155, .v (.bool ((mget arr45_beq w11 (Arr2.mk sb.2 sb.1)).getD false)))]], [], [], []⟩ [(1, ⟨[2], [1], 0, [], []⟩, ⟨[], [], []⟩)] ordB_law_PpoWithin_L3 (rkE rfl neR) (fun z => (aL Event.enc y7 (aB hb1 (aI (ppo_Rule_sim n c sb.2 sb.1 yb2 gyb2) (aI (mapGet_44 w11 (Arr2.mk sb.2 sb.1) : ∀ k' : AV → Prop, k' (.v (.bool ((mget arr45_beq w11 (Arr2.mk sb.2 sb.1)).getD false))) → findK Try.prog 45 (.agg [(vI sb.2), (vI sb.1)]) (w11.map (eKV (aAgg (eArr2 eI)) aBool)) fun _ r => foundOk Try.prog 4 false (w11.map (eKV (aAgg (eArr2 eI)) aBool)) r k') (aB hb3 z)))))) (by kernel_rfl)
 rcases iteE h with ⟨hb4, h⟩ | ⟨hb4, h⟩
 ·
  obtain rfl := soI h
  exact kR ⟨ord4, [rV 21 [(141, (vI (y7.length : Int))), (142, vT)], rVC 23 [] [(148, (vI yb2))], rVC 24 [(157, vF), (161, vT)] [(155, .v (.bool ((mget arr45_beq w11 (Arr2.mk sb.2 sb.1)).getD false)))]], [], [], []⟩ [(1, ⟨[2], [1], 0, [], []⟩, ⟨[], [], []⟩)] ordB_law_PpoWithin_L3 (rkE rfl neR) (fun z => (aL Event.enc y7 (aB hb1 (aI (ppo_Rule_sim n c sb.2 sb.1 yb2 gyb2) (aI (mapGet_44 w11 (Arr2.mk sb.2 sb.1) : ∀ k' : AV → Prop, k' (.v (.bool ((mget arr45_beq w11 (Arr2.mk sb.2 sb.1)).getD false))) → findK Try.prog 45 (.agg [(vI sb.2), (vI sb.1)]) (w11.map (eKV (aAgg (eArr2 eI)) aBool)) fun _ r => foundOk Try.prog 4 false (w11.map (eKV (aAgg (eArr2 eI)) aBool)) r k') (aB hb3 (aB hb4 z))))))) (by kernel_rfl)
 rcases iteE h with ⟨hb5, h⟩ | ⟨hb5, h⟩
 ·
  obtain rfl := soI h
  exact kR ⟨ord4, [rV 21 [(141, (vI (y7.length : Int))), (142, vT)], rVC 23 [] [(148, (vI yb2))], rVC 24 [(157, vF), (161, vF), (164, vT)] [(155, .v (.bool ((mget arr45_beq w11 (Arr2.mk sb.2 sb.1)).getD false)))]], [], [], []⟩ [(1, ⟨[2], [1], 0, [], []⟩, ⟨[], [], []⟩)] ordB_law_PpoWithin_L3 (rkE rfl neR) (fun z => (aL Event.enc y7 (aB hb1 (aI (ppo_Rule_sim n c sb.2 sb.1 yb2 gyb2) (aI (mapGet_44 w11 (Arr2.mk sb.2 sb.1) : ∀ k' : AV → Prop, k' (.v (.bool ((mget arr45_beq w11 (Arr2.mk sb.2 sb.1)).getD false))) → findK Try.prog 45 (.agg [(vI sb.2), (vI sb.1)]) (w11.map (eKV (aAgg (eArr2 eI)) aBool)) fun _ r => foundOk Try.prog 4 false (w11.map (eKV (aAgg (eArr2 eI)) aBool)) r k') (aB hb3 (aB hb4 (aB hb5 z)))))))) (by kernel_rfl)
 obtain ⟨tb6, gtb6, h⟩ := bindE h
 rcases tb6 with wb7 | wb7
 ·
  obtain rfl := soI h
  exact kR ⟨ord4, [rV 21 [(141, (vI (y7.length : Int))), (142, vT)], rVC 23 [] [(148, (vI yb2))], rVC 24 [(157, vF), (161, vF), (164, vF)] [(155, .v (.bool ((mget arr45_beq w11 (Arr2.mk sb.2 sb.1)).getD false)))]], [], [(27, (⟨[1, 3, 4, 5, 9, 10, 11, 12, 158, 159, 162, 163], [], 1, [], []⟩, ⟨[], [], []⟩, (.ex 6), law_PpoWithin_L4_T0 c y7 y9 w11 yb2 wb7))], []⟩ [(0, ⟨[1, 3, 4, 5, 9, 10], [], 1, [], []⟩, ⟨[], [], []⟩)] ordB_law_PpoWithin_L3 rkN (fun z => (aL Event.enc y7 (aB hb1 (aI (ppo_Rule_sim n c sb.2 sb.1 yb2 gyb2) (aI (mapGet_44 w11 (Arr2.mk sb.2 sb.1) : ∀ k' : AV → Prop, k' (.v (.bool ((mget arr45_beq w11 (Arr2.mk sb.2 sb.1)).getD false))) → findK Try.prog 45 (.agg [(vI sb.2), (vI sb.1)]) (w11.map (eKV (aAgg (eArr2 eI)) aBool)) fun _ r => foundOk Try.prog 4 false (w11.map (eKV (aAgg (eArr2 eI)) aBool)) r k') (aB hb3 (aB hb4 (aB hb5 (aI (okL (pl := polF 4) (law_PpoWithin_L4_S c y7 y9 w11 yb2) (law_PpoWithin_L4_out c y7 y9 w11 yb2) (law_PpoWithin_L4_sim n c y7 y9 w11 yb2) n _ (.inl wb7) gtb6) z))))))))) (by kernel_rfl)
 ·
  obtain rfl := soI h
  exact kR ⟨ord4, [rV 21 [(141, (vI (y7.length : Int))), (142, vT)], rVC 23 [] [(148, (vI yb2))], rVC 24 [(157, vF), (161, vF), (164, vF)] [(155, .v (.bool ((mget arr45_beq w11 (Arr2.mk sb.2 sb.1)).getD false)))]], [], [(27, (⟨[1, 3, 4, 5, 9, 10, 11, 12, 158, 159, 162, 163], [], 1, [], []⟩, ⟨[], [], []⟩, .ret, law_PpoWithin_L4_T1 c y7 y9 w11 yb2 wb7))], []⟩ [(1, ⟨[2], [], 0, [], []⟩, ⟨[], [], []⟩)] ordB_law_PpoWithin_L3 (rkE rfl neR) (fun z => (aL Event.enc y7 (aB hb1 (aI (ppo_Rule_sim n c sb.2 sb.1 yb2 gyb2) (aI (mapGet_44 w11 (Arr2.mk sb.2 sb.1) : ∀ k' : AV → Prop, k' (.v (.bool ((mget arr45_beq w11 (Arr2.mk sb.2 sb.1)).getD false))) → findK Try.prog 45 (.agg [(vI sb.2), (vI sb.1)]) (w11.map (eKV (aAgg (eArr2 eI)) aBool)) fun _ r => foundOk Try.prog 4 false (w11.map (eKV (aAgg (eArr2 eI)) aBool)) r k') (aB hb3 (aB hb4 (aB hb5 (aI (okL (pl := polF 4) (law_PpoWithin_L4_S c y7 y9 w11 yb2) (law_PpoWithin_L4_out c y7 y9 w11 yb2) (law_PpoWithin_L4_sim n c y7 y9 w11 yb2) n _ (.inr wb7) gtb6) z))))))))) (by kernel_rfl)

theorem ordB_law_PpoWithin_L2 : ordB (polF 4) ord4 c_law_PpoWithin_L2 = true := by kernel_rfl
def law_PpoWithin_L2_S (c : Cand) (y7 : (List Event)) (y9 : (List (Arr2 Int))) (w11 : (List ((Arr2 Int) × Bool))) (sa : Int) : St := mkS 234 [(1, .ptr (.L 1) 0 0), (3, .sl (y7.map Event.enc)), (4, .sl (y9.map (eArr2 eI))), (5, .mp 0), (9, (vI sa))] [(1, (Cand.enc c))] [.mapo true (w11.map (eKV (aAgg (eArr2 eI)) aBool))] 0
def law_PpoWithin_L2_T0 (c : Cand) (y7 : (List Event)) (y9 : (List (Arr2 Int))) (w11 : (List ((Arr2 Int) × Bool))) (tt : Unit) : St := mkS 234 [(1, .ptr (.L 1) 0 0), (4, .sl (y9.map (eArr2 eI)))] [(1, (Cand.enc c))] [] 0
def law_PpoWithin_L2_T1 (c : Cand) (y7 : (List Event)) (y9 : (List (Arr2 Int))) (w11 : (List ((Arr2 Int) × Bool))) (tt : Unit) : St := mkS 234 [(2, vF)] [] [] 0
def law_PpoWithin_L2_out (c : Cand) (y7 : (List Event)) (y9 : (List (Arr2 Int))) (w11 : (List ((Arr2 Int) × Bool))) (t0 : (Unit ⊕ Unit)) : Ex × St := match t0 with | .inl tt => (.ex 2, law_PpoWithin_L2_T0 c y7 y9 w11 tt) | .inr tt => (.ret, law_PpoWithin_L2_T1 c y7 y9 w11 tt)
theorem law_PpoWithin_L2_sim (n : Nat) (c : Cand) (y7 : (List Event)) (y9 : (List (Arr2 Int))) (w11 : (List ((Arr2 Int) × Bool))) : ∀ sa r, law_PpoWithin_L2 n c y7 y9 w11 sa = some r → CodeD Try.prog c_law_PpoWithin_L2 (law_PpoWithin_L2_S c y7 y9 w11 sa) (rk (law_PpoWithin_L2_S c y7 y9 w11) (law_PpoWithin_L2_out c y7 y9 w11) r) := by
 intro sa r h
 unfold law_PpoWithin_L2 at h
 rcases iteN h with ⟨ha1, h⟩ | ⟨ha1, h⟩
 ·
  obtain rfl := soI h
  exact kR ⟨ord4, [rV 18 [(135, (vI (y7.length : Int))), (136, vF)]], [], [], []⟩ [(4, ⟨[1, 4], [], 0, [], []⟩, ⟨[], [], []⟩)] ordB_law_PpoWithin_L2 (rkE rfl neE) (fun z => (aL Event.enc y7 (aB ha1 z))) (by kernel_rfl)
 obtain ⟨ta2, gta2, h⟩ := bindE h
 rcases ta2 with wa3 | wa3
 ·
  obtain rfl := soI h
  exact kR ⟨ord4, [rV 18 [(135, (vI (y7.length : Int))), (136, vT)]], [], [(21, (⟨[1, 3, 4, 5, 9, 10], [], 1, [], []⟩, ⟨[], [], []⟩, (.ex 4), law_PpoWithin_L3_T0 c y7 y9 w11 wa3))], []⟩ [(0, ⟨[1, 3, 4, 5, 9], [], 1, [], []⟩, ⟨[], [], []⟩)] ordB_law_PpoWithin_L2 rkN (fun z => (aL Event.enc y7 (aB ha1 (aI (okL (pl := polF 4) (law_PpoWithin_L3_S c y7 y9 w11) (law_PpoWithin_L3_out c y7 y9 w11) (law_PpoWithin_L3_sim n c y7 y9 w11) n _ (.inl wa3) gta2) z)))) (by kernel_rfl)
 ·
  obtain rfl := soI h
  exact kR ⟨ord4, [rV 18 [(135, (vI (y7.length : Int))), (136, vT)]], [], [(21, (⟨[1, 3, 4, 5, 9, 10], [], 1, [], []⟩, ⟨[], [], []⟩, .ret, law_PpoWithin_L3_T1 c y7 y9 w11 wa3))], []⟩ [(1, ⟨[2], [], 0, [], []⟩, ⟨[], [], []⟩)] ordB_law_PpoWithin_L2 (rkE rfl neR) (fun z => (aL Event.enc y7 (aB ha1 (aI (okL (pl := polF 4) (law_PpoWithin_L3_S c y7 y9 w11) (law_PpoWithin_L3_out c y7 y9 w11) (law_PpoWithin_L3_sim n c y7 y9 w11) n _ (.inr wa3) gta2) z)))) (by kernel_rfl)

theorem ordB_law_PpoWithin_L6 : ordB (polF 4) ord4 c_law_PpoWithin_L6 = true := by kernel_rfl
def law_PpoWithin_L6_S (c : Cand) (y9 : (List (Arr2 Int))) (sb : Int × Int) : St := mkS 234 [(1, .ptr (.L 1) 0 0), (4, .sl (y9.map (eArr2 eI))), (13, (vI sb.1)), (14, (vI sb.2))] [(1, (Cand.enc c))] [] 0
def law_PpoWithin_L6_T0 (c : Cand) (y9 : (List (Arr2 Int))) (tt : Int) : St := mkS 234 [(1, .ptr (.L 1) 0 0), (4, .sl (y9.map (eArr2 eI))), (13, (vI tt))] [(1, (Cand.enc c))] [] 0
def law_PpoWithin_L6_T1 (c : Cand) (y9 : (List (Arr2 Int))) (tt : Unit) : St := mkS 234 [(2, vF)] [] [] 0
def law_PpoWithin_L6_out (c : Cand) (y9 : (List (Arr2 Int))) (t0 : (Int ⊕ Unit)) : Ex × St := match t0 with | .inl tt => (.ex 10, law_PpoWithin_L6_T0 c y9 tt) | .inr tt => (.ret, law_PpoWithin_L6_T1 c y9 tt)
theorem law_PpoWithin_L6_sim (n : Nat) (c : Cand) (y9 : (List (Arr2 Int))) : ∀ sb r, law_PpoWithin_L6 n c y9 sb = some r → CodeD Try.prog c_law_PpoWithin_L6 (law_PpoWithin_L6_S c y9 sb) (rk (law_PpoWithin_L6_S c y9) (law_PpoWithin_L6_out c y9) r) := by
 intro sb r h
 unfold law_PpoWithin_L6 at h
 rcases iteN h with ⟨hb1, h⟩ | ⟨hb1, h⟩
 ·
  obtain rfl := soI h
  exact kR ⟨ord4, [rV 35 [(204, (vI (y9.length : Int))), (205, vF)]], [], [], []⟩ [(12, ⟨[1, 4, 13], [], 0, [], []⟩, ⟨[], [], []⟩)] ordB_law_PpoWithin_L6 (rkE rfl neE) (fun z => (aL (eArr2 eI) y9 (aB hb1 z))) (by kernel_rfl)
 obtain ⟨xb2, gxb2, h⟩ := bindE h
 obtain ⟨xb3, gxb3, h⟩ := bindE h
 rcases iteN h with ⟨hb4, h⟩ | ⟨hb4, h⟩
 ·
  obtain rfl := soI h
  exact kR ⟨ord4, [rV 35 [(204, (vI (y9.length : Int))), (205, vT)], (37, ⟨[], [], [(210, [(vI xb2.e0), (vI xb2.e1)]), (215, [(vI xb3.e0), (vI xb3.e1)])], [(219, vF)], [], [], [], []⟩)], [], [], []⟩ [(0, ⟨[1, 4, 13, 14], [], 0, [], []⟩, ⟨[], [], []⟩)] ordB_law_PpoWithin_L6 rkN (fun z => (aL (eArr2 eI) y9 (aB hb1 (aI (at_map (eArr2 eI) gxb2 : at? (y9.map (eArr2 eI)) sb.1 = some [(vI xb2.e0), (vI xb2.e1)]) (aI (at_map (eArr2 eI) gxb3 : at? (y9.map (eArr2 eI)) sb.2 = some [(vI xb3.e0), (vI xb3.e1)]) (aB hb4 z)))))) (by kernel_rfl)
 obtain ⟨yb5, gyb5, h⟩ := bindE h
 rcases iteE h with ⟨hb6, h⟩ | ⟨hb6, h⟩
 ·
  obtain rfl := soI h
  exact kR ⟨ord4, [rV 35 [(204, (vI (y9.length : Int))), (205, vT)], (37, ⟨[], [], [(210, [(vI xb2.e0), (vI xb2.e1)]), (215, [(vI xb3.e0), (vI xb3.e1)]), (223, [(vI xb2.e0), (vI xb2.e1)]), (228, [(vI xb3.e0), (vI xb3.e1)])], [(219, vT), (233, vT)], [(231, .v (.bool yb5))], [], [], []⟩)], [], [], []⟩ [(1, ⟨[2], [1], 0, [], []⟩, ⟨[], [], []⟩)] ordB_law_PpoWithin_L6 (rkE rfl neR) (fun z => (aL (eArr2 eI) y9 (aB hb1 (aI (at_map (eArr2 eI) gxb2 : at? (y9.map (eArr2 eI)) sb.1 = some [(vI xb2.e0), (vI xb2.e1)]) (aI (at_map (eArr2 eI) gxb3 : at? (y9.map (eArr2 eI)) sb.2 = some [(vI xb3.e0), (vI xb3.e1)]) (aB hb4 (aI (at_map (eArr2 eI) gxb2 : at? (y9.map (eArr2 eI)) sb.1 = some [(vI xb2.e0), (vI xb2.e1)]) (aI (at_map (eArr2 eI) gxb3 : at? (y9.map (eArr2 eI)) sb.2 = some [(vI xb3.e0), (vI xb3.e1)]) (aI (ppo_Whole_sim n c xb2.e0 xb3.e1 yb5 gyb5) (aB hb6 z)))))))))) (by kernel_rfl)
 obtain rfl := soI h
 exact kR ⟨ord4, [rV 35 [(204, (vI (y9.length : Int))), (205, vT)], (37, ⟨[], [], [(210, [(vI xb2.e0), (vI xb2.e1)]), (215, [(vI xb3.e0), (vI xb3.e1)]), (223, [(vI xb2.e0), (vI xb2.e1)]), (228, [(vI xb3.e0), (vI xb3.e1)])], [(219, vT), (233, vF)], [(231, .v (.bool yb5))], [], [], []⟩)], [], [], []⟩ [(0, ⟨[1, 4, 13, 14], [], 0, [], []⟩, ⟨[], [], []⟩)] ordB_law_PpoWithin_L6 rkN (fun z => (aL (eArr2 eI) y9 (aB hb1 (aI (at_map (eArr2 eI) gxb2 : at? (y9.map (eArr2 eI)) sb.1 = some [(vI xb2.e0), (vI xb2.e1)]) (aI (at_map (eArr2 eI) gxb3 : at? (y9.map (eArr2 eI)) sb.2 = some [(vI xb3.e0), (vI xb3.e1)]) (aB hb4 (aI (at_map (eArr2 eI) gxb2 : at? (y9.map (eArr2 eI)) sb.1 = some [(vI xb2.e0), (vI xb2.e1)]) (aI (at_map (eArr2 eI) gxb3 : at? (y9.map (eArr2 eI)) sb.2 = some [(vI xb3.e0), (vI xb3.e1)]) (aI (ppo_Whole_sim n c xb2.e0 xb3.e1 yb5 gyb5) (aB hb6 z)))))))))) (by kernel_rfl)

theorem ordB_law_PpoWithin_L5 : ordB (polF 4) ord4 c_law_PpoWithin_L5 = true := by kernel_rfl
def law_PpoWithin_L5_S (c : Cand) (y9 : (List (Arr2 Int))) (sa : Int) : St := mkS 234 [(1, .ptr (.L 1) 0 0), (4, .sl (y9.map (eArr2 eI))), (13, (vI sa))] [(1, (Cand.enc c))] [] 0
def law_PpoWithin_L5_T0 (c : Cand) (y9 : (List (Arr2 Int))) (tt : Unit) : St := mkS 234 [] [] [] 0
def law_PpoWithin_L5_T1 (c : Cand) (y9 : (List (Arr2 Int))) (tt : Unit) : St := mkS 234 [(2, vF)] [] [] 0
def law_PpoWithin_L5_out (c : Cand) (y9 : (List (Arr2 Int))) (t0 : (Unit ⊕ Unit)) : Ex × St := match t0 with | .inl tt => (.ex 8, law_PpoWithin_L5_T0 c y9 tt) | .inr tt => (.ret, law_PpoWithin_L5_T1 c y9 tt)
theorem law_PpoWithin_L5_sim (n : Nat) (c : Cand) (y9 : (List (Arr2 Int))) : ∀ sa r, law_PpoWithin_L5 n c y9 sa = some r → CodeD Try.prog c_law_PpoWithin_L5 (law_PpoWithin_L5_S c y9 sa) (rk (law_PpoWithin_L5_S c y9) (law_PpoWithin_L5_out c y9) r) := by
 intro sa r h
 unfold law_PpoWithin_L5 at h
 rcases iteN h with ⟨ha1, h⟩ | ⟨ha1, h⟩
 ·
  obtain rfl := soI h
  exact kR ⟨ord4, [rV 32 [(198, (vI (y9.length : Int))), (199, vF)]], [], [], []⟩ [(10, ⟨[], [1], 0, [], []⟩, ⟨[], [], []⟩)] ordB_law_PpoWithin_L5 (rkE rfl neE) (fun z => (aL (eArr2 eI) y9 (aB ha1 z))) (by kernel_rfl)
 obtain ⟨ta2, gta2, h⟩ := bindE h
 rcases ta2 with wa3 | wa3
 ·
  obtain rfl := soI h
  exact kR ⟨ord4, [rV 32 [(198, (vI (y9.length : Int))), (199, vT)]], [], [(35, (⟨[1, 4, 13, 14], [], 0, [], []⟩, ⟨[], [], []⟩, (.ex 10), law_PpoWithin_L6_T0 c y9 wa3))], []⟩ [(0, ⟨[1, 4, 13], [], 0, [], []⟩, ⟨[], [], []⟩)] ordB_law_PpoWithin_L5 rkN (fun z => (aL (eArr2 eI) y9 (aB ha1 (aI (okL (pl := polF 4) (law_PpoWithin_L6_S c y9) (law_PpoWithin_L6_out c y9) (law_PpoWithin_L6_sim n c y9) n _ (.inl wa3) gta2) z)))) (by kernel_rfl)
 ·
  obtain rfl := soI h
  exact kR ⟨ord4, [rV 32 [(198, (vI (y9.length : Int))), (199, vT)]], [], [(35, (⟨[1, 4, 13, 14], [], 0, [], []⟩, ⟨[], [], []⟩, .ret, law_PpoWithin_L6_T1 c y9 wa3))], []⟩ [(1, ⟨[2], [], 0, [], []⟩, ⟨[], [], []⟩)] ordB_law_PpoWithin_L5 (rkE rfl neR) (fun z => (aL (eArr2 eI) y9 (aB ha1 (aI (okL (pl := polF 4) (law_PpoWithin_L6_S c y9) (law_PpoWithin_L6_out c y9) (law_PpoWithin_L6_sim n c y9) n _ (.inr wa3) gta2) z)))) (by kernel_rfl)

theorem law_PpoWithin_sim (n : Nat) (c : Cand) (r : Bool) (h : law_PpoWithin n c = some r) : PCall Try.prog 4 [(aAgg Cand.enc c)] (eqA (.v (.bool r))) := by
 unfold law_PpoWithin at h
 obtain ⟨y1, gy1, h⟩ := bindE h
 rcases iteE h with ⟨h2, h⟩ | ⟨h2, h⟩
 ·
  obtain rfl := soI h
  exact kP ⟨ord4, [rVC 1 [(16, vT)] [(15, .v (.bool y1))]], [], [], []⟩ ordB4 (fun z => (aI (law_lives_sim n y1 gy1) (aB h2 z))) (by kernel_rfl)
 obtain ⟨y3, gy3, h⟩ := bindE h
 rcases iteE h with ⟨h4, h⟩ | ⟨h4, h⟩
 ·
  obtain rfl := soI h
  exact kP ⟨ord4, [rVC 1 [(16, vF)] [(15, .v (.bool y1))], rVC 3 [(20, vT)] [(18, .v (.bool y3))]], [], [], []⟩ ordB4 (fun z => (aI (law_lives_sim n y1 gy1) (aB h2 (aI (kit_LightCand_sim n c 14 y3 gy3) (aB h4 z))))) (by kernel_rfl)
 obtain ⟨y5, gy5, h⟩ := bindE h
 rcases iteE h with ⟨h6, h⟩ | ⟨h6, h⟩
 ·
  obtain rfl := soI h
  exact kP ⟨ord4, [rVC 1 [(16, vF)] [(15, .v (.bool y1))], rVC 3 [(20, vF), (24, vT)] [(18, .v (.bool y3)), (22, (vI y5))]], [], [], []⟩ ordB4 (fun z => (aI (law_lives_sim n y1 gy1) (aB h2 (aI (kit_LightCand_sim n c 14 y3 gy3) (aB h4 (aI (ref_Check_sim n c y5 gy5) (aB h6 z))))))) (by kernel_rfl)
 obtain ⟨y7, gy7, h⟩ := bindE h
 obtain ⟨y8, gy8, h⟩ := bindE h
 obtain ⟨y9, gy9, h⟩ := bindE h
 obtain ⟨t10, gt10, h⟩ := bindE h
 rcases t10 with w11 | w11
 ·
  obtain ⟨t12, gt12, h⟩ := bindE h
  rcases t12 with w13 | w13
  ·
   obtain ⟨t14, gt14, h⟩ := bindE h
   rcases t14 with w15 | w15
   ·
    obtain rfl := soI h
    exact kP ⟨ord4, [rVC 1 [(16, vF)] [(15, .v (.bool y1))], rVC 3 [(20, vF), (24, vF)] [(18, .v (.bool y3)), (22, (vI y5))], rVC 5 [] [(26, .sl (y7.map Event.enc))], rVC 6 [] [(28, (aAgg Cand.enc y8)), (29, .sl (y9.map (eArr2 eI)))]], [], [(9, (⟨[1, 3, 4, 5, 6], [], 1, [], []⟩, ⟨[], [], []⟩, (.ex 0), law_PpoWithin_L1_T0 c y7 y9 w11)), (18, (⟨[1, 3, 4, 5, 9], [], 1, [], []⟩, ⟨[], [], []⟩, (.ex 2), law_PpoWithin_L2_T0 c y7 y9 w11 w13)), (32, (⟨[1, 4, 13], [], 0, [], []⟩, ⟨[], [], []⟩, (.ex 8), law_PpoWithin_L5_T0 c y9 w15))], []⟩ ordB4 (fun z => (aI (law_lives_sim n y1 gy1) (aB h2 (aI (kit_LightCand_sim n c 14 y3 gy3) (aB h4 (aI (ref_Check_sim n c y5 gy5) (aB h6 (aI (ref_All_sim n c y7 gy7) (aI (kit_OwnCand_sim n c y8 gy8) (aI (ppo_Pairs_sim n y8 y9 gy9) (aI (okL (pl := polF 4) (law_PpoWithin_L1_S c y7 y9) (law_PpoWithin_L1_out c y7 y9) (law_PpoWithin_L1_sim n c y7 y9) n _ (.inl w11) gt10) (aI (okL (pl := polF 4) (law_PpoWithin_L2_S c y7 y9 w11) (law_PpoWithin_L2_out c y7 y9 w11) (law_PpoWithin_L2_sim n c y7 y9 w11) n _ (.inl w13) gt12) (aI (okL (pl := polF 4) (law_PpoWithin_L5_S c y9) (law_PpoWithin_L5_out c y9) (law_PpoWithin_L5_sim n c y9) n _ (.inl w15) gt14) z))))))))))))) (by kernel_rfl)
   ·
    obtain rfl := soI h
    exact kP ⟨ord4, [rVC 1 [(16, vF)] [(15, .v (.bool y1))], rVC 3 [(20, vF), (24, vF)] [(18, .v (.bool y3)), (22, (vI y5))], rVC 5 [] [(26, .sl (y7.map Event.enc))], rVC 6 [] [(28, (aAgg Cand.enc y8)), (29, .sl (y9.map (eArr2 eI)))]], [], [(9, (⟨[1, 3, 4, 5, 6], [], 1, [], []⟩, ⟨[], [], []⟩, (.ex 0), law_PpoWithin_L1_T0 c y7 y9 w11)), (18, (⟨[1, 3, 4, 5, 9], [], 1, [], []⟩, ⟨[], [], []⟩, (.ex 2), law_PpoWithin_L2_T0 c y7 y9 w11 w13)), (32, (⟨[1, 4, 13], [], 0, [], []⟩, ⟨[], [], []⟩, .ret, law_PpoWithin_L5_T1 c y9 w15))], []⟩ ordB4 (fun z => (aI (law_lives_sim n y1 gy1) (aB h2 (aI (kit_LightCand_sim n c 14 y3 gy3) (aB h4 (aI (ref_Check_sim n c y5 gy5) (aB h6 (aI (ref_All_sim n c y7 gy7) (aI (kit_OwnCand_sim n c y8 gy8) (aI (ppo_Pairs_sim n y8 y9 gy9) (aI (okL (pl := polF 4) (law_PpoWithin_L1_S c y7 y9) (law_PpoWithin_L1_out c y7 y9) (law_PpoWithin_L1_sim n c y7 y9) n _ (.inl w11) gt10) (aI (okL (pl := polF 4) (law_PpoWithin_L2_S c y7 y9 w11) (law_PpoWithin_L2_out c y7 y9 w11) (law_PpoWithin_L2_sim n c y7 y9 w11) n _ (.inl w13) gt12) (aI (okL (pl := polF 4) (law_PpoWithin_L5_S c y9) (law_PpoWithin_L5_out c y9) (law_PpoWithin_L5_sim n c y9) n _ (.inr w15) gt14) z))))))))))))) (by kernel_rfl)
  ·
   obtain rfl := soI h
   exact kP ⟨ord4, [rVC 1 [(16, vF)] [(15, .v (.bool y1))], rVC 3 [(20, vF), (24, vF)] [(18, .v (.bool y3)), (22, (vI y5))], rVC 5 [] [(26, .sl (y7.map Event.enc))], rVC 6 [] [(28, (aAgg Cand.enc y8)), (29, .sl (y9.map (eArr2 eI)))]], [], [(9, (⟨[1, 3, 4, 5, 6], [], 1, [], []⟩, ⟨[], [], []⟩, (.ex 0), law_PpoWithin_L1_T0 c y7 y9 w11)), (18, (⟨[1, 3, 4, 5, 9], [], 1, [], []⟩, ⟨[], [], []⟩, .ret, law_PpoWithin_L2_T1 c y7 y9 w11 w13))], []⟩ ordB4 (fun z => (aI (law_lives_sim n y1 gy1) (aB h2 (aI (kit_LightCand_sim n c 14 y3 gy3) (aB h4 (aI (ref_Check_sim n c y5 gy5) (aB h6 (aI (ref_All_sim n c y7 gy7) (aI (kit_OwnCand_sim n c y8 gy8) (aI (ppo_Pairs_sim n y8 y9 gy9) (aI (okL (pl := polF 4) (law_PpoWithin_L1_S c y7 y9) (law_PpoWithin_L1_out c y7 y9) (law_PpoWithin_L1_sim n c y7 y9) n _ (.inl w11) gt10) (aI (okL (pl := polF 4) (law_PpoWithin_L2_S c y7 y9 w11) (law_PpoWithin_L2_out c y7 y9 w11) (law_PpoWithin_L2_sim n c y7 y9 w11) n _ (.inr w13) gt12) z)))))))))))) (by kernel_rfl)
 ·
  obtain rfl := soI h
  exact kP ⟨ord4, [rVC 1 [(16, vF)] [(15, .v (.bool y1))], rVC 3 [(20, vF), (24, vF)] [(18, .v (.bool y3)), (22, (vI y5))], rVC 5 [] [(26, .sl (y7.map Event.enc))], rVC 6 [] [(28, (aAgg Cand.enc y8)), (29, .sl (y9.map (eArr2 eI)))]], [], [(9, (⟨[1, 3, 4, 5, 6], [], 1, [], []⟩, ⟨[], [], []⟩, .ret, law_PpoWithin_L1_T1 c y7 y9 w11))], []⟩ ordB4 (fun z => (aI (law_lives_sim n y1 gy1) (aB h2 (aI (kit_LightCand_sim n c 14 y3 gy3) (aB h4 (aI (ref_Check_sim n c y5 gy5) (aB h6 (aI (ref_All_sim n c y7 gy7) (aI (kit_OwnCand_sim n c y8 gy8) (aI (ppo_Pairs_sim n y8 y9 gy9) (aI (okL (pl := polF 4) (law_PpoWithin_L1_S c y7 y9) (law_PpoWithin_L1_out c y7 y9) (law_PpoWithin_L1_sim n c y7 y9) n _ (.inr w11) gt10) z))))))))))) (by kernel_rfl)

end
end Go.Proofs.Ytigcbjbaibcgfaa
