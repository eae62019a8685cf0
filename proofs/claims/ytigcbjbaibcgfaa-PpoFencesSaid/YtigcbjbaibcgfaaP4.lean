/- What the functions compute, they compute: printed by a program, path by path. No conditions. -/
import Derived.Test.YtigcbjbaibcgfaaP3
import Derived.KernelRfl
namespace Go.Proofs.Ytigcbjbaibcgfaa
open Go A
set_option linter.unusedVariables false
set_option maxRecDepth 100000
set_option maxHeartbeats 0
section
variable (pc : Nat → List AV → (AV → Prop) → Prop) (sc : Nat → List AV → List Ob → (AV → List Ob → Prop) → Prop) (lp : Pol → Code → St → (Ex → St → Prop) → Prop) (cd : CutP)

def ord5 : List (Nat × PT) := [(12, (ptS [0, 1, 2, 3, 4, 5, 6, 7, 8, 9, 10, 11, 12, 13, 14])), (21, (ptS [0, 1, 2, 3, 4, 5, 6, 7, 8, 9, 10, 11, 12, 13, 14, 15, 16, 17, 18, 19, 20, 21, 22, 23, 24, 25, 26, 27, 28, 29, 30, 31]))]
theorem ordB5 : ordB (polF 5) ord5 (bodyOf Try.prog 5) = true := by kernel_rfl
noncomputable def c_law_PpoFences_L1 : Code := sub (bodyOf Try.prog 5) [1, 1, 1, 1, 1, 1, 0, 1, 0, 0]
noncomputable def c_law_PpoFences_L2 : Code := sub (bodyOf Try.prog 5) [1, 1, 1, 1, 1, 1, 1, 1, 0, 1, 0, 0]
noncomputable def c_law_PpoFences_L3 : Code := sub c_law_PpoFences_L2 [1, 0, 0, 1, 0, 0]
theorem ordB_law_PpoFences_L1 : ordB (polF 5) ord5 c_law_PpoFences_L1 = true := by kernel_rfl
def law_PpoFences_L1_S (y7 : Cand) (y10 : (List (Arr2 Int))) (sa : Int) : St := mkS 97 [(3, .ptr (.L 3) 0 0), (4, .sl (y10.map (eArr2 eI))), (5, (vI sa))] [(3, (Cand.enc y7))] [] 0
def law_PpoFences_L1_T0 (y7 : Cand) (y10 : (List (Arr2 Int))) (tt : Unit) : St := mkS 97 [(3, .ptr (.L 3) 0 0)] [(3, (Cand.enc y7))] [] 0
def law_PpoFences_L1_T1 (y7 : Cand) (y10 : (List (Arr2 Int))) (tt : Unit) : St := mkS 97 [(2, vF)] [] [] 0
def law_PpoFences_L1_out (y7 : Cand) (y10 : (List (Arr2 Int))) (t0 : (Unit ⊕ Unit)) : Ex × St := match t0 with | .inl tt => (.ex 0, law_PpoFences_L1_T0 y7 y10 tt) | .inr tt => (.ret, law_PpoFences_L1_T1 y7 y10 tt)
theorem law_PpoFences_L1_sim (n : Nat) (y7 : Cand) (y10 : (List (Arr2 Int))) : ∀ sa r, law_PpoFences_L1 n y7 y10 sa = some r → CodeD Try.prog c_law_PpoFences_L1 (law_PpoFences_L1_S y7 y10 sa) (rk (law_PpoFences_L1_S y7 y10) (law_PpoFences_L1_out y7 y10) r) := by
 intro sa r h
 unfold law_PpoFences_L1 at h
 rcases iteN h with ⟨ha1, h⟩ | ⟨ha1, h⟩
 ·
  obtain rfl := soI h
  exact kR ⟨ord5, [rV 10 [(28, (vI (y10.length : Int))), (29, vF)]], [], [], []⟩ [(2, ⟨[3], [], 0, [], [], []⟩, ⟨[], [], []⟩)] ordB_law_PpoFences_L1 (rkE rfl neE) (fun z => (aL (eArr2 eI) y10 (aB ha1 z))) (by kernel_rfl)
 obtain ⟨xa2, gxa2, h⟩ := bindE h
 obtain ⟨ya3, gya3, h⟩ := bindE h
 rcases iteN h with ⟨ha4, h⟩ | ⟨ha4, h⟩
 ·
  obtain rfl := soI h
  exact kR ⟨ord5, [rV 10 [(28, (vI (y10.length : Int))), (29, vT)], (12, ⟨[], [], [(35, [(vI xa2.e0), (vI xa2.e1)]), (41, [(vI xa2.e0), (vI xa2.e1)])], [(46, vF)], [(45, (vI ya3))], [], [], []⟩)], [], [], []⟩ [(0, ⟨[3, 4, 5], [], 0, [], [], []⟩, ⟨[], [], []⟩)] ordB_law_PpoFences_L1 rkN (fun z => (aL (eArr2 eI) y10 (aB ha1 (aI (at_map (eArr2 eI) gxa2 : at? (y10.map (eArr2 eI)) sa = some [(vI xa2.e0), (vI xa2.e1)]) (aI (at_map (eArr2 eI) gxa2 : at? (y10.map (eArr2 eI)) sa = some [(vI xa2.e0), (vI xa2.e1)]) (aI (ppo_Rule_sim n y7 (mulW .i64 2 xa2.e0) (mulW .i64 2 xa2.e1) ya3 gya3) (aB ha4 z))))))) (by kernel_rfl)
 obtain rfl := soI h
 exact kR ⟨ord5, [rV 10 [(28, (vI (y10.length : Int))), (29, vT)], (12, ⟨[], [], [(35, [(vI xa2.e0), (vI xa2.e1)]), (41, [(vI xa2.e0), (vI xa2.e1)])], [(46, vT)], [(45, (vI ya3))], [], [], []⟩)], [], [], []⟩ [(1, ⟨[2], [3], 0, [], [], []⟩, ⟨[], [], []⟩)] ordB_law_PpoFences_L1 (rkE rfl neR) (fun z => (aL (eArr2 eI) y10 (aB ha1 (aI (at_map (eArr2 eI) gxa2 : at? (y10.map (eArr2 eI)) sa = some [(vI xa2.e0), (vI xa2.e1)]) (aI (at_map (eArr2 eI) gxa2 : at? (y10.map (eArr2 eI)) sa = some [(vI xa2.e0), (vI xa2.e1)]) (aI (ppo_Rule_sim n y7 (mulW .i64 2 xa2.e0) (mulW .i64 2 xa2.e1) ya3 gya3) (aB ha4 z))))))) (by kernel_rfl)

theorem ordB_law_PpoFences_L3 : ordB (polF 5) ord5 c_law_PpoFences_L3 = true := by kernel_rfl
def law_PpoFences_L3_S (y7 : Cand) (y13 : (List Event)) (sb : Int × Int) : St := mkS 97 [(3, .ptr (.L 3) 0 0), (6, .sl (y13.map Event.enc)), (7, (vI sb.1)), (8, (vI sb.2))] [(3, (Cand.enc y7))] [] 0
def law_PpoFences_L3_T0 (y7 : Cand) (y13 : (List Event)) (tt : Int) : St := mkS 97 [(3, .ptr (.L 3) 0 0), (6, .sl (y13.map Event.enc)), (7, (vI tt))] [(3, (Cand.enc y7))] [] 0
def law_PpoFences_L3_T1 (y7 : Cand) (y13 : (List Event)) (tt : Unit) : St := mkS 97 [(2, vF)] [] [] 0
def law_PpoFences_L3_out (y7 : Cand) (y13 : (List Event)) (t0 : (Int ⊕ Unit)) : Ex × St := match t0 with | .inl tt => (.ex 4, law_PpoFences_L3_T0 y7 y13 tt) | .inr tt => (.ret, law_PpoFences_L3_T1 y7 y13 tt)
theorem law_PpoFences_L3_sim (n : Nat) (y7 : Cand) (y13 : (List Event)) : ∀ sb r, law_PpoFences_L3 n y7 y13 sb = some r → CodeD Try.prog c_law_PpoFences_L3 (law_PpoFences_L3_S y7 y13 sb) (rk (law_PpoFences_L3_S y7 y13) (law_PpoFences_L3_out y7 y13) r) := by
 intro sb r h
 unfold law_PpoFences_L3 at h
 rcases iteN h with ⟨hb1, h⟩ | ⟨hb1, h⟩
 ·
  obtain rfl := soI h
  exact kR ⟨ord5, [rV 19 [(59, (vI (y13.length : Int))), (60, vF)]], [], [], []⟩ [(6, ⟨[3, 6, 7], [], 0, [], [], []⟩, ⟨[], [], []⟩)] ordB_law_PpoFences_L3 (rkE rfl neE) (fun z => (aL Event.enc y13 (aB hb1 z))) (by kernel_rfl)
 obtain ⟨xb2, gxb2, h⟩ := bindE h
 obtain ⟨xb3, gxb3, h⟩ := bindE h
 rcases iteN h with ⟨hb4, h⟩ | ⟨hb4, h⟩
 ·
  obtain rfl := soI h
  exact kR ⟨ord5, [rV 19 [(59, (vI (y13.length : Int))), (60, vT)], (21, ⟨[], [], [(65, (Event.enc xb2)), (70, (Event.enc xb3))], [(74, vF)], [], [], [], []⟩)], [], [], []⟩ [(0, ⟨[3, 6, 7, 8], [], 0, [], [], []⟩, ⟨[], [], []⟩)] ordB_law_PpoFences_L3 rkN (fun z => (aL Event.enc y13 (aB hb1 (aM Event.enc gxb2 (aM Event.enc gxb3 (aB hb4 z)))))) (by kernel_rfl)
 obtain ⟨yb5, gyb5, h⟩ := bindE h
 rcases iteN h with ⟨hb6, h⟩ | ⟨hb6, h⟩
 ·
  obtain rfl := soI h
  exact kR ⟨ord5, [rV 19 [(59, (vI (y13.length : Int))), (60, vT)], (21, ⟨[], [], [(65, (Event.enc xb2)), (70, (Event.enc xb3)), (77, (Event.enc xb2))], [(74, vT), (81, vF)], [(79, .v (.bool yb5))], [], [], []⟩)], [], [], []⟩ [(0, ⟨[3, 6, 7, 8], [], 0, [], [], []⟩, ⟨[], [], []⟩)] ordB_law_PpoFences_L3 rkN (fun z => (aL Event.enc y13 (aB hb1 (aM Event.enc gxb2 (aM Event.enc gxb3 (aB hb4 (aM Event.enc gxb2 (aI (ref_Memory_sim n xb2 yb5 gyb5) (aB hb6 z))))))))) (by kernel_rfl)
 obtain ⟨yb7, gyb7, h⟩ := bindE h
 rcases iteN h with ⟨hb8, h⟩ | ⟨hb8, h⟩
 ·
  obtain rfl := soI h
  exact kR ⟨ord5, [rV 19 [(59, (vI (y13.length : Int))), (60, vT)], (21, ⟨[], [], [(65, (Event.enc xb2)), (70, (Event.enc xb3)), (77, (Event.enc xb2)), (84, (Event.enc xb3))], [(74, vT), (81, vT), (88, vF)], [(79, .v (.bool yb5)), (86, .v (.bool yb7))], [], [], []⟩)], [], [], []⟩ [(0, ⟨[3, 6, 7, 8], [], 0, [], [], []⟩, ⟨[], [], []⟩)] ordB_law_PpoFences_L3 rkN (fun z => (aL Event.enc y13 (aB hb1 (aM Event.enc gxb2 (aM Event.enc gxb3 (aB hb4 (aM Event.enc gxb2 (aI (ref_Memory_sim n xb2 yb5 gyb5) (aB hb6 (aM Event.enc gxb3 (aI (ref_Memory_sim n xb3 yb7 gyb7) (aB hb8 z)))))))))))) (by kernel_rfl)
 obtain ⟨yb9, gyb9, h⟩ := bindE h
 rcases iteN h with ⟨hb10, h⟩ | ⟨hb10, h⟩
 ·
  obtain rfl := soI h
  exact kR ⟨ord5, [rV 19 [(59, (vI (y13.length : Int))), (60, vT)], (21, ⟨[], [], [(65, (Event.enc xb2)), (70, (Event.enc xb3)), (77, (Event.enc xb2)), (84, (Event.enc xb3))], [(74, vT), (81, vT), (88, vT), (94, vF)], [(79, .v (.bool yb5)), (86, .v (.bool yb7)), (92, .v (.bool yb9))], [], [], []⟩)], [], [], []⟩ [(0, ⟨[3, 6, 7, 8], [], 0, [], [], []⟩, ⟨[], [], []⟩)] ordB_law_PpoFences_L3 rkN (fun z => (aL Event.enc y13 (aB hb1 (aM Event.enc gxb2 (aM Event.enc gxb3 (aB hb4 (aM Event.enc gxb2 (aI (ref_Memory_sim n xb2 yb5 gyb5) (aB hb6 (aM Event.enc gxb3 (aI (ref_Memory_sim n xb3 yb7 gyb7) (aB hb8 (aI (ppo_Whole_sim n y7 sb.1 sb.2 yb9 gyb9) (aB hb10 z)))))))))))))) (by kernel_rfl)
 obtain rfl := soI h
 exact kR ⟨ord5, [rV 19 [(59, (vI (y13.length : Int))), (60, vT)], (21, ⟨[], [], [(65, (Event.enc xb2)), (70, (Event.enc xb3)), (77, (Event.enc xb2)), (84, (Event.enc xb3))], [(74, vT), (81, vT), (88, vT), (94, vT)], [(79, .v (.bool yb5)), (86, .v (.bool yb7)), (92, .v (.bool yb9))], [], [], []⟩)], [], [], []⟩ [(1, ⟨[2], [3], 0, [], [], []⟩, ⟨[], [], []⟩)] ordB_law_PpoFences_L3 (rkE rfl neR) (fun z => (aL Event.enc y13 (aB hb1 (aM Event.enc gxb2 (aM Event.enc gxb3 (aB hb4 (aM Event.enc gxb2 (aI (ref_Memory_sim n xb2 yb5 gyb5) (aB hb6 (aM Event.enc gxb3 (aI (ref_Memory_sim n xb3 yb7 gyb7) (aB hb8 (aI (ppo_Whole_sim n y7 sb.1 sb.2 yb9 gyb9) (aB hb10 z)))))))))))))) (by kernel_rfl)

theorem ordB_law_PpoFences_L2 : ordB (polF 5) ord5 c_law_PpoFences_L2 = true := by kernel_rfl
def law_PpoFences_L2_S (y7 : Cand) (y13 : (List Event)) (sa : Int) : St := mkS 97 [(3, .ptr (.L 3) 0 0), (6, .sl (y13.map Event.enc)), (7, (vI sa))] [(3, (Cand.enc y7))] [] 0
def law_PpoFences_L2_T0 (y7 : Cand) (y13 : (List Event)) (tt : Unit) : St := mkS 97 [(3, .ptr (.L 3) 0 0)] [(3, (Cand.enc y7))] [] 0
def law_PpoFences_L2_T1 (y7 : Cand) (y13 : (List Event)) (tt : Unit) : St := mkS 97 [(2, vF)] [] [] 0
def law_PpoFences_L2_out (y7 : Cand) (y13 : (List Event)) (t0 : (Unit ⊕ Unit)) : Ex × St := match t0 with | .inl tt => (.ex 2, law_PpoFences_L2_T0 y7 y13 tt) | .inr tt => (.ret, law_PpoFences_L2_T1 y7 y13 tt)
theorem law_PpoFences_L2_sim (n : Nat) (y7 : Cand) (y13 : (List Event)) : ∀ sa r, law_PpoFences_L2 n y7 y13 sa = some r → CodeD Try.prog c_law_PpoFences_L2 (law_PpoFences_L2_S y7 y13 sa) (rk (law_PpoFences_L2_S y7 y13) (law_PpoFences_L2_out y7 y13) r) := by
 intro sa r h
 unfold law_PpoFences_L2 at h
 rcases iteN h with ⟨ha1, h⟩ | ⟨ha1, h⟩
 ·
  obtain rfl := soI h
  exact kR ⟨ord5, [rV 16 [(51, (vI (y13.length : Int))), (52, vF)]], [], [], []⟩ [(4, ⟨[3], [], 0, [], [], []⟩, ⟨[], [], []⟩)] ordB_law_PpoFences_L2 (rkE rfl neE) (fun z => (aL Event.enc y13 (aB ha1 z))) (by kernel_rfl)
 obtain ⟨ta2, gta2, h⟩ := bindE h
 rcases ta2 with wa3 | wa3
 ·
  obtain rfl := soI h
  exact kR ⟨ord5, [rV 16 [(51, (vI (y13.length : Int))), (52, vT)]], [], [(19, (⟨[3, 6, 7, 8], [], 0, [], [], []⟩, ⟨[], [], []⟩, (.ex 4), law_PpoFences_L3_T0 y7 y13 wa3))], []⟩ [(0, ⟨[3, 6, 7], [], 0, [], [], []⟩, ⟨[], [], []⟩)] ordB_law_PpoFences_L2 rkN (fun z => (aL Event.enc y13 (aB ha1 (aI (okL (pl := polF 5) (law_PpoFences_L3_S y7 y13) (law_PpoFences_L3_out y7 y13) (law_PpoFences_L3_sim n y7 y13) n _ (.inl wa3) gta2) z)))) (by kernel_rfl)
 ·
  obtain rfl := soI h
  exact kR ⟨ord5, [rV 16 [(51, (vI (y13.length : Int))), (52, vT)]], [], [(19, (⟨[3, 6, 7, 8], [], 0, [], [], []⟩, ⟨[], [], []⟩, .ret, law_PpoFences_L3_T1 y7 y13 wa3))], []⟩ [(1, ⟨[2], [], 0, [], [], []⟩, ⟨[], [], []⟩)] ordB_law_PpoFences_L2 (rkE rfl neR) (fun z => (aL Event.enc y13 (aB ha1 (aI (okL (pl := polF 5) (law_PpoFences_L3_S y7 y13) (law_PpoFences_L3_out y7 y13) (law_PpoFences_L3_sim n y7 y13) n _ (.inr wa3) gta2) z)))) (by kernel_rfl)

theorem law_PpoFences_sim (n : Nat) (c : Cand) (r : Bool) (h : law_PpoFences n c = some r) : PCall Try.prog 5 [(aAgg Cand.enc c)] (eqA (.v (.bool r))) := by
 unfold law_PpoFences at h
 obtain ⟨y1, gy1, h⟩ := bindE h
 rcases iteE h with ⟨h2, h⟩ | ⟨h2, h⟩
 ·
  obtain rfl := soI h
  exact kP ⟨ord5, [rVC 1 [(10, vT)] [(9, .v (.bool y1))]], [], [], []⟩ ordB5 (fun z => (aI (law_lives_sim n y1 gy1) (aB h2 z))) (by kernel_rfl)
 obtain ⟨y3, gy3, h⟩ := bindE h
 rcases iteE h with ⟨h4, h⟩ | ⟨h4, h⟩
 ·
  obtain rfl := soI h
  exact kP ⟨ord5, [rVC 1 [(10, vF)] [(9, .v (.bool y1))], rVC 3 [(14, vT)] [(12, .v (.bool y3))]], [], [], []⟩ ordB5 (fun z => (aI (law_lives_sim n y1 gy1) (aB h2 (aI (kit_LightCand_sim n c 30 y3 gy3) (aB h4 z))))) (by kernel_rfl)
 obtain ⟨y5, gy5, h⟩ := bindE h
 rcases iteE h with ⟨h6, h⟩ | ⟨h6, h⟩
 ·
  obtain rfl := soI h
  exact kP ⟨ord5, [rVC 1 [(10, vF)] [(9, .v (.bool y1))], rVC 3 [(14, vF), (18, vT)] [(12, .v (.bool y3)), (16, (vI y5))]], [], [], []⟩ ordB5 (fun z => (aI (law_lives_sim n y1 gy1) (aB h2 (aI (kit_LightCand_sim n c 30 y3 gy3) (aB h4 (aI (ref_Check_sim n c y5 gy5) (aB h6 z))))))) (by kernel_rfl)
 obtain ⟨y7, gy7, h⟩ := bindE h
 obtain ⟨y8, gy8, h⟩ := bindE h
 rcases iteE h with ⟨h9, h⟩ | ⟨h9, h⟩
 ·
  obtain rfl := soI h
  exact kP ⟨ord5, [rVC 1 [(10, vF)] [(9, .v (.bool y1))], rVC 3 [(14, vF), (18, vF)] [(12, .v (.bool y3)), (16, (vI y5))], rVC 5 [] [(20, (aAgg Cand.enc y7))], rVC 6 [(23, vT)] [(22, (vI y8))]], [], [], []⟩ ordB5 (fun z => (aI (law_lives_sim n y1 gy1) (aB h2 (aI (kit_LightCand_sim n c 30 y3 gy3) (aB h4 (aI (ref_Check_sim n c y5 gy5) (aB h6 (aI (law_spread_sim n c y7 gy7) (aI (ref_Check_sim n y7 y8 gy8) (aB h9 z)))))))))) (by kernel_rfl)
 obtain ⟨y10, gy10, h⟩ := bindE h
 obtain ⟨t11, gt11, h⟩ := bindE h
 rcases t11 with w12 | w12
 ·
  obtain ⟨y13, gy13, h⟩ := bindE h
  obtain ⟨t14, gt14, h⟩ := bindE h
  rcases t14 with w15 | w15
  ·
   obtain ⟨y16, gy16, h⟩ := bindE h
   obtain rfl := soI h
   exact kP ⟨ord5, [rVC 1 [(10, vF)] [(9, .v (.bool y1))], rVC 3 [(14, vF), (18, vF)] [(12, .v (.bool y3)), (16, (vI y5))], rVC 5 [] [(20, (aAgg Cand.enc y7))], rVC 6 [(23, vF)] [(22, (vI y8))], rVC 8 [] [(25, .sl (y10.map (eArr2 eI)))], rVC 14 [] [(48, .sl (y13.map Event.enc))], rVC 23 [] [(96, .v (.bool y16))]], [], [(10, (⟨[3, 4, 5], [1], 0, [], [], []⟩, ⟨[], [], []⟩, (.ex 0), law_PpoFences_L1_T0 y7 y10 w12)), (16, (⟨[3, 6, 7], [], 0, [], [], []⟩, ⟨[], [], []⟩, (.ex 2), law_PpoFences_L2_T0 y7 y13 w15))], []⟩ ordB5 (fun z => (aI (law_lives_sim n y1 gy1) (aB h2 (aI (kit_LightCand_sim n c 30 y3 gy3) (aB h4 (aI (ref_Check_sim n c y5 gy5) (aB h6 (aI (law_spread_sim n c y7 gy7) (aI (ref_Check_sim n y7 y8 gy8) (aB h9 (aI (ppo_Pairs_sim n c y10 gy10) (aI (okL (pl := polF 5) (law_PpoFences_L1_S y7 y10) (law_PpoFences_L1_out y7 y10) (law_PpoFences_L1_sim n y7 y10) n _ (.inl w12) gt11) (aI (ref_All_sim n y7 y13 gy13) (aI (okL (pl := polF 5) (law_PpoFences_L2_S y7 y13) (law_PpoFences_L2_out y7 y13) (law_PpoFences_L2_sim n y7 y13) n _ (.inl w15) gt14) (aI (ppo_Full_sim n y7 y16 gy16) z))))))))))))))) (by kernel_rfl)
  ·
   obtain rfl := soI h
   exact kP ⟨ord5, [rVC 1 [(10, vF)] [(9, .v (.bool y1))], rVC 3 [(14, vF), (18, vF)] [(12, .v (.bool y3)), (16, (vI y5))], rVC 5 [] [(20, (aAgg Cand.enc y7))], rVC 6 [(23, vF)] [(22, (vI y8))], rVC 8 [] [(25, .sl (y10.map (eArr2 eI)))], rVC 14 [] [(48, .sl (y13.map Event.enc))]], [], [(10, (⟨[3, 4, 5], [1], 0, [], [], []⟩, ⟨[], [], []⟩, (.ex 0), law_PpoFences_L1_T0 y7 y10 w12)), (16, (⟨[3, 6, 7], [], 0, [], [], []⟩, ⟨[], [], []⟩, .ret, law_PpoFences_L2_T1 y7 y13 w15))], []⟩ ordB5 (fun z => (aI (law_lives_sim n y1 gy1) (aB h2 (aI (kit_LightCand_sim n c 30 y3 gy3) (aB h4 (aI (ref_Check_sim n c y5 gy5) (aB h6 (aI (law_spread_sim n c y7 gy7) (aI (ref_Check_sim n y7 y8 gy8) (aB h9 (aI (ppo_Pairs_sim n c y10 gy10) (aI (okL (pl := polF 5) (law_PpoFences_L1_S y7 y10) (law_PpoFences_L1_out y7 y10) (law_PpoFences_L1_sim n y7 y10) n _ (.inl w12) gt11) (aI (ref_All_sim n y7 y13 gy13) (aI (okL (pl := polF 5) (law_PpoFences_L2_S y7 y13) (law_PpoFences_L2_out y7 y13) (law_PpoFences_L2_sim n y7 y13) n _ (.inr w15) gt14) z)))))))))))))) (by kernel_rfl)
 ·
  obtain rfl := soI h
  exact kP ⟨ord5, [rVC 1 [(10, vF)] [(9, .v (.bool y1))], rVC 3 [(14, vF), (18, vF)] [(12, .v (.bool y3)), (16, (vI y5))], rVC 5 [] [(20, (aAgg Cand.enc y7))], rVC 6 [(23, vF)] [(22, (vI y8))], rVC 8 [] [(25, .sl (y10.map (eArr2 eI)))]], [], [(10, (⟨[3, 4, 5], [1], 0, [], [], []⟩, ⟨[], [], []⟩, .ret, law_PpoFences_L1_T1 y7 y10 w12))], []⟩ ordB5 (fun z => (aI (law_lives_sim n y1 gy1) (aB h2 (aI (kit_LightCand_sim n c 30 y3 gy3) (aB h4 (aI (ref_Check_sim n c y5 gy5) (aB h6 (aI (law_spread_sim n c y7 gy7) (aI (ref_Check_sim n y7 y8 gy8) (aB h9 (aI (ppo_Pairs_sim n c y10 gy10) (aI (okL (pl := polF 5) (law_PpoFences_L1_S y7 y10) (law_PpoFences_L1_out y7 y10) (law_PpoFences_L1_sim n y7 y10) n _ (.inr w12) gt11) z)))))))))))) (by kernel_rfl)

end
end Go.Proofs.Ytigcbjbaibcgfaa
