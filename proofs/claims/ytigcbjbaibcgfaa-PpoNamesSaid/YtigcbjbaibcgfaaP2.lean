/- What the functions compute, they compute: printed by a program, path by path. No conditions. -/
import Derived.Test.YtigcbjbaibcgfaaP1
import Derived.KernelRfl
namespace Go.Proofs.Ytigcbjbaibcgfaa
open Go A
set_option linter.unusedVariables false
set_option maxRecDepth 100000
set_option maxHeartbeats 0
section
variable (pc : Nat → List AV → (AV → Prop) → Prop) (sc : Nat → List AV → List Ob → (AV → List Ob → Prop) → Prop) (lp : Pol → Code → St → (Ex → St → Prop) → Prop) (cd : CutP)

def ord44 : List (Nat × PT) := []
theorem ordB44 : ordB (polF 44) ord44 (bodyOf Try.prog 44) = true := by kernel_rfl
noncomputable def c_slices_Concat_api_Event_api_Event_L1 : Code := sub (bodyOf Try.prog 44) [1, 1, 0, 1, 0, 0]
noncomputable def c_slices_Concat_api_Event_api_Event_L2 : Code := sub (bodyOf Try.prog 44) [1, 1, 1, 1, 0, 1, 0, 0]
noncomputable def c_slices_Concat_api_Event_api_Event_L3 : Code := sub (bodyOf Try.prog 44) [1, 1, 1, 1, 0, 1, 0, 0]
theorem ordB_slices_Concat_api_Event_api_Event_L1 : ordB (polF 44) ord44 c_slices_Concat_api_Event_api_Event_L1 = true := by kernel_rfl
def slices_Concat_api_Event_api_Event_L1_S (slices : (List (List Event))) (sa : Int × Int) : St := mkS 36 [(0, .sl (slices.map (eSl Event.enc))), (3, (vI sa.2)), (9, .sl (slices.map (eSl Event.enc))), (10, (vI (slices.length : Int))), (11, (vI sa.1))] [] [] 0
def slices_Concat_api_Event_api_Event_L1_T0 (slices : (List (List Event))) (tt : Int) : St := mkS 36 [(0, .sl (slices.map (eSl Event.enc))), (3, (vI tt))] [] [] 0
def slices_Concat_api_Event_api_Event_L1_out (slices : (List (List Event))) (tt : Int) : Ex × St := (.ex 0, slices_Concat_api_Event_api_Event_L1_T0 slices tt)
theorem slices_Concat_api_Event_api_Event_L1_p1 (slices : (List (List Event))) (sa : Int × Int) (xa2 : (List Event)) (K : Ex → St → Prop) : oR pc sc lp cd ⟨ord44, [rV 3 [(12, vT)], (4, ⟨[], [], [(13, [.sl (xa2.map Event.enc)])], [], [], [], [], []⟩), rV 5 [(17, (vI (xa2.length : Int)))], rV 6 [(20, vF)]], [], [], []⟩ (polF 44) [(0, ⟨[0, 3, 9, 10, 11], [], 0, [], []⟩, ⟨[], [], []⟩)] c_slices_Concat_api_Event_api_Event_L1 (slices_Concat_api_Event_api_Event_L1_S slices sa) K
  = ((eqB (decide (sa.1 < (slices.length : Int))) true) ∧ (at? (slices.map (eSl Event.enc)) sa.1 = some [.sl (xa2.map Event.enc)]) ∧ (AV.v (.int .i64 (((xa2.map Event.enc).length : Nat) : Int)) = AV.v (.int .i64 (xa2.length : Int))) ∧ (eqB (decide ((addW .i64 sa.2 (xa2.length : Int)) < 0)) false) ∧ K .nrm (slices_Concat_api_Event_api_Event_L1_S slices ((addW .i64 sa.1 1), (addW .i64 sa.2 (xa2.length : Int))))) := by kernel_rfl
theorem slices_Concat_api_Event_api_Event_L1_p2 (slices : (List (List Event))) (sa : Int × Int) (K : Ex → St → Prop) : oR pc sc lp cd ⟨ord44, [rV 3 [(12, vF)]], [], [], []⟩ (polF 44) [(2, ⟨[0, 3], [], 0, [], []⟩, ⟨[], [], []⟩)] c_slices_Concat_api_Event_api_Event_L1 (slices_Concat_api_Event_api_Event_L1_S slices sa) K
  = ((eqB (decide (sa.1 < (slices.length : Int))) false) ∧ K (.ex 0) (slices_Concat_api_Event_api_Event_L1_T0 slices sa.2)) := by kernel_rfl
theorem slices_Concat_api_Event_api_Event_L1_sim (n : Nat) (slices : (List (List Event))) : ∀ sa r, slices_Concat_api_Event_api_Event_L1 n slices sa = some r → CodeD Try.prog c_slices_Concat_api_Event_api_Event_L1 (slices_Concat_api_Event_api_Event_L1_S slices sa) (rk (slices_Concat_api_Event_api_Event_L1_S slices) (slices_Concat_api_Event_api_Event_L1_out slices) r) := by
 intro sa r h
 unfold slices_Concat_api_Event_api_Event_L1 at h
 rcases iteN h with ⟨ha1, h⟩ | ⟨ha1, h⟩
 ·
  obtain rfl := soI h
  exact okR ordB_slices_Concat_api_Event_api_Event_L1 (Eq.mpr (slices_Concat_api_Event_api_Event_L1_p2 pP sP lP dP slices sa _) ⟨cB ha1, ⟨rfl, rfl⟩⟩) (rkE rfl neE)
 obtain ⟨xa2, gxa2, h⟩ := bindE h
 rcases iteE h with ⟨ha3, h⟩ | ⟨ha3, h⟩
 ·
  cases h
 obtain rfl := soI h
 exact okR ordB_slices_Concat_api_Event_api_Event_L1 (Eq.mpr (slices_Concat_api_Event_api_Event_L1_p1 pP sP lP dP slices sa xa2 _) ⟨cB ha1, at_map (eSl Event.enc) gxa2, len_map _ _, cB ha3, ⟨rfl, rfl⟩⟩) rkN

theorem ordB_slices_Concat_api_Event_api_Event_L2 : ordB (polF 44) ord44 c_slices_Concat_api_Event_api_Event_L2 = true := by kernel_rfl
def slices_Concat_api_Event_api_Event_L2_S (slices : (List (List Event))) (wa3 : Nat × Nat × Nat × (List Event)) (sa : Nat × Nat × (List Event) × Int) : St := mkS 36 [(6, .msl 0 wa3.1 sa.1 sa.2.1), (25, .sl (slices.map (eSl Event.enc))), (26, (vI (slices.length : Int))), (27, (vI sa.2.2.2))] [] [.arr true 14 (sa.2.2.1.map Event.enc)] 0
def slices_Concat_api_Event_api_Event_L2_T0 (slices : (List (List Event))) (wa3 : Nat × Nat × Nat × (List Event)) (tt : Nat × Nat × (List Event)) : St := mkS 36 [(6, .msl 0 wa3.1 tt.1 tt.2.1)] [] [.arr true 14 (tt.2.2.map Event.enc)] 0
def slices_Concat_api_Event_api_Event_L2_out (slices : (List (List Event))) (wa3 : Nat × Nat × Nat × (List Event)) (tt : (Nat × Nat × (List Event))) : Ex × St := (.ex 2, slices_Concat_api_Event_api_Event_L2_T0 slices wa3 tt)
theorem slices_Concat_api_Event_api_Event_L2_p0 (slices : (List (List Event))) (wa3 : Nat × Nat × Nat × (List Event)) (sa : Nat × Nat × (List Event) × Int) (xa2 : (List Event)) (K : Ex → St → Prop) : oR pc sc lp cd ⟨ord44, [rV 11 [(28, vT)], (12, ⟨[], [], [(29, [.sl (xa2.map Event.enc)])], [], [], [], [], []⟩), (13, ⟨[], [33], [], [(33, .msl 0 wa3.1 (sa.1 + xa2.length) (sa.2.1 - xa2.length))], [], [], [(33, (0, (sa.2.2.1.take (wa3.1 + sa.1) ++ (xa2 ++ sa.2.2.1.drop (wa3.1 + sa.1 + xa2.length))).map Event.enc))], []⟩)], [], [], []⟩ (polF 44) [(0, ⟨[6, 25, 26, 27], [], 1, [], []⟩, ⟨[], [], []⟩)] c_slices_Concat_api_Event_api_Event_L2 (slices_Concat_api_Event_api_Event_L2_S slices wa3 sa) K
  = ((eqB (decide (sa.2.2.2 < (slices.length : Int))) true) ∧ (at? (slices.map (eSl Event.enc)) sa.2.2.2 = some [.sl (xa2.map Event.enc)]) ∧ (szOk 14 (xa2.map Event.enc) = true) ∧ (okRows (xa2.map Event.enc) = true) ∧ (Nat.ble (xa2.map Event.enc).length sa.2.1 = true) ∧ (Nat.ble (wa3.1 + sa.1 + sa.2.1) (sa.2.2.1.map Event.enc).length = true) ∧ (AV.msl 0 wa3.1 (sa.1 + (xa2.map Event.enc).length) (sa.2.1 - (xa2.map Event.enc).length) = AV.msl 0 wa3.1 (sa.1 + xa2.length) (sa.2.1 - xa2.length)) ∧ ((sa.2.2.1.map Event.enc).take (wa3.1 + sa.1) ++ ((xa2.map Event.enc) ++ (sa.2.2.1.map Event.enc).drop (wa3.1 + sa.1 + (xa2.map Event.enc).length)) = (sa.2.2.1.take (wa3.1 + sa.1) ++ (xa2 ++ sa.2.2.1.drop (wa3.1 + sa.1 + xa2.length))).map Event.enc) ∧ K .nrm (slices_Concat_api_Event_api_Event_L2_S slices wa3 ((sa.1 + xa2.length), (sa.2.1 - xa2.length), (sa.2.2.1.take (wa3.1 + sa.1) ++ (xa2 ++ sa.2.2.1.drop (wa3.1 + sa.1 + xa2.length))), (addW .i64 sa.2.2.2 1)))) := by kernel_rfl
theorem slices_Concat_api_Event_api_Event_L2_p1 (slices : (List (List Event))) (wa3 : Nat × Nat × Nat × (List Event)) (sa : Nat × Nat × (List Event) × Int) (K : Ex → St → Prop) : oR pc sc lp cd ⟨ord44, [rV 11 [(28, vF)]], [], [], []⟩ (polF 44) [(4, ⟨[6], [], 1, [], []⟩, ⟨[], [], []⟩)] c_slices_Concat_api_Event_api_Event_L2 (slices_Concat_api_Event_api_Event_L2_S slices wa3 sa) K
  = ((eqB (decide (sa.2.2.2 < (slices.length : Int))) false) ∧ K (.ex 2) (slices_Concat_api_Event_api_Event_L2_T0 slices wa3 (sa.1, sa.2.1, sa.2.2.1))) := by kernel_rfl
theorem slices_Concat_api_Event_api_Event_L2_sim (n : Nat) (slices : (List (List Event))) (wa3 : Nat × Nat × Nat × (List Event)) : ∀ sa r, slices_Concat_api_Event_api_Event_L2 n slices wa3 sa = some r → CodeD Try.prog c_slices_Concat_api_Event_api_Event_L2 (slices_Concat_api_Event_api_Event_L2_S slices wa3 sa) (rk (slices_Concat_api_Event_api_Event_L2_S slices wa3) (slices_Concat_api_Event_api_Event_L2_out slices wa3) r) := by
 intro sa r h
 unfold slices_Concat_api_Event_api_Event_L2 at h
 rcases iteN h with ⟨ha1, h⟩ | ⟨ha1, h⟩
 ·
  obtain rfl := soI h
  exact okR ordB_slices_Concat_api_Event_api_Event_L2 (Eq.mpr (slices_Concat_api_Event_api_Event_L2_p1 pP sP lP dP slices wa3 sa _) ⟨cB ha1, ⟨rfl, rfl⟩⟩) (rkE rfl neE)
 obtain ⟨xa2, gxa2, h⟩ := bindE h
 obtain ⟨ha3, h⟩ := grdE h
 obtain ⟨ha4, h⟩ := grdE h
 obtain rfl := soI h
 exact okR ordB_slices_Concat_api_Event_api_Event_L2 (Eq.mpr (slices_Concat_api_Event_api_Event_L2_p0 pP sP lP dP slices wa3 sa xa2 _) ⟨cB ha1, at_map (eSl Event.enc) gxa2, szM, okM, ble_maps3 ha3, ble_maps4 ha4, msl_map Event.enc xa2 _ _ _ _, put_map Event.enc sa.2.2.1 xa2 _, ⟨rfl, rfl⟩⟩) rkN

theorem ordB_slices_Concat_api_Event_api_Event_L3 : ordB (polF 44) ord44 c_slices_Concat_api_Event_api_Event_L3 = true := by kernel_rfl
def slices_Concat_api_Event_api_Event_L3_S (slices : (List (List Event))) (sa : (List Event) × Int) : St := mkS 36 [(6, .mf 0), (25, .sl (slices.map (eSl Event.enc))), (26, (vI (slices.length : Int))), (27, (vI sa.2))] [] [.arr true 14 (sa.1.map Event.enc)] 0
def slices_Concat_api_Event_api_Event_L3_T0 (slices : (List (List Event))) (tt : (List Event)) : St := mkS 36 [(6, .mf 0)] [] [.arr true 14 (tt.map Event.enc)] 0
def slices_Concat_api_Event_api_Event_L3_out (slices : (List (List Event))) (tt : ((List Event))) : Ex × St := (.ex 2, slices_Concat_api_Event_api_Event_L3_T0 slices tt)
theorem slices_Concat_api_Event_api_Event_L3_p0 (slices : (List (List Event))) (sa : (List Event) × Int) (xa2 : (List Event)) (K : Ex → St → Prop) : oR pc sc lp cd ⟨ord44, [rV 11 [(28, vT)], (12, ⟨[], [], [(29, [.sl (xa2.map Event.enc)])], [], [], [], [], []⟩), (13, ⟨[], [33], [], [], [], [], [(33, (0, (sa.1 ++ xa2).map Event.enc))], []⟩)], [], [], []⟩ (polF 44) [(0, ⟨[6, 25, 26, 27], [], 1, [], []⟩, ⟨[], [], []⟩)] c_slices_Concat_api_Event_api_Event_L3 (slices_Concat_api_Event_api_Event_L3_S slices sa) K
  = ((eqB (decide (sa.2 < (slices.length : Int))) true) ∧ (at? (slices.map (eSl Event.enc)) sa.2 = some [.sl (xa2.map Event.enc)]) ∧ (szOk 14 (xa2.map Event.enc) = true) ∧ (okRows (xa2.map Event.enc) = true) ∧ (Nat.ble (((sa.1.map Event.enc).length + (xa2.map Event.enc).length) * 152) 140737488355328 = true) ∧ ((sa.1.map Event.enc) ++ (xa2.map Event.enc) = (sa.1 ++ xa2).map Event.enc) ∧ K .nrm (slices_Concat_api_Event_api_Event_L3_S slices ((sa.1 ++ xa2), (addW .i64 sa.2 1)))) := by kernel_rfl
theorem slices_Concat_api_Event_api_Event_L3_p1 (slices : (List (List Event))) (sa : (List Event) × Int) (K : Ex → St → Prop) : oR pc sc lp cd ⟨ord44, [rV 11 [(28, vF)]], [], [], []⟩ (polF 44) [(4, ⟨[6], [], 1, [], []⟩, ⟨[], [], []⟩)] c_slices_Concat_api_Event_api_Event_L3 (slices_Concat_api_Event_api_Event_L3_S slices sa) K
  = ((eqB (decide (sa.2 < (slices.length : Int))) false) ∧ K (.ex 2) (slices_Concat_api_Event_api_Event_L3_T0 slices sa.1)) := by kernel_rfl
theorem slices_Concat_api_Event_api_Event_L3_sim (n : Nat) (slices : (List (List Event))) : ∀ sa r, slices_Concat_api_Event_api_Event_L3 n slices sa = some r → CodeD Try.prog c_slices_Concat_api_Event_api_Event_L3 (slices_Concat_api_Event_api_Event_L3_S slices sa) (rk (slices_Concat_api_Event_api_Event_L3_S slices) (slices_Concat_api_Event_api_Event_L3_out slices) r) := by
 intro sa r h
 unfold slices_Concat_api_Event_api_Event_L3 at h
 rcases iteN h with ⟨ha1, h⟩ | ⟨ha1, h⟩
 ·
  obtain rfl := soI h
  exact okR ordB_slices_Concat_api_Event_api_Event_L3 (Eq.mpr (slices_Concat_api_Event_api_Event_L3_p1 pP sP lP dP slices sa _) ⟨cB ha1, ⟨rfl, rfl⟩⟩) (rkE rfl neE)
 obtain ⟨xa2, gxa2, h⟩ := bindE h
 obtain ⟨ha3, h⟩ := grdE h
 obtain rfl := soI h
 exact okR ordB_slices_Concat_api_Event_api_Event_L3 (Eq.mpr (slices_Concat_api_Event_api_Event_L3_p0 pP sP lP dP slices sa xa2 _) ⟨cB ha1, at_map (eSl Event.enc) gxa2, szM, okM, ble_maps2 ha3, app_map Event.enc sa.1 xa2, ⟨rfl, rfl⟩⟩) rkN

theorem slices_Concat_api_Event_api_Event_p0 (slices : (List (List Event))) (t1 : Int) (wa3 : Nat × Nat × Nat × (List Event)) (t4 : (Nat × Nat × (List Event))) (K : AV → Prop) : oP pc sc lp cd ⟨ord44, [rV 2 [(10, (vI (slices.length : Int)))], (9, ⟨[], [], [], [], [], [(24, (.msl 0 wa3.1 wa3.2.1 wa3.2.2.1, [.arr true 14 (wa3.2.2.2.map Event.enc)]))], [], []⟩), rV 10 [(26, (vI (slices.length : Int)))]], [], [(3, (⟨[0, 3, 9, 10, 11], [], 0, [], []⟩, ⟨[], [], []⟩, (.ex 0), slices_Concat_api_Event_api_Event_L1_T0 slices t1)), (11, (⟨[6, 25, 26, 27], [], 1, [], []⟩, ⟨[], [], []⟩, (.ex 2), slices_Concat_api_Event_api_Event_L2_T0 slices wa3 t4))], []⟩ 44 [.sl (slices.map (eSl Event.enc))] K
  = ((AV.v (.int .i64 (((slices.map (eSl Event.enc)).length : Nat) : Int)) = AV.v (.int .i64 (slices.length : Int))) ∧ (lp (polF 44) c_slices_Concat_api_Event_api_Event_L1 (slices_Concat_api_Event_api_Event_L1_S slices (0, 0)) (fun e' S' => e' = (.ex 0) ∧ S' = slices_Concat_api_Event_api_Event_L1_T0 slices t1)) ∧ (sc 75 [.nilsl, (vI t1)] [] (fun r' o' => r' = .msl 0 wa3.1 wa3.2.1 wa3.2.2.1 ∧ o' = [.arr true 14 (wa3.2.2.2.map Event.enc)])) ∧ (AV.v (.int .i64 (((slices.map (eSl Event.enc)).length : Nat) : Int)) = AV.v (.int .i64 (slices.length : Int))) ∧ (lp (polF 44) c_slices_Concat_api_Event_api_Event_L2 (slices_Concat_api_Event_api_Event_L2_S slices wa3 (wa3.2.1, wa3.2.2.1, wa3.2.2.2, 0)) (fun e' S' => e' = (.ex 2) ∧ S' = slices_Concat_api_Event_api_Event_L2_T0 slices wa3 t4)) ∧ K (.sl (((t4.2.2.map Event.enc).drop wa3.1).take t4.1))) := by kernel_rfl
theorem slices_Concat_api_Event_api_Event_p1 (slices : (List (List Event))) (t1 : Int) (t4 : ((List Event))) (K : AV → Prop) : oP pc sc lp cd ⟨ord44, [rV 2 [(10, (vI (slices.length : Int)))], (9, ⟨[], [], [], [], [], [(24, (.nilsl, []))], [], []⟩), rV 10 [(26, (vI (slices.length : Int)))]], [], [(3, (⟨[0, 3, 9, 10, 11], [], 0, [], []⟩, ⟨[], [], []⟩, (.ex 0), slices_Concat_api_Event_api_Event_L1_T0 slices t1)), (11, (⟨[6, 25, 26, 27], [], 0, [(6, 14)], []⟩, ⟨[], [], []⟩, (.ex 2), slices_Concat_api_Event_api_Event_L3_T0 slices t4))], []⟩ 44 [.sl (slices.map (eSl Event.enc))] K
  = ((AV.v (.int .i64 (((slices.map (eSl Event.enc)).length : Nat) : Int)) = AV.v (.int .i64 (slices.length : Int))) ∧ (lp (polF 44) c_slices_Concat_api_Event_api_Event_L1 (slices_Concat_api_Event_api_Event_L1_S slices (0, 0)) (fun e' S' => e' = (.ex 0) ∧ S' = slices_Concat_api_Event_api_Event_L1_T0 slices t1)) ∧ (sc 75 [.nilsl, (vI t1)] [] (fun r' o' => r' = .nilsl ∧ o' = [])) ∧ (AV.v (.int .i64 (((slices.map (eSl Event.enc)).length : Nat) : Int)) = AV.v (.int .i64 (slices.length : Int))) ∧ (lp (polF 44) c_slices_Concat_api_Event_api_Event_L3 (slices_Concat_api_Event_api_Event_L3_S slices (([] : List Event), 0)) (fun e' S' => e' = (.ex 2) ∧ S' = slices_Concat_api_Event_api_Event_L3_T0 slices t4)) ∧ K (.sl (t4.map Event.enc))) := by kernel_rfl
theorem slices_Concat_api_Event_api_Event_sim (n : Nat) (slices : (List (List Event))) (r : (List Event)) (h : slices_Concat_api_Event_api_Event n slices = some r) : PCall Try.prog 44 [.sl (slices.map (eSl Event.enc))] (eqA (.sl (r.map Event.enc))) := by
 unfold slices_Concat_api_Event_api_Event at h
 obtain ⟨t1, gt1, h⟩ := bindE h
 obtain ⟨y2, gy2, h⟩ := bindE h
 rcases y2 with wa3 | wb3
 ·
  obtain ⟨t4, gt4, h⟩ := bindE h
  obtain rfl := soI h
  exact okP ordB44 (Eq.mpr (slices_Concat_api_Event_api_Event_p0 pP sP lP dP slices t1 wa3 t4 _) (⟨len_map _ _, okL (slices_Concat_api_Event_api_Event_L1_S slices) (slices_Concat_api_Event_api_Event_L1_out slices) (slices_Concat_api_Event_api_Event_L1_sim n slices) n _ t1 gt1, slices_Grow_api_Event_api_Event_S_sim n t1 (.inl wa3) gy2, len_map _ _, okL (slices_Concat_api_Event_api_Event_L2_S slices wa3) (slices_Concat_api_Event_api_Event_L2_out slices wa3) (slices_Concat_api_Event_api_Event_L2_sim n slices wa3) n _ t4 gt4, (sl_dtL Event.enc t4.2.2 _ _)⟩))
 ·
  obtain ⟨t4, gt4, h⟩ := bindE h
  obtain rfl := soI h
  exact okP ordB44 (Eq.mpr (slices_Concat_api_Event_api_Event_p1 pP sP lP dP slices t1 t4 _) (⟨len_map _ _, okL (slices_Concat_api_Event_api_Event_L1_S slices) (slices_Concat_api_Event_api_Event_L1_out slices) (slices_Concat_api_Event_api_Event_L1_sim n slices) n _ t1 gt1, slices_Grow_api_Event_api_Event_S_sim n t1 (.inr wb3) gy2, len_map _ _, okL (slices_Concat_api_Event_api_Event_L3_S slices) (slices_Concat_api_Event_api_Event_L3_out slices) (slices_Concat_api_Event_api_Event_L3_sim n slices) n _ t4 gt4, LeA.refl _⟩))

def ord72 : List (Nat × PT) := []
theorem ordB72 : ordB (polF 72) ord72 (bodyOf Try.prog 72) = true := by kernel_rfl
def cand_flat_S_R (ob : (List Cell)) (ob_ : (List (List Event))) (ob__ : (List Int)) (ob___ : (List Int)) (y : (List Event)) : AV × List Ob := (.sl (y.map Event.enc), [.arr true 4 [[.sl (ob.map Cell.enc), .sl (ob_.map (eSl Event.enc)), .sl (ob__.map eI), .sl (ob___.map eI)]]])
theorem cand_flat_S_p0 (ob : (List Cell)) (ob_ : (List (List Event))) (ob__ : (List Int)) (ob___ : (List Int)) (y1 : (List Event)) (K : AV → List Ob → Prop) : ostore (cx pc sc lp) cd ⟨ord72, [rVC 1 [] [(7, .sl (y1.map Event.enc))]], [], [], []⟩ 72 [.ptr (.O 0) 0 0] [.arr true 4 [[.sl (ob.map Cell.enc), .sl (ob_.map (eSl Event.enc)), .sl (ob__.map eI), .sl (ob___.map eI)]]] K
  = ((pc 44 [.sl (ob_.map (eSl Event.enc))] (eqA (.sl (y1.map Event.enc)))) ∧ K (.sl (y1.map Event.enc)) [.arr true 4 [[.sl (ob.map Cell.enc), .sl (ob_.map (eSl Event.enc)), .sl (ob__.map eI), .sl (ob___.map eI)]]]) := by kernel_rfl
theorem cand_flat_S_sim (n : Nat) (ob : (List Cell)) (ob_ : (List (List Event))) (ob__ : (List Int)) (ob___ : (List Int)) (y : (List Event)) (h : cand_flat_S n ob ob_ ob__ ob___ = some y) : SD Try.prog 72 [.ptr (.O 0) 0 0] [.arr true 4 [[.sl (ob.map Cell.enc), .sl (ob_.map (eSl Event.enc)), .sl (ob__.map eI), .sl (ob___.map eI)]]] (fun r' o' => r' = (cand_flat_S_R ob ob_ ob__ ob___ y).1 ∧ o' = (cand_flat_S_R ob ob_ ob__ ob___ y).2) := by
 unfold cand_flat_S at h
 obtain ⟨y1, gy1, h⟩ := bindE h
 obtain rfl := soI h
 exact okS ordB72 (Eq.mpr (cand_flat_S_p0 pP sP lP dP ob ob_ ob__ ob___ y1 _) (⟨(slices_Concat_api_Event_api_Event_sim n ob_ y1 gy1), ⟨rfl, rfl⟩⟩)) ⟨rfl, rfl⟩

def ord52 : List (Nat × PT) := []
theorem ordB52 : ordB (polF 52) ord52 (bodyOf Try.prog 52) = true := by kernel_rfl
theorem event_Reads_p0 (e : Event) (y1 : Int) (K : AV → Prop) : oP pc sc lp cd ⟨ord52, [rVC 1 [] [(5, (vU y1))]], [], [], []⟩ 52 [(aAgg Event.enc e)] K
  = ((pc 78 [(vI e.Kind)] (eqA ((vU y1)))) ∧ K (.v (.bool ((andW .u64 y1 1) != 0)))) := by kernel_rfl
theorem event_Reads_sim (n : Nat) (e : Event) (r : Bool) (h : event_Reads n e = some r) : PCall Try.prog 52 [(aAgg Event.enc e)] (eqA (.v (.bool r))) := by
 unfold event_Reads at h
 obtain ⟨y1, gy1, h⟩ := bindE h
 obtain rfl := soI h
 exact okP ordB52 (Eq.mpr (event_Reads_p0 pP sP lP dP e y1 _) (⟨(event_has_sim n e.Kind y1 gy1), LeA.refl _⟩))

def ord98 : List (Nat × PT) := []
theorem ordB98 : ordB (polF 98) ord98 (bodyOf Try.prog 98) = true := by kernel_rfl
theorem cmp_isNaN_uint64_p0 (x : Int) (K : AV → Prop) : oP pc sc lp cd ⟨ord98, [], [], [], []⟩ 98 [(vU x)] K
  = (K (.v (.bool (x != x)))) := by kernel_rfl
theorem cmp_isNaN_uint64_sim (n : Nat) (x : Int) (r : Bool) (h : cmp_isNaN_uint64 n x = some r) : PCall Try.prog 98 [(vU x)] (eqA (.v (.bool r))) := by
 unfold cmp_isNaN_uint64 at h
 obtain rfl := soI h
 exact okP ordB98 (Eq.mpr (cmp_isNaN_uint64_p0 pP sP lP dP x _) (LeA.refl _))

def ord93 : List (Nat × PT) := []
theorem ordB93 : ordB (polF 93) ord93 (bodyOf Try.prog 93) = true := by kernel_rfl
theorem cmp_Compare_uint64_p0 (x : Int) (y : Int) (y1 : Bool) (y2 : Bool) (K : AV → Prop) : oP pc sc lp cd ⟨ord93, [rVC 1 [] [(8, .v (.bool y1))], rVC 2 [] [(10, .v (.bool y2))], rV 3 [(11, vT)], rV 4 [(12, vT)]], [], [], []⟩ 93 [(vU x), (vU y)] K
  = ((pc 98 [(vU x)] (eqA (.v (.bool y1)))) ∧ (pc 98 [(vU y)] (eqA (.v (.bool y2)))) ∧ (eqB y1 true) ∧ (eqB y2 true) ∧ K ((vI 0))) := by kernel_rfl
theorem cmp_Compare_uint64_p1 (x : Int) (y : Int) (y1 : Bool) (y2 : Bool) (K : AV → Prop) : oP pc sc lp cd ⟨ord93, [rVC 1 [] [(8, .v (.bool y1))], rVC 2 [] [(10, .v (.bool y2))], rV 3 [(11, vT)], rV 4 [(12, vF)]], [], [], []⟩ 93 [(vU x), (vU y)] K
  = ((pc 98 [(vU x)] (eqA (.v (.bool y1)))) ∧ (pc 98 [(vU y)] (eqA (.v (.bool y2)))) ∧ (eqB y1 true) ∧ (eqB y2 false) ∧ K ((vI (-1)))) := by kernel_rfl
theorem cmp_Compare_uint64_p2 (x : Int) (y : Int) (y1 : Bool) (y2 : Bool) (K : AV → Prop) : oP pc sc lp cd ⟨ord93, [rVC 1 [] [(8, .v (.bool y1))], rVC 2 [] [(10, .v (.bool y2))], rV 3 [(11, vF)], rV 7 [(13, vT)]], [], [], []⟩ 93 [(vU x), (vU y)] K
  = ((pc 98 [(vU x)] (eqA (.v (.bool y1)))) ∧ (pc 98 [(vU y)] (eqA (.v (.bool y2)))) ∧ (eqB y1 false) ∧ (eqB y2 true) ∧ K ((vI 1))) := by kernel_rfl
theorem cmp_Compare_uint64_p3 (x : Int) (y : Int) (y1 : Bool) (y2 : Bool) (K : AV → Prop) : oP pc sc lp cd ⟨ord93, [rVC 1 [] [(8, .v (.bool y1))], rVC 2 [] [(10, .v (.bool y2))], rV 3 [(11, vF)], rV 7 [(13, vF)], rV 9 [(16, vT)]], [], [], []⟩ 93 [(vU x), (vU y)] K
  = ((pc 98 [(vU x)] (eqA (.v (.bool y1)))) ∧ (pc 98 [(vU y)] (eqA (.v (.bool y2)))) ∧ (eqB y1 false) ∧ (eqB y2 false) ∧ (eqB (decide (x < y)) true) ∧ K ((vI (-1)))) := by kernel_rfl
theorem cmp_Compare_uint64_p4 (x : Int) (y : Int) (y1 : Bool) (y2 : Bool) (K : AV → Prop) : oP pc sc lp cd ⟨ord93, [rVC 1 [] [(8, .v (.bool y1))], rVC 2 [] [(10, .v (.bool y2))], rV 3 [(11, vF)], rV 7 [(13, vF)], rV 9 [(16, vF)], rV 11 [(19, vT)]], [], [], []⟩ 93 [(vU x), (vU y)] K
  = ((pc 98 [(vU x)] (eqA (.v (.bool y1)))) ∧ (pc 98 [(vU y)] (eqA (.v (.bool y2)))) ∧ (eqB y1 false) ∧ (eqB y2 false) ∧ (eqB (decide (x < y)) false) ∧ (eqB (decide (x > y)) true) ∧ K ((vI 1))) := by kernel_rfl
theorem cmp_Compare_uint64_p5 (x : Int) (y : Int) (y1 : Bool) (y2 : Bool) (K : AV → Prop) : oP pc sc lp cd ⟨ord93, [rVC 1 [] [(8, .v (.bool y1))], rVC 2 [] [(10, .v (.bool y2))], rV 3 [(11, vF)], rV 7 [(13, vF)], rV 9 [(16, vF)], rV 11 [(19, vF)]], [], [], []⟩ 93 [(vU x), (vU y)] K
  = ((pc 98 [(vU x)] (eqA (.v (.bool y1)))) ∧ (pc 98 [(vU y)] (eqA (.v (.bool y2)))) ∧ (eqB y1 false) ∧ (eqB y2 false) ∧ (eqB (decide (x < y)) false) ∧ (eqB (decide (x > y)) false) ∧ K ((vI 0))) := by kernel_rfl
theorem cmp_Compare_uint64_sim (n : Nat) (x : Int) (y : Int) (r : Int) (h : cmp_Compare_uint64 n x y = some r) : PCall Try.prog 93 [(vU x), (vU y)] (eqA ((vI r))) := by
 unfold cmp_Compare_uint64 at h
 obtain ⟨y1, gy1, h⟩ := bindE h
 obtain ⟨y2, gy2, h⟩ := bindE h
 rcases iteE h with ⟨h3, h⟩ | ⟨h3, h⟩
 ·
  rcases iteE h with ⟨h4, h⟩ | ⟨h4, h⟩
  ·
   obtain rfl := soI h
   exact okP ordB93 (Eq.mpr (cmp_Compare_uint64_p0 pP sP lP dP x y y1 y2 _) (⟨(cmp_isNaN_uint64_sim n x y1 gy1), (cmp_isNaN_uint64_sim n y y2 gy2), cB h3, cB h4, LeA.refl _⟩))
  obtain rfl := soI h
  exact okP ordB93 (Eq.mpr (cmp_Compare_uint64_p1 pP sP lP dP x y y1 y2 _) (⟨(cmp_isNaN_uint64_sim n x y1 gy1), (cmp_isNaN_uint64_sim n y y2 gy2), cB h3, cB h4, LeA.refl _⟩))
 rcases iteE h with ⟨h4, h⟩ | ⟨h4, h⟩
 ·
  obtain rfl := soI h
  exact okP ordB93 (Eq.mpr (cmp_Compare_uint64_p2 pP sP lP dP x y y1 y2 _) (⟨(cmp_isNaN_uint64_sim n x y1 gy1), (cmp_isNaN_uint64_sim n y y2 gy2), cB h3, cB h4, LeA.refl _⟩))
 rcases iteE h with ⟨h5, h⟩ | ⟨h5, h⟩
 ·
  obtain rfl := soI h
  exact okP ordB93 (Eq.mpr (cmp_Compare_uint64_p3 pP sP lP dP x y y1 y2 _) (⟨(cmp_isNaN_uint64_sim n x y1 gy1), (cmp_isNaN_uint64_sim n y y2 gy2), cB h3, cB h4, cB h5, LeA.refl _⟩))
 rcases iteE h with ⟨h6, h⟩ | ⟨h6, h⟩
 ·
  obtain rfl := soI h
  exact okP ordB93 (Eq.mpr (cmp_Compare_uint64_p4 pP sP lP dP x y y1 y2 _) (⟨(cmp_isNaN_uint64_sim n x y1 gy1), (cmp_isNaN_uint64_sim n y y2 gy2), cB h3, cB h4, cB h5, cB h6, LeA.refl _⟩))
 obtain rfl := soI h
 exact okP ordB93 (Eq.mpr (cmp_Compare_uint64_p5 pP sP lP dP x y y1 y2 _) (⟨(cmp_isNaN_uint64_sim n x y1 gy1), (cmp_isNaN_uint64_sim n y y2 gy2), cB h3, cB h4, cB h5, cB h6, LeA.refl _⟩))

def ord92 : List (Nat × PT) := []
theorem ordB92 : ordB (polF 92) ord92 (bodyOf Try.prog 92) = true := by kernel_rfl
theorem cand_found_1_p0 (x : Cell) (a : Int) (y1 : Int) (K : AV → Prop) : oP pc sc lp cd ⟨ord92, [rVC 1 [] [(8, (vI y1))]], [], [], []⟩ 92 [(aAgg Cell.enc x), (vU a)] K
  = ((pc 93 [(vU x.Addr), (vU a)] (eqA ((vI y1)))) ∧ K ((vI y1))) := by kernel_rfl
theorem cand_found_1_sim (n : Nat) (x : Cell) (a : Int) (r : Int) (h : cand_found_1 n x a = some r) : PCall Try.prog 92 [(aAgg Cell.enc x), (vU a)] (eqA ((vI r))) := by
 unfold cand_found_1 at h
 obtain ⟨y1, gy1, h⟩ := bindE h
 obtain rfl := soI h
 exact okP ordB92 (Eq.mpr (cand_found_1_p0 pP sP lP dP x a y1 _) (⟨(cmp_Compare_uint64_sim n x.Addr a y1 gy1), LeA.refl _⟩))

def ord91 : List (Nat × PT) := []
theorem ordB91 : ordB (polF 91) ord91 (bodyOf Try.prog 91) = true := by kernel_rfl
noncomputable def c_slices_BinarySearchFunc_api_Cell_api_Cell_uint64_L1 : Code := sub (bodyOf Try.prog 91) [1, 1, 1, 0, 0, 0]
theorem ordB_slices_BinarySearchFunc_api_Cell_api_Cell_uint64_L1 : ordB (polF 91) ord91 c_slices_BinarySearchFunc_api_Cell_api_Cell_uint64_L1 = true := by kernel_rfl
def slices_BinarySearchFunc_api_Cell_api_Cell_uint64_L1_S (x : (List Cell)) (target : Int) (sa : Int × Int) : St := mkS 49 [(0, .sl (x.map Cell.enc)), (1, (vU target)), (2, .fn 92 [] []), (8, (vI (x.length : Int))), (9, (vI sa.2)), (10, (vI sa.1))] [] [] 0
def slices_BinarySearchFunc_api_Cell_api_Cell_uint64_L1_T0 (x : (List Cell)) (target : Int) (tt : Int) : St := mkS 49 [(0, .sl (x.map Cell.enc)), (1, (vU target)), (2, .fn 92 [] []), (8, (vI (x.length : Int))), (9, (vI tt))] [] [] 0
def slices_BinarySearchFunc_api_Cell_api_Cell_uint64_L1_out (x : (List Cell)) (target : Int) (tt : Int) : Ex × St := (.ex 0, slices_BinarySearchFunc_api_Cell_api_Cell_uint64_L1_T0 x target tt)
theorem slices_BinarySearchFunc_api_Cell_api_Cell_uint64_L1_p0 (x : (List Cell)) (target : Int) (sa : Int × Int) (xa2 : Cell) (ya3 : Int) (K : Ex → St → Prop) : oR pc sc lp cd ⟨ord91, [rV 3 [(17, vT)], (5, ⟨[], [], [(27, (Cell.enc xa2))], [(31, vT)], [(30, (vI ya3))], [], [], []⟩)], [], [], []⟩ (polF 91) [(0, ⟨[0, 1, 2, 8, 9, 10], [], 0, [], []⟩, ⟨[], [], []⟩)] c_slices_BinarySearchFunc_api_Cell_api_Cell_uint64_L1 (slices_BinarySearchFunc_api_Cell_api_Cell_uint64_L1_S x target sa) K
  = ((eqB (decide (sa.2 < sa.1)) true) ∧ (at? (x.map Cell.enc) (IntKind.wrap .i64 (shrW .u64 (IntKind.wrap .u64 (addW .i64 sa.2 sa.1)) 1)) = some (Cell.enc xa2)) ∧ (pc 92 [(aAgg Cell.enc xa2), (vU target)] (eqA ((vI ya3)))) ∧ (eqB (decide (ya3 < 0)) true) ∧ K .nrm (slices_BinarySearchFunc_api_Cell_api_Cell_uint64_L1_S x target (sa.1, (addW .i64 (IntKind.wrap .i64 (shrW .u64 (IntKind.wrap .u64 (addW .i64 sa.2 sa.1)) 1)) 1)))) := by kernel_rfl
theorem slices_BinarySearchFunc_api_Cell_api_Cell_uint64_L1_p1 (x : (List Cell)) (target : Int) (sa : Int × Int) (xa2 : Cell) (ya3 : Int) (K : Ex → St → Prop) : oR pc sc lp cd ⟨ord91, [rV 3 [(17, vT)], (5, ⟨[], [], [(27, (Cell.enc xa2))], [(31, vF)], [(30, (vI ya3))], [], [], []⟩)], [], [], []⟩ (polF 91) [(0, ⟨[0, 1, 2, 8, 9, 10], [], 0, [], []⟩, ⟨[], [], []⟩)] c_slices_BinarySearchFunc_api_Cell_api_Cell_uint64_L1 (slices_BinarySearchFunc_api_Cell_api_Cell_uint64_L1_S x target sa) K
  = ((eqB (decide (sa.2 < sa.1)) true) ∧ (at? (x.map Cell.enc) (IntKind.wrap .i64 (shrW .u64 (IntKind.wrap .u64 (addW .i64 sa.2 sa.1)) 1)) = some (Cell.enc xa2)) ∧ (pc 92 [(aAgg Cell.enc xa2), (vU target)] (eqA ((vI ya3)))) ∧ (eqB (decide (ya3 < 0)) false) ∧ K .nrm (slices_BinarySearchFunc_api_Cell_api_Cell_uint64_L1_S x target ((IntKind.wrap .i64 (shrW .u64 (IntKind.wrap .u64 (addW .i64 sa.2 sa.1)) 1)), sa.2))) := by kernel_rfl
theorem slices_BinarySearchFunc_api_Cell_api_Cell_uint64_L1_p2 (x : (List Cell)) (target : Int) (sa : Int × Int) (K : Ex → St → Prop) : oR pc sc lp cd ⟨ord91, [rV 3 [(17, vF)]], [], [], []⟩ (polF 91) [(2, ⟨[0, 1, 2, 8, 9], [], 0, [], []⟩, ⟨[], [], []⟩)] c_slices_BinarySearchFunc_api_Cell_api_Cell_uint64_L1 (slices_BinarySearchFunc_api_Cell_api_Cell_uint64_L1_S x target sa) K
  = ((eqB (decide (sa.2 < sa.1)) false) ∧ K (.ex 0) (slices_BinarySearchFunc_api_Cell_api_Cell_uint64_L1_T0 x target sa.2)) := by kernel_rfl
theorem slices_BinarySearchFunc_api_Cell_api_Cell_uint64_L1_sim (n : Nat) (x : (List Cell)) (target : Int) : ∀ sa r, slices_BinarySearchFunc_api_Cell_api_Cell_uint64_L1 n x target sa = some r → CodeD Try.prog c_slices_BinarySearchFunc_api_Cell_api_Cell_uint64_L1 (slices_BinarySearchFunc_api_Cell_api_Cell_uint64_L1_S x target sa) (rk (slices_BinarySearchFunc_api_Cell_api_Cell_uint64_L1_S x target) (slices_BinarySearchFunc_api_Cell_api_Cell_uint64_L1_out x target) r) := by
 intro sa r h
 unfold slices_BinarySearchFunc_api_Cell_api_Cell_uint64_L1 at h
 rcases iteN h with ⟨ha1, h⟩ | ⟨ha1, h⟩
 ·
  obtain rfl := soI h
  exact okR ordB_slices_BinarySearchFunc_api_Cell_api_Cell_uint64_L1 (Eq.mpr (slices_BinarySearchFunc_api_Cell_api_Cell_uint64_L1_p2 pP sP lP dP x target sa _) ⟨cB ha1, ⟨rfl, rfl⟩⟩) (rkE rfl neE)
 obtain ⟨xa2, gxa2, h⟩ := bindE h
 obtain ⟨ya3, gya3, h⟩ := bindE h
 rcases iteE h with ⟨ha4, h⟩ | ⟨ha4, h⟩
 ·
  obtain rfl := soI h
  exact okR ordB_slices_BinarySearchFunc_api_Cell_api_Cell_uint64_L1 (Eq.mpr (slices_BinarySearchFunc_api_Cell_api_Cell_uint64_L1_p0 pP sP lP dP x target sa xa2 ya3 _) ⟨cB ha1, at_map Cell.enc gxa2, (cand_found_1_sim n xa2 target ya3 gya3), cB ha4, ⟨rfl, rfl⟩⟩) rkN
 obtain rfl := soI h
 exact okR ordB_slices_BinarySearchFunc_api_Cell_api_Cell_uint64_L1 (Eq.mpr (slices_BinarySearchFunc_api_Cell_api_Cell_uint64_L1_p1 pP sP lP dP x target sa xa2 ya3 _) ⟨cB ha1, at_map Cell.enc gxa2, (cand_found_1_sim n xa2 target ya3 gya3), cB ha4, ⟨rfl, rfl⟩⟩) rkN

theorem slices_BinarySearchFunc_api_Cell_api_Cell_uint64_p0 (x : (List Cell)) (target : Int) (t1 : Int) (x3 : Cell) (y4 : Int) (K : AV → Prop) : oP pc sc lp cd ⟨ord91, [rV 1 [(13, (vI (x.length : Int)))], (8, ⟨[], [], [(43, (Cell.enc x3))], [(39, vT)], [(46, (vI y4))], [], [], []⟩)], [], [(3, (⟨[0, 1, 2, 8, 9, 10], [], 0, [], []⟩, ⟨[], [], []⟩, (.ex 0), slices_BinarySearchFunc_api_Cell_api_Cell_uint64_L1_T0 x target t1))], []⟩ 91 [.sl (x.map Cell.enc), (vU target), .fn 92 [] []] K
  = ((AV.v (.int .i64 (((x.map Cell.enc).length : Nat) : Int)) = AV.v (.int .i64 (x.length : Int))) ∧ (lp (polF 91) c_slices_BinarySearchFunc_api_Cell_api_Cell_uint64_L1 (slices_BinarySearchFunc_api_Cell_api_Cell_uint64_L1_S x target ((x.length : Int), 0)) (fun e' S' => e' = (.ex 0) ∧ S' = slices_BinarySearchFunc_api_Cell_api_Cell_uint64_L1_T0 x target t1)) ∧ (eqB (decide (t1 < (x.length : Int))) true) ∧ (at? (x.map Cell.enc) t1 = some (Cell.enc x3)) ∧ (pc 92 [(aAgg Cell.enc x3), (vU target)] (eqA ((vI y4)))) ∧ K (.tup [(vI t1), .v (.bool (y4 == 0))])) := by kernel_rfl
theorem slices_BinarySearchFunc_api_Cell_api_Cell_uint64_p1 (x : (List Cell)) (target : Int) (t1 : Int) (K : AV → Prop) : oP pc sc lp cd ⟨ord91, [rV 1 [(13, (vI (x.length : Int)))], rV 8 [(39, vF)]], [], [(3, (⟨[0, 1, 2, 8, 9, 10], [], 0, [], []⟩, ⟨[], [], []⟩, (.ex 0), slices_BinarySearchFunc_api_Cell_api_Cell_uint64_L1_T0 x target t1))], []⟩ 91 [.sl (x.map Cell.enc), (vU target), .fn 92 [] []] K
  = ((AV.v (.int .i64 (((x.map Cell.enc).length : Nat) : Int)) = AV.v (.int .i64 (x.length : Int))) ∧ (lp (polF 91) c_slices_BinarySearchFunc_api_Cell_api_Cell_uint64_L1 (slices_BinarySearchFunc_api_Cell_api_Cell_uint64_L1_S x target ((x.length : Int), 0)) (fun e' S' => e' = (.ex 0) ∧ S' = slices_BinarySearchFunc_api_Cell_api_Cell_uint64_L1_T0 x target t1)) ∧ (eqB (decide (t1 < (x.length : Int))) false) ∧ K (.tup [(vI t1), vF])) := by kernel_rfl
theorem slices_BinarySearchFunc_api_Cell_api_Cell_uint64_sim (n : Nat) (x : (List Cell)) (target : Int) (r : Int × Bool) (h : slices_BinarySearchFunc_api_Cell_api_Cell_uint64 n x target = some r) : PCall Try.prog 91 [.sl (x.map Cell.enc), (vU target), .fn 92 [] []] (eqA (.tup [(vI r.1), .v (.bool r.2)])) := by
 unfold slices_BinarySearchFunc_api_Cell_api_Cell_uint64 at h
 obtain ⟨t1, gt1, h⟩ := bindE h
 rcases iteN h with ⟨h2, h⟩ | ⟨h2, h⟩
 ·
  obtain rfl := soI h
  exact okP ordB91 (Eq.mpr (slices_BinarySearchFunc_api_Cell_api_Cell_uint64_p1 pP sP lP dP x target t1 _) (⟨len_map _ _, okL (slices_BinarySearchFunc_api_Cell_api_Cell_uint64_L1_S x target) (slices_BinarySearchFunc_api_Cell_api_Cell_uint64_L1_out x target) (slices_BinarySearchFunc_api_Cell_api_Cell_uint64_L1_sim n x target) n _ t1 gt1, cB h2, LeA.refl _⟩))
 obtain ⟨x3, gx3, h⟩ := bindE h
 obtain ⟨y4, gy4, h⟩ := bindE h
 obtain rfl := soI h
 exact okP ordB91 (Eq.mpr (slices_BinarySearchFunc_api_Cell_api_Cell_uint64_p0 pP sP lP dP x target t1 x3 y4 _) (⟨len_map _ _, okL (slices_BinarySearchFunc_api_Cell_api_Cell_uint64_L1_S x target) (slices_BinarySearchFunc_api_Cell_api_Cell_uint64_L1_out x target) (slices_BinarySearchFunc_api_Cell_api_Cell_uint64_L1_sim n x target) n _ t1 gt1, cB h2, at_map Cell.enc gx3, (cand_found_1_sim n x3 target y4 gy4), LeA.refl _⟩))

def ord84 : List (Nat × PT) := []
theorem ordB84 : ordB (polF 84) ord84 (bodyOf Try.prog 84) = true := by kernel_rfl
theorem cand_found_p0 (l : (List Cell)) (addr : Int) (y1 : Int × Bool) (K : AV → Prop) : oP pc sc lp cd ⟨ord84, [rVC 1 [] [(10, .tup [(vI y1.1), .v (.bool y1.2)])], rV 2 [(14, vT)]], [], [], []⟩ 84 [.sl (l.map Cell.enc), (vU addr)] K
  = ((pc 91 [.sl (l.map Cell.enc), (vU addr), .fn 92 [] []] (eqA (.tup [(vI y1.1), .v (.bool y1.2)]))) ∧ (eqB (!y1.2) true) ∧ K ((vU 0))) := by kernel_rfl
theorem cand_found_p1 (l : (List Cell)) (addr : Int) (y1 : Int × Bool) (x3 : Cell) (K : AV → Prop) : oP pc sc lp cd ⟨ord84, [rVC 1 [] [(10, .tup [(vI y1.1), .v (.bool y1.2)])], rV 2 [(14, vF)], (4, ⟨[], [], [(17, (Cell.enc x3))], [], [], [], [], []⟩)], [], [], []⟩ 84 [.sl (l.map Cell.enc), (vU addr)] K
  = ((pc 91 [.sl (l.map Cell.enc), (vU addr), .fn 92 [] []] (eqA (.tup [(vI y1.1), .v (.bool y1.2)]))) ∧ (eqB (!y1.2) false) ∧ (at? (l.map Cell.enc) y1.1 = some (Cell.enc x3)) ∧ K ((vU x3.Value))) := by kernel_rfl
theorem cand_found_sim (n : Nat) (l : (List Cell)) (addr : Int) (r : Int) (h : cand_found n l addr = some r) : PCall Try.prog 84 [.sl (l.map Cell.enc), (vU addr)] (eqA ((vU r))) := by
 unfold cand_found at h
 obtain ⟨y1, gy1, h⟩ := bindE h
 rcases iteE h with ⟨h2, h⟩ | ⟨h2, h⟩
 ·
  obtain rfl := soI h
  exact okP ordB84 (Eq.mpr (cand_found_p0 pP sP lP dP l addr y1 _) (⟨(slices_BinarySearchFunc_api_Cell_api_Cell_uint64_sim n l addr y1 gy1), cB h2, LeA.refl _⟩))
 obtain ⟨x3, gx3, h⟩ := bindE h
 obtain rfl := soI h
 exact okP ordB84 (Eq.mpr (cand_found_p1 pP sP lP dP l addr y1 x3 _) (⟨(slices_BinarySearchFunc_api_Cell_api_Cell_uint64_sim n l addr y1 gy1), cB h2, at_map Cell.enc gx3, LeA.refl _⟩))

def ord50 : List (Nat × PT) := []
theorem ordB50 : ordB (polF 50) ord50 (bodyOf Try.prog 50) = true := by kernel_rfl
theorem event_Writes_p0 (e : Event) (y1 : Int) (K : AV → Prop) : oP pc sc lp cd ⟨ord50, [rVC 1 [] [(5, (vU y1))]], [], [], []⟩ 50 [(aAgg Event.enc e)] K
  = ((pc 78 [(vI e.Kind)] (eqA ((vU y1)))) ∧ K (.v (.bool ((andW .u64 y1 2) != 0)))) := by kernel_rfl
theorem event_Writes_sim (n : Nat) (e : Event) (r : Bool) (h : event_Writes n e = some r) : PCall Try.prog 50 [(aAgg Event.enc e)] (eqA (.v (.bool r))) := by
 unfold event_Writes at h
 obtain ⟨y1, gy1, h⟩ := bindE h
 obtain rfl := soI h
 exact okP ordB50 (Eq.mpr (event_Writes_p0 pP sP lP dP e y1 _) (⟨(event_has_sim n e.Kind y1 gy1), LeA.refl _⟩))

def ord73 : List (Nat × PT) := [(1, (ptS [0, 1, 2, 3, 4, 5, 6, 7, 8, 9, 10, 11, 12, 13])), (5, (ptS [0, 1, 2, 3, 4, 5, 6, 7, 8, 9, 10]))]
theorem ordB73 : ordB (polF 73) ord73 (bodyOf Try.prog 73) = true := by kernel_rfl
theorem cand_from_p0 (c : Cand) (all : (List Event)) (n_ : Int) (x1 : Event) (x2 : Int) (y3 : Bool) (K : AV → Prop) : oP pc sc lp cd ⟨ord73, [(1, ⟨[], [], [(12, (Event.enc x1)), (19, [(vI x2)])], [], [], [], [], []⟩), rVC 2 [(21, vT)] [(23, .v (.bool y3))]], [], [], []⟩ 73 [.fptr (Cand.enc c) 0, .sl (all.map Event.enc), (vI n_)] K
  = ((at? (all.map Event.enc) n_ = some (Event.enc x1)) ∧ (at? (c.From.map eI) n_ = some [(vI x2)]) ∧ (pc 52 [(aAgg Event.enc x1)] (eqA (.v (.bool y3)))) ∧ (eqB (!y3) true) ∧ K (.v (.bool (x2 == (-1))))) := by kernel_rfl
theorem cand_from_p1 (c : Cand) (all : (List Event)) (n_ : Int) (x1 : Event) (x2 : Int) (y3 : Bool) (y6 : Int) (K : AV → Prop) : oP pc sc lp cd ⟨ord73, [(1, ⟨[], [], [(12, (Event.enc x1)), (19, [(vI x2)])], [], [], [], [], []⟩), rVC 2 [(21, vF)] [(23, .v (.bool y3))], rV 4 [(27, vT)], rVC 5 [] [(38, (vU y6))]], [], [], []⟩ 73 [.fptr (Cand.enc c) 0, .sl (all.map Event.enc), (vI n_)] K
  = ((at? (all.map Event.enc) n_ = some (Event.enc x1)) ∧ (at? (c.From.map eI) n_ = some [(vI x2)]) ∧ (pc 52 [(aAgg Event.enc x1)] (eqA (.v (.bool y3)))) ∧ (eqB (!y3) false) ∧ (eqB (x2 == (-1)) true) ∧ (pc 84 [.sl (c.First.map Cell.enc), (vU x1.Addr)] (eqA ((vU y6)))) ∧ K (.v (.bool (x1.Load == y6)))) := by kernel_rfl
theorem cand_from_p2 (c : Cand) (all : (List Event)) (n_ : Int) (x1 : Event) (x2 : Int) (y3 : Bool) (K : AV → Prop) : oP pc sc lp cd ⟨ord73, [(1, ⟨[], [], [(12, (Event.enc x1)), (19, [(vI x2)])], [], [], [], [], []⟩), rVC 2 [(21, vF)] [(23, .v (.bool y3))], rV 4 [(27, vF)], rV 6 [(43, vT)]], [], [], []⟩ 73 [.fptr (Cand.enc c) 0, .sl (all.map Event.enc), (vI n_)] K
  = ((at? (all.map Event.enc) n_ = some (Event.enc x1)) ∧ (at? (c.From.map eI) n_ = some [(vI x2)]) ∧ (pc 52 [(aAgg Event.enc x1)] (eqA (.v (.bool y3)))) ∧ (eqB (!y3) false) ∧ (eqB (x2 == (-1)) false) ∧ (eqB (decide (x2 < 0)) true) ∧ K (vF)) := by kernel_rfl
theorem cand_from_p3 (c : Cand) (all : (List Event)) (n_ : Int) (x1 : Event) (x2 : Int) (y3 : Bool) (K : AV → Prop) : oP pc sc lp cd ⟨ord73, [(1, ⟨[], [], [(12, (Event.enc x1)), (19, [(vI x2)])], [], [], [], [], []⟩), rVC 2 [(21, vF)] [(23, .v (.bool y3))], rV 4 [(27, vF)], rV 6 [(43, vF), (46, (vI (all.length : Int))), (49, vT)]], [], [], []⟩ 73 [.fptr (Cand.enc c) 0, .sl (all.map Event.enc), (vI n_)] K
  = ((at? (all.map Event.enc) n_ = some (Event.enc x1)) ∧ (at? (c.From.map eI) n_ = some [(vI x2)]) ∧ (pc 52 [(aAgg Event.enc x1)] (eqA (.v (.bool y3)))) ∧ (eqB (!y3) false) ∧ (eqB (x2 == (-1)) false) ∧ (eqB (decide (x2 < 0)) false) ∧ (AV.v (.int .i64 (((all.map Event.enc).length : Nat) : Int)) = AV.v (.int .i64 (all.length : Int))) ∧ (eqB (decide (x2 ≥ (all.length : Int))) true) ∧ K (vF)) := by kernel_rfl
theorem cand_from_p4 (c : Cand) (all : (List Event)) (n_ : Int) (x1 : Event) (x2 : Int) (y3 : Bool) (K : AV → Prop) : oP pc sc lp cd ⟨ord73, [(1, ⟨[], [], [(12, (Event.enc x1)), (19, [(vI x2)])], [], [], [], [], []⟩), rVC 2 [(21, vF)] [(23, .v (.bool y3))], rV 4 [(27, vF)], rV 6 [(40, vT), (43, vF), (46, (vI (all.length : Int))), (49, vF)]], [], [], []⟩ 73 [.fptr (Cand.enc c) 0, .sl (all.map Event.enc), (vI n_)] K
  = ((at? (all.map Event.enc) n_ = some (Event.enc x1)) ∧ (at? (c.From.map eI) n_ = some [(vI x2)]) ∧ (pc 52 [(aAgg Event.enc x1)] (eqA (.v (.bool y3)))) ∧ (eqB (!y3) false) ∧ (eqB (x2 == (-1)) false) ∧ (eqB (decide (x2 < 0)) false) ∧ (AV.v (.int .i64 (((all.map Event.enc).length : Nat) : Int)) = AV.v (.int .i64 (all.length : Int))) ∧ (eqB (decide (x2 ≥ (all.length : Int))) false) ∧ (eqB (x2 == n_) true) ∧ K (vF)) := by kernel_rfl
theorem cand_from_p5 (c : Cand) (all : (List Event)) (n_ : Int) (x1 : Event) (x2 : Int) (y3 : Bool) (x9 : Event) (y10 : Bool) (K : AV → Prop) : oP pc sc lp cd ⟨ord73, [(1, ⟨[], [], [(12, (Event.enc x1)), (19, [(vI x2)])], [], [], [], [], []⟩), rVC 2 [(21, vF)] [(23, .v (.bool y3))], rV 4 [(27, vF)], rV 6 [(40, vF), (43, vF), (46, (vI (all.length : Int))), (49, vF)], (8, ⟨[], [], [(56, (Event.enc x9))], [], [], [], [], []⟩), rVC 9 [(60, vT), (67, vT)] [(59, .v (.bool y10))]], [], [], []⟩ 73 [.fptr (Cand.enc c) 0, .sl (all.map Event.enc), (vI n_)] K
  = ((at? (all.map Event.enc) n_ = some (Event.enc x1)) ∧ (at? (c.From.map eI) n_ = some [(vI x2)]) ∧ (pc 52 [(aAgg Event.enc x1)] (eqA (.v (.bool y3)))) ∧ (eqB (!y3) false) ∧ (eqB (x2 == (-1)) false) ∧ (eqB (decide (x2 < 0)) false) ∧ (AV.v (.int .i64 (((all.map Event.enc).length : Nat) : Int)) = AV.v (.int .i64 (all.length : Int))) ∧ (eqB (decide (x2 ≥ (all.length : Int))) false) ∧ (eqB (x2 == n_) false) ∧ (at? (all.map Event.enc) x2 = some (Event.enc x9)) ∧ (pc 50 [(aAgg Event.enc x9)] (eqA (.v (.bool y10)))) ∧ (eqB y10 true) ∧ (eqB (x9.Addr == x1.Addr) true) ∧ K (.v (.bool (x9.Store == x1.Load)))) := by kernel_rfl
theorem cand_from_p6 (c : Cand) (all : (List Event)) (n_ : Int) (x1 : Event) (x2 : Int) (y3 : Bool) (x9 : Event) (y10 : Bool) (K : AV → Prop) : oP pc sc lp cd ⟨ord73, [(1, ⟨[], [], [(12, (Event.enc x1)), (19, [(vI x2)])], [], [], [], [], []⟩), rVC 2 [(21, vF)] [(23, .v (.bool y3))], rV 4 [(27, vF)], rV 6 [(40, vF), (43, vF), (46, (vI (all.length : Int))), (49, vF)], (8, ⟨[], [], [(56, (Event.enc x9))], [], [], [], [], []⟩), rVC 9 [(60, vT), (67, vF)] [(59, .v (.bool y10))]], [], [], []⟩ 73 [.fptr (Cand.enc c) 0, .sl (all.map Event.enc), (vI n_)] K
  = ((at? (all.map Event.enc) n_ = some (Event.enc x1)) ∧ (at? (c.From.map eI) n_ = some [(vI x2)]) ∧ (pc 52 [(aAgg Event.enc x1)] (eqA (.v (.bool y3)))) ∧ (eqB (!y3) false) ∧ (eqB (x2 == (-1)) false) ∧ (eqB (decide (x2 < 0)) false) ∧ (AV.v (.int .i64 (((all.map Event.enc).length : Nat) : Int)) = AV.v (.int .i64 (all.length : Int))) ∧ (eqB (decide (x2 ≥ (all.length : Int))) false) ∧ (eqB (x2 == n_) false) ∧ (at? (all.map Event.enc) x2 = some (Event.enc x9)) ∧ (pc 50 [(aAgg Event.enc x9)] (eqA (.v (.bool y10)))) ∧ (eqB y10 true) ∧ (eqB (x9.Addr == x1.Addr) false) ∧ K (vF)) := by kernel_rfl
theorem cand_from_p7 (c : Cand) (all : (List Event)) (n_ : Int) (x1 : Event) (x2 : Int) (y3 : Bool) (x9 : Event) (y10 : Bool) (K : AV → Prop) : oP pc sc lp cd ⟨ord73, [(1, ⟨[], [], [(12, (Event.enc x1)), (19, [(vI x2)])], [], [], [], [], []⟩), rVC 2 [(21, vF)] [(23, .v (.bool y3))], rV 4 [(27, vF)], rV 6 [(40, vF), (43, vF), (46, (vI (all.length : Int))), (49, vF)], (8, ⟨[], [], [(56, (Event.enc x9))], [], [], [], [], []⟩), rVC 9 [(60, vF)] [(59, .v (.bool y10))]], [], [], []⟩ 73 [.fptr (Cand.enc c) 0, .sl (all.map Event.enc), (vI n_)] K
  = ((at? (all.map Event.enc) n_ = some (Event.enc x1)) ∧ (at? (c.From.map eI) n_ = some [(vI x2)]) ∧ (pc 52 [(aAgg Event.enc x1)] (eqA (.v (.bool y3)))) ∧ (eqB (!y3) false) ∧ (eqB (x2 == (-1)) false) ∧ (eqB (decide (x2 < 0)) false) ∧ (AV.v (.int .i64 (((all.map Event.enc).length : Nat) : Int)) = AV.v (.int .i64 (all.length : Int))) ∧ (eqB (decide (x2 ≥ (all.length : Int))) false) ∧ (eqB (x2 == n_) false) ∧ (at? (all.map Event.enc) x2 = some (Event.enc x9)) ∧ (pc 50 [(aAgg Event.enc x9)] (eqA (.v (.bool y10)))) ∧ (eqB y10 false) ∧ K (vF)) := by kernel_rfl
theorem cand_from_sim (n : Nat) (c : Cand) (all : (List Event)) (n_ : Int) (r : Bool) (h : cand_from n c all n_ = some r) : PCall Try.prog 73 [.fptr (Cand.enc c) 0, .sl (all.map Event.enc), (vI n_)] (eqA (.v (.bool r))) := by
 unfold cand_from at h
 obtain ⟨x1, gx1, h⟩ := bindE h
 obtain ⟨x2, gx2, h⟩ := bindE h
 obtain ⟨y3, gy3, h⟩ := bindE h
 rcases iteE h with ⟨h4, h⟩ | ⟨h4, h⟩
 ·
  obtain rfl := soI h
  exact okP ordB73 (Eq.mpr (cand_from_p0 pP sP lP dP c all n_ x1 x2 y3 _) (⟨at_map Event.enc gx1, at_map eI gx2, (event_Reads_sim n x1 y3 gy3), cB h4, LeA.refl _⟩))
 rcases iteE h with ⟨h5, h⟩ | ⟨h5, h⟩
 ·
  obtain ⟨y6, gy6, h⟩ := bindE h
  obtain rfl := soI h
  exact okP ordB73 (Eq.mpr (cand_from_p1 pP sP lP dP c all n_ x1 x2 y3 y6 _) (⟨at_map Event.enc gx1, at_map eI gx2, (event_Reads_sim n x1 y3 gy3), cB h4, cB h5, (cand_found_sim n c.First x1.Addr y6 gy6), LeA.refl _⟩))
 rcases iteE h with ⟨h6, h⟩ | ⟨h6, h⟩
 ·
  obtain rfl := soI h
  exact okP ordB73 (Eq.mpr (cand_from_p2 pP sP lP dP c all n_ x1 x2 y3 _) (⟨at_map Event.enc gx1, at_map eI gx2, (event_Reads_sim n x1 y3 gy3), cB h4, cB h5, cB h6, LeA.refl _⟩))
 rcases iteE h with ⟨h7, h⟩ | ⟨h7, h⟩
 ·
  obtain rfl := soI h
  exact okP ordB73 (Eq.mpr (cand_from_p3 pP sP lP dP c all n_ x1 x2 y3 _) (⟨at_map Event.enc gx1, at_map eI gx2, (event_Reads_sim n x1 y3 gy3), cB h4, cB h5, cB h6, len_map _ _, cB h7, LeA.refl _⟩))
 rcases iteE h with ⟨h8, h⟩ | ⟨h8, h⟩
 ·
  obtain rfl := soI h
  exact okP ordB73 (Eq.mpr (cand_from_p4 pP sP lP dP c all n_ x1 x2 y3 _) (⟨at_map Event.enc gx1, at_map eI gx2, (event_Reads_sim n x1 y3 gy3), cB h4, cB h5, cB h6, len_map _ _, cB h7, cB h8, LeA.refl _⟩))
 obtain ⟨x9, gx9, h⟩ := bindE h
 obtain ⟨y10, gy10, h⟩ := bindE h
 rcases iteN h with ⟨h11, h⟩ | ⟨h11, h⟩
 ·
  obtain rfl := soI h
  exact okP ordB73 (Eq.mpr (cand_from_p7 pP sP lP dP c all n_ x1 x2 y3 x9 y10 _) (⟨at_map Event.enc gx1, at_map eI gx2, (event_Reads_sim n x1 y3 gy3), cB h4, cB h5, cB h6, len_map _ _, cB h7, cB h8, at_map Event.enc gx9, (event_Writes_sim n x9 y10 gy10), cB h11, LeA.refl _⟩))
 rcases iteE h with ⟨h12, h⟩ | ⟨h12, h⟩
 ·
  obtain rfl := soI h
  exact okP ordB73 (Eq.mpr (cand_from_p5 pP sP lP dP c all n_ x1 x2 y3 x9 y10 _) (⟨at_map Event.enc gx1, at_map eI gx2, (event_Reads_sim n x1 y3 gy3), cB h4, cB h5, cB h6, len_map _ _, cB h7, cB h8, at_map Event.enc gx9, (event_Writes_sim n x9 y10 gy10), cB h11, cB h12, LeA.refl _⟩))
 obtain rfl := soI h
 exact okP ordB73 (Eq.mpr (cand_from_p6 pP sP lP dP c all n_ x1 x2 y3 x9 y10 _) (⟨at_map Event.enc gx1, at_map eI gx2, (event_Reads_sim n x1 y3 gy3), cB h4, cB h5, cB h6, len_map _ _, cB h7, cB h8, at_map Event.enc gx9, (event_Writes_sim n x9 y10 gy10), cB h11, cB h12, LeA.refl _⟩))

def ord38 : List (Nat × PT) := []
theorem ordB38 : ordB (polF 38) ord38 (bodyOf Try.prog 38) = true := by kernel_rfl
theorem event_Memory_p0 (e : Event) (y1 : Bool) (K : AV → Prop) : oP pc sc lp cd ⟨ord38, [rVC 1 [(5, vT)] [(4, .v (.bool y1))]], [], [], []⟩ 38 [(aAgg Event.enc e)] K
  = ((pc 52 [(aAgg Event.enc e)] (eqA (.v (.bool y1)))) ∧ (eqB y1 true) ∧ K (vT)) := by kernel_rfl
theorem event_Memory_p1 (e : Event) (y1 : Bool) (y3 : Bool) (K : AV → Prop) : oP pc sc lp cd ⟨ord38, [rVC 1 [(5, vF)] [(4, .v (.bool y1)), (7, .v (.bool y3))]], [], [], []⟩ 38 [(aAgg Event.enc e)] K
  = ((pc 52 [(aAgg Event.enc e)] (eqA (.v (.bool y1)))) ∧ (eqB y1 false) ∧ (pc 50 [(aAgg Event.enc e)] (eqA (.v (.bool y3)))) ∧ K (.v (.bool y3))) := by kernel_rfl
theorem event_Memory_sim (n : Nat) (e : Event) (r : Bool) (h : event_Memory n e = some r) : PCall Try.prog 38 [(aAgg Event.enc e)] (eqA (.v (.bool r))) := by
 unfold event_Memory at h
 obtain ⟨y1, gy1, h⟩ := bindE h
 rcases iteE h with ⟨h2, h⟩ | ⟨h2, h⟩
 ·
  obtain rfl := soI h
  exact okP ordB38 (Eq.mpr (event_Memory_p0 pP sP lP dP e y1 _) (⟨(event_Reads_sim n e y1 gy1), cB h2, LeA.refl _⟩))
 obtain ⟨y3, gy3, h⟩ := bindE h
 obtain rfl := soI h
 exact okP ordB38 (Eq.mpr (event_Memory_p1 pP sP lP dP e y1 y3 _) (⟨(event_Reads_sim n e y1 gy1), cB h2, (event_Writes_sim n e y3 gy3), LeA.refl _⟩))

def ord74 : List (Nat × PT) := []
theorem ordB74 : ordB (polF 74) ord74 (bodyOf Try.prog 74) = true := by kernel_rfl
noncomputable def c_cand_ordered_L1 : Code := sub (bodyOf Try.prog 74) [1, 1, 1, 0, 1, 0, 0]
noncomputable def c_cand_ordered_L2 : Code := sub (bodyOf Try.prog 74) [1, 1, 1, 1, 0, 1, 0, 0]
theorem ordB_cand_ordered_L1 : ordB (polF 74) ord74 c_cand_ordered_L1 = true := by kernel_rfl
def cand_ordered_L1_S (c : Cand) (all : (List Event)) (sa : (List Bool) × Int × Int) : St := mkS 61 [(0, .fptr (Cand.enc c) 0), (5, .mf 0), (6, (vI sa.2.2)), (14, .sl (all.map Event.enc)), (15, (vI (all.length : Int))), (16, (vI sa.2.1))] [] [.arr true 1 (sa.1.map eBool)] 0
def cand_ordered_L1_T0 (c : Cand) (all : (List Event)) (tt : (List Bool) × Int) : St := mkS 61 [(0, .fptr (Cand.enc c) 0), (5, .mf 0), (6, (vI tt.2))] [] [.arr true 1 (tt.1.map eBool)] 0
def cand_ordered_L1_out (c : Cand) (all : (List Event)) (tt : ((List Bool) × Int)) : Ex × St := (.ex 0, cand_ordered_L1_T0 c all tt)
theorem cand_ordered_L1_p0 (c : Cand) (all : (List Event)) (sa : (List Bool) × Int × Int) (xa2 : Event) (ya3 : Bool) (xa5 : Bool) (K : Ex → St → Prop) : oR pc sc lp cd ⟨ord74, [rV 4 [(17, vT)], (5, ⟨[], [], [(19, (Event.enc xa2))], [], [], [], [], []⟩), rVC 6 [(22, vT)] [(22, .v (.bool ya3))], (7, ⟨[], [], [(25, [.v (.bool xa5)]), (1000025, [.v (.bool xa5)])], [], [], [], [(1000025, (0, (sa.1.set (sa.2.1).toNat true).map eBool))], []⟩)], [], [], []⟩ (polF 74) [(0, ⟨[0, 5, 6, 14, 15, 16], [8], 1, [], []⟩, ⟨[], [], []⟩)] c_cand_ordered_L1 (cand_ordered_L1_S c all sa) K
  = ((eqB (decide (sa.2.1 < (all.length : Int))) true) ∧ (at? (all.map Event.enc) sa.2.1 = some (Event.enc xa2)) ∧ (pc 38 [(aAgg Event.enc xa2)] (eqA (.v (.bool ya3)))) ∧ (eqB ya3 true) ∧ (at? (sa.1.map eBool) sa.2.1 = some [.v (.bool xa5)]) ∧ ((sa.1.map eBool)[(sa.2.1).toNat]? = some [.v (.bool xa5)]) ∧ ((sa.1.map eBool).set (sa.2.1).toNat [vT] = (sa.1.set (sa.2.1).toNat true).map eBool) ∧ K .nrm (cand_ordered_L1_S c all ((sa.1.set (sa.2.1).toNat true), (addW .i64 sa.2.1 1), (addW .i64 sa.2.2 1)))) := by kernel_rfl
theorem cand_ordered_L1_p1 (c : Cand) (all : (List Event)) (sa : (List Bool) × Int × Int) (xa2 : Event) (ya3 : Bool) (K : Ex → St → Prop) : oR pc sc lp cd ⟨ord74, [rV 4 [(17, vT)], (5, ⟨[], [], [(19, (Event.enc xa2))], [], [], [], [], []⟩), rVC 6 [(22, vF)] [(22, .v (.bool ya3))]], [], [], []⟩ (polF 74) [(0, ⟨[0, 5, 6, 14, 15, 16], [8], 1, [], []⟩, ⟨[], [], []⟩)] c_cand_ordered_L1 (cand_ordered_L1_S c all sa) K
  = ((eqB (decide (sa.2.1 < (all.length : Int))) true) ∧ (at? (all.map Event.enc) sa.2.1 = some (Event.enc xa2)) ∧ (pc 38 [(aAgg Event.enc xa2)] (eqA (.v (.bool ya3)))) ∧ (eqB ya3 false) ∧ K .nrm (cand_ordered_L1_S c all (sa.1, (addW .i64 sa.2.1 1), sa.2.2))) := by kernel_rfl
theorem cand_ordered_L1_p2 (c : Cand) (all : (List Event)) (sa : (List Bool) × Int × Int) (K : Ex → St → Prop) : oR pc sc lp cd ⟨ord74, [rV 4 [(17, vF)]], [], [], []⟩ (polF 74) [(2, ⟨[0, 5, 6], [], 1, [], []⟩, ⟨[], [], []⟩)] c_cand_ordered_L1 (cand_ordered_L1_S c all sa) K
  = ((eqB (decide (sa.2.1 < (all.length : Int))) false) ∧ K (.ex 0) (cand_ordered_L1_T0 c all (sa.1, sa.2.2))) := by kernel_rfl
theorem cand_ordered_L1_sim (n : Nat) (c : Cand) (all : (List Event)) : ∀ sa r, cand_ordered_L1 n c all sa = some r → CodeD Try.prog c_cand_ordered_L1 (cand_ordered_L1_S c all sa) (rk (cand_ordered_L1_S c all) (cand_ordered_L1_out c all) r) := by
 intro sa r h
 unfold cand_ordered_L1 at h
 rcases iteN h with ⟨ha1, h⟩ | ⟨ha1, h⟩
 ·
  obtain rfl := soI h
  exact okR ordB_cand_ordered_L1 (Eq.mpr (cand_ordered_L1_p2 pP sP lP dP c all sa _) ⟨cB ha1, ⟨rfl, rfl⟩⟩) (rkE rfl neE)
 obtain ⟨xa2, gxa2, h⟩ := bindE h
 obtain ⟨ya3, gya3, h⟩ := bindE h
 rcases iteN h with ⟨ha4, h⟩ | ⟨ha4, h⟩
 ·
  obtain rfl := soI h
  exact okR ordB_cand_ordered_L1 (Eq.mpr (cand_ordered_L1_p1 pP sP lP dP c all sa xa2 ya3 _) ⟨cB ha1, at_map Event.enc gxa2, (event_Memory_sim n xa2 ya3 gya3), cB ha4, ⟨rfl, rfl⟩⟩) rkN
 obtain ⟨xa5, gxa5, h⟩ := bindE h
 obtain rfl := soI h
 exact okR ordB_cand_ordered_L1 (Eq.mpr (cand_ordered_L1_p0 pP sP lP dP c all sa xa2 ya3 xa5 _) ⟨cB ha1, at_map Event.enc gxa2, (event_Memory_sim n xa2 ya3 gya3), cB ha4, at_map eBool gxa5, at_map' eBool gxa5, set_map eBool sa.1 ((sa.2.1).toNat) true, ⟨rfl, rfl⟩⟩) rkN

theorem ordB_cand_ordered_L2 : ordB (polF 74) ord74 c_cand_ordered_L2 = true := by kernel_rfl
def cand_ordered_L2_S (c : Cand) (sa : (List Bool) × Int × Int) : St := mkS 61 [(5, .mf 0), (6, (vI sa.2.2)), (32, .sl (c.Order.map eI)), (33, (vI (c.Order.length : Int))), (34, (vI sa.2.1))] [] [.arr true 1 (sa.1.map eBool)] 0
def cand_ordered_L2_T0 (c : Cand) (tt : Int) : St := mkS 61 [(6, (vI tt))] [] [] 0
def cand_ordered_L2_T1 (c : Cand) (tt : Unit) : St := mkS 61 [(4, vF)] [] [] 0
def cand_ordered_L2_out (c : Cand) (t0 : (Int ⊕ Unit)) : Ex × St := match t0 with | .inl tt => (.ex 2, cand_ordered_L2_T0 c tt) | .inr tt => (.ret, cand_ordered_L2_T1 c tt)
theorem cand_ordered_L2_p0 (c : Cand) (sa : (List Bool) × Int × Int) (xa2 : Int) (K : Ex → St → Prop) : oR pc sc lp cd ⟨ord74, [rV 11 [(35, vT)], (12, ⟨[], [], [(36, [(vI xa2)])], [], [], [], [], []⟩), rV 13 [(40, vT)]], [], [], []⟩ (polF 74) [(1, ⟨[4], [], 0, [], []⟩, ⟨[], [], []⟩)] c_cand_ordered_L2 (cand_ordered_L2_S c sa) K
  = ((eqB (decide (sa.2.1 < (c.Order.length : Int))) true) ∧ (at? (c.Order.map eI) sa.2.1 = some [(vI xa2)]) ∧ (eqB (decide (xa2 < 0)) true) ∧ K .ret (cand_ordered_L2_T1 c ())) := by kernel_rfl
theorem cand_ordered_L2_p1 (c : Cand) (sa : (List Bool) × Int × Int) (xa2 : Int) (K : Ex → St → Prop) : oR pc sc lp cd ⟨ord74, [rV 11 [(35, vT)], (12, ⟨[], [], [(36, [(vI xa2)])], [], [], [], [], []⟩), rV 13 [(40, vF), (43, (vI (sa.1.length : Int))), (46, vT)]], [], [], []⟩ (polF 74) [(1, ⟨[4], [], 0, [], []⟩, ⟨[], [], []⟩)] c_cand_ordered_L2 (cand_ordered_L2_S c sa) K
  = ((eqB (decide (sa.2.1 < (c.Order.length : Int))) true) ∧ (at? (c.Order.map eI) sa.2.1 = some [(vI xa2)]) ∧ (eqB (decide (xa2 < 0)) false) ∧ (AV.v (.int .i64 (((sa.1.map eBool).length : Nat) : Int)) = AV.v (.int .i64 (sa.1.length : Int))) ∧ (eqB (decide (xa2 ≥ (sa.1.length : Int))) true) ∧ K .ret (cand_ordered_L2_T1 c ())) := by kernel_rfl
theorem cand_ordered_L2_p2 (c : Cand) (sa : (List Bool) × Int × Int) (xa2 : Int) (xa5 : Bool) (K : Ex → St → Prop) : oR pc sc lp cd ⟨ord74, [rV 11 [(35, vT)], (12, ⟨[], [], [(36, [(vI xa2)])], [], [], [], [], []⟩), (13, ⟨[], [], [(49, [.v (.bool xa5)]), (50, [.v (.bool xa5)])], [(40, vF), (43, (vI (sa.1.length : Int))), (46, vF), (52, vT)], [], [], [], []⟩)], [], [], []⟩ (polF 74) [(1, ⟨[4], [], 0, [], []⟩, ⟨[], [], []⟩)] c_cand_ordered_L2 (cand_ordered_L2_S c sa) K
  = ((eqB (decide (sa.2.1 < (c.Order.length : Int))) true) ∧ (at? (c.Order.map eI) sa.2.1 = some [(vI xa2)]) ∧ (eqB (decide (xa2 < 0)) false) ∧ (AV.v (.int .i64 (((sa.1.map eBool).length : Nat) : Int)) = AV.v (.int .i64 (sa.1.length : Int))) ∧ (eqB (decide (xa2 ≥ (sa.1.length : Int))) false) ∧ (at? (sa.1.map eBool) xa2 = some [.v (.bool xa5)]) ∧ ((sa.1.map eBool)[(xa2).toNat]? = some [.v (.bool xa5)]) ∧ (eqB (!xa5) true) ∧ K .ret (cand_ordered_L2_T1 c ())) := by kernel_rfl
theorem cand_ordered_L2_p3 (c : Cand) (sa : (List Bool) × Int × Int) (xa2 : Int) (xa5 : Bool) (K : Ex → St → Prop) : oR pc sc lp cd ⟨ord74, [rV 11 [(35, vT)], (12, ⟨[], [], [(36, [(vI xa2)])], [], [], [], [], []⟩), (13, ⟨[], [], [(49, [.v (.bool xa5)]), (50, [.v (.bool xa5)])], [(40, vF), (43, (vI (sa.1.length : Int))), (46, vF), (52, vF)], [], [], [], []⟩), (15, ⟨[], [], [(55, [.v (.bool xa5)]), (1000055, [.v (.bool xa5)])], [], [], [], [(1000055, (0, (sa.1.set (xa2).toNat false).map eBool))], []⟩)], [], [], []⟩ (polF 74) [(0, ⟨[5, 6, 32, 33, 34], [], 1, [], []⟩, ⟨[], [], []⟩)] c_cand_ordered_L2 (cand_ordered_L2_S c sa) K
  = ((eqB (decide (sa.2.1 < (c.Order.length : Int))) true) ∧ (at? (c.Order.map eI) sa.2.1 = some [(vI xa2)]) ∧ (eqB (decide (xa2 < 0)) false) ∧ (AV.v (.int .i64 (((sa.1.map eBool).length : Nat) : Int)) = AV.v (.int .i64 (sa.1.length : Int))) ∧ (eqB (decide (xa2 ≥ (sa.1.length : Int))) false) ∧ (at? (sa.1.map eBool) xa2 = some [.v (.bool xa5)]) ∧ ((sa.1.map eBool)[(xa2).toNat]? = some [.v (.bool xa5)]) ∧ (eqB (!xa5) false) ∧ (at? (sa.1.map eBool) xa2 = some [.v (.bool xa5)]) ∧ ((sa.1.map eBool)[(xa2).toNat]? = some [.v (.bool xa5)]) ∧ ((sa.1.map eBool).set (xa2).toNat [vF] = (sa.1.set (xa2).toNat false).map eBool) ∧ K .nrm (cand_ordered_L2_S c ((sa.1.set (xa2).toNat false), (addW .i64 sa.2.1 1), (subW .i64 sa.2.2 1)))) := by kernel_rfl
theorem cand_ordered_L2_p4 (c : Cand) (sa : (List Bool) × Int × Int) (K : Ex → St → Prop) : oR pc sc lp cd ⟨ord74, [rV 11 [(35, vF)]], [], [], []⟩ (polF 74) [(4, ⟨[6], [], 0, [], []⟩, ⟨[], [], []⟩)] c_cand_ordered_L2 (cand_ordered_L2_S c sa) K
  = ((eqB (decide (sa.2.1 < (c.Order.length : Int))) false) ∧ K (.ex 2) (cand_ordered_L2_T0 c sa.2.2)) := by kernel_rfl
theorem cand_ordered_L2_sim (n : Nat) (c : Cand) : ∀ sa r, cand_ordered_L2 n c sa = some r → CodeD Try.prog c_cand_ordered_L2 (cand_ordered_L2_S c sa) (rk (cand_ordered_L2_S c) (cand_ordered_L2_out c) r) := by
 intro sa r h
 unfold cand_ordered_L2 at h
 rcases iteN h with ⟨ha1, h⟩ | ⟨ha1, h⟩
 ·
  obtain rfl := soI h
  exact okR ordB_cand_ordered_L2 (Eq.mpr (cand_ordered_L2_p4 pP sP lP dP c sa _) ⟨cB ha1, ⟨rfl, rfl⟩⟩) (rkE rfl neE)
 obtain ⟨xa2, gxa2, h⟩ := bindE h
 rcases iteE h with ⟨ha3, h⟩ | ⟨ha3, h⟩
 ·
  obtain rfl := soI h
  exact okR ordB_cand_ordered_L2 (Eq.mpr (cand_ordered_L2_p0 pP sP lP dP c sa xa2 _) ⟨cB ha1, at_map eI gxa2, cB ha3, ⟨rfl, rfl⟩⟩) (rkE rfl neR)
 rcases iteE h with ⟨ha4, h⟩ | ⟨ha4, h⟩
 ·
  obtain rfl := soI h
  exact okR ordB_cand_ordered_L2 (Eq.mpr (cand_ordered_L2_p1 pP sP lP dP c sa xa2 _) ⟨cB ha1, at_map eI gxa2, cB ha3, len_map _ _, cB ha4, ⟨rfl, rfl⟩⟩) (rkE rfl neR)
 obtain ⟨xa5, gxa5, h⟩ := bindE h
 rcases iteE h with ⟨ha6, h⟩ | ⟨ha6, h⟩
 ·
  obtain rfl := soI h
  exact okR ordB_cand_ordered_L2 (Eq.mpr (cand_ordered_L2_p2 pP sP lP dP c sa xa2 xa5 _) ⟨cB ha1, at_map eI gxa2, cB ha3, len_map _ _, cB ha4, at_map eBool gxa5, at_map' eBool gxa5, cB ha6, ⟨rfl, rfl⟩⟩) (rkE rfl neR)
 obtain rfl := soI h
 exact okR ordB_cand_ordered_L2 (Eq.mpr (cand_ordered_L2_p3 pP sP lP dP c sa xa2 xa5 _) ⟨cB ha1, at_map eI gxa2, cB ha3, len_map _ _, cB ha4, at_map eBool gxa5, at_map' eBool gxa5, cB ha6, at_map eBool gxa5, at_map' eBool gxa5, set_map eBool sa.1 ((xa2).toNat) false, ⟨rfl, rfl⟩⟩) rkN

theorem cand_ordered_p0 (c : Cand) (all : (List Event)) (t2 : ((List Bool) × Int)) (w4 : Int) (K : AV → Prop) : oP pc sc lp cd ⟨ord74, [(1, ⟨[], [13], [], [(12, (vI (all.length : Int)))], [], [], [(13, (0, (List.replicate ((all.length : Int)).toNat false).map eBool))], []⟩), rV 3 [(15, (vI (all.length : Int)))], rV 10 [(33, (vI (c.Order.length : Int)))]], [], [(4, (⟨[0, 5, 6, 14, 15, 16], [], 1, [], []⟩, ⟨[], [], []⟩, (.ex 0), cand_ordered_L1_T0 c all t2)), (11, (⟨[5, 6, 32, 33, 34], [], 1, [], []⟩, ⟨[], [], []⟩, (.ex 2), cand_ordered_L2_T0 c w4))], []⟩ 74 [.fptr (Cand.enc c) 0, .sl (all.map Event.enc)] K
  = ((AV.v (.int .i64 (((all.map Event.enc).length : Nat) : Int)) = AV.v (.int .i64 (all.length : Int))) ∧ ((decide (0 ≤ (all.length : Int)) && decide ((all.length : Int) ≤ (all.length : Int)) && decide (1 * (all.length : Int) ≤ 140737488355328) && decide ((all.length : Int) ≤ 140737488355328) && Nat.blt 0 1) = true) ∧ (List.replicate ((all.length : Int)).toNat [vF] = (List.replicate ((all.length : Int)).toNat false).map eBool) ∧ (AV.v (.int .i64 (((all.map Event.enc).length : Nat) : Int)) = AV.v (.int .i64 (all.length : Int))) ∧ (lp (polF 74) c_cand_ordered_L1 (cand_ordered_L1_S c all ((List.replicate ((all.length : Int)).toNat false), 0, 0)) (fun e' S' => e' = (.ex 0) ∧ S' = cand_ordered_L1_T0 c all t2)) ∧ (AV.v (.int .i64 (((c.Order.map eI).length : Nat) : Int)) = AV.v (.int .i64 (c.Order.length : Int))) ∧ (lp (polF 74) c_cand_ordered_L2 (cand_ordered_L2_S c (t2.1, 0, t2.2)) (fun e' S' => e' = (.ex 2) ∧ S' = cand_ordered_L2_T0 c w4)) ∧ K (.v (.bool (w4 == 0)))) := by kernel_rfl
theorem cand_ordered_p1 (c : Cand) (all : (List Event)) (t2 : ((List Bool) × Int)) (w4 : Unit) (K : AV → Prop) : oP pc sc lp cd ⟨ord74, [(1, ⟨[], [13], [], [(12, (vI (all.length : Int)))], [], [], [(13, (0, (List.replicate ((all.length : Int)).toNat false).map eBool))], []⟩), rV 3 [(15, (vI (all.length : Int)))], rV 10 [(33, (vI (c.Order.length : Int)))]], [], [(4, (⟨[0, 5, 6, 14, 15, 16], [], 1, [], []⟩, ⟨[], [], []⟩, (.ex 0), cand_ordered_L1_T0 c all t2)), (11, (⟨[5, 6, 32, 33, 34], [], 1, [], []⟩, ⟨[], [], []⟩, .ret, cand_ordered_L2_T1 c w4))], []⟩ 74 [.fptr (Cand.enc c) 0, .sl (all.map Event.enc)] K
  = ((AV.v (.int .i64 (((all.map Event.enc).length : Nat) : Int)) = AV.v (.int .i64 (all.length : Int))) ∧ ((decide (0 ≤ (all.length : Int)) && decide ((all.length : Int) ≤ (all.length : Int)) && decide (1 * (all.length : Int) ≤ 140737488355328) && decide ((all.length : Int) ≤ 140737488355328) && Nat.blt 0 1) = true) ∧ (List.replicate ((all.length : Int)).toNat [vF] = (List.replicate ((all.length : Int)).toNat false).map eBool) ∧ (AV.v (.int .i64 (((all.map Event.enc).length : Nat) : Int)) = AV.v (.int .i64 (all.length : Int))) ∧ (lp (polF 74) c_cand_ordered_L1 (cand_ordered_L1_S c all ((List.replicate ((all.length : Int)).toNat false), 0, 0)) (fun e' S' => e' = (.ex 0) ∧ S' = cand_ordered_L1_T0 c all t2)) ∧ (AV.v (.int .i64 (((c.Order.map eI).length : Nat) : Int)) = AV.v (.int .i64 (c.Order.length : Int))) ∧ (lp (polF 74) c_cand_ordered_L2 (cand_ordered_L2_S c (t2.1, 0, t2.2)) (fun e' S' => e' = .ret ∧ S' = cand_ordered_L2_T1 c w4)) ∧ K (vF)) := by kernel_rfl
theorem cand_ordered_sim (n : Nat) (c : Cand) (all : (List Event)) (r : Bool) (h : cand_ordered n c all = some r) : PCall Try.prog 74 [.fptr (Cand.enc c) 0, .sl (all.map Event.enc)] (eqA (.v (.bool r))) := by
 unfold cand_ordered at h
 obtain ⟨h1, h⟩ := grdE h
 obtain ⟨t2, gt2, h⟩ := bindE h
 obtain ⟨t3, gt3, h⟩ := bindE h
 rcases t3 with w4 | w4
 ·
  obtain rfl := soI h
  exact okP ordB74 (Eq.mpr (cand_ordered_p0 pP sP lP dP c all t2 w4 _) (⟨len_map _ _, h1, rep_map eBool _ false, len_map _ _, okL (cand_ordered_L1_S c all) (cand_ordered_L1_out c all) (cand_ordered_L1_sim n c all) n _ t2 gt2, len_map _ _, okL (cand_ordered_L2_S c) (cand_ordered_L2_out c) (cand_ordered_L2_sim n c) n _ (.inl w4) gt3, LeA.refl _⟩))
 ·
  obtain rfl := soI h
  exact okP ordB74 (Eq.mpr (cand_ordered_p1 pP sP lP dP c all t2 w4 _) (⟨len_map _ _, h1, rep_map eBool _ false, len_map _ _, okL (cand_ordered_L1_S c all) (cand_ordered_L1_out c all) (cand_ordered_L1_sim n c all) n _ t2 gt2, len_map _ _, okL (cand_ordered_L2_S c) (cand_ordered_L2_out c) (cand_ordered_L2_sim n c) n _ (.inr w4) gt3, LeA.refl _⟩))

def ord43 : List (Nat × PT) := []
theorem ordB43 : ordB (polF 43) ord43 (bodyOf Try.prog 43) = true := by kernel_rfl
noncomputable def c_cand_Check_L1 : Code := sub (bodyOf Try.prog 43) [1, 1, 1, 0, 1, 0, 0]
noncomputable def c_cand_Check_L2 : Code := sub (bodyOf Try.prog 43) [1, 1, 1, 1, 1, 1, 0, 1, 0, 0]
theorem ordB_cand_Check_L1 : ordB (polF 43) ord43 c_cand_Check_L1 = true := by kernel_rfl
def cand_Check_L1_S (c : Cand) (sa : Int × Int) : St := mkS 64 [(1, .ptr (.O 0) 0 0), (3, (vI sa.2)), (25, .sl (c.Harts.map (eSl Event.enc))), (26, (vI (c.Harts.length : Int))), (27, (vI sa.1))] [] [.arr true 4 [(Cand.enc c)]] 0
def cand_Check_L1_T0 (c : Cand) (tt : Int) : St := mkS 64 [(1, .ptr (.O 0) 0 0), (3, (vI tt))] [] [.arr true 4 [(Cand.enc c)]] 0
def cand_Check_L1_T1 (c : Cand) (tt : Unit) : St := mkS 64 [(2, (vI 2))] [] [] 0
def cand_Check_L1_out (c : Cand) (t0 : (Int ⊕ Unit)) : Ex × St := match t0 with | .inl tt => (.ex 0, cand_Check_L1_T0 c tt) | .inr tt => (.ret, cand_Check_L1_T1 c tt)
theorem cand_Check_L1_p0 (c : Cand) (sa : Int × Int) (xa2 : (List Event)) (K : Ex → St → Prop) : oR pc sc lp cd ⟨ord43, [rV 5 [(28, vT)], (6, ⟨[], [], [(30, [.sl (xa2.map Event.enc)])], [], [], [], [], []⟩), rV 7 [(34, (vI (xa2.length : Int)))], rV 8 [(38, vT)]], [], [], []⟩ (polF 43) [(1, ⟨[2], [], 0, [], []⟩, ⟨[], [], []⟩)] c_cand_Check_L1 (cand_Check_L1_S c sa) K
  = ((eqB (decide (sa.1 < (c.Harts.length : Int))) true) ∧ (at? (c.Harts.map (eSl Event.enc)) sa.1 = some [.sl (xa2.map Event.enc)]) ∧ (AV.v (.int .i64 (((xa2.map Event.enc).length : Nat) : Int)) = AV.v (.int .i64 (xa2.length : Int))) ∧ (eqB (decide ((addW .i64 sa.2 (xa2.length : Int)) > 4096)) true) ∧ K .ret (cand_Check_L1_T1 c ())) := by kernel_rfl
theorem cand_Check_L1_p1 (c : Cand) (sa : Int × Int) (xa2 : (List Event)) (ya4 : Int) (K : Ex → St → Prop) : oR pc sc lp cd ⟨ord43, [rV 5 [(28, vT)], (6, ⟨[], [], [(30, [.sl (xa2.map Event.enc)])], [], [], [], [], []⟩), rV 7 [(34, (vI (xa2.length : Int)))], rVC 8 [(38, vF), (43, vT)] [(41, (vI ya4))]], [], [], []⟩ (polF 43) [(1, ⟨[2], [], 0, [], []⟩, ⟨[], [], []⟩)] c_cand_Check_L1 (cand_Check_L1_S c sa) K
  = ((eqB (decide (sa.1 < (c.Harts.length : Int))) true) ∧ (at? (c.Harts.map (eSl Event.enc)) sa.1 = some [.sl (xa2.map Event.enc)]) ∧ (AV.v (.int .i64 (((xa2.map Event.enc).length : Nat) : Int)) = AV.v (.int .i64 (xa2.length : Int))) ∧ (eqB (decide ((addW .i64 sa.2 (xa2.length : Int)) > 4096)) false) ∧ (pc 71 [(vI sa.1), .sl (xa2.map Event.enc)] (eqA ((vI ya4)))) ∧ (eqB (ya4 != 0) true) ∧ K .ret (cand_Check_L1_T1 c ())) := by kernel_rfl
theorem cand_Check_L1_p2 (c : Cand) (sa : Int × Int) (xa2 : (List Event)) (ya4 : Int) (K : Ex → St → Prop) : oR pc sc lp cd ⟨ord43, [rV 5 [(28, vT)], (6, ⟨[], [], [(30, [.sl (xa2.map Event.enc)])], [], [], [], [], []⟩), rV 7 [(34, (vI (xa2.length : Int)))], rVC 8 [(38, vF), (43, vF)] [(41, (vI ya4))]], [], [], []⟩ (polF 43) [(0, ⟨[1, 3, 25, 26, 27], [], 1, [], []⟩, ⟨[], [], []⟩)] c_cand_Check_L1 (cand_Check_L1_S c sa) K
  = ((eqB (decide (sa.1 < (c.Harts.length : Int))) true) ∧ (at? (c.Harts.map (eSl Event.enc)) sa.1 = some [.sl (xa2.map Event.enc)]) ∧ (AV.v (.int .i64 (((xa2.map Event.enc).length : Nat) : Int)) = AV.v (.int .i64 (xa2.length : Int))) ∧ (eqB (decide ((addW .i64 sa.2 (xa2.length : Int)) > 4096)) false) ∧ (pc 71 [(vI sa.1), .sl (xa2.map Event.enc)] (eqA ((vI ya4)))) ∧ (eqB (ya4 != 0) false) ∧ K .nrm (cand_Check_L1_S c ((addW .i64 sa.1 1), (addW .i64 sa.2 (xa2.length : Int))))) := by kernel_rfl
theorem cand_Check_L1_p3 (c : Cand) (sa : Int × Int) (K : Ex → St → Prop) : oR pc sc lp cd ⟨ord43, [rV 5 [(28, vF)]], [], [], []⟩ (polF 43) [(2, ⟨[1, 3], [], 1, [], []⟩, ⟨[], [], []⟩)] c_cand_Check_L1 (cand_Check_L1_S c sa) K
  = ((eqB (decide (sa.1 < (c.Harts.length : Int))) false) ∧ K (.ex 0) (cand_Check_L1_T0 c sa.2)) := by kernel_rfl
theorem cand_Check_L1_sim (n : Nat) (c : Cand) : ∀ sa r, cand_Check_L1 n c sa = some r → CodeD Try.prog c_cand_Check_L1 (cand_Check_L1_S c sa) (rk (cand_Check_L1_S c) (cand_Check_L1_out c) r) := by
 intro sa r h
 unfold cand_Check_L1 at h
 rcases iteN h with ⟨ha1, h⟩ | ⟨ha1, h⟩
 ·
  obtain rfl := soI h
  exact okR ordB_cand_Check_L1 (Eq.mpr (cand_Check_L1_p3 pP sP lP dP c sa _) ⟨cB ha1, ⟨rfl, rfl⟩⟩) (rkE rfl neE)
 obtain ⟨xa2, gxa2, h⟩ := bindE h
 rcases iteE h with ⟨ha3, h⟩ | ⟨ha3, h⟩
 ·
  obtain rfl := soI h
  exact okR ordB_cand_Check_L1 (Eq.mpr (cand_Check_L1_p0 pP sP lP dP c sa xa2 _) ⟨cB ha1, at_map (eSl Event.enc) gxa2, len_map _ _, cB ha3, ⟨rfl, rfl⟩⟩) (rkE rfl neR)
 obtain ⟨ya4, gya4, h⟩ := bindE h
 rcases iteN h with ⟨ha5, h⟩ | ⟨ha5, h⟩
 ·
  obtain rfl := soI h
  exact okR ordB_cand_Check_L1 (Eq.mpr (cand_Check_L1_p2 pP sP lP dP c sa xa2 ya4 _) ⟨cB ha1, at_map (eSl Event.enc) gxa2, len_map _ _, cB ha3, (event_Row_sim n sa.1 xa2 ya4 gya4), cB ha5, ⟨rfl, rfl⟩⟩) rkN
 obtain rfl := soI h
 exact okR ordB_cand_Check_L1 (Eq.mpr (cand_Check_L1_p1 pP sP lP dP c sa xa2 ya4 _) ⟨cB ha1, at_map (eSl Event.enc) gxa2, len_map _ _, cB ha3, (event_Row_sim n sa.1 xa2 ya4 gya4), cB ha5, ⟨rfl, rfl⟩⟩) (rkE rfl neR)

theorem ordB_cand_Check_L2 : ordB (polF 43) ord43 c_cand_Check_L2 = true := by kernel_rfl
def cand_Check_L2_S (c : Cand) (y7 : (List Event)) (sa : Int) : St := mkS 64 [(1, .ptr (.O 0) 0 0), (6, .sl (y7.map Event.enc)), (52, (vI (y7.length : Int))), (53, (vI sa))] [] [.arr true 4 [(Cand.enc c)]] 0
def cand_Check_L2_T0 (c : Cand) (y7 : (List Event)) (tt : Unit) : St := mkS 64 [(1, .ptr (.O 0) 0 0), (6, .sl (y7.map Event.enc))] [] [.arr true 4 [(Cand.enc c)]] 0
def cand_Check_L2_T1 (c : Cand) (y7 : (List Event)) (tt : Unit) : St := mkS 64 [(2, (vI 2))] [] [] 0
def cand_Check_L2_out (c : Cand) (y7 : (List Event)) (t0 : (Unit ⊕ Unit)) : Ex × St := match t0 with | .inl tt => (.ex 2, cand_Check_L2_T0 c y7 tt) | .inr tt => (.ret, cand_Check_L2_T1 c y7 tt)
theorem cand_Check_L2_p0 (c : Cand) (y7 : (List Event)) (sa : Int) (ya2 : Bool) (K : Ex → St → Prop) : oR pc sc lp cd ⟨ord43, [rV 15 [(54, vT)], rVC 17 [(59, vT)] [(58, .v (.bool ya2))]], [], [], []⟩ (polF 43) [(1, ⟨[2], [], 0, [], []⟩, ⟨[], [], []⟩)] c_cand_Check_L2 (cand_Check_L2_S c y7 sa) K
  = ((eqB (decide (sa < (y7.length : Int))) true) ∧ (pc 73 [.fptr (Cand.enc c) 0, .sl (y7.map Event.enc), (vI sa)] (eqA (.v (.bool ya2)))) ∧ (eqB (!ya2) true) ∧ K .ret (cand_Check_L2_T1 c y7 ())) := by kernel_rfl
theorem cand_Check_L2_p1 (c : Cand) (y7 : (List Event)) (sa : Int) (ya2 : Bool) (K : Ex → St → Prop) : oR pc sc lp cd ⟨ord43, [rV 15 [(54, vT)], rVC 17 [(59, vF)] [(58, .v (.bool ya2))]], [], [], []⟩ (polF 43) [(0, ⟨[1, 6, 52, 53], [], 1, [], []⟩, ⟨[], [], []⟩)] c_cand_Check_L2 (cand_Check_L2_S c y7 sa) K
  = ((eqB (decide (sa < (y7.length : Int))) true) ∧ (pc 73 [.fptr (Cand.enc c) 0, .sl (y7.map Event.enc), (vI sa)] (eqA (.v (.bool ya2)))) ∧ (eqB (!ya2) false) ∧ K .nrm (cand_Check_L2_S c y7 (addW .i64 sa 1))) := by kernel_rfl
theorem cand_Check_L2_p2 (c : Cand) (y7 : (List Event)) (sa : Int) (K : Ex → St → Prop) : oR pc sc lp cd ⟨ord43, [rV 15 [(54, vF)]], [], [], []⟩ (polF 43) [(4, ⟨[1, 6], [], 1, [], []⟩, ⟨[], [], []⟩)] c_cand_Check_L2 (cand_Check_L2_S c y7 sa) K
  = ((eqB (decide (sa < (y7.length : Int))) false) ∧ K (.ex 2) (cand_Check_L2_T0 c y7 ())) := by kernel_rfl
theorem cand_Check_L2_sim (n : Nat) (c : Cand) (y7 : (List Event)) : ∀ sa r, cand_Check_L2 n c y7 sa = some r → CodeD Try.prog c_cand_Check_L2 (cand_Check_L2_S c y7 sa) (rk (cand_Check_L2_S c y7) (cand_Check_L2_out c y7) r) := by
 intro sa r h
 unfold cand_Check_L2 at h
 rcases iteN h with ⟨ha1, h⟩ | ⟨ha1, h⟩
 ·
  obtain rfl := soI h
  exact okR ordB_cand_Check_L2 (Eq.mpr (cand_Check_L2_p2 pP sP lP dP c y7 sa _) ⟨cB ha1, ⟨rfl, rfl⟩⟩) (rkE rfl neE)
 obtain ⟨ya2, gya2, h⟩ := bindE h
 rcases iteN h with ⟨ha3, h⟩ | ⟨ha3, h⟩
 ·
  obtain rfl := soI h
  exact okR ordB_cand_Check_L2 (Eq.mpr (cand_Check_L2_p1 pP sP lP dP c y7 sa ya2 _) ⟨cB ha1, (cand_from_sim n c y7 sa ya2 gya2), cB ha3, ⟨rfl, rfl⟩⟩) rkN
 obtain rfl := soI h
 exact okR ordB_cand_Check_L2 (Eq.mpr (cand_Check_L2_p0 pP sP lP dP c y7 sa ya2 _) ⟨cB ha1, (cand_from_sim n c y7 sa ya2 gya2), cB ha3, ⟨rfl, rfl⟩⟩) (rkE rfl neR)

theorem cand_Check_p0 (c : Cand) (y1 : Bool) (K : AV → Prop) : oP pc sc lp cd ⟨ord43, [rVC 1 [(12, vT)] [(10, .v (.bool y1))]], [], [], []⟩ 43 [(aAgg Cand.enc c)] K
  = ((pc 70 [.sl (c.First.map Cell.enc)] (eqA (.v (.bool y1)))) ∧ (eqB (!y1) true) ∧ K ((vI 2))) := by kernel_rfl
theorem cand_Check_p1 (c : Cand) (y1 : Bool) (K : AV → Prop) : oP pc sc lp cd ⟨ord43, [rVC 1 [(12, vF), (15, (vI (c.Harts.length : Int))), (18, vT)] [(10, .v (.bool y1))]], [], [], []⟩ 43 [(aAgg Cand.enc c)] K
  = ((pc 70 [.sl (c.First.map Cell.enc)] (eqA (.v (.bool y1)))) ∧ (eqB (!y1) false) ∧ (AV.v (.int .i64 (((c.Harts.map (eSl Event.enc)).length : Nat) : Int)) = AV.v (.int .i64 (c.Harts.length : Int))) ∧ (eqB (decide ((c.Harts.length : Int) < 1)) true) ∧ K ((vI 2))) := by kernel_rfl
theorem cand_Check_p2 (c : Cand) (y1 : Bool) (K : AV → Prop) : oP pc sc lp cd ⟨ord43, [rVC 1 [(12, vF), (15, (vI (c.Harts.length : Int))), (18, vF), (21, (vI (c.Harts.length : Int))), (23, vT)] [(10, .v (.bool y1))]], [], [], []⟩ 43 [(aAgg Cand.enc c)] K
  = ((pc 70 [.sl (c.First.map Cell.enc)] (eqA (.v (.bool y1)))) ∧ (eqB (!y1) false) ∧ (AV.v (.int .i64 (((c.Harts.map (eSl Event.enc)).length : Nat) : Int)) = AV.v (.int .i64 (c.Harts.length : Int))) ∧ (eqB (decide ((c.Harts.length : Int) < 1)) false) ∧ (AV.v (.int .i64 (((c.Harts.map (eSl Event.enc)).length : Nat) : Int)) = AV.v (.int .i64 (c.Harts.length : Int))) ∧ (eqB (decide ((c.Harts.length : Int) > 8)) true) ∧ K ((vI 2))) := by kernel_rfl
theorem cand_Check_p3 (c : Cand) (y1 : Bool) (w6 : Int) (y7 : (List Event)) (K : AV → Prop) : oP pc sc lp cd ⟨ord43, [rVC 1 [(12, vF), (15, (vI (c.Harts.length : Int))), (18, vF), (21, (vI (c.Harts.length : Int))), (23, vF)] [(10, .v (.bool y1))], rV 4 [(26, (vI (c.Harts.length : Int)))], (11, ⟨[], [], [], [], [], [(45, (.sl (y7.map Event.enc), [.arr true 4 [(Cand.enc c)]]))], [], []⟩), rV 12 [(48, (vI (c.From.length : Int))), (50, vT)]], [], [(5, (⟨[1, 3, 25, 26, 27], [], 1, [], []⟩, ⟨[], [], []⟩, (.ex 0), cand_Check_L1_T0 c w6))], []⟩ 43 [(aAgg Cand.enc c)] K
  = ((pc 70 [.sl (c.First.map Cell.enc)] (eqA (.v (.bool y1)))) ∧ (eqB (!y1) false) ∧ (AV.v (.int .i64 (((c.Harts.map (eSl Event.enc)).length : Nat) : Int)) = AV.v (.int .i64 (c.Harts.length : Int))) ∧ (eqB (decide ((c.Harts.length : Int) < 1)) false) ∧ (AV.v (.int .i64 (((c.Harts.map (eSl Event.enc)).length : Nat) : Int)) = AV.v (.int .i64 (c.Harts.length : Int))) ∧ (eqB (decide ((c.Harts.length : Int) > 8)) false) ∧ (AV.v (.int .i64 (((c.Harts.map (eSl Event.enc)).length : Nat) : Int)) = AV.v (.int .i64 (c.Harts.length : Int))) ∧ (lp (polF 43) c_cand_Check_L1 (cand_Check_L1_S c (0, 0)) (fun e' S' => e' = (.ex 0) ∧ S' = cand_Check_L1_T0 c w6)) ∧ (sc 72 [.ptr (.O 0) 0 0] [.arr true 4 [(Cand.enc c)]] (fun r' o' => r' = .sl (y7.map Event.enc) ∧ o' = [.arr true 4 [(Cand.enc c)]])) ∧ (AV.v (.int .i64 (((c.From.map eI).length : Nat) : Int)) = AV.v (.int .i64 (c.From.length : Int))) ∧ (eqB ((c.From.length : Int) != w6) true) ∧ K ((vI 2))) := by kernel_rfl
theorem cand_Check_p4 (c : Cand) (y1 : Bool) (w6 : Int) (y7 : (List Event)) (w10 : Unit) (y11 : Bool) (K : AV → Prop) : oP pc sc lp cd ⟨ord43, [rVC 1 [(12, vF), (15, (vI (c.Harts.length : Int))), (18, vF), (21, (vI (c.Harts.length : Int))), (23, vF)] [(10, .v (.bool y1))], rV 4 [(26, (vI (c.Harts.length : Int)))], (11, ⟨[], [], [], [], [], [(45, (.sl (y7.map Event.enc), [.arr true 4 [(Cand.enc c)]]))], [], []⟩), rV 12 [(48, (vI (c.From.length : Int))), (50, vF)], rV 14 [(52, (vI (y7.length : Int)))], rVC 20 [(63, vT)] [(62, .v (.bool y11))]], [], [(5, (⟨[1, 3, 25, 26, 27], [], 1, [], []⟩, ⟨[], [], []⟩, (.ex 0), cand_Check_L1_T0 c w6)), (15, (⟨[1, 6, 52, 53], [], 1, [], []⟩, ⟨[], [], []⟩, (.ex 2), cand_Check_L2_T0 c y7 w10))], []⟩ 43 [(aAgg Cand.enc c)] K
  = ((pc 70 [.sl (c.First.map Cell.enc)] (eqA (.v (.bool y1)))) ∧ (eqB (!y1) false) ∧ (AV.v (.int .i64 (((c.Harts.map (eSl Event.enc)).length : Nat) : Int)) = AV.v (.int .i64 (c.Harts.length : Int))) ∧ (eqB (decide ((c.Harts.length : Int) < 1)) false) ∧ (AV.v (.int .i64 (((c.Harts.map (eSl Event.enc)).length : Nat) : Int)) = AV.v (.int .i64 (c.Harts.length : Int))) ∧ (eqB (decide ((c.Harts.length : Int) > 8)) false) ∧ (AV.v (.int .i64 (((c.Harts.map (eSl Event.enc)).length : Nat) : Int)) = AV.v (.int .i64 (c.Harts.length : Int))) ∧ (lp (polF 43) c_cand_Check_L1 (cand_Check_L1_S c (0, 0)) (fun e' S' => e' = (.ex 0) ∧ S' = cand_Check_L1_T0 c w6)) ∧ (sc 72 [.ptr (.O 0) 0 0] [.arr true 4 [(Cand.enc c)]] (fun r' o' => r' = .sl (y7.map Event.enc) ∧ o' = [.arr true 4 [(Cand.enc c)]])) ∧ (AV.v (.int .i64 (((c.From.map eI).length : Nat) : Int)) = AV.v (.int .i64 (c.From.length : Int))) ∧ (eqB ((c.From.length : Int) != w6) false) ∧ (AV.v (.int .i64 (((y7.map Event.enc).length : Nat) : Int)) = AV.v (.int .i64 (y7.length : Int))) ∧ (lp (polF 43) c_cand_Check_L2 (cand_Check_L2_S c y7 0) (fun e' S' => e' = (.ex 2) ∧ S' = cand_Check_L2_T0 c y7 w10)) ∧ (pc 74 [.fptr (Cand.enc c) 0, .sl (y7.map Event.enc)] (eqA (.v (.bool y11)))) ∧ (eqB (!y11) true) ∧ K ((vI 2))) := by kernel_rfl
theorem cand_Check_p5 (c : Cand) (y1 : Bool) (w6 : Int) (y7 : (List Event)) (w10 : Unit) (y11 : Bool) (K : AV → Prop) : oP pc sc lp cd ⟨ord43, [rVC 1 [(12, vF), (15, (vI (c.Harts.length : Int))), (18, vF), (21, (vI (c.Harts.length : Int))), (23, vF)] [(10, .v (.bool y1))], rV 4 [(26, (vI (c.Harts.length : Int)))], (11, ⟨[], [], [], [], [], [(45, (.sl (y7.map Event.enc), [.arr true 4 [(Cand.enc c)]]))], [], []⟩), rV 12 [(48, (vI (c.From.length : Int))), (50, vF)], rV 14 [(52, (vI (y7.length : Int)))], rVC 20 [(63, vF)] [(62, .v (.bool y11))]], [], [(5, (⟨[1, 3, 25, 26, 27], [], 1, [], []⟩, ⟨[], [], []⟩, (.ex 0), cand_Check_L1_T0 c w6)), (15, (⟨[1, 6, 52, 53], [], 1, [], []⟩, ⟨[], [], []⟩, (.ex 2), cand_Check_L2_T0 c y7 w10))], []⟩ 43 [(aAgg Cand.enc c)] K
  = ((pc 70 [.sl (c.First.map Cell.enc)] (eqA (.v (.bool y1)))) ∧ (eqB (!y1) false) ∧ (AV.v (.int .i64 (((c.Harts.map (eSl Event.enc)).length : Nat) : Int)) = AV.v (.int .i64 (c.Harts.length : Int))) ∧ (eqB (decide ((c.Harts.length : Int) < 1)) false) ∧ (AV.v (.int .i64 (((c.Harts.map (eSl Event.enc)).length : Nat) : Int)) = AV.v (.int .i64 (c.Harts.length : Int))) ∧ (eqB (decide ((c.Harts.length : Int) > 8)) false) ∧ (AV.v (.int .i64 (((c.Harts.map (eSl Event.enc)).length : Nat) : Int)) = AV.v (.int .i64 (c.Harts.length : Int))) ∧ (lp (polF 43) c_cand_Check_L1 (cand_Check_L1_S c (0, 0)) (fun e' S' => e' = (.ex 0) ∧ S' = cand_Check_L1_T0 c w6)) ∧ (sc 72 [.ptr (.O 0) 0 0] [.arr true 4 [(Cand.enc c)]] (fun r' o' => r' = .sl (y7.map Event.enc) ∧ o' = [.arr true 4 [(Cand.enc c)]])) ∧ (AV.v (.int .i64 (((c.From.map eI).length : Nat) : Int)) = AV.v (.int .i64 (c.From.length : Int))) ∧ (eqB ((c.From.length : Int) != w6) false) ∧ (AV.v (.int .i64 (((y7.map Event.enc).length : Nat) : Int)) = AV.v (.int .i64 (y7.length : Int))) ∧ (lp (polF 43) c_cand_Check_L2 (cand_Check_L2_S c y7 0) (fun e' S' => e' = (.ex 2) ∧ S' = cand_Check_L2_T0 c y7 w10)) ∧ (pc 74 [.fptr (Cand.enc c) 0, .sl (y7.map Event.enc)] (eqA (.v (.bool y11)))) ∧ (eqB (!y11) false) ∧ K ((vI 0))) := by kernel_rfl
theorem cand_Check_p6 (c : Cand) (y1 : Bool) (w6 : Int) (y7 : (List Event)) (w10 : Unit) (K : AV → Prop) : oP pc sc lp cd ⟨ord43, [rVC 1 [(12, vF), (15, (vI (c.Harts.length : Int))), (18, vF), (21, (vI (c.Harts.length : Int))), (23, vF)] [(10, .v (.bool y1))], rV 4 [(26, (vI (c.Harts.length : Int)))], (11, ⟨[], [], [], [], [], [(45, (.sl (y7.map Event.enc), [.arr true 4 [(Cand.enc c)]]))], [], []⟩), rV 12 [(48, (vI (c.From.length : Int))), (50, vF)], rV 14 [(52, (vI (y7.length : Int)))]], [], [(5, (⟨[1, 3, 25, 26, 27], [], 1, [], []⟩, ⟨[], [], []⟩, (.ex 0), cand_Check_L1_T0 c w6)), (15, (⟨[1, 6, 52, 53], [], 1, [], []⟩, ⟨[], [], []⟩, .ret, cand_Check_L2_T1 c y7 w10))], []⟩ 43 [(aAgg Cand.enc c)] K
  = ((pc 70 [.sl (c.First.map Cell.enc)] (eqA (.v (.bool y1)))) ∧ (eqB (!y1) false) ∧ (AV.v (.int .i64 (((c.Harts.map (eSl Event.enc)).length : Nat) : Int)) = AV.v (.int .i64 (c.Harts.length : Int))) ∧ (eqB (decide ((c.Harts.length : Int) < 1)) false) ∧ (AV.v (.int .i64 (((c.Harts.map (eSl Event.enc)).length : Nat) : Int)) = AV.v (.int .i64 (c.Harts.length : Int))) ∧ (eqB (decide ((c.Harts.length : Int) > 8)) false) ∧ (AV.v (.int .i64 (((c.Harts.map (eSl Event.enc)).length : Nat) : Int)) = AV.v (.int .i64 (c.Harts.length : Int))) ∧ (lp (polF 43) c_cand_Check_L1 (cand_Check_L1_S c (0, 0)) (fun e' S' => e' = (.ex 0) ∧ S' = cand_Check_L1_T0 c w6)) ∧ (sc 72 [.ptr (.O 0) 0 0] [.arr true 4 [(Cand.enc c)]] (fun r' o' => r' = .sl (y7.map Event.enc) ∧ o' = [.arr true 4 [(Cand.enc c)]])) ∧ (AV.v (.int .i64 (((c.From.map eI).length : Nat) : Int)) = AV.v (.int .i64 (c.From.length : Int))) ∧ (eqB ((c.From.length : Int) != w6) false) ∧ (AV.v (.int .i64 (((y7.map Event.enc).length : Nat) : Int)) = AV.v (.int .i64 (y7.length : Int))) ∧ (lp (polF 43) c_cand_Check_L2 (cand_Check_L2_S c y7 0) (fun e' S' => e' = .ret ∧ S' = cand_Check_L2_T1 c y7 w10)) ∧ K ((vI 2))) := by kernel_rfl
theorem cand_Check_p7 (c : Cand) (y1 : Bool) (w6 : Unit) (K : AV → Prop) : oP pc sc lp cd ⟨ord43, [rVC 1 [(12, vF), (15, (vI (c.Harts.length : Int))), (18, vF), (21, (vI (c.Harts.length : Int))), (23, vF)] [(10, .v (.bool y1))], rV 4 [(26, (vI (c.Harts.length : Int)))]], [], [(5, (⟨[1, 3, 25, 26, 27], [], 1, [], []⟩, ⟨[], [], []⟩, .ret, cand_Check_L1_T1 c w6))], []⟩ 43 [(aAgg Cand.enc c)] K
  = ((pc 70 [.sl (c.First.map Cell.enc)] (eqA (.v (.bool y1)))) ∧ (eqB (!y1) false) ∧ (AV.v (.int .i64 (((c.Harts.map (eSl Event.enc)).length : Nat) : Int)) = AV.v (.int .i64 (c.Harts.length : Int))) ∧ (eqB (decide ((c.Harts.length : Int) < 1)) false) ∧ (AV.v (.int .i64 (((c.Harts.map (eSl Event.enc)).length : Nat) : Int)) = AV.v (.int .i64 (c.Harts.length : Int))) ∧ (eqB (decide ((c.Harts.length : Int) > 8)) false) ∧ (AV.v (.int .i64 (((c.Harts.map (eSl Event.enc)).length : Nat) : Int)) = AV.v (.int .i64 (c.Harts.length : Int))) ∧ (lp (polF 43) c_cand_Check_L1 (cand_Check_L1_S c (0, 0)) (fun e' S' => e' = .ret ∧ S' = cand_Check_L1_T1 c w6)) ∧ K ((vI 2))) := by kernel_rfl
theorem cand_Check_sim (n : Nat) (c : Cand) (r : Int) (h : cand_Check n c = some r) : PCall Try.prog 43 [(aAgg Cand.enc c)] (eqA ((vI r))) := by
 unfold cand_Check at h
 obtain ⟨y1, gy1, h⟩ := bindE h
 rcases iteE h with ⟨h2, h⟩ | ⟨h2, h⟩
 ·
  obtain rfl := soI h
  exact okP ordB43 (Eq.mpr (cand_Check_p0 pP sP lP dP c y1 _) (⟨(cand_cells_sim n c.First y1 gy1), cB h2, LeA.refl _⟩))
 rcases iteE h with ⟨h3, h⟩ | ⟨h3, h⟩
 ·
  obtain rfl := soI h
  exact okP ordB43 (Eq.mpr (cand_Check_p1 pP sP lP dP c y1 _) (⟨(cand_cells_sim n c.First y1 gy1), cB h2, len_map _ _, cB h3, LeA.refl _⟩))
 rcases iteE h with ⟨h4, h⟩ | ⟨h4, h⟩
 ·
  obtain rfl := soI h
  exact okP ordB43 (Eq.mpr (cand_Check_p2 pP sP lP dP c y1 _) (⟨(cand_cells_sim n c.First y1 gy1), cB h2, len_map _ _, cB h3, len_map _ _, cB h4, LeA.refl _⟩))
 obtain ⟨t5, gt5, h⟩ := bindE h
 rcases t5 with w6 | w6
 ·
  obtain ⟨y7, gy7, h⟩ := bindE h
  rcases iteE h with ⟨h8, h⟩ | ⟨h8, h⟩
  ·
   obtain rfl := soI h
   exact okP ordB43 (Eq.mpr (cand_Check_p3 pP sP lP dP c y1 w6 y7 _) (⟨(cand_cells_sim n c.First y1 gy1), cB h2, len_map _ _, cB h3, len_map _ _, cB h4, len_map _ _, okL (cand_Check_L1_S c) (cand_Check_L1_out c) (cand_Check_L1_sim n c) n _ (.inl w6) gt5, cand_flat_S_sim n c.First c.Harts c.From c.Order y7 gy7, len_map _ _, cB h8, LeA.refl _⟩))
  obtain ⟨t9, gt9, h⟩ := bindE h
  rcases t9 with w10 | w10
  ·
   obtain ⟨y11, gy11, h⟩ := bindE h
   rcases iteE h with ⟨h12, h⟩ | ⟨h12, h⟩
   ·
    obtain rfl := soI h
    exact okP ordB43 (Eq.mpr (cand_Check_p4 pP sP lP dP c y1 w6 y7 w10 y11 _) (⟨(cand_cells_sim n c.First y1 gy1), cB h2, len_map _ _, cB h3, len_map _ _, cB h4, len_map _ _, okL (cand_Check_L1_S c) (cand_Check_L1_out c) (cand_Check_L1_sim n c) n _ (.inl w6) gt5, cand_flat_S_sim n c.First c.Harts c.From c.Order y7 gy7, len_map _ _, cB h8, len_map _ _, okL (cand_Check_L2_S c y7) (cand_Check_L2_out c y7) (cand_Check_L2_sim n c y7) n _ (.inl w10) gt9, (cand_ordered_sim n c y7 y11 gy11), cB h12, LeA.refl _⟩))
   obtain rfl := soI h
   exact okP ordB43 (Eq.mpr (cand_Check_p5 pP sP lP dP c y1 w6 y7 w10 y11 _) (⟨(cand_cells_sim n c.First y1 gy1), cB h2, len_map _ _, cB h3, len_map _ _, cB h4, len_map _ _, okL (cand_Check_L1_S c) (cand_Check_L1_out c) (cand_Check_L1_sim n c) n _ (.inl w6) gt5, cand_flat_S_sim n c.First c.Harts c.From c.Order y7 gy7, len_map _ _, cB h8, len_map _ _, okL (cand_Check_L2_S c y7) (cand_Check_L2_out c y7) (cand_Check_L2_sim n c y7) n _ (.inl w10) gt9, (cand_ordered_sim n c y7 y11 gy11), cB h12, LeA.refl _⟩))
  ·
   obtain rfl := soI h
   exact okP ordB43 (Eq.mpr (cand_Check_p6 pP sP lP dP c y1 w6 y7 w10 _) (⟨(cand_cells_sim n c.First y1 gy1), cB h2, len_map _ _, cB h3, len_map _ _, cB h4, len_map _ _, okL (cand_Check_L1_S c) (cand_Check_L1_out c) (cand_Check_L1_sim n c) n _ (.inl w6) gt5, cand_flat_S_sim n c.First c.Harts c.From c.Order y7 gy7, len_map _ _, cB h8, len_map _ _, okL (cand_Check_L2_S c y7) (cand_Check_L2_out c y7) (cand_Check_L2_sim n c y7) n _ (.inr w10) gt9, LeA.refl _⟩))
 ·
  obtain rfl := soI h
  exact okP ordB43 (Eq.mpr (cand_Check_p7 pP sP lP dP c y1 w6 _) (⟨(cand_cells_sim n c.First y1 gy1), cB h2, len_map _ _, cB h3, len_map _ _, cB h4, len_map _ _, okL (cand_Check_L1_S c) (cand_Check_L1_out c) (cand_Check_L1_sim n c) n _ (.inr w6) gt5, LeA.refl _⟩))

def ord86 : List (Nat × PT) := []
theorem ordB86 : ordB (polF 86) ord86 (bodyOf Try.prog 86) = true := by kernel_rfl
theorem math_bits_Mul64_p0 (x : Int) (y : Int) (K : AV → Prop) : oP pc sc lp cd ⟨ord86, [], [], [], []⟩ 86 [(vU x), (vU y)] K
  = (K (.tup [.v (.int .u64 (addW .u64 (addW .u64 (mulW .u64 (shrW .u64 x 32) (shrW .u64 y 32)) (shrW .u64 (addW .u64 (mulW .u64 (shrW .u64 x 32) (andW .u64 y 4294967295)) (shrW .u64 (mulW .u64 (andW .u64 x 4294967295) (andW .u64 y 4294967295)) 32)) 32)) (shrW .u64 (addW .u64 (andW .u64 (addW .u64 (mulW .u64 (shrW .u64 x 32) (andW .u64 y 4294967295)) (shrW .u64 (mulW .u64 (andW .u64 x 4294967295) (andW .u64 y 4294967295)) 32)) 4294967295) (mulW .u64 (andW .u64 x 4294967295) (shrW .u64 y 32))) 32))), (vU (mulW .u64 x y))])) := by kernel_rfl
theorem math_bits_Mul64_sim (n : Nat) (x : Int) (y : Int) (r : Int × Int) (h : math_bits_Mul64 n x y = some r) : PCall Try.prog 86 [(vU x), (vU y)] (eqA (.tup [(vU r.1), (vU r.2)])) := by
 unfold math_bits_Mul64 at h
 obtain rfl := soI h
 exact okP ordB86 (Eq.mpr (math_bits_Mul64_p0 pP sP lP dP x y _) (LeA.refl _))

def ord76 : List (Nat × PT) := []
theorem ordB76 : ordB (polF 76) ord76 (bodyOf Try.prog 76) = true := by kernel_rfl
theorem math_bits_Mul_p0 (x : Int) (y : Int) (y1 : Int × Int) (K : AV → Prop) : oP pc sc lp cd ⟨ord76, [rVC 3 [] [(25, .tup [(vU y1.1), (vU y1.2)])]], [], [], []⟩ 76 [(vU x), (vU y)] K
  = ((pc 86 [(vU x), (vU y)] (eqA (.tup [(vU y1.1), (vU y1.2)]))) ∧ K (.tup [(vU y1.1), (vU y1.2)])) := by kernel_rfl
theorem math_bits_Mul_sim (n : Nat) (x : Int) (y : Int) (r : Int × Int) (h : math_bits_Mul n x y = some r) : PCall Try.prog 76 [(vU x), (vU y)] (eqA (.tup [(vU r.1), (vU r.2)])) := by
 unfold math_bits_Mul at h
 obtain ⟨y1, gy1, h⟩ := bindE h
 obtain rfl := soI h
 exact okP ordB76 (Eq.mpr (math_bits_Mul_p0 pP sP lP dP x y y1 _) (⟨(math_bits_Mul64_sim n x y y1 gy1), LeA.refl _⟩))

def ord45 : List (Nat × PT) := [(9, (.go 1 (.go 2 (.go 3 (.go 4 (.go 5 (.go 6 (.alt 0 (ptS [7, 8, 9]) (.alt 7 (ptS [0, 8, 9]) (ptS []))))))))))]
theorem ordB45 : ordB (polF 45) ord45 (bodyOf Try.prog 45) = true := by kernel_rfl
noncomputable def c_slices_Repeat_int_int_S_L1 : Code := sub (bodyOf Try.prog 45) [1, 1, 1, 1, 1, 1, 0, 0, 0]
theorem ordB_slices_Repeat_int_int_S_L1 : ordB (polF 45) ord45 c_slices_Repeat_int_int_S_L1 = true := by kernel_rfl
def slices_Repeat_int_int_S_L1_S (ob : (List Cell)) (ob_ : (List (List Event))) (ob__ : (List Int)) (ob___ : (List Int)) (ob____ : (List Event)) (sa : (List Int) × Int) : St := mkS 48 [(7, .mf 1), (8, (vI sa.2))] [] [.arr true 7 [[.fptr [.sl (ob.map Cell.enc), .sl (ob_.map (eSl Event.enc)), .sl (ob__.map eI), .sl (ob___.map eI)] 0, .sl (ob____.map Event.enc), .nilsl, .nilsl, .nilsl, .nilsl, .nilsl]], .arr true 1 (sa.1.map eI)] 1
def slices_Repeat_int_int_S_L1_T0 (ob : (List Cell)) (ob_ : (List (List Event))) (ob__ : (List Int)) (ob___ : (List Int)) (ob____ : (List Event)) (tt : (List Int)) : St := mkS 48 [(7, .mf 1)] [] [.arr true 7 [[.fptr [.sl (ob.map Cell.enc), .sl (ob_.map (eSl Event.enc)), .sl (ob__.map eI), .sl (ob___.map eI)] 0, .sl (ob____.map Event.enc), .nilsl, .nilsl, .nilsl, .nilsl, .nilsl]], .arr true 1 (tt.map eI)] 1
def slices_Repeat_int_int_S_L1_out (ob : (List Cell)) (ob_ : (List (List Event))) (ob__ : (List Int)) (ob___ : (List Int)) (ob____ : (List Event)) (tt : ((List Int))) : Ex × St := (.ex 0, slices_Repeat_int_int_S_L1_T0 ob ob_ ob__ ob___ ob____ tt)
theorem slices_Repeat_int_int_S_L1_p0 (ob : (List Cell)) (ob_ : (List (List Event))) (ob__ : (List Int)) (ob___ : (List Int)) (ob____ : (List Event)) (sa : (List Int) × Int) (K : Ex → St → Prop) : oR pc sc lp cd ⟨ord45, [rV 8 [(36, (vI (sa.1.length : Int))), (37, vT)], (9, ⟨[], [41, 44], [], [(41, .msl 1 ((sa.2).toNat) (sa.1.length - (sa.2).toNat) 0), (44, .msl 1 0 ((sa.2).toNat) (sa.1.length - (sa.2).toNat)), (45, .v (.int .i64 ((min ((sa.1.drop 0).take ((sa.2).toNat)).length (sa.1.length - (sa.2).toNat) : Nat) : Int)))], [], [], [(45, (1, (sa.1.take ((sa.2).toNat) ++ (((sa.1.drop 0).take ((sa.2).toNat)).take (sa.1.length - (sa.2).toNat) ++ sa.1.drop ((sa.2).toNat + min ((sa.1.drop 0).take ((sa.2).toNat)).length (sa.1.length - (sa.2).toNat)))).map eI))], []⟩)], [], [], []⟩ (polF 45) [(0, ⟨[7, 8], [], 2, [], []⟩, ⟨[], [], []⟩)] c_slices_Repeat_int_int_S_L1 (slices_Repeat_int_int_S_L1_S ob ob_ ob__ ob___ ob____ sa) K
  = ((AV.v (.int .i64 (((sa.1.map eI).length : Nat) : Int)) = AV.v (.int .i64 (sa.1.length : Int))) ∧ (eqB (decide (sa.2 < (sa.1.length : Int))) true) ∧ ((decide (0 ≤ sa.2) && decide (sa.2 ≤ (((sa.1.map eI).length : Nat) : Int))) = true) ∧ (AV.msl 1 (sa.2).toNat ((sa.1.map eI).length - (sa.2).toNat) 0 = AV.msl 1 ((sa.2).toNat) (sa.1.length - (sa.2).toNat) 0) ∧ ((decide (0 ≤ sa.2) && decide (sa.2 ≤ (((sa.1.map eI).length : Nat) : Int))) = true) ∧ (AV.msl 1 0 ((sa.2).toNat - 0) ((sa.1.map eI).length - (sa.2).toNat) = AV.msl 1 0 ((sa.2).toNat) (sa.1.length - (sa.2).toNat)) ∧ (okRows (((sa.1.map eI).drop 0).take ((sa.2).toNat)) = true) ∧ (Nat.ble ((sa.2).toNat + (sa.1.length - (sa.2).toNat)) (sa.1.map eI).length = true) ∧ (AV.v (.int .i64 ((min (((sa.1.map eI).drop 0).take ((sa.2).toNat)).length (sa.1.length - (sa.2).toNat) : Nat) : Int)) = AV.v (.int .i64 ((min ((sa.1.drop 0).take ((sa.2).toNat)).length (sa.1.length - (sa.2).toNat) : Nat) : Int))) ∧ ((sa.1.map eI).take ((sa.2).toNat) ++ ((((sa.1.map eI).drop 0).take ((sa.2).toNat)).take (sa.1.length - (sa.2).toNat) ++ (sa.1.map eI).drop ((sa.2).toNat + min (((sa.1.map eI).drop 0).take ((sa.2).toNat)).length (sa.1.length - (sa.2).toNat))) = (sa.1.take ((sa.2).toNat) ++ (((sa.1.drop 0).take ((sa.2).toNat)).take (sa.1.length - (sa.2).toNat) ++ sa.1.drop ((sa.2).toNat + min ((sa.1.drop 0).take ((sa.2).toNat)).length (sa.1.length - (sa.2).toNat)))).map eI) ∧ (okRows (((sa.1.map eI).drop 0).take ((sa.2).toNat)) = true) ∧ (Nat.ble ((sa.2).toNat + (sa.1.length - (sa.2).toNat)) (sa.1.map eI).length = true) ∧ (AV.v (.int .i64 ((min (((sa.1.map eI).drop 0).take ((sa.2).toNat)).length (sa.1.length - (sa.2).toNat) : Nat) : Int)) = AV.v (.int .i64 ((min ((sa.1.drop 0).take ((sa.2).toNat)).length (sa.1.length - (sa.2).toNat) : Nat) : Int))) ∧ ((sa.1.map eI).take ((sa.2).toNat) ++ ((((sa.1.map eI).drop 0).take ((sa.2).toNat)).take (sa.1.length - (sa.2).toNat) ++ (sa.1.map eI).drop ((sa.2).toNat + min (((sa.1.map eI).drop 0).take ((sa.2).toNat)).length (sa.1.length - (sa.2).toNat))) = (sa.1.take ((sa.2).toNat) ++ (((sa.1.drop 0).take ((sa.2).toNat)).take (sa.1.length - (sa.2).toNat) ++ sa.1.drop ((sa.2).toNat + min ((sa.1.drop 0).take ((sa.2).toNat)).length (sa.1.length - (sa.2).toNat)))).map eI) ∧ (mkS 48 [(7, .mf 1), (8, .v (.int .i64 (addW .i64 sa.2 ((min ((sa.1.drop 0).take ((sa.2).toNat)).length (sa.1.length - (sa.2).toNat) : Nat) : Int)))), (34, (vI sa.2)), (35, .mf 1), (36, (vI (sa.1.length : Int))), (37, vT), (38, (vI sa.2)), (39, .mf 1), (40, (vI sa.2)), (41, .msl 1 ((sa.2).toNat) (sa.1.length - (sa.2).toNat) 0), (42, .mf 1), (43, (vI sa.2)), (44, .msl 1 0 ((sa.2).toNat) (sa.1.length - (sa.2).toNat)), (45, .v (.int .i64 ((min ((sa.1.drop 0).take ((sa.2).toNat)).length (sa.1.length - (sa.2).toNat) : Nat) : Int))), (46, .v (.int .i64 (addW .i64 sa.2 ((min ((sa.1.drop 0).take ((sa.2).toNat)).length (sa.1.length - (sa.2).toNat) : Nat) : Int))))] [] [.arr true 7 [[.fptr [.sl (ob.map Cell.enc), .sl (ob_.map (eSl Event.enc)), .sl (ob__.map eI), .sl (ob___.map eI)] 0, .sl (ob____.map Event.enc), .nilsl, .nilsl, .nilsl, .nilsl, .nilsl]], .arr true 1 ((sa.1.take ((sa.2).toNat) ++ (((sa.1.drop 0).take ((sa.2).toNat)).take (sa.1.length - (sa.2).toNat) ++ sa.1.drop ((sa.2).toNat + min ((sa.1.drop 0).take ((sa.2).toNat)).length (sa.1.length - (sa.2).toNat)))).map eI)] 1 = mkS 48 [(7, .mf 1), (8, .v (.int .i64 (addW .i64 sa.2 ((min ((sa.1.drop 0).take ((sa.2).toNat)).length (sa.1.length - (sa.2).toNat) : Nat) : Int)))), (34, (vI sa.2)), (35, .mf 1), (36, (vI (sa.1.length : Int))), (37, vT), (38, (vI sa.2)), (39, .mf 1), (40, (vI sa.2)), (41, .msl 1 ((sa.2).toNat) (sa.1.length - (sa.2).toNat) 0), (42, .mf 1), (43, (vI sa.2)), (44, .msl 1 0 ((sa.2).toNat) (sa.1.length - (sa.2).toNat)), (45, .v (.int .i64 ((min ((sa.1.drop 0).take ((sa.2).toNat)).length (sa.1.length - (sa.2).toNat) : Nat) : Int))), (46, .v (.int .i64 (addW .i64 sa.2 ((min ((sa.1.drop 0).take ((sa.2).toNat)).length (sa.1.length - (sa.2).toNat) : Nat) : Int))))] [] [.arr true 7 [[.fptr [.sl (ob.map Cell.enc), .sl (ob_.map (eSl Event.enc)), .sl (ob__.map eI), .sl (ob___.map eI)] 0, .sl (ob____.map Event.enc), .nilsl, .nilsl, .nilsl, .nilsl, .nilsl]], .arr true 1 ((sa.1.take ((sa.2).toNat) ++ (((sa.1.drop 0).take ((sa.2).toNat)).take (sa.1.length - (sa.2).toNat) ++ sa.1.drop ((sa.2).toNat + min ((sa.1.drop 0).take ((sa.2).toNat)).length (sa.1.length - (sa.2).toNat)))).map eI)] 1) ∧ K .nrm (slices_Repeat_int_int_S_L1_S ob ob_ ob__ ob___ ob____ ((sa.1.take ((sa.2).toNat) ++ (((sa.1.drop 0).take ((sa.2).toNat)).take (sa.1.length - (sa.2).toNat) ++ sa.1.drop ((sa.2).toNat + min ((sa.1.drop 0).take ((sa.2).toNat)).length (sa.1.length - (sa.2).toNat)))), (addW .i64 sa.2 ((min ((sa.1.drop 0).take ((sa.2).toNat)).length (sa.1.length - (sa.2).toNat) : Nat) : Int))))) := by kernel_rfl
theorem slices_Repeat_int_int_S_L1_p1 (ob : (List Cell)) (ob_ : (List (List Event))) (ob__ : (List Int)) (ob___ : (List Int)) (ob____ : (List Event)) (sa : (List Int) × Int) (K : Ex → St → Prop) : oR pc sc lp cd ⟨ord45, [rV 8 [(36, (vI (sa.1.length : Int))), (37, vF)]], [], [], []⟩ (polF 45) [(2, ⟨[7], [], 2, [], []⟩, ⟨[], [], []⟩)] c_slices_Repeat_int_int_S_L1 (slices_Repeat_int_int_S_L1_S ob ob_ ob__ ob___ ob____ sa) K
  = ((AV.v (.int .i64 (((sa.1.map eI).length : Nat) : Int)) = AV.v (.int .i64 (sa.1.length : Int))) ∧ (eqB (decide (sa.2 < (sa.1.length : Int))) false) ∧ K (.ex 0) (slices_Repeat_int_int_S_L1_T0 ob ob_ ob__ ob___ ob____ sa.1)) := by kernel_rfl
theorem slices_Repeat_int_int_S_L1_sim (n : Nat) (ob : (List Cell)) (ob_ : (List (List Event))) (ob__ : (List Int)) (ob___ : (List Int)) (ob____ : (List Event)) : ∀ sa r, slices_Repeat_int_int_S_L1 n ob ob_ ob__ ob___ ob____ sa = some r → CodeD Try.prog c_slices_Repeat_int_int_S_L1 (slices_Repeat_int_int_S_L1_S ob ob_ ob__ ob___ ob____ sa) (rk (slices_Repeat_int_int_S_L1_S ob ob_ ob__ ob___ ob____) (slices_Repeat_int_int_S_L1_out ob ob_ ob__ ob___ ob____) r) := by
 intro sa r h
 unfold slices_Repeat_int_int_S_L1 at h
 rcases iteN h with ⟨ha1, h⟩ | ⟨ha1, h⟩
 ·
  obtain rfl := soI h
  exact okR ordB_slices_Repeat_int_int_S_L1 (Eq.mpr (slices_Repeat_int_int_S_L1_p1 pP sP lP dP ob ob_ ob__ ob___ ob____ sa _) ⟨len_map _ _, cB ha1, ⟨rfl, rfl⟩⟩) (rkE rfl neE)
 obtain ⟨ha2, h⟩ := grdE h
 obtain ⟨ha3, h⟩ := grdE h
 obtain ⟨ha4, h⟩ := grdE h
 obtain rfl := soI h
 exact okR ordB_slices_Repeat_int_int_S_L1 (Eq.mpr (slices_Repeat_int_int_S_L1_p0 pP sP lP dP ob ob_ ob__ ob___ ob____ sa _) ⟨len_map _ _, cB ha1, cut_hi ha2, msl_len2 eI sa.1 _ _ _ _, cut_hi ha3, msl_len eI sa.1 _ _ _ _, (by rw [← List.map_drop, ← List.map_take]; exact okM), (by rw [List.length_map]; exact ha4), (by simp [List.map_take, List.map_drop]), (by simp [List.map_take, List.map_drop]), (by rw [← List.map_drop, ← List.map_take]; exact okM), (by rw [List.length_map]; exact ha4), (by simp [List.map_take, List.map_drop]), (by simp [List.map_take, List.map_drop]), rfl, ⟨rfl, rfl⟩⟩) rkN

def slices_Repeat_int_int_S_R (x : (List Int)) (count : Int) (ob : (List Cell)) (ob_ : (List (List Event))) (ob__ : (List Int)) (ob___ : (List Int)) (ob____ : (List Event)) (y : (List Int)) : AV × List Ob := (.mf 1, [.arr true 7 [[.fptr [.sl (ob.map Cell.enc), .sl (ob_.map (eSl Event.enc)), .sl (ob__.map eI), .sl (ob___.map eI)] 0, .sl (ob____.map Event.enc), .nilsl, .nilsl, .nilsl, .nilsl, .nilsl]], .arr true 1 (y.map eI)])
theorem slices_Repeat_int_int_S_p3 (x : (List Int)) (count : Int) (ob : (List Cell)) (ob_ : (List (List Event))) (ob__ : (List Int)) (ob___ : (List Int)) (ob____ : (List Event)) (y2 : Int × Int) (t6 : ((List Int))) (K : AV → List Ob → Prop) : ostore (cx pc sc lp) cd ⟨ord45, [rV 1 [(10, vF)], rVC 3 [(14, (vI (x.length : Int)))] [(18, .tup [(vU y2.1), (vU y2.2)])], rV 4 [(23, vF), (26, vF)], (6, ⟨[], [30], [], [], [], [], [(30, (1, (List.replicate ((IntKind.wrap .i64 y2.2)).toNat 0).map eI))], []⟩), (7, ⟨[], [], [], [(33, .v (.int .i64 ((min x.length (List.replicate ((IntKind.wrap .i64 y2.2)).toNat 0).length : Nat) : Int)))], [], [], [(33, (1, (x.take (List.replicate ((IntKind.wrap .i64 y2.2)).toNat 0).length ++ (List.replicate ((IntKind.wrap .i64 y2.2)).toNat 0).drop x.length).map eI))], []⟩)], [], [(8, (⟨[7, 8], [], 2, [], []⟩, ⟨[], [], []⟩, (.ex 0), slices_Repeat_int_int_S_L1_T0 ob ob_ ob__ ob___ ob____ t6))], []⟩ 45 [.sl (x.map eI), (vI count)] [.arr true 7 [[.fptr [.sl (ob.map Cell.enc), .sl (ob_.map (eSl Event.enc)), .sl (ob__.map eI), .sl (ob___.map eI)] 0, .sl (ob____.map Event.enc), .nilsl, .nilsl, .nilsl, .nilsl, .nilsl]]] K
  = ((eqB (decide (count < 0)) false) ∧ (AV.v (.int .i64 (((x.map eI).length : Nat) : Int)) = AV.v (.int .i64 (x.length : Int))) ∧ (pc 76 [(vU (IntKind.wrap .u64 (x.length : Int))), (vU (IntKind.wrap .u64 count))] (eqA (.tup [(vU y2.1), (vU y2.2)]))) ∧ (eqB (decide (y2.1 > 0)) false) ∧ (eqB (decide (y2.2 > 9223372036854775807)) false) ∧ ((decide (0 ≤ (IntKind.wrap .i64 y2.2)) && decide ((IntKind.wrap .i64 y2.2) ≤ (IntKind.wrap .i64 y2.2)) && decide (8 * (IntKind.wrap .i64 y2.2) ≤ 140737488355328) && decide ((IntKind.wrap .i64 y2.2) ≤ 140737488355328) && Nat.blt 0 1) = true) ∧ (List.replicate ((IntKind.wrap .i64 y2.2)).toNat [(vI 0)] = (List.replicate ((IntKind.wrap .i64 y2.2)).toNat 0).map eI) ∧ (szOk 1 (x.map eI) = true) ∧ (okRows (x.map eI) = true) ∧ (AV.v (.int .i64 ((min (x.map eI).length ((List.replicate ((IntKind.wrap .i64 y2.2)).toNat 0).map eI).length : Nat) : Int)) = AV.v (.int .i64 ((min x.length (List.replicate ((IntKind.wrap .i64 y2.2)).toNat 0).length : Nat) : Int))) ∧ ((x.map eI).take ((List.replicate ((IntKind.wrap .i64 y2.2)).toNat 0).map eI).length ++ ((List.replicate ((IntKind.wrap .i64 y2.2)).toNat 0).map eI).drop (x.map eI).length = (x.take (List.replicate ((IntKind.wrap .i64 y2.2)).toNat 0).length ++ (List.replicate ((IntKind.wrap .i64 y2.2)).toNat 0).drop x.length).map eI) ∧ (lp (polF 45) c_slices_Repeat_int_int_S_L1 (slices_Repeat_int_int_S_L1_S ob ob_ ob__ ob___ ob____ ((x.take (List.replicate ((IntKind.wrap .i64 y2.2)).toNat 0).length ++ (List.replicate ((IntKind.wrap .i64 y2.2)).toNat 0).drop x.length), ((min x.length (List.replicate ((IntKind.wrap .i64 y2.2)).toNat 0).length : Nat) : Int))) (fun e' S' => e' = (.ex 0) ∧ S' = slices_Repeat_int_int_S_L1_T0 ob ob_ ob__ ob___ ob____ t6)) ∧ K (.mf 1) [.arr true 7 [[.fptr [.sl (ob.map Cell.enc), .sl (ob_.map (eSl Event.enc)), .sl (ob__.map eI), .sl (ob___.map eI)] 0, .sl (ob____.map Event.enc), .nilsl, .nilsl, .nilsl, .nilsl, .nilsl]], .arr true 1 (t6.map eI)]) := by kernel_rfl
theorem slices_Repeat_int_int_S_sim (n : Nat) (x : (List Int)) (count : Int) (ob : (List Cell)) (ob_ : (List (List Event))) (ob__ : (List Int)) (ob___ : (List Int)) (ob____ : (List Event)) (y : (List Int)) (h : slices_Repeat_int_int_S n x count ob ob_ ob__ ob___ ob____ = some y) : SD Try.prog 45 [.sl (x.map eI), (vI count)] [.arr true 7 [[.fptr [.sl (ob.map Cell.enc), .sl (ob_.map (eSl Event.enc)), .sl (ob__.map eI), .sl (ob___.map eI)] 0, .sl (ob____.map Event.enc), .nilsl, .nilsl, .nilsl, .nilsl, .nilsl]]] (fun r' o' => r' = (slices_Repeat_int_int_S_R x count ob ob_ ob__ ob___ ob____ y).1 ∧ o' = (slices_Repeat_int_int_S_R x count ob ob_ ob__ ob___ ob____ y).2) := by
 unfold slices_Repeat_int_int_S at h
 rcases iteE h with ⟨h1, h⟩ | ⟨h1, h⟩
 ·
  cases h
 obtain ⟨y2, gy2, h⟩ := bindE h
 rcases iteE h with ⟨h3, h⟩ | ⟨h3, h⟩
 ·
  cases h
 rcases iteE h with ⟨h4, h⟩ | ⟨h4, h⟩
 ·
  cases h
 obtain ⟨h5, h⟩ := grdE h
 obtain ⟨t6, gt6, h⟩ := bindE h
 obtain rfl := soI h
 exact okS ordB45 (Eq.mpr (slices_Repeat_int_int_S_p3 pP sP lP dP x count ob ob_ ob__ ob___ ob____ y2 t6 _) (⟨cB h1, len_map _ _, (math_bits_Mul_sim n (IntKind.wrap .u64 (x.length : Int)) (IntKind.wrap .u64 count) y2 gy2), cB h3, cB h4, h5, rep_map eI _ 0, szM, okM, (by simp [List.map_take, List.map_drop]), (by simp [List.map_take, List.map_drop]), okL (slices_Repeat_int_int_S_L1_S ob ob_ ob__ ob___ ob____) (slices_Repeat_int_int_S_L1_out ob ob_ ob__ ob___ ob____) (slices_Repeat_int_int_S_L1_sim n ob ob_ ob__ ob___ ob____) n _ t6 gt6, ⟨rfl, rfl⟩⟩)) ⟨rfl, rfl⟩

end
end Go.Proofs.Ytigcbjbaibcgfaa
