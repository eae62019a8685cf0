/- What the functions compute, they compute: printed by a program, path by path. No conditions. -/
import Derived.Test.YtigcbjbaibcgfaaP0
import Derived.KernelRfl
namespace Go.Proofs.Ytigcbjbaibcgfaa
open Go A
set_option linter.unusedVariables false
set_option maxRecDepth 100000
set_option maxHeartbeats 0
section
variable (pc : Nat → List AV → (AV → Prop) → Prop) (sc : Nat → List AV → List Ob → (AV → List Ob → Prop) → Prop) (lp : Pol → Code → St → (Ex → St → Prop) → Prop) (cd : CutP)

def ord21 : List (Nat × PT) := []
theorem ordB21 : ordB (polF 21) ord21 (bodyOf Try.prog 21) = true := by kernel_rfl
theorem law_fence_p0 (pred : Int) (succ : Int) (K : AV → Prop) : oP pc sc lp cd ⟨ord21, [], [], [], []⟩ 21 [(vI pred), (vI succ)] K
  = (K (.sl [[(vI 0), (vI 1), (vI 6), (vU 0), (vU 0), (vU 0), vF, vF, (vI pred), (vI succ), (vI 0), .nilsl, .nilsl, .nilsl]])) := by kernel_rfl
theorem law_fence_sim (n : Nat) (pred : Int) (succ : Int) (r : (List Event)) (h : law_fence n pred succ = some r) : PCall Try.prog 21 [(vI pred), (vI succ)] (eqA (.sl (r.map Event.enc))) := by
 unfold law_fence at h
 obtain rfl := soI h
 exact okP ordB21 (Eq.mpr (law_fence_p0 pP sP lP dP pred succ _) ((LeA.sl (LeRs.cons (LeR.cons (LeA.refl _) (LeR.cons (LeA.refl _) (LeR.cons (LeA.refl _) (LeR.cons (LeA.refl _) (LeR.cons (LeA.refl _) (LeR.cons (LeA.refl _) (LeR.cons (LeA.refl _) (LeR.cons (LeA.refl _) (LeR.cons (LeA.refl _) (LeR.cons (LeA.refl _) (LeR.cons (LeA.refl _) (LeR.cons LeA.nil (LeR.cons LeA.nil (LeR.cons LeA.nil LeR.nil)))))))))))))) LeRs.nil))))

def ord20 : List (Nat × PT) := []
theorem ordB20 : ordB (polF 20) ord20 (bodyOf Try.prog 20) = true := by kernel_rfl
noncomputable def c_law_example_L1 : Code := sub (bodyOf Try.prog 20) [1, 1, 1, 1, 0, 1, 0, 0]
theorem ordB_law_example_L1 : ordB (polF 20) ord20 c_law_example_L1 = true := by kernel_rfl
def law_example_L1_S (between : (List Event)) (sa : (List Int) × Int) : St := mkS 35 [(2, .ptr (.L 2) 0 0), (3, .mf 0), (4, .ptr (.L 4) 0 0), (5, (vI sa.2))] [(4, [.nilsl, .mf 1, .mf 2, .sl [[(vI 0)], [.v (.int .i64 (subW .i64 (((([(Event.mk 0 0 2 8 0 0 false false 0 0 0 (Deps.mk ([] : List Int) ([] : List Int) ([] : List Int)))] : List Event) ++ between) ++ ([(Event.mk 0 ((([(Event.mk 0 0 2 8 0 0 false false 0 0 0 (Deps.mk ([] : List Int) ([] : List Int) ([] : List Int)))] : List Event) ++ between).length : Int) 1 16 0 0 false false 0 0 0 (Deps.mk ([] : List Int) ([] : List Int) ([] : List Int)))] : List Event)).length : Int) 1))]]]), (2, [.nilsl, .nilsl, .nilsl, .nilsl])] [.arr true 14 (((([(Event.mk 0 0 2 8 0 0 false false 0 0 0 (Deps.mk ([] : List Int) ([] : List Int) ([] : List Int)))] : List Event) ++ between) ++ ([(Event.mk 0 ((([(Event.mk 0 0 2 8 0 0 false false 0 0 0 (Deps.mk ([] : List Int) ([] : List Int) ([] : List Int)))] : List Event) ++ between).length : Int) 1 16 0 0 false false 0 0 0 (Deps.mk ([] : List Int) ([] : List Int) ([] : List Int)))] : List Event)).map Event.enc), .arr false 1 [[.mf 0]], .arr true 1 (sa.1.map eI)] 0
def law_example_L1_T0 (between : (List Event)) (tt : (List Int)) : St := mkS 35 [(2, .ptr (.L 2) 0 0), (4, .ptr (.L 4) 0 0)] [(4, [.nilsl, .mf 1, .mf 2, .sl [[(vI 0)], [.v (.int .i64 (subW .i64 (((([(Event.mk 0 0 2 8 0 0 false false 0 0 0 (Deps.mk ([] : List Int) ([] : List Int) ([] : List Int)))] : List Event) ++ between) ++ ([(Event.mk 0 ((([(Event.mk 0 0 2 8 0 0 false false 0 0 0 (Deps.mk ([] : List Int) ([] : List Int) ([] : List Int)))] : List Event) ++ between).length : Int) 1 16 0 0 false false 0 0 0 (Deps.mk ([] : List Int) ([] : List Int) ([] : List Int)))] : List Event)).length : Int) 1))]]]), (2, [.nilsl, .nilsl, .nilsl, .nilsl])] [.arr true 14 (((([(Event.mk 0 0 2 8 0 0 false false 0 0 0 (Deps.mk ([] : List Int) ([] : List Int) ([] : List Int)))] : List Event) ++ between) ++ ([(Event.mk 0 ((([(Event.mk 0 0 2 8 0 0 false false 0 0 0 (Deps.mk ([] : List Int) ([] : List Int) ([] : List Int)))] : List Event) ++ between).length : Int) 1 16 0 0 false false 0 0 0 (Deps.mk ([] : List Int) ([] : List Int) ([] : List Int)))] : List Event)).map Event.enc), .arr false 1 [[.mf 0]], .arr true 1 (tt.map eI)] 0
def law_example_L1_out (between : (List Event)) (tt : ((List Int))) : Ex × St := (.ex 0, law_example_L1_T0 between tt)
theorem law_example_L1_p0 (between : (List Event)) (sa : (List Int) × Int) (K : Ex → St → Prop) : oR pc sc lp cd ⟨ord20, [(5, ⟨[], [], [], [(25, .v (.int .i64 (((([(Event.mk 0 0 2 8 0 0 false false 0 0 0 (Deps.mk ([] : List Int) ([] : List Int) ([] : List Int)))] : List Event) ++ between) ++ ([(Event.mk 0 ((([(Event.mk 0 0 2 8 0 0 false false 0 0 0 (Deps.mk ([] : List Int) ([] : List Int) ([] : List Int)))] : List Event) ++ between).length : Int) 1 16 0 0 false false 0 0 0 (Deps.mk ([] : List Int) ([] : List Int) ([] : List Int)))] : List Event)).length : Int))), (26, vT)], [], [], [], []⟩), (7, ⟨[], [32], [], [], [], [], [(32, (2, (sa.1 ++ ([(-1)] : List Int)).map eI))], []⟩)], [], [], []⟩ (polF 20) [(0, ⟨[2, 3, 4, 5], [], 3, [], []⟩, ⟨[], [], []⟩)] c_law_example_L1 (law_example_L1_S between sa) K
  = ((AV.v (.int .i64 (((((([(Event.mk 0 0 2 8 0 0 false false 0 0 0 (Deps.mk ([] : List Int) ([] : List Int) ([] : List Int)))] : List Event) ++ between) ++ ([(Event.mk 0 ((([(Event.mk 0 0 2 8 0 0 false false 0 0 0 (Deps.mk ([] : List Int) ([] : List Int) ([] : List Int)))] : List Event) ++ between).length : Int) 1 16 0 0 false false 0 0 0 (Deps.mk ([] : List Int) ([] : List Int) ([] : List Int)))] : List Event)).map Event.enc).length : Nat) : Int)) = AV.v (.int .i64 (((([(Event.mk 0 0 2 8 0 0 false false 0 0 0 (Deps.mk ([] : List Int) ([] : List Int) ([] : List Int)))] : List Event) ++ between) ++ ([(Event.mk 0 ((([(Event.mk 0 0 2 8 0 0 false false 0 0 0 (Deps.mk ([] : List Int) ([] : List Int) ([] : List Int)))] : List Event) ++ between).length : Int) 1 16 0 0 false false 0 0 0 (Deps.mk ([] : List Int) ([] : List Int) ([] : List Int)))] : List Event)).length : Int))) ∧ (eqB (decide (sa.2 < (((([(Event.mk 0 0 2 8 0 0 false false 0 0 0 (Deps.mk ([] : List Int) ([] : List Int) ([] : List Int)))] : List Event) ++ between) ++ ([(Event.mk 0 ((([(Event.mk 0 0 2 8 0 0 false false 0 0 0 (Deps.mk ([] : List Int) ([] : List Int) ([] : List Int)))] : List Event) ++ between).length : Int) 1 16 0 0 false false 0 0 0 (Deps.mk ([] : List Int) ([] : List Int) ([] : List Int)))] : List Event)).length : Int))) true) ∧ (szOk 1 [[(vI (-1))]] = true) ∧ (okRows [[(vI (-1))]] = true) ∧ (Nat.ble (((sa.1.map eI).length + 1) * 8) 140737488355328 = true) ∧ ((sa.1.map eI) ++ [[(vI (-1))]] = (sa.1 ++ ([(-1)] : List Int)).map eI) ∧ K .nrm (law_example_L1_S between ((sa.1 ++ ([(-1)] : List Int)), (addW .i64 sa.2 1)))) := by kernel_rfl
theorem law_example_L1_p1 (between : (List Event)) (sa : (List Int) × Int) (K : Ex → St → Prop) : oR pc sc lp cd ⟨ord20, [(5, ⟨[], [], [], [(25, .v (.int .i64 (((([(Event.mk 0 0 2 8 0 0 false false 0 0 0 (Deps.mk ([] : List Int) ([] : List Int) ([] : List Int)))] : List Event) ++ between) ++ ([(Event.mk 0 ((([(Event.mk 0 0 2 8 0 0 false false 0 0 0 (Deps.mk ([] : List Int) ([] : List Int) ([] : List Int)))] : List Event) ++ between).length : Int) 1 16 0 0 false false 0 0 0 (Deps.mk ([] : List Int) ([] : List Int) ([] : List Int)))] : List Event)).length : Int))), (26, vF)], [], [], [], []⟩)], [], [], []⟩ (polF 20) [(2, ⟨[2, 4], [], 3, [], []⟩, ⟨[], [], []⟩)] c_law_example_L1 (law_example_L1_S between sa) K
  = ((AV.v (.int .i64 (((((([(Event.mk 0 0 2 8 0 0 false false 0 0 0 (Deps.mk ([] : List Int) ([] : List Int) ([] : List Int)))] : List Event) ++ between) ++ ([(Event.mk 0 ((([(Event.mk 0 0 2 8 0 0 false false 0 0 0 (Deps.mk ([] : List Int) ([] : List Int) ([] : List Int)))] : List Event) ++ between).length : Int) 1 16 0 0 false false 0 0 0 (Deps.mk ([] : List Int) ([] : List Int) ([] : List Int)))] : List Event)).map Event.enc).length : Nat) : Int)) = AV.v (.int .i64 (((([(Event.mk 0 0 2 8 0 0 false false 0 0 0 (Deps.mk ([] : List Int) ([] : List Int) ([] : List Int)))] : List Event) ++ between) ++ ([(Event.mk 0 ((([(Event.mk 0 0 2 8 0 0 false false 0 0 0 (Deps.mk ([] : List Int) ([] : List Int) ([] : List Int)))] : List Event) ++ between).length : Int) 1 16 0 0 false false 0 0 0 (Deps.mk ([] : List Int) ([] : List Int) ([] : List Int)))] : List Event)).length : Int))) ∧ (eqB (decide (sa.2 < (((([(Event.mk 0 0 2 8 0 0 false false 0 0 0 (Deps.mk ([] : List Int) ([] : List Int) ([] : List Int)))] : List Event) ++ between) ++ ([(Event.mk 0 ((([(Event.mk 0 0 2 8 0 0 false false 0 0 0 (Deps.mk ([] : List Int) ([] : List Int) ([] : List Int)))] : List Event) ++ between).length : Int) 1 16 0 0 false false 0 0 0 (Deps.mk ([] : List Int) ([] : List Int) ([] : List Int)))] : List Event)).length : Int))) false) ∧ K (.ex 0) (law_example_L1_T0 between sa.1)) := by kernel_rfl
theorem law_example_L1_sim (n : Nat) (between : (List Event)) : ∀ sa r, law_example_L1 n between sa = some r → CodeD Try.prog c_law_example_L1 (law_example_L1_S between sa) (rk (law_example_L1_S between) (law_example_L1_out between) r) := by
 intro sa r h
 unfold law_example_L1 at h
 rcases iteN h with ⟨ha1, h⟩ | ⟨ha1, h⟩
 ·
  obtain rfl := soI h
  exact okR ordB_law_example_L1 (Eq.mpr (law_example_L1_p1 pP sP lP dP between sa _) ⟨len_map _ _, cB ha1, ⟨rfl, rfl⟩⟩) (rkE rfl neE)
 obtain ⟨ha2, h⟩ := grdE h
 obtain rfl := soI h
 exact okR ordB_law_example_L1 (Eq.mpr (law_example_L1_p0 pP sP lP dP between sa _) ⟨len_map _ _, cB ha1, rfl, rfl, ble_maps1 ha2, app_map eI sa.1 ([(-1)] : List Int), ⟨rfl, rfl⟩⟩) rkN

theorem law_example_p0 (between : (List Event)) (t3 : ((List Int))) (K : AV → Prop) : oP pc sc lp cd ⟨ord20, [(1, ⟨[], [9], [], [], [], [], [], []⟩), (2, ⟨[], [15], [], [(12, .v (.int .i64 ((([(Event.mk 0 0 2 8 0 0 false false 0 0 0 (Deps.mk ([] : List Int) ([] : List Int) ([] : List Int)))] : List Event) ++ between).length : Int)))], [], [], [], []⟩), (3, ⟨[], [], [], [(19, .v (.int .i64 (((([(Event.mk 0 0 2 8 0 0 false false 0 0 0 (Deps.mk ([] : List Int) ([] : List Int) ([] : List Int)))] : List Event) ++ between) ++ ([(Event.mk 0 ((([(Event.mk 0 0 2 8 0 0 false false 0 0 0 (Deps.mk ([] : List Int) ([] : List Int) ([] : List Int)))] : List Event) ++ between).length : Int) 1 16 0 0 false false 0 0 0 (Deps.mk ([] : List Int) ([] : List Int) ([] : List Int)))] : List Event)).length : Int)))], [], [], [], []⟩)], [(1, ⟨[], [], [(0, (([(Event.mk 0 0 2 8 0 0 false false 0 0 0 (Deps.mk ([] : List Int) ([] : List Int) ([] : List Int)))] : List Event) ++ between).map Event.enc)]⟩), (2, ⟨[], [], [(0, ((([(Event.mk 0 0 2 8 0 0 false false 0 0 0 (Deps.mk ([] : List Int) ([] : List Int) ([] : List Int)))] : List Event) ++ between) ++ ([(Event.mk 0 ((([(Event.mk 0 0 2 8 0 0 false false 0 0 0 (Deps.mk ([] : List Int) ([] : List Int) ([] : List Int)))] : List Event) ++ between).length : Int) 1 16 0 0 false false 0 0 0 (Deps.mk ([] : List Int) ([] : List Int) ([] : List Int)))] : List Event)).map Event.enc)]⟩)], [(5, (⟨[2, 3, 4, 5], [], 2, [], [(4, 2, 1)]⟩, ⟨[], [], []⟩, (.ex 0), law_example_L1_T0 between t3))], []⟩ 20 [.sl (between.map Event.enc)] K
  = ((szOk 14 (between.map Event.enc) = true) ∧ (okRows (between.map Event.enc) = true) ∧ (Nat.ble ((1 + (between.map Event.enc).length) * 152) 140737488355328 = true) ∧ (LeRs ([[(vI 0), (vI 0), (vI 2), (vU 8), (vU 0), (vU 0), vF, vF, (vI 0), (vI 0), (vI 0), .nilsl, .nilsl, .nilsl]] ++ (between.map Event.enc)) ((([(Event.mk 0 0 2 8 0 0 false false 0 0 0 (Deps.mk ([] : List Int) ([] : List Int) ([] : List Int)))] : List Event) ++ between).map Event.enc)) ∧ (AV.v (.int .i64 ((((([(Event.mk 0 0 2 8 0 0 false false 0 0 0 (Deps.mk ([] : List Int) ([] : List Int) ([] : List Int)))] : List Event) ++ between).map Event.enc).length : Nat) : Int)) = AV.v (.int .i64 ((([(Event.mk 0 0 2 8 0 0 false false 0 0 0 (Deps.mk ([] : List Int) ([] : List Int) ([] : List Int)))] : List Event) ++ between).length : Int))) ∧ (szOk 14 [[(vI 0), .v (.int .i64 ((([(Event.mk 0 0 2 8 0 0 false false 0 0 0 (Deps.mk ([] : List Int) ([] : List Int) ([] : List Int)))] : List Event) ++ between).length : Int)), (vI 1), (vU 16), (vU 0), (vU 0), vF, vF, (vI 0), (vI 0), (vI 0), .nilsl, .nilsl, .nilsl]] = true) ∧ (okRows [[(vI 0), .v (.int .i64 ((([(Event.mk 0 0 2 8 0 0 false false 0 0 0 (Deps.mk ([] : List Int) ([] : List Int) ([] : List Int)))] : List Event) ++ between).length : Int)), (vI 1), (vU 16), (vU 0), (vU 0), vF, vF, (vI 0), (vI 0), (vI 0), .nilsl, .nilsl, .nilsl]] = true) ∧ (Nat.ble ((((([(Event.mk 0 0 2 8 0 0 false false 0 0 0 (Deps.mk ([] : List Int) ([] : List Int) ([] : List Int)))] : List Event) ++ between).map Event.enc).length + 1) * 152) 140737488355328 = true) ∧ (LeRs (((([(Event.mk 0 0 2 8 0 0 false false 0 0 0 (Deps.mk ([] : List Int) ([] : List Int) ([] : List Int)))] : List Event) ++ between).map Event.enc) ++ [[(vI 0), .v (.int .i64 ((([(Event.mk 0 0 2 8 0 0 false false 0 0 0 (Deps.mk ([] : List Int) ([] : List Int) ([] : List Int)))] : List Event) ++ between).length : Int)), (vI 1), (vU 16), (vU 0), (vU 0), vF, vF, (vI 0), (vI 0), (vI 0), .nilsl, .nilsl, .nilsl]]) (((([(Event.mk 0 0 2 8 0 0 false false 0 0 0 (Deps.mk ([] : List Int) ([] : List Int) ([] : List Int)))] : List Event) ++ between) ++ ([(Event.mk 0 ((([(Event.mk 0 0 2 8 0 0 false false 0 0 0 (Deps.mk ([] : List Int) ([] : List Int) ([] : List Int)))] : List Event) ++ between).length : Int) 1 16 0 0 false false 0 0 0 (Deps.mk ([] : List Int) ([] : List Int) ([] : List Int)))] : List Event)).map Event.enc)) ∧ (AV.v (.int .i64 (((((([(Event.mk 0 0 2 8 0 0 false false 0 0 0 (Deps.mk ([] : List Int) ([] : List Int) ([] : List Int)))] : List Event) ++ between) ++ ([(Event.mk 0 ((([(Event.mk 0 0 2 8 0 0 false false 0 0 0 (Deps.mk ([] : List Int) ([] : List Int) ([] : List Int)))] : List Event) ++ between).length : Int) 1 16 0 0 false false 0 0 0 (Deps.mk ([] : List Int) ([] : List Int) ([] : List Int)))] : List Event)).map Event.enc).length : Nat) : Int)) = AV.v (.int .i64 (((([(Event.mk 0 0 2 8 0 0 false false 0 0 0 (Deps.mk ([] : List Int) ([] : List Int) ([] : List Int)))] : List Event) ++ between) ++ ([(Event.mk 0 ((([(Event.mk 0 0 2 8 0 0 false false 0 0 0 (Deps.mk ([] : List Int) ([] : List Int) ([] : List Int)))] : List Event) ++ between).length : Int) 1 16 0 0 false false 0 0 0 (Deps.mk ([] : List Int) ([] : List Int) ([] : List Int)))] : List Event)).length : Int))) ∧ (lp (polF 20) c_law_example_L1 (law_example_L1_S between (([] : List Int), 0)) (fun e' S' => e' = (.ex 0) ∧ S' = law_example_L1_T0 between t3)) ∧ K (.agg [.nilsl, .sl [[.sl (((([(Event.mk 0 0 2 8 0 0 false false 0 0 0 (Deps.mk ([] : List Int) ([] : List Int) ([] : List Int)))] : List Event) ++ between) ++ ([(Event.mk 0 ((([(Event.mk 0 0 2 8 0 0 false false 0 0 0 (Deps.mk ([] : List Int) ([] : List Int) ([] : List Int)))] : List Event) ++ between).length : Int) 1 16 0 0 false false 0 0 0 (Deps.mk ([] : List Int) ([] : List Int) ([] : List Int)))] : List Event)).map Event.enc)]], .sl (t3.map eI), .sl [[(vI 0)], [.v (.int .i64 (subW .i64 (((([(Event.mk 0 0 2 8 0 0 false false 0 0 0 (Deps.mk ([] : List Int) ([] : List Int) ([] : List Int)))] : List Event) ++ between) ++ ([(Event.mk 0 ((([(Event.mk 0 0 2 8 0 0 false false 0 0 0 (Deps.mk ([] : List Int) ([] : List Int) ([] : List Int)))] : List Event) ++ between).length : Int) 1 16 0 0 false false 0 0 0 (Deps.mk ([] : List Int) ([] : List Int) ([] : List Int)))] : List Event)).length : Int) 1))]]])) := by kernel_rfl
theorem law_example_sim (n : Nat) (between : (List Event)) (r : Cand) (h : law_example n between = some r) : PCall Try.prog 20 [.sl (between.map Event.enc)] (eqA ((aAgg Cand.enc r))) := by
 unfold law_example at h
 obtain ⟨h1, h⟩ := grdE h
 obtain ⟨h2, h⟩ := grdE h
 obtain ⟨t3, gt3, h⟩ := bindE h
 obtain rfl := soI h
 exact okP ordB20 (Eq.mpr (law_example_p0 pP sP lP dP between t3 _) (⟨szM, okM, (by rw [List.length_map]; exact h1), (le_app Event.enc ([(Event.mk 0 0 2 8 0 0 false false 0 0 0 (Deps.mk ([] : List Int) ([] : List Int) ([] : List Int)))] : List Event) between (LeRs.cons (LeR.cons (LeA.refl _) (LeR.cons (LeA.refl _) (LeR.cons (LeA.refl _) (LeR.cons (LeA.refl _) (LeR.cons (LeA.refl _) (LeR.cons (LeA.refl _) (LeR.cons (LeA.refl _) (LeR.cons (LeA.refl _) (LeR.cons (LeA.refl _) (LeR.cons (LeA.refl _) (LeR.cons (LeA.refl _) (LeR.cons LeA.nil (LeR.cons LeA.nil (LeR.cons LeA.nil LeR.nil)))))))))))))) LeRs.nil) (LeRs.refl _)), len_map _ _, rfl, rfl, ble_maps1 h2, (le_app Event.enc (([(Event.mk 0 0 2 8 0 0 false false 0 0 0 (Deps.mk ([] : List Int) ([] : List Int) ([] : List Int)))] : List Event) ++ between) ([(Event.mk 0 ((([(Event.mk 0 0 2 8 0 0 false false 0 0 0 (Deps.mk ([] : List Int) ([] : List Int) ([] : List Int)))] : List Event) ++ between).length : Int) 1 16 0 0 false false 0 0 0 (Deps.mk ([] : List Int) ([] : List Int) ([] : List Int)))] : List Event) (LeRs.refl _) (LeRs.cons (LeR.cons (LeA.refl _) (LeR.cons (LeA.refl _) (LeR.cons (LeA.refl _) (LeR.cons (LeA.refl _) (LeR.cons (LeA.refl _) (LeR.cons (LeA.refl _) (LeR.cons (LeA.refl _) (LeR.cons (LeA.refl _) (LeR.cons (LeA.refl _) (LeR.cons (LeA.refl _) (LeR.cons (LeA.refl _) (LeR.cons LeA.nil (LeR.cons LeA.nil (LeR.cons LeA.nil LeR.nil)))))))))))))) LeRs.nil)), len_map _ _, okL (law_example_L1_S between) (law_example_L1_out between) (law_example_L1_sim n between) n _ t3 gt3, (LeA.agg (LeR.cons LeA.nil (LeR.cons (LeA.refl _) (LeR.cons (LeA.refl _) (LeR.cons (LeA.refl _) LeR.nil)))))⟩))

def ord70 : List (Nat × PT) := [(4, (ptS [0, 1, 2, 3, 4, 5, 6, 7, 8, 9, 10, 11, 12, 13, 14, 15, 16, 17, 18]))]
theorem ordB70 : ordB (polF 70) ord70 (bodyOf Try.prog 70) = true := by kernel_rfl
noncomputable def c_cand_cells_L1 : Code := sub (bodyOf Try.prog 70) [1, 0, 1, 0, 0]
theorem ordB_cand_cells_L1 : ordB (polF 70) ord70 c_cand_cells_L1 = true := by kernel_rfl
def cand_cells_L1_S (l : (List Cell)) (sa : Int) : St := mkS 32 [(0, .sl (l.map Cell.enc)), (5, .sl (l.map Cell.enc)), (6, (vI (l.length : Int))), (7, (vI sa))] [] [] 0
def cand_cells_L1_T0 (l : (List Cell)) (tt : Unit) : St := mkS 32 [] [] [] 0
def cand_cells_L1_T1 (l : (List Cell)) (tt : Unit) : St := mkS 32 [(2, vF)] [] [] 0
def cand_cells_L1_out (l : (List Cell)) (t0 : (Unit ⊕ Unit)) : Ex × St := match t0 with | .inl tt => (.ex 0, cand_cells_L1_T0 l tt) | .inr tt => (.ret, cand_cells_L1_T1 l tt)
theorem cand_cells_L1_p0 (l : (List Cell)) (sa : Int) (xa2 : Cell) (K : Ex → St → Prop) : oR pc sc lp cd ⟨ord70, [rV 2 [(8, vT)], (3, ⟨[], [], [(10, (Cell.enc xa2))], [], [], [], [], []⟩), rV 4 [(16, vT)]], [], [], []⟩ (polF 70) [(1, ⟨[2], [4], 0, [], []⟩, ⟨[], [], []⟩)] c_cand_cells_L1 (cand_cells_L1_S l sa) K
  = ((eqB (decide (sa < (l.length : Int))) true) ∧ (at? (l.map Cell.enc) sa = some (Cell.enc xa2)) ∧ (eqB ((remW .u64 xa2.Addr 8) != 0) true) ∧ K .ret (cand_cells_L1_T1 l ())) := by kernel_rfl
theorem cand_cells_L1_p1 (l : (List Cell)) (sa : Int) (xa2 : Cell) (xa5 : Cell) (K : Ex → St → Prop) : oR pc sc lp cd ⟨ord70, [rV 2 [(8, vT)], (3, ⟨[], [], [(10, (Cell.enc xa2))], [], [], [], [], []⟩), (4, ⟨[], [], [(23, (Cell.enc xa5))], [(16, vF), (19, vT), (30, vT)], [], [], [], []⟩)], [], [], []⟩ (polF 70) [(1, ⟨[2], [4], 0, [], []⟩, ⟨[], [], []⟩)] c_cand_cells_L1 (cand_cells_L1_S l sa) K
  = ((eqB (decide (sa < (l.length : Int))) true) ∧ (at? (l.map Cell.enc) sa = some (Cell.enc xa2)) ∧ (eqB ((remW .u64 xa2.Addr 8) != 0) false) ∧ (eqB (decide (sa > 0)) true) ∧ (at? (l.map Cell.enc) (subW .i64 sa 1) = some (Cell.enc xa5)) ∧ (eqB (decide (xa5.Addr ≥ xa2.Addr)) true) ∧ K .ret (cand_cells_L1_T1 l ())) := by kernel_rfl
theorem cand_cells_L1_p2 (l : (List Cell)) (sa : Int) (xa2 : Cell) (xa5 : Cell) (K : Ex → St → Prop) : oR pc sc lp cd ⟨ord70, [rV 2 [(8, vT)], (3, ⟨[], [], [(10, (Cell.enc xa2))], [], [], [], [], []⟩), (4, ⟨[], [], [(23, (Cell.enc xa5))], [(16, vF), (19, vT), (30, vF)], [], [], [], []⟩)], [], [], []⟩ (polF 70) [(0, ⟨[0, 5, 6, 7], [4], 0, [], []⟩, ⟨[], [], []⟩)] c_cand_cells_L1 (cand_cells_L1_S l sa) K
  = ((eqB (decide (sa < (l.length : Int))) true) ∧ (at? (l.map Cell.enc) sa = some (Cell.enc xa2)) ∧ (eqB ((remW .u64 xa2.Addr 8) != 0) false) ∧ (eqB (decide (sa > 0)) true) ∧ (at? (l.map Cell.enc) (subW .i64 sa 1) = some (Cell.enc xa5)) ∧ (eqB (decide (xa5.Addr ≥ xa2.Addr)) false) ∧ K .nrm (cand_cells_L1_S l (addW .i64 sa 1))) := by kernel_rfl
theorem cand_cells_L1_p3 (l : (List Cell)) (sa : Int) (xa2 : Cell) (K : Ex → St → Prop) : oR pc sc lp cd ⟨ord70, [rV 2 [(8, vT)], (3, ⟨[], [], [(10, (Cell.enc xa2))], [], [], [], [], []⟩), rV 4 [(16, vF), (19, vF)]], [], [], []⟩ (polF 70) [(0, ⟨[0, 5, 6, 7], [4], 0, [], []⟩, ⟨[], [], []⟩)] c_cand_cells_L1 (cand_cells_L1_S l sa) K
  = ((eqB (decide (sa < (l.length : Int))) true) ∧ (at? (l.map Cell.enc) sa = some (Cell.enc xa2)) ∧ (eqB ((remW .u64 xa2.Addr 8) != 0) false) ∧ (eqB (decide (sa > 0)) false) ∧ K .nrm (cand_cells_L1_S l (addW .i64 sa 1))) := by kernel_rfl
theorem cand_cells_L1_p4 (l : (List Cell)) (sa : Int) (K : Ex → St → Prop) : oR pc sc lp cd ⟨ord70, [rV 2 [(8, vF)]], [], [], []⟩ (polF 70) [(2, ⟨[], [], 0, [], []⟩, ⟨[], [], []⟩)] c_cand_cells_L1 (cand_cells_L1_S l sa) K
  = ((eqB (decide (sa < (l.length : Int))) false) ∧ K (.ex 0) (cand_cells_L1_T0 l ())) := by kernel_rfl
theorem cand_cells_L1_sim (n : Nat) (l : (List Cell)) : ∀ sa r, cand_cells_L1 n l sa = some r → CodeD Try.prog c_cand_cells_L1 (cand_cells_L1_S l sa) (rk (cand_cells_L1_S l) (cand_cells_L1_out l) r) := by
 intro sa r h
 unfold cand_cells_L1 at h
 rcases iteN h with ⟨ha1, h⟩ | ⟨ha1, h⟩
 ·
  obtain rfl := soI h
  exact okR ordB_cand_cells_L1 (Eq.mpr (cand_cells_L1_p4 pP sP lP dP l sa _) ⟨cB ha1, ⟨rfl, rfl⟩⟩) (rkE rfl neE)
 obtain ⟨xa2, gxa2, h⟩ := bindE h
 rcases iteE h with ⟨ha3, h⟩ | ⟨ha3, h⟩
 ·
  obtain rfl := soI h
  exact okR ordB_cand_cells_L1 (Eq.mpr (cand_cells_L1_p0 pP sP lP dP l sa xa2 _) ⟨cB ha1, at_map Cell.enc gxa2, cB ha3, ⟨rfl, rfl⟩⟩) (rkE rfl neR)
 rcases iteN h with ⟨ha4, h⟩ | ⟨ha4, h⟩
 ·
  obtain rfl := soI h
  exact okR ordB_cand_cells_L1 (Eq.mpr (cand_cells_L1_p3 pP sP lP dP l sa xa2 _) ⟨cB ha1, at_map Cell.enc gxa2, cB ha3, cB ha4, ⟨rfl, rfl⟩⟩) rkN
 obtain ⟨xa5, gxa5, h⟩ := bindE h
 rcases iteN h with ⟨ha6, h⟩ | ⟨ha6, h⟩
 ·
  obtain rfl := soI h
  exact okR ordB_cand_cells_L1 (Eq.mpr (cand_cells_L1_p2 pP sP lP dP l sa xa2 xa5 _) ⟨cB ha1, at_map Cell.enc gxa2, cB ha3, cB ha4, at_map Cell.enc gxa5, cB ha6, ⟨rfl, rfl⟩⟩) rkN
 obtain rfl := soI h
 exact okR ordB_cand_cells_L1 (Eq.mpr (cand_cells_L1_p1 pP sP lP dP l sa xa2 xa5 _) ⟨cB ha1, at_map Cell.enc gxa2, cB ha3, cB ha4, at_map Cell.enc gxa5, cB ha6, ⟨rfl, rfl⟩⟩) (rkE rfl neR)

theorem cand_cells_p0 (l : (List Cell)) (w2 : Unit) (K : AV → Prop) : oP pc sc lp cd ⟨ord70, [rV 1 [(6, (vI (l.length : Int)))]], [], [(2, (⟨[0, 5, 6, 7], [], 0, [], []⟩, ⟨[], [], []⟩, (.ex 0), cand_cells_L1_T0 l w2))], []⟩ 70 [.sl (l.map Cell.enc)] K
  = ((AV.v (.int .i64 (((l.map Cell.enc).length : Nat) : Int)) = AV.v (.int .i64 (l.length : Int))) ∧ (lp (polF 70) c_cand_cells_L1 (cand_cells_L1_S l 0) (fun e' S' => e' = (.ex 0) ∧ S' = cand_cells_L1_T0 l w2)) ∧ K (vT)) := by kernel_rfl
theorem cand_cells_p1 (l : (List Cell)) (w2 : Unit) (K : AV → Prop) : oP pc sc lp cd ⟨ord70, [rV 1 [(6, (vI (l.length : Int)))]], [], [(2, (⟨[0, 5, 6, 7], [], 0, [], []⟩, ⟨[], [], []⟩, .ret, cand_cells_L1_T1 l w2))], []⟩ 70 [.sl (l.map Cell.enc)] K
  = ((AV.v (.int .i64 (((l.map Cell.enc).length : Nat) : Int)) = AV.v (.int .i64 (l.length : Int))) ∧ (lp (polF 70) c_cand_cells_L1 (cand_cells_L1_S l 0) (fun e' S' => e' = .ret ∧ S' = cand_cells_L1_T1 l w2)) ∧ K (vF)) := by kernel_rfl
theorem cand_cells_sim (n : Nat) (l : (List Cell)) (r : Bool) (h : cand_cells n l = some r) : PCall Try.prog 70 [.sl (l.map Cell.enc)] (eqA (.v (.bool r))) := by
 unfold cand_cells at h
 obtain ⟨t1, gt1, h⟩ := bindE h
 rcases t1 with w2 | w2
 ·
  obtain rfl := soI h
  exact okP ordB70 (Eq.mpr (cand_cells_p0 pP sP lP dP l w2 _) (⟨len_map _ _, okL (cand_cells_L1_S l) (cand_cells_L1_out l) (cand_cells_L1_sim n l) n _ (.inl w2) gt1, LeA.refl _⟩))
 ·
  obtain rfl := soI h
  exact okP ordB70 (Eq.mpr (cand_cells_p1 pP sP lP dP l w2 _) (⟨len_map _ _, okL (cand_cells_L1_S l) (cand_cells_L1_out l) (cand_cells_L1_sim n l) n _ (.inr w2) gt1, LeA.refl _⟩))

def ord78 : List (Nat × PT) := []
theorem ordB78 : ordB (polF 78) ord78 (bodyOf Try.prog 78) = true := by kernel_rfl
theorem event_has_p0 (kind : Int) (K : AV → Prop) : oP pc sc lp cd ⟨ord78, [rV 1 [(5, vT)]], [], [], []⟩ 78 [(vI kind)] K
  = ((eqB (decide (kind < 1)) true) ∧ K ((vU 0))) := by kernel_rfl
theorem event_has_p1 (kind : Int) (K : AV → Prop) : oP pc sc lp cd ⟨ord78, [rV 1 [(5, vF), (8, vT)]], [], [], []⟩ 78 [(vI kind)] K
  = ((eqB (decide (kind < 1)) false) ∧ (eqB (decide (kind > 6)) true) ∧ K ((vU 0))) := by kernel_rfl
theorem event_has_p2 (kind : Int) (K : AV → Prop) : oP pc sc lp cd ⟨ord78, [rV 1 [(5, vF), (8, vF)], rV 3 [(10, (vI 0))]], [], [], []⟩ 78 [(vI kind)] K
  = ((eqB (decide (kind < 1)) false) ∧ (eqB (decide (kind > 6)) false) ∧ (AV.v (.int .i64 kind) = AV.v (.int .i64 0)) ∧ K ((vU 0))) := by kernel_rfl
theorem event_has_p3 (kind : Int) (K : AV → Prop) : oP pc sc lp cd ⟨ord78, [rV 1 [(5, vF), (8, vF)], rV 3 [(10, (vI 1))]], [], [], []⟩ 78 [(vI kind)] K
  = ((eqB (decide (kind < 1)) false) ∧ (eqB (decide (kind > 6)) false) ∧ (AV.v (.int .i64 kind) = AV.v (.int .i64 1)) ∧ K ((vU 1))) := by kernel_rfl
theorem event_has_p4 (kind : Int) (K : AV → Prop) : oP pc sc lp cd ⟨ord78, [rV 1 [(5, vF), (8, vF)], rV 3 [(10, (vI 2))]], [], [], []⟩ 78 [(vI kind)] K
  = ((eqB (decide (kind < 1)) false) ∧ (eqB (decide (kind > 6)) false) ∧ (AV.v (.int .i64 kind) = AV.v (.int .i64 2)) ∧ K ((vU 2))) := by kernel_rfl
theorem event_has_p5 (kind : Int) (K : AV → Prop) : oP pc sc lp cd ⟨ord78, [rV 1 [(5, vF), (8, vF)], rV 3 [(10, (vI 3))]], [], [], []⟩ 78 [(vI kind)] K
  = ((eqB (decide (kind < 1)) false) ∧ (eqB (decide (kind > 6)) false) ∧ (AV.v (.int .i64 kind) = AV.v (.int .i64 3)) ∧ K ((vU 5))) := by kernel_rfl
theorem event_has_p6 (kind : Int) (K : AV → Prop) : oP pc sc lp cd ⟨ord78, [rV 1 [(5, vF), (8, vF)], rV 3 [(10, (vI 4))]], [], [], []⟩ 78 [(vI kind)] K
  = ((eqB (decide (kind < 1)) false) ∧ (eqB (decide (kind > 6)) false) ∧ (AV.v (.int .i64 kind) = AV.v (.int .i64 4)) ∧ K ((vU 14))) := by kernel_rfl
theorem event_has_p7 (kind : Int) (K : AV → Prop) : oP pc sc lp cd ⟨ord78, [rV 1 [(5, vF), (8, vF)], rV 3 [(10, (vI 5))]], [], [], []⟩ 78 [(vI kind)] K
  = ((eqB (decide (kind < 1)) false) ∧ (eqB (decide (kind > 6)) false) ∧ (AV.v (.int .i64 kind) = AV.v (.int .i64 5)) ∧ K ((vU 7))) := by kernel_rfl
theorem event_has_p8 (kind : Int) (K : AV → Prop) : oP pc sc lp cd ⟨ord78, [rV 1 [(5, vF), (8, vF)], rV 3 [(10, (vI 6))]], [], [], []⟩ 78 [(vI kind)] K
  = ((eqB (decide (kind < 1)) false) ∧ (eqB (decide (kind > 6)) false) ∧ (AV.v (.int .i64 kind) = AV.v (.int .i64 6)) ∧ K ((vU 16))) := by kernel_rfl
theorem event_has_sim (n : Nat) (kind : Int) (r : Int) (h : event_has n kind = some r) : PCall Try.prog 78 [(vI kind)] (eqA ((vU r))) := by
 unfold event_has at h
 rcases iteE h with ⟨h1, h⟩ | ⟨h1, h⟩
 ·
  obtain rfl := soI h
  exact okP ordB78 (Eq.mpr (event_has_p0 pP sP lP dP kind _) (⟨cB h1, LeA.refl _⟩))
 rcases iteE h with ⟨h2, h⟩ | ⟨h2, h⟩
 ·
  obtain rfl := soI h
  exact okP ordB78 (Eq.mpr (event_has_p1 pP sP lP dP kind _) (⟨cB h1, cB h2, LeA.refl _⟩))
 rcases iteE h with ⟨h3, h⟩ | ⟨h3, h⟩
 ·
  obtain rfl := soI h
  exact okP ordB78 (Eq.mpr (event_has_p2 pP sP lP dP kind _) (⟨cB h1, cB h2, eqI h3, LeA.refl _⟩))
 rcases iteE h with ⟨h3, h⟩ | ⟨h3, h⟩
 ·
  obtain rfl := soI h
  exact okP ordB78 (Eq.mpr (event_has_p3 pP sP lP dP kind _) (⟨cB h1, cB h2, eqI h3, LeA.refl _⟩))
 rcases iteE h with ⟨h3, h⟩ | ⟨h3, h⟩
 ·
  obtain rfl := soI h
  exact okP ordB78 (Eq.mpr (event_has_p4 pP sP lP dP kind _) (⟨cB h1, cB h2, eqI h3, LeA.refl _⟩))
 rcases iteE h with ⟨h3, h⟩ | ⟨h3, h⟩
 ·
  obtain rfl := soI h
  exact okP ordB78 (Eq.mpr (event_has_p5 pP sP lP dP kind _) (⟨cB h1, cB h2, eqI h3, LeA.refl _⟩))
 rcases iteE h with ⟨h3, h⟩ | ⟨h3, h⟩
 ·
  obtain rfl := soI h
  exact okP ordB78 (Eq.mpr (event_has_p6 pP sP lP dP kind _) (⟨cB h1, cB h2, eqI h3, LeA.refl _⟩))
 rcases iteE h with ⟨h3, h⟩ | ⟨h3, h⟩
 ·
  obtain rfl := soI h
  exact okP ordB78 (Eq.mpr (event_has_p7 pP sP lP dP kind _) (⟨cB h1, cB h2, eqI h3, LeA.refl _⟩))
 rcases iteE h with ⟨h3, h⟩ | ⟨h3, h⟩
 ·
  obtain rfl := soI h
  exact okP ordB78 (Eq.mpr (event_has_p8 pP sP lP dP kind _) (⟨cB h1, cB h2, eqI h3, LeA.refl _⟩))
 cases h

def ord95 : List (Nat × PT) := [(6, (ptS [0, 1, 2, 3, 4, 5, 6, 7, 8]))]
theorem ordB95 : ordB (polF 95) ord95 (bodyOf Try.prog 95) = true := by kernel_rfl
noncomputable def c_slices_Equal_int_int_L1 : Code := sub (bodyOf Try.prog 95) [1, 1, 0, 1, 0, 0]
theorem ordB_slices_Equal_int_int_L1 : ordB (polF 95) ord95 c_slices_Equal_int_int_L1 = true := by kernel_rfl
def slices_Equal_int_int_L1_S (s1_ : (List Int)) (s2_ : (List Int)) (sa : Int) : St := mkS 26 [(0, .sl (s1_.map eI)), (1, .sl (s2_.map eI)), (12, (vI (s1_.length : Int))), (13, (vI sa))] [] [] 0
def slices_Equal_int_int_L1_T0 (s1_ : (List Int)) (s2_ : (List Int)) (tt : Unit) : St := mkS 26 [] [] [] 0
def slices_Equal_int_int_L1_T1 (s1_ : (List Int)) (s2_ : (List Int)) (tt : Unit) : St := mkS 26 [(4, vF)] [] [] 0
def slices_Equal_int_int_L1_out (s1_ : (List Int)) (s2_ : (List Int)) (t0 : (Unit ⊕ Unit)) : Ex × St := match t0 with | .inl tt => (.ex 0, slices_Equal_int_int_L1_T0 s1_ s2_ tt) | .inr tt => (.ret, slices_Equal_int_int_L1_T1 s1_ s2_ tt)
theorem slices_Equal_int_int_L1_p0 (s1_ : (List Int)) (s2_ : (List Int)) (sa : Int) (xa2 : Int) (xa3 : Int) (K : Ex → St → Prop) : oR pc sc lp cd ⟨ord95, [rV 4 [(14, vT)], (6, ⟨[], [], [(18, [(vI xa2)]), (22, [(vI xa3)])], [(24, vT)], [], [], [], []⟩)], [], [], []⟩ (polF 95) [(1, ⟨[4], [], 0, [], []⟩, ⟨[], [], []⟩)] c_slices_Equal_int_int_L1 (slices_Equal_int_int_L1_S s1_ s2_ sa) K
  = ((eqB (decide (sa < (s1_.length : Int))) true) ∧ (at? (s1_.map eI) sa = some [(vI xa2)]) ∧ (at? (s2_.map eI) sa = some [(vI xa3)]) ∧ (eqB (xa2 != xa3) true) ∧ K .ret (slices_Equal_int_int_L1_T1 s1_ s2_ ())) := by kernel_rfl
theorem slices_Equal_int_int_L1_p1 (s1_ : (List Int)) (s2_ : (List Int)) (sa : Int) (xa2 : Int) (xa3 : Int) (K : Ex → St → Prop) : oR pc sc lp cd ⟨ord95, [rV 4 [(14, vT)], (6, ⟨[], [], [(18, [(vI xa2)]), (22, [(vI xa3)])], [(24, vF)], [], [], [], []⟩)], [], [], []⟩ (polF 95) [(0, ⟨[0, 1, 12, 13], [], 0, [], []⟩, ⟨[], [], []⟩)] c_slices_Equal_int_int_L1 (slices_Equal_int_int_L1_S s1_ s2_ sa) K
  = ((eqB (decide (sa < (s1_.length : Int))) true) ∧ (at? (s1_.map eI) sa = some [(vI xa2)]) ∧ (at? (s2_.map eI) sa = some [(vI xa3)]) ∧ (eqB (xa2 != xa3) false) ∧ K .nrm (slices_Equal_int_int_L1_S s1_ s2_ (addW .i64 sa 1))) := by kernel_rfl
theorem slices_Equal_int_int_L1_p2 (s1_ : (List Int)) (s2_ : (List Int)) (sa : Int) (K : Ex → St → Prop) : oR pc sc lp cd ⟨ord95, [rV 4 [(14, vF)]], [], [], []⟩ (polF 95) [(2, ⟨[], [], 0, [], []⟩, ⟨[], [], []⟩)] c_slices_Equal_int_int_L1 (slices_Equal_int_int_L1_S s1_ s2_ sa) K
  = ((eqB (decide (sa < (s1_.length : Int))) false) ∧ K (.ex 0) (slices_Equal_int_int_L1_T0 s1_ s2_ ())) := by kernel_rfl
theorem slices_Equal_int_int_L1_sim (n : Nat) (s1_ : (List Int)) (s2_ : (List Int)) : ∀ sa r, slices_Equal_int_int_L1 n s1_ s2_ sa = some r → CodeD Try.prog c_slices_Equal_int_int_L1 (slices_Equal_int_int_L1_S s1_ s2_ sa) (rk (slices_Equal_int_int_L1_S s1_ s2_) (slices_Equal_int_int_L1_out s1_ s2_) r) := by
 intro sa r h
 unfold slices_Equal_int_int_L1 at h
 rcases iteN h with ⟨ha1, h⟩ | ⟨ha1, h⟩
 ·
  obtain rfl := soI h
  exact okR ordB_slices_Equal_int_int_L1 (Eq.mpr (slices_Equal_int_int_L1_p2 pP sP lP dP s1_ s2_ sa _) ⟨cB ha1, ⟨rfl, rfl⟩⟩) (rkE rfl neE)
 obtain ⟨xa2, gxa2, h⟩ := bindE h
 obtain ⟨xa3, gxa3, h⟩ := bindE h
 rcases iteN h with ⟨ha4, h⟩ | ⟨ha4, h⟩
 ·
  obtain rfl := soI h
  exact okR ordB_slices_Equal_int_int_L1 (Eq.mpr (slices_Equal_int_int_L1_p1 pP sP lP dP s1_ s2_ sa xa2 xa3 _) ⟨cB ha1, at_map eI gxa2, at_map eI gxa3, cB ha4, ⟨rfl, rfl⟩⟩) rkN
 obtain rfl := soI h
 exact okR ordB_slices_Equal_int_int_L1 (Eq.mpr (slices_Equal_int_int_L1_p0 pP sP lP dP s1_ s2_ sa xa2 xa3 _) ⟨cB ha1, at_map eI gxa2, at_map eI gxa3, cB ha4, ⟨rfl, rfl⟩⟩) (rkE rfl neR)

theorem slices_Equal_int_int_p0 (s1_ : (List Int)) (s2_ : (List Int)) (K : AV → Prop) : oP pc sc lp cd ⟨ord95, [rV 1 [(7, (vI (s1_.length : Int))), (9, (vI (s2_.length : Int))), (10, vT)]], [], [], []⟩ 95 [.sl (s1_.map eI), .sl (s2_.map eI)] K
  = ((AV.v (.int .i64 (((s1_.map eI).length : Nat) : Int)) = AV.v (.int .i64 (s1_.length : Int))) ∧ (AV.v (.int .i64 (((s2_.map eI).length : Nat) : Int)) = AV.v (.int .i64 (s2_.length : Int))) ∧ (eqB ((s1_.length : Int) != (s2_.length : Int)) true) ∧ K (vF)) := by kernel_rfl
theorem slices_Equal_int_int_p1 (s1_ : (List Int)) (s2_ : (List Int)) (w3 : Unit) (K : AV → Prop) : oP pc sc lp cd ⟨ord95, [rV 1 [(7, (vI (s1_.length : Int))), (9, (vI (s2_.length : Int))), (10, vF)], rV 3 [(12, (vI (s1_.length : Int)))]], [], [(4, (⟨[0, 1, 12, 13], [], 0, [], []⟩, ⟨[], [], []⟩, (.ex 0), slices_Equal_int_int_L1_T0 s1_ s2_ w3))], []⟩ 95 [.sl (s1_.map eI), .sl (s2_.map eI)] K
  = ((AV.v (.int .i64 (((s1_.map eI).length : Nat) : Int)) = AV.v (.int .i64 (s1_.length : Int))) ∧ (AV.v (.int .i64 (((s2_.map eI).length : Nat) : Int)) = AV.v (.int .i64 (s2_.length : Int))) ∧ (eqB ((s1_.length : Int) != (s2_.length : Int)) false) ∧ (AV.v (.int .i64 (((s1_.map eI).length : Nat) : Int)) = AV.v (.int .i64 (s1_.length : Int))) ∧ (lp (polF 95) c_slices_Equal_int_int_L1 (slices_Equal_int_int_L1_S s1_ s2_ 0) (fun e' S' => e' = (.ex 0) ∧ S' = slices_Equal_int_int_L1_T0 s1_ s2_ w3)) ∧ K (vT)) := by kernel_rfl
theorem slices_Equal_int_int_p2 (s1_ : (List Int)) (s2_ : (List Int)) (w3 : Unit) (K : AV → Prop) : oP pc sc lp cd ⟨ord95, [rV 1 [(7, (vI (s1_.length : Int))), (9, (vI (s2_.length : Int))), (10, vF)], rV 3 [(12, (vI (s1_.length : Int)))]], [], [(4, (⟨[0, 1, 12, 13], [], 0, [], []⟩, ⟨[], [], []⟩, .ret, slices_Equal_int_int_L1_T1 s1_ s2_ w3))], []⟩ 95 [.sl (s1_.map eI), .sl (s2_.map eI)] K
  = ((AV.v (.int .i64 (((s1_.map eI).length : Nat) : Int)) = AV.v (.int .i64 (s1_.length : Int))) ∧ (AV.v (.int .i64 (((s2_.map eI).length : Nat) : Int)) = AV.v (.int .i64 (s2_.length : Int))) ∧ (eqB ((s1_.length : Int) != (s2_.length : Int)) false) ∧ (AV.v (.int .i64 (((s1_.map eI).length : Nat) : Int)) = AV.v (.int .i64 (s1_.length : Int))) ∧ (lp (polF 95) c_slices_Equal_int_int_L1 (slices_Equal_int_int_L1_S s1_ s2_ 0) (fun e' S' => e' = .ret ∧ S' = slices_Equal_int_int_L1_T1 s1_ s2_ w3)) ∧ K (vF)) := by kernel_rfl
theorem slices_Equal_int_int_sim (n : Nat) (s1_ : (List Int)) (s2_ : (List Int)) (r : Bool) (h : slices_Equal_int_int n s1_ s2_ = some r) : PCall Try.prog 95 [.sl (s1_.map eI), .sl (s2_.map eI)] (eqA (.v (.bool r))) := by
 unfold slices_Equal_int_int at h
 rcases iteE h with ⟨h1, h⟩ | ⟨h1, h⟩
 ·
  obtain rfl := soI h
  exact okP ordB95 (Eq.mpr (slices_Equal_int_int_p0 pP sP lP dP s1_ s2_ _) (⟨len_map _ _, len_map _ _, cB h1, LeA.refl _⟩))
 obtain ⟨t2, gt2, h⟩ := bindE h
 rcases t2 with w3 | w3
 ·
  obtain rfl := soI h
  exact okP ordB95 (Eq.mpr (slices_Equal_int_int_p1 pP sP lP dP s1_ s2_ w3 _) (⟨len_map _ _, len_map _ _, cB h1, len_map _ _, okL (slices_Equal_int_int_L1_S s1_ s2_) (slices_Equal_int_int_L1_out s1_ s2_) (slices_Equal_int_int_L1_sim n s1_ s2_) n _ (.inl w3) gt2, LeA.refl _⟩))
 ·
  obtain rfl := soI h
  exact okP ordB95 (Eq.mpr (slices_Equal_int_int_p2 pP sP lP dP s1_ s2_ w3 _) (⟨len_map _ _, len_map _ _, cB h1, len_map _ _, okL (slices_Equal_int_int_L1_S s1_ s2_) (slices_Equal_int_int_L1_out s1_ s2_) (slices_Equal_int_int_L1_sim n s1_ s2_) n _ (.inr w3) gt2, LeA.refl _⟩))

def ord96 : List (Nat × PT) := []
theorem ordB96 : ordB (polF 96) ord96 (bodyOf Try.prog 96) = true := by kernel_rfl
theorem event_Same_1_p0 (e : Event) (K : AV → Prop) : oP pc sc lp cd ⟨ord96, [], [], [], []⟩ 96 [(aAgg Event.enc e)] K
  = (K (.agg [(vI e.Hart), (vI e.At), (vI e.Kind), (vI e.Pred), (vI e.Succ), (vI e.Pair), (vU e.Addr), (vU e.Load), (vU e.Store), .v (.bool e.Aq), .v (.bool e.Rl)])) := by kernel_rfl
theorem event_Same_1_sim (n : Nat) (e : Event) (r : event_rest) (h : event_Same_1 n e = some r) : PCall Try.prog 96 [(aAgg Event.enc e)] (eqA ((aAgg event_rest.enc r))) := by
 unfold event_Same_1 at h
 obtain rfl := soI h
 exact okP ordB96 (Eq.mpr (event_Same_1_p0 pP sP lP dP e _) (LeA.refl _))

def ord89 : List (Nat × PT) := [(1, (ptS [0, 1, 2, 3, 4, 5, 6, 7])), (5, (ptS [0, 1, 2, 3, 4, 5, 6, 7]))]
theorem ordB89 : ordB (polF 89) ord89 (bodyOf Try.prog 89) = true := by kernel_rfl
theorem event_Same_p0 (a : Event) (b : Event) (y1 : Bool) (K : AV → Prop) : oP pc sc lp cd ⟨ord89, [rVC 2 [(18, vT)] [(16, .v (.bool y1))]], [], [], []⟩ 89 [(aAgg Event.enc a), (aAgg Event.enc b)] K
  = ((pc 95 [.sl (a.Deps.Addr.map eI), .sl (b.Deps.Addr.map eI)] (eqA (.v (.bool y1)))) ∧ (eqB (!y1) true) ∧ K (vF)) := by kernel_rfl
theorem event_Same_p1 (a : Event) (b : Event) (y1 : Bool) (y3 : Bool) (K : AV → Prop) : oP pc sc lp cd ⟨ord89, [rVC 2 [(18, vF), (26, vT)] [(16, .v (.bool y1)), (23, .v (.bool y3))]], [], [], []⟩ 89 [(aAgg Event.enc a), (aAgg Event.enc b)] K
  = ((pc 95 [.sl (a.Deps.Addr.map eI), .sl (b.Deps.Addr.map eI)] (eqA (.v (.bool y1)))) ∧ (eqB (!y1) false) ∧ (pc 95 [.sl (a.Deps.Data.map eI), .sl (b.Deps.Data.map eI)] (eqA (.v (.bool y3)))) ∧ (eqB (!y3) true) ∧ K (vF)) := by kernel_rfl
theorem event_Same_p2 (a : Event) (b : Event) (y1 : Bool) (y3 : Bool) (y5 : Bool) (K : AV → Prop) : oP pc sc lp cd ⟨ord89, [rVC 2 [(18, vF), (26, vF), (33, vT)] [(16, .v (.bool y1)), (23, .v (.bool y3)), (31, .v (.bool y5))]], [], [], []⟩ 89 [(aAgg Event.enc a), (aAgg Event.enc b)] K
  = ((pc 95 [.sl (a.Deps.Addr.map eI), .sl (b.Deps.Addr.map eI)] (eqA (.v (.bool y1)))) ∧ (eqB (!y1) false) ∧ (pc 95 [.sl (a.Deps.Data.map eI), .sl (b.Deps.Data.map eI)] (eqA (.v (.bool y3)))) ∧ (eqB (!y3) false) ∧ (pc 95 [.sl (a.Deps.Way.map eI), .sl (b.Deps.Way.map eI)] (eqA (.v (.bool y5)))) ∧ (eqB (!y5) true) ∧ K (vF)) := by kernel_rfl
theorem event_Same_p3 (a : Event) (b : Event) (y1 : Bool) (y3 : Bool) (y5 : Bool) (y7 : event_rest) (y8 : event_rest) (K : AV → Prop) : oP pc sc lp cd ⟨ord89, [rVC 2 [(18, vF), (26, vF), (33, vF)] [(16, .v (.bool y1)), (23, .v (.bool y3)), (31, .v (.bool y5))], (5, ⟨[], [40], [], [(40, vT)], [(36, (aAgg event_rest.enc y7)), (39, (aAgg event_rest.enc y8))], [], [], []⟩)], [], [], []⟩ 89 [(aAgg Event.enc a), (aAgg Event.enc b)] K
  = ((pc 95 [.sl (a.Deps.Addr.map eI), .sl (b.Deps.Addr.map eI)] (eqA (.v (.bool y1)))) ∧ (eqB (!y1) false) ∧ (pc 95 [.sl (a.Deps.Data.map eI), .sl (b.Deps.Data.map eI)] (eqA (.v (.bool y3)))) ∧ (eqB (!y3) false) ∧ (pc 95 [.sl (a.Deps.Way.map eI), .sl (b.Deps.Way.map eI)] (eqA (.v (.bool y5)))) ∧ (eqB (!y5) false) ∧ (pc 96 [(aAgg Event.enc a)] (eqA ((aAgg event_rest.enc y7)))) ∧ (pc 96 [(aAgg Event.enc b)] (eqA ((aAgg event_rest.enc y8)))) ∧ (aggEq Try.prog .eql 113 [(.int .i64 y7.hart), (.int .i64 y7.at_), (.int .i64 y7.kind), (.int .i64 y7.pred), (.int .i64 y7.succ), (.int .i64 y7.pair), (.int .u64 y7.addr), (.int .u64 y7.load), (.int .u64 y7.store), (.bool y7.aq), (.bool y7.rl)] [(.int .i64 y8.hart), (.int .i64 y8.at_), (.int .i64 y8.kind), (.int .i64 y8.pred), (.int .i64 y8.succ), (.int .i64 y8.pair), (.int .u64 y8.addr), (.int .u64 y8.load), (.int .u64 y8.store), (.bool y8.aq), (.bool y8.rl)] = some (.bool true)) ∧ (eqB true true) ∧ K (vT)) := by kernel_rfl
theorem event_Same_p4 (a : Event) (b : Event) (y1 : Bool) (y3 : Bool) (y5 : Bool) (y7 : event_rest) (y8 : event_rest) (K : AV → Prop) : oP pc sc lp cd ⟨ord89, [rVC 2 [(18, vF), (26, vF), (33, vF)] [(16, .v (.bool y1)), (23, .v (.bool y3)), (31, .v (.bool y5))], (5, ⟨[], [40], [], [(40, vF)], [(36, (aAgg event_rest.enc y7)), (39, (aAgg event_rest.enc y8))], [], [], []⟩)], [], [], []⟩ 89 [(aAgg Event.enc a), (aAgg Event.enc b)] K
  = ((pc 95 [.sl (a.Deps.Addr.map eI), .sl (b.Deps.Addr.map eI)] (eqA (.v (.bool y1)))) ∧ (eqB (!y1) false) ∧ (pc 95 [.sl (a.Deps.Data.map eI), .sl (b.Deps.Data.map eI)] (eqA (.v (.bool y3)))) ∧ (eqB (!y3) false) ∧ (pc 95 [.sl (a.Deps.Way.map eI), .sl (b.Deps.Way.map eI)] (eqA (.v (.bool y5)))) ∧ (eqB (!y5) false) ∧ (pc 96 [(aAgg Event.enc a)] (eqA ((aAgg event_rest.enc y7)))) ∧ (pc 96 [(aAgg Event.enc b)] (eqA ((aAgg event_rest.enc y8)))) ∧ (aggEq Try.prog .eql 113 [(.int .i64 y7.hart), (.int .i64 y7.at_), (.int .i64 y7.kind), (.int .i64 y7.pred), (.int .i64 y7.succ), (.int .i64 y7.pair), (.int .u64 y7.addr), (.int .u64 y7.load), (.int .u64 y7.store), (.bool y7.aq), (.bool y7.rl)] [(.int .i64 y8.hart), (.int .i64 y8.at_), (.int .i64 y8.kind), (.int .i64 y8.pred), (.int .i64 y8.succ), (.int .i64 y8.pair), (.int .u64 y8.addr), (.int .u64 y8.load), (.int .u64 y8.store), (.bool y8.aq), (.bool y8.rl)] = some (.bool false)) ∧ (eqB false false) ∧ K (vF)) := by kernel_rfl
theorem event_Same_sim (n : Nat) (a : Event) (b : Event) (r : Bool) (h : event_Same n a b = some r) : PCall Try.prog 89 [(aAgg Event.enc a), (aAgg Event.enc b)] (eqA (.v (.bool r))) := by
 unfold event_Same at h
 obtain ⟨y1, gy1, h⟩ := bindE h
 rcases iteE h with ⟨h2, h⟩ | ⟨h2, h⟩
 ·
  obtain rfl := soI h
  exact okP ordB89 (Eq.mpr (event_Same_p0 pP sP lP dP a b y1 _) (⟨(slices_Equal_int_int_sim n a.Deps.Addr b.Deps.Addr y1 gy1), cB h2, LeA.refl _⟩))
 obtain ⟨y3, gy3, h⟩ := bindE h
 rcases iteE h with ⟨h4, h⟩ | ⟨h4, h⟩
 ·
  obtain rfl := soI h
  exact okP ordB89 (Eq.mpr (event_Same_p1 pP sP lP dP a b y1 y3 _) (⟨(slices_Equal_int_int_sim n a.Deps.Addr b.Deps.Addr y1 gy1), cB h2, (slices_Equal_int_int_sim n a.Deps.Data b.Deps.Data y3 gy3), cB h4, LeA.refl _⟩))
 obtain ⟨y5, gy5, h⟩ := bindE h
 rcases iteE h with ⟨h6, h⟩ | ⟨h6, h⟩
 ·
  obtain rfl := soI h
  exact okP ordB89 (Eq.mpr (event_Same_p2 pP sP lP dP a b y1 y3 y5 _) (⟨(slices_Equal_int_int_sim n a.Deps.Addr b.Deps.Addr y1 gy1), cB h2, (slices_Equal_int_int_sim n a.Deps.Data b.Deps.Data y3 gy3), cB h4, (slices_Equal_int_int_sim n a.Deps.Way b.Deps.Way y5 gy5), cB h6, LeA.refl _⟩))
 obtain ⟨y7, gy7, h⟩ := bindE h
 obtain ⟨y8, gy8, h⟩ := bindE h
 rcases iteE h with ⟨h9, h⟩ | ⟨h9, h⟩
 ·
  obtain rfl := soI h
  exact okP ordB89 (Eq.mpr (event_Same_p3 pP sP lP dP a b y1 y3 y5 y7 y8 _) (⟨(slices_Equal_int_int_sim n a.Deps.Addr b.Deps.Addr y1 gy1), cB h2, (slices_Equal_int_int_sim n a.Deps.Data b.Deps.Data y3 gy3), cB h4, (slices_Equal_int_int_sim n a.Deps.Way b.Deps.Way y5 gy5), cB h6, (event_Same_1_sim n a y7 gy7), (event_Same_1_sim n b y8 gy8), (aggEq_event_rest_eql y7 y8).trans (congrArg (fun b => some (Value.bool b)) h9), rfl, LeA.refl _⟩))
 obtain rfl := soI h
 exact okP ordB89 (Eq.mpr (event_Same_p4 pP sP lP dP a b y1 y3 y5 y7 y8 _) (⟨(slices_Equal_int_int_sim n a.Deps.Addr b.Deps.Addr y1 gy1), cB h2, (slices_Equal_int_int_sim n a.Deps.Data b.Deps.Data y3 gy3), cB h4, (slices_Equal_int_int_sim n a.Deps.Way b.Deps.Way y5 gy5), cB h6, (event_Same_1_sim n a y7 gy7), (event_Same_1_sim n b y8 gy8), (aggEq_event_rest_eql y7 y8).trans (congrArg (fun b => some (Value.bool b)) h9), rfl, LeA.refl _⟩))

def ord97 : List (Nat × PT) := []
theorem ordB97 : ordB (polF 97) ord97 (bodyOf Try.prog 97) = true := by kernel_rfl
noncomputable def c_taint_Rising_L1 : Code := sub (bodyOf Try.prog 97) [1, 1, 0, 1, 0, 0]
theorem ordB_taint_Rising_L1 : ordB (polF 97) ord97 c_taint_Rising_L1 = true := by kernel_rfl
def taint_Rising_L1_S (l : (List Int)) (sa : Int × Int) : St := mkS 17 [(3, (vI sa.1)), (6, .sl (l.map eI)), (7, (vI (l.length : Int))), (8, (vI sa.2))] [] [] 0
def taint_Rising_L1_T0 (l : (List Int)) (tt : Unit) : St := mkS 17 [] [] [] 0
def taint_Rising_L1_T1 (l : (List Int)) (tt : Unit) : St := mkS 17 [(2, vF)] [] [] 0
def taint_Rising_L1_out (l : (List Int)) (t0 : (Unit ⊕ Unit)) : Ex × St := match t0 with | .inl tt => (.ex 0, taint_Rising_L1_T0 l tt) | .inr tt => (.ret, taint_Rising_L1_T1 l tt)
theorem taint_Rising_L1_p0 (l : (List Int)) (sa : Int × Int) (xa2 : Int) (K : Ex → St → Prop) : oR pc sc lp cd ⟨ord97, [rV 3 [(9, vT)], (4, ⟨[], [], [(10, [(vI xa2)])], [], [], [], [], []⟩), rV 5 [(14, vT)]], [], [], []⟩ (polF 97) [(1, ⟨[2], [], 0, [], []⟩, ⟨[], [], []⟩)] c_taint_Rising_L1 (taint_Rising_L1_S l sa) K
  = ((eqB (decide (sa.2 < (l.length : Int))) true) ∧ (at? (l.map eI) sa.2 = some [(vI xa2)]) ∧ (eqB (decide (xa2 ≤ sa.1)) true) ∧ K .ret (taint_Rising_L1_T1 l ())) := by kernel_rfl
theorem taint_Rising_L1_p1 (l : (List Int)) (sa : Int × Int) (xa2 : Int) (K : Ex → St → Prop) : oR pc sc lp cd ⟨ord97, [rV 3 [(9, vT)], (4, ⟨[], [], [(10, [(vI xa2)])], [], [], [], [], []⟩), rV 5 [(14, vF)]], [], [], []⟩ (polF 97) [(0, ⟨[3, 6, 7, 8], [], 0, [], []⟩, ⟨[], [], []⟩)] c_taint_Rising_L1 (taint_Rising_L1_S l sa) K
  = ((eqB (decide (sa.2 < (l.length : Int))) true) ∧ (at? (l.map eI) sa.2 = some [(vI xa2)]) ∧ (eqB (decide (xa2 ≤ sa.1)) false) ∧ K .nrm (taint_Rising_L1_S l (xa2, (addW .i64 sa.2 1)))) := by kernel_rfl
theorem taint_Rising_L1_p2 (l : (List Int)) (sa : Int × Int) (K : Ex → St → Prop) : oR pc sc lp cd ⟨ord97, [rV 3 [(9, vF)]], [], [], []⟩ (polF 97) [(2, ⟨[], [], 0, [], []⟩, ⟨[], [], []⟩)] c_taint_Rising_L1 (taint_Rising_L1_S l sa) K
  = ((eqB (decide (sa.2 < (l.length : Int))) false) ∧ K (.ex 0) (taint_Rising_L1_T0 l ())) := by kernel_rfl
theorem taint_Rising_L1_sim (n : Nat) (l : (List Int)) : ∀ sa r, taint_Rising_L1 n l sa = some r → CodeD Try.prog c_taint_Rising_L1 (taint_Rising_L1_S l sa) (rk (taint_Rising_L1_S l) (taint_Rising_L1_out l) r) := by
 intro sa r h
 unfold taint_Rising_L1 at h
 rcases iteN h with ⟨ha1, h⟩ | ⟨ha1, h⟩
 ·
  obtain rfl := soI h
  exact okR ordB_taint_Rising_L1 (Eq.mpr (taint_Rising_L1_p2 pP sP lP dP l sa _) ⟨cB ha1, ⟨rfl, rfl⟩⟩) (rkE rfl neE)
 obtain ⟨xa2, gxa2, h⟩ := bindE h
 rcases iteN h with ⟨ha3, h⟩ | ⟨ha3, h⟩
 ·
  obtain rfl := soI h
  exact okR ordB_taint_Rising_L1 (Eq.mpr (taint_Rising_L1_p1 pP sP lP dP l sa xa2 _) ⟨cB ha1, at_map eI gxa2, cB ha3, ⟨rfl, rfl⟩⟩) rkN
 obtain rfl := soI h
 exact okR ordB_taint_Rising_L1 (Eq.mpr (taint_Rising_L1_p0 pP sP lP dP l sa xa2 _) ⟨cB ha1, at_map eI gxa2, cB ha3, ⟨rfl, rfl⟩⟩) (rkE rfl neR)

theorem taint_Rising_p0 (l : (List Int)) (w2 : Unit) (K : AV → Prop) : oP pc sc lp cd ⟨ord97, [rV 2 [(7, (vI (l.length : Int)))]], [], [(3, (⟨[3, 6, 7, 8], [], 0, [], []⟩, ⟨[], [], []⟩, (.ex 0), taint_Rising_L1_T0 l w2))], []⟩ 97 [.sl (l.map eI)] K
  = ((AV.v (.int .i64 (((l.map eI).length : Nat) : Int)) = AV.v (.int .i64 (l.length : Int))) ∧ (lp (polF 97) c_taint_Rising_L1 (taint_Rising_L1_S l ((-1), 0)) (fun e' S' => e' = (.ex 0) ∧ S' = taint_Rising_L1_T0 l w2)) ∧ K (vT)) := by kernel_rfl
theorem taint_Rising_p1 (l : (List Int)) (w2 : Unit) (K : AV → Prop) : oP pc sc lp cd ⟨ord97, [rV 2 [(7, (vI (l.length : Int)))]], [], [(3, (⟨[3, 6, 7, 8], [], 0, [], []⟩, ⟨[], [], []⟩, .ret, taint_Rising_L1_T1 l w2))], []⟩ 97 [.sl (l.map eI)] K
  = ((AV.v (.int .i64 (((l.map eI).length : Nat) : Int)) = AV.v (.int .i64 (l.length : Int))) ∧ (lp (polF 97) c_taint_Rising_L1 (taint_Rising_L1_S l ((-1), 0)) (fun e' S' => e' = .ret ∧ S' = taint_Rising_L1_T1 l w2)) ∧ K (vF)) := by kernel_rfl
theorem taint_Rising_sim (n : Nat) (l : (List Int)) (r : Bool) (h : taint_Rising n l = some r) : PCall Try.prog 97 [.sl (l.map eI)] (eqA (.v (.bool r))) := by
 unfold taint_Rising at h
 obtain ⟨t1, gt1, h⟩ := bindE h
 rcases t1 with w2 | w2
 ·
  obtain rfl := soI h
  exact okP ordB97 (Eq.mpr (taint_Rising_p0 pP sP lP dP l w2 _) (⟨len_map _ _, okL (taint_Rising_L1_S l) (taint_Rising_L1_out l) (taint_Rising_L1_sim n l) n _ (.inl w2) gt1, LeA.refl _⟩))
 ·
  obtain rfl := soI h
  exact okP ordB97 (Eq.mpr (taint_Rising_p1 pP sP lP dP l w2 _) (⟨len_map _ _, okL (taint_Rising_L1_S l) (taint_Rising_L1_out l) (taint_Rising_L1_sim n l) n _ (.inr w2) gt1, LeA.refl _⟩))

def ord90 : List (Nat × PT) := []
theorem ordB90 : ordB (polF 90) ord90 (bodyOf Try.prog 90) = true := by kernel_rfl
theorem event_below_p0 (l : (List Int)) (at_ : Int) (y1 : Bool) (K : AV → Prop) : oP pc sc lp cd ⟨ord90, [rVC 1 [(7, vT), (9, (vI (l.length : Int))), (11, vT)] [(6, .v (.bool y1))]], [], [], []⟩ 90 [.sl (l.map eI), (vI at_)] K
  = ((pc 97 [.sl (l.map eI)] (eqA (.v (.bool y1)))) ∧ (eqB y1 true) ∧ (AV.v (.int .i64 (((l.map eI).length : Nat) : Int)) = AV.v (.int .i64 (l.length : Int))) ∧ (eqB ((l.length : Int) == 0) true) ∧ K (vT)) := by kernel_rfl
theorem event_below_p1 (l : (List Int)) (at_ : Int) (y1 : Bool) (x4 : Int) (K : AV → Prop) : oP pc sc lp cd ⟨ord90, [(1, ⟨[], [], [(16, [(vI x4)])], [(7, vT), (9, (vI (l.length : Int))), (11, vF), (14, (vI (l.length : Int)))], [(6, .v (.bool y1))], [], [], []⟩)], [], [], []⟩ 90 [.sl (l.map eI), (vI at_)] K
  = ((pc 97 [.sl (l.map eI)] (eqA (.v (.bool y1)))) ∧ (eqB y1 true) ∧ (AV.v (.int .i64 (((l.map eI).length : Nat) : Int)) = AV.v (.int .i64 (l.length : Int))) ∧ (eqB ((l.length : Int) == 0) false) ∧ (AV.v (.int .i64 (((l.map eI).length : Nat) : Int)) = AV.v (.int .i64 (l.length : Int))) ∧ (at? (l.map eI) (subW .i64 (l.length : Int) 1) = some [(vI x4)]) ∧ K (.v (.bool (decide (x4 < at_))))) := by kernel_rfl
theorem event_below_p2 (l : (List Int)) (at_ : Int) (y1 : Bool) (K : AV → Prop) : oP pc sc lp cd ⟨ord90, [rVC 1 [(7, vF)] [(6, .v (.bool y1))]], [], [], []⟩ 90 [.sl (l.map eI), (vI at_)] K
  = ((pc 97 [.sl (l.map eI)] (eqA (.v (.bool y1)))) ∧ (eqB y1 false) ∧ K (vF)) := by kernel_rfl
theorem event_below_sim (n : Nat) (l : (List Int)) (at_ : Int) (r : Bool) (h : event_below n l at_ = some r) : PCall Try.prog 90 [.sl (l.map eI), (vI at_)] (eqA (.v (.bool r))) := by
 unfold event_below at h
 obtain ⟨y1, gy1, h⟩ := bindE h
 rcases iteN h with ⟨h2, h⟩ | ⟨h2, h⟩
 ·
  obtain rfl := soI h
  exact okP ordB90 (Eq.mpr (event_below_p2 pP sP lP dP l at_ y1 _) (⟨(taint_Rising_sim n l y1 gy1), cB h2, LeA.refl _⟩))
 rcases iteE h with ⟨h3, h⟩ | ⟨h3, h⟩
 ·
  obtain rfl := soI h
  exact okP ordB90 (Eq.mpr (event_below_p0 pP sP lP dP l at_ y1 _) (⟨(taint_Rising_sim n l y1 gy1), cB h2, len_map _ _, cB h3, LeA.refl _⟩))
 obtain ⟨x4, gx4, h⟩ := bindE h
 obtain rfl := soI h
 exact okP ordB90 (Eq.mpr (event_below_p1 pP sP lP dP l at_ y1 x4 _) (⟨(taint_Rising_sim n l y1 gy1), cB h2, len_map _ _, cB h3, len_map _ _, at_map eI gx4, LeA.refl _⟩))

def ord83 : List (Nat × PT) := [(5, (ptS [0, 1, 2, 3, 4, 5, 6, 7])), (6, (ptS [0, 1, 2, 3, 4, 5, 6, 7, 8, 9, 10])), (10, (ptS [0, 1, 2, 3, 4, 5, 6, 7, 8])), (12, (ptS [0, 1, 2, 3, 4, 5, 6, 7]))]
theorem ordB83 : ordB (polF 83) ord83 (bodyOf Try.prog 83) = true := by kernel_rfl
noncomputable def c_event_Check_C1 : Code := sub (bodyOf Try.prog 83) [1, 1, 1, 1, 1]
noncomputable def c_event_Check_C2 : Code := sub c_event_Check_C1 [1]
noncomputable def c_event_Check_C3 : Code := sub c_event_Check_C2 [1]
noncomputable def c_event_Check_C4 : Code := sub c_event_Check_C3 [1]
noncomputable def c_event_Check_C5 : Code := sub c_event_Check_C4 [1]
theorem ordB_event_Check_C5 : ordB (polF 83) ord83 c_event_Check_C5 = true := by kernel_rfl
def event_Check_C5_S (e : Event) (y1 : Int) (sf : Int × (List Int) × (List Int) × (List Int) × Int × Int × Int × Bool × Bool × Int × Int) : St := mkS 134 [(1, .ptr (.L 1) 0 0), (3, (vU y1)), (4, .ptr (.L 4) 0 0), (5, .ptr (.L 5) 0 0)] [(5, [(vI e.Hart), (vI e.At), (vI e.Kind), (vU sf.2.2.2.2.1), (vU sf.2.2.2.2.2.1), (vU sf.2.2.2.2.2.2.1), .v (.bool sf.2.2.2.2.2.2.2.1), .v (.bool sf.2.2.2.2.2.2.2.2.1), (vI sf.2.2.2.2.2.2.2.2.2.1), (vI sf.2.2.2.2.2.2.2.2.2.2), (vI sf.1), .sl (sf.2.1.map eI), .sl (sf.2.2.1.map eI), .sl (sf.2.2.2.1.map eI)]), (4, (Deps.enc e.Deps)), (1, (Event.enc e))] [] 0
def event_Check_C5_T0 (e : Event) (y1 : Int) (tt : Int) : St := mkS 134 [(2, (vI tt))] [] [] 0
def event_Check_C5_out (e : Event) (y1 : Int) (tt : Int) : Ex × St := (.ret, event_Check_C5_T0 e y1 tt)
theorem event_Check_C5_p0 (e : Event) (y1 : Int) (sf : Int × (List Int) × (List Int) × (List Int) × Int × Int × Int × Bool × Bool × Int × Int) (K : Ex → St → Prop) : oR pc sc lp cd ⟨ord83, [rV 15 [(67, vT)]], [], [], []⟩ (polF 83) [(1, ⟨[2], [5, 4, 1], 0, [], []⟩, ⟨[], [], []⟩)] c_event_Check_C5 (event_Check_C5_S e y1 sf) K
  = ((eqB (y1 == 0) true) ∧ K .ret (event_Check_C5_T0 e y1 2)) := by kernel_rfl
theorem event_Check_C5_p1 (e : Event) (y1 : Int) (sf : Int × (List Int) × (List Int) × (List Int) × Int × Int × Int × Bool × Bool × Int × Int) (K : Ex → St → Prop) : oR pc sc lp cd ⟨ord83, [rV 15 [(67, vF)], rV 16 [(67, vT)]], [], [], []⟩ (polF 83) [(1, ⟨[2], [5, 4, 1], 0, [], []⟩, ⟨[], [], []⟩)] c_event_Check_C5 (event_Check_C5_S e y1 sf) K
  = ((eqB (y1 == 0) false) ∧ (eqB (decide (e.Hart < 0)) true) ∧ K .ret (event_Check_C5_T0 e y1 2)) := by kernel_rfl
theorem event_Check_C5_p2 (e : Event) (y1 : Int) (sf : Int × (List Int) × (List Int) × (List Int) × Int × Int × Int × Bool × Bool × Int × Int) (K : Ex → St → Prop) : oR pc sc lp cd ⟨ord83, [rV 15 [(67, vF)], rV 16 [(67, vF)], rV 17 [(67, vT)]], [], [], []⟩ (polF 83) [(1, ⟨[2], [5, 4, 1], 0, [], []⟩, ⟨[], [], []⟩)] c_event_Check_C5 (event_Check_C5_S e y1 sf) K
  = ((eqB (y1 == 0) false) ∧ (eqB (decide (e.Hart < 0)) false) ∧ (eqB (decide (e.Hart ≥ 8)) true) ∧ K .ret (event_Check_C5_T0 e y1 2)) := by kernel_rfl
theorem event_Check_C5_p3 (e : Event) (y1 : Int) (sf : Int × (List Int) × (List Int) × (List Int) × Int × Int × Int × Bool × Bool × Int × Int) (K : Ex → St → Prop) : oR pc sc lp cd ⟨ord83, [rV 15 [(67, vF)], rV 16 [(67, vF)], rV 17 [(67, vF)], rV 18 [(67, vT)]], [], [], []⟩ (polF 83) [(1, ⟨[2], [5, 4, 1], 0, [], []⟩, ⟨[], [], []⟩)] c_event_Check_C5 (event_Check_C5_S e y1 sf) K
  = ((eqB (y1 == 0) false) ∧ (eqB (decide (e.Hart < 0)) false) ∧ (eqB (decide (e.Hart ≥ 8)) false) ∧ (eqB (decide (e.At < 0)) true) ∧ K .ret (event_Check_C5_T0 e y1 2)) := by kernel_rfl
theorem event_Check_C5_p4 (e : Event) (y1 : Int) (sf : Int × (List Int) × (List Int) × (List Int) × Int × Int × Int × Bool × Bool × Int × Int) (yf5 : Bool) (K : Ex → St → Prop) : oR pc sc lp cd ⟨ord83, [rV 15 [(67, vF)], rV 16 [(67, vF)], rV 17 [(67, vF)], rV 18 [(67, vF)], rVC 19 [(67, vT)] [(81, .v (.bool yf5))]], [], [], []⟩ (polF 83) [(1, ⟨[2], [5, 4, 1], 0, [], []⟩, ⟨[], [], []⟩)] c_event_Check_C5 (event_Check_C5_S e y1 sf) K
  = ((eqB (y1 == 0) false) ∧ (eqB (decide (e.Hart < 0)) false) ∧ (eqB (decide (e.Hart ≥ 8)) false) ∧ (eqB (decide (e.At < 0)) false) ∧ (pc 89 [.agg [(vI e.Hart), (vI e.At), (vI e.Kind), (vU sf.2.2.2.2.1), (vU sf.2.2.2.2.2.1), (vU sf.2.2.2.2.2.2.1), .v (.bool sf.2.2.2.2.2.2.2.1), .v (.bool sf.2.2.2.2.2.2.2.2.1), (vI sf.2.2.2.2.2.2.2.2.2.1), (vI sf.2.2.2.2.2.2.2.2.2.2), (vI sf.1), .sl (sf.2.1.map eI), .sl (sf.2.2.1.map eI), .sl (sf.2.2.2.1.map eI)], (aAgg Event.enc e)] (eqA (.v (.bool yf5)))) ∧ (eqB (!yf5) true) ∧ K .ret (event_Check_C5_T0 e y1 2)) := by kernel_rfl
theorem event_Check_C5_p5 (e : Event) (y1 : Int) (sf : Int × (List Int) × (List Int) × (List Int) × Int × Int × Int × Bool × Bool × Int × Int) (yf5 : Bool) (K : Ex → St → Prop) : oR pc sc lp cd ⟨ord83, [rV 15 [(67, vF)], rV 16 [(67, vF)], rV 17 [(67, vF)], rV 18 [(67, vF)], rVC 19 [(67, vF)] [(81, .v (.bool yf5))], rV 21 [(83, vT)]], [], [], []⟩ (polF 83) [(1, ⟨[2], [5, 4, 1], 0, [], []⟩, ⟨[], [], []⟩)] c_event_Check_C5 (event_Check_C5_S e y1 sf) K
  = ((eqB (y1 == 0) false) ∧ (eqB (decide (e.Hart < 0)) false) ∧ (eqB (decide (e.Hart ≥ 8)) false) ∧ (eqB (decide (e.At < 0)) false) ∧ (pc 89 [.agg [(vI e.Hart), (vI e.At), (vI e.Kind), (vU sf.2.2.2.2.1), (vU sf.2.2.2.2.2.1), (vU sf.2.2.2.2.2.2.1), .v (.bool sf.2.2.2.2.2.2.2.1), .v (.bool sf.2.2.2.2.2.2.2.2.1), (vI sf.2.2.2.2.2.2.2.2.2.1), (vI sf.2.2.2.2.2.2.2.2.2.2), (vI sf.1), .sl (sf.2.1.map eI), .sl (sf.2.2.1.map eI), .sl (sf.2.2.2.1.map eI)], (aAgg Event.enc e)] (eqA (.v (.bool yf5)))) ∧ (eqB (!yf5) false) ∧ (eqB ((remW .u64 e.Addr 8) != 0) true) ∧ K .ret (event_Check_C5_T0 e y1 2)) := by kernel_rfl
theorem event_Check_C5_p6 (e : Event) (y1 : Int) (sf : Int × (List Int) × (List Int) × (List Int) × Int × Int × Int × Bool × Bool × Int × Int) (yf5 : Bool) (K : Ex → St → Prop) : oR pc sc lp cd ⟨ord83, [rV 15 [(67, vF)], rV 16 [(67, vF)], rV 17 [(67, vF)], rV 18 [(67, vF)], rVC 19 [(67, vF)] [(81, .v (.bool yf5))], rV 21 [(83, vF)], rV 22 [(83, vT)]], [], [], []⟩ (polF 83) [(1, ⟨[2], [5, 4, 1], 0, [], []⟩, ⟨[], [], []⟩)] c_event_Check_C5 (event_Check_C5_S e y1 sf) K
  = ((eqB (y1 == 0) false) ∧ (eqB (decide (e.Hart < 0)) false) ∧ (eqB (decide (e.Hart ≥ 8)) false) ∧ (eqB (decide (e.At < 0)) false) ∧ (pc 89 [.agg [(vI e.Hart), (vI e.At), (vI e.Kind), (vU sf.2.2.2.2.1), (vU sf.2.2.2.2.2.1), (vU sf.2.2.2.2.2.2.1), .v (.bool sf.2.2.2.2.2.2.2.1), .v (.bool sf.2.2.2.2.2.2.2.2.1), (vI sf.2.2.2.2.2.2.2.2.2.1), (vI sf.2.2.2.2.2.2.2.2.2.2), (vI sf.1), .sl (sf.2.1.map eI), .sl (sf.2.2.1.map eI), .sl (sf.2.2.2.1.map eI)], (aAgg Event.enc e)] (eqA (.v (.bool yf5)))) ∧ (eqB (!yf5) false) ∧ (eqB ((remW .u64 e.Addr 8) != 0) false) ∧ (eqB (decide (e.Pred < 0)) true) ∧ K .ret (event_Check_C5_T0 e y1 2)) := by kernel_rfl
theorem event_Check_C5_p7 (e : Event) (y1 : Int) (sf : Int × (List Int) × (List Int) × (List Int) × Int × Int × Int × Bool × Bool × Int × Int) (yf5 : Bool) (K : Ex → St → Prop) : oR pc sc lp cd ⟨ord83, [rV 15 [(67, vF)], rV 16 [(67, vF)], rV 17 [(67, vF)], rV 18 [(67, vF)], rVC 19 [(67, vF)] [(81, .v (.bool yf5))], rV 21 [(83, vF)], rV 22 [(83, vF)], rV 23 [(83, vT)]], [], [], []⟩ (polF 83) [(1, ⟨[2], [5, 4, 1], 0, [], []⟩, ⟨[], [], []⟩)] c_event_Check_C5 (event_Check_C5_S e y1 sf) K
  = ((eqB (y1 == 0) false) ∧ (eqB (decide (e.Hart < 0)) false) ∧ (eqB (decide (e.Hart ≥ 8)) false) ∧ (eqB (decide (e.At < 0)) false) ∧ (pc 89 [.agg [(vI e.Hart), (vI e.At), (vI e.Kind), (vU sf.2.2.2.2.1), (vU sf.2.2.2.2.2.1), (vU sf.2.2.2.2.2.2.1), .v (.bool sf.2.2.2.2.2.2.2.1), .v (.bool sf.2.2.2.2.2.2.2.2.1), (vI sf.2.2.2.2.2.2.2.2.2.1), (vI sf.2.2.2.2.2.2.2.2.2.2), (vI sf.1), .sl (sf.2.1.map eI), .sl (sf.2.2.1.map eI), .sl (sf.2.2.2.1.map eI)], (aAgg Event.enc e)] (eqA (.v (.bool yf5)))) ∧ (eqB (!yf5) false) ∧ (eqB ((remW .u64 e.Addr 8) != 0) false) ∧ (eqB (decide (e.Pred < 0)) false) ∧ (eqB (decide (e.Pred > 15)) true) ∧ K .ret (event_Check_C5_T0 e y1 2)) := by kernel_rfl
theorem event_Check_C5_p8 (e : Event) (y1 : Int) (sf : Int × (List Int) × (List Int) × (List Int) × Int × Int × Int × Bool × Bool × Int × Int) (yf5 : Bool) (K : Ex → St → Prop) : oR pc sc lp cd ⟨ord83, [rV 15 [(67, vF)], rV 16 [(67, vF)], rV 17 [(67, vF)], rV 18 [(67, vF)], rVC 19 [(67, vF)] [(81, .v (.bool yf5))], rV 21 [(83, vF)], rV 22 [(83, vF)], rV 23 [(83, vF)], rV 24 [(83, vT)]], [], [], []⟩ (polF 83) [(1, ⟨[2], [5, 4, 1], 0, [], []⟩, ⟨[], [], []⟩)] c_event_Check_C5 (event_Check_C5_S e y1 sf) K
  = ((eqB (y1 == 0) false) ∧ (eqB (decide (e.Hart < 0)) false) ∧ (eqB (decide (e.Hart ≥ 8)) false) ∧ (eqB (decide (e.At < 0)) false) ∧ (pc 89 [.agg [(vI e.Hart), (vI e.At), (vI e.Kind), (vU sf.2.2.2.2.1), (vU sf.2.2.2.2.2.1), (vU sf.2.2.2.2.2.2.1), .v (.bool sf.2.2.2.2.2.2.2.1), .v (.bool sf.2.2.2.2.2.2.2.2.1), (vI sf.2.2.2.2.2.2.2.2.2.1), (vI sf.2.2.2.2.2.2.2.2.2.2), (vI sf.1), .sl (sf.2.1.map eI), .sl (sf.2.2.1.map eI), .sl (sf.2.2.2.1.map eI)], (aAgg Event.enc e)] (eqA (.v (.bool yf5)))) ∧ (eqB (!yf5) false) ∧ (eqB ((remW .u64 e.Addr 8) != 0) false) ∧ (eqB (decide (e.Pred < 0)) false) ∧ (eqB (decide (e.Pred > 15)) false) ∧ (eqB (decide (e.Succ < 0)) true) ∧ K .ret (event_Check_C5_T0 e y1 2)) := by kernel_rfl
theorem event_Check_C5_p9 (e : Event) (y1 : Int) (sf : Int × (List Int) × (List Int) × (List Int) × Int × Int × Int × Bool × Bool × Int × Int) (yf5 : Bool) (K : Ex → St → Prop) : oR pc sc lp cd ⟨ord83, [rV 15 [(67, vF)], rV 16 [(67, vF)], rV 17 [(67, vF)], rV 18 [(67, vF)], rVC 19 [(67, vF)] [(81, .v (.bool yf5))], rV 21 [(83, vF)], rV 22 [(83, vF)], rV 23 [(83, vF)], rV 24 [(83, vF)], rV 25 [(83, vT)]], [], [], []⟩ (polF 83) [(1, ⟨[2], [5, 4, 1], 0, [], []⟩, ⟨[], [], []⟩)] c_event_Check_C5 (event_Check_C5_S e y1 sf) K
  = ((eqB (y1 == 0) false) ∧ (eqB (decide (e.Hart < 0)) false) ∧ (eqB (decide (e.Hart ≥ 8)) false) ∧ (eqB (decide (e.At < 0)) false) ∧ (pc 89 [.agg [(vI e.Hart), (vI e.At), (vI e.Kind), (vU sf.2.2.2.2.1), (vU sf.2.2.2.2.2.1), (vU sf.2.2.2.2.2.2.1), .v (.bool sf.2.2.2.2.2.2.2.1), .v (.bool sf.2.2.2.2.2.2.2.2.1), (vI sf.2.2.2.2.2.2.2.2.2.1), (vI sf.2.2.2.2.2.2.2.2.2.2), (vI sf.1), .sl (sf.2.1.map eI), .sl (sf.2.2.1.map eI), .sl (sf.2.2.2.1.map eI)], (aAgg Event.enc e)] (eqA (.v (.bool yf5)))) ∧ (eqB (!yf5) false) ∧ (eqB ((remW .u64 e.Addr 8) != 0) false) ∧ (eqB (decide (e.Pred < 0)) false) ∧ (eqB (decide (e.Pred > 15)) false) ∧ (eqB (decide (e.Succ < 0)) false) ∧ (eqB (decide (e.Succ > 15)) true) ∧ K .ret (event_Check_C5_T0 e y1 2)) := by kernel_rfl
theorem event_Check_C5_p10 (e : Event) (y1 : Int) (sf : Int × (List Int) × (List Int) × (List Int) × Int × Int × Int × Bool × Bool × Int × Int) (yf5 : Bool) (K : Ex → St → Prop) : oR pc sc lp cd ⟨ord83, [rV 15 [(67, vF)], rV 16 [(67, vF)], rV 17 [(67, vF)], rV 18 [(67, vF)], rVC 19 [(67, vF)] [(81, .v (.bool yf5))], rV 21 [(83, vF)], rV 22 [(83, vF)], rV 23 [(83, vF)], rV 24 [(83, vF)], rV 25 [(83, vF)], rV 27 [(104, vT), (108, vT)]], [], [], []⟩ (polF 83) [(1, ⟨[2], [5, 4, 1], 0, [], []⟩, ⟨[], [], []⟩)] c_event_Check_C5 (event_Check_C5_S e y1 sf) K
  = ((eqB (y1 == 0) false) ∧ (eqB (decide (e.Hart < 0)) false) ∧ (eqB (decide (e.Hart ≥ 8)) false) ∧ (eqB (decide (e.At < 0)) false) ∧ (pc 89 [.agg [(vI e.Hart), (vI e.At), (vI e.Kind), (vU sf.2.2.2.2.1), (vU sf.2.2.2.2.2.1), (vU sf.2.2.2.2.2.2.1), .v (.bool sf.2.2.2.2.2.2.2.1), .v (.bool sf.2.2.2.2.2.2.2.2.1), (vI sf.2.2.2.2.2.2.2.2.2.1), (vI sf.2.2.2.2.2.2.2.2.2.2), (vI sf.1), .sl (sf.2.1.map eI), .sl (sf.2.2.1.map eI), .sl (sf.2.2.2.1.map eI)], (aAgg Event.enc e)] (eqA (.v (.bool yf5)))) ∧ (eqB (!yf5) false) ∧ (eqB ((remW .u64 e.Addr 8) != 0) false) ∧ (eqB (decide (e.Pred < 0)) false) ∧ (eqB (decide (e.Pred > 15)) false) ∧ (eqB (decide (e.Succ < 0)) false) ∧ (eqB (decide (e.Succ > 15)) false) ∧ (eqB ((andW .u64 y1 8) != 0) true) ∧ (eqB (decide (e.Pair < 0)) true) ∧ K .ret (event_Check_C5_T0 e y1 2)) := by kernel_rfl
theorem event_Check_C5_p11 (e : Event) (y1 : Int) (sf : Int × (List Int) × (List Int) × (List Int) × Int × Int × Int × Bool × Bool × Int × Int) (yf5 : Bool) (K : Ex → St → Prop) : oR pc sc lp cd ⟨ord83, [rV 15 [(67, vF)], rV 16 [(67, vF)], rV 17 [(67, vF)], rV 18 [(67, vF)], rVC 19 [(67, vF)] [(81, .v (.bool yf5))], rV 21 [(83, vF)], rV 22 [(83, vF)], rV 23 [(83, vF)], rV 24 [(83, vF)], rV 25 [(83, vF)], rV 27 [(100, vT), (104, vT), (108, vF)]], [], [], []⟩ (polF 83) [(1, ⟨[2], [5, 4, 1], 0, [], []⟩, ⟨[], [], []⟩)] c_event_Check_C5 (event_Check_C5_S e y1 sf) K
  = ((eqB (y1 == 0) false) ∧ (eqB (decide (e.Hart < 0)) false) ∧ (eqB (decide (e.Hart ≥ 8)) false) ∧ (eqB (decide (e.At < 0)) false) ∧ (pc 89 [.agg [(vI e.Hart), (vI e.At), (vI e.Kind), (vU sf.2.2.2.2.1), (vU sf.2.2.2.2.2.1), (vU sf.2.2.2.2.2.2.1), .v (.bool sf.2.2.2.2.2.2.2.1), .v (.bool sf.2.2.2.2.2.2.2.2.1), (vI sf.2.2.2.2.2.2.2.2.2.1), (vI sf.2.2.2.2.2.2.2.2.2.2), (vI sf.1), .sl (sf.2.1.map eI), .sl (sf.2.2.1.map eI), .sl (sf.2.2.2.1.map eI)], (aAgg Event.enc e)] (eqA (.v (.bool yf5)))) ∧ (eqB (!yf5) false) ∧ (eqB ((remW .u64 e.Addr 8) != 0) false) ∧ (eqB (decide (e.Pred < 0)) false) ∧ (eqB (decide (e.Pred > 15)) false) ∧ (eqB (decide (e.Succ < 0)) false) ∧ (eqB (decide (e.Succ > 15)) false) ∧ (eqB ((andW .u64 y1 8) != 0) true) ∧ (eqB (decide (e.Pair < 0)) false) ∧ (eqB (decide (e.Pair ≥ e.At)) true) ∧ K .ret (event_Check_C5_T0 e y1 2)) := by kernel_rfl
theorem event_Check_C5_p12 (e : Event) (y1 : Int) (sf : Int × (List Int) × (List Int) × (List Int) × Int × Int × Int × Bool × Bool × Int × Int) (yf5 : Bool) (yf15 : Bool) (K : Ex → St → Prop) : oR pc sc lp cd ⟨ord83, [rV 15 [(67, vF)], rV 16 [(67, vF)], rV 17 [(67, vF)], rV 18 [(67, vF)], rVC 19 [(67, vF)] [(81, .v (.bool yf5))], rV 21 [(83, vF)], rV 22 [(83, vF)], rV 23 [(83, vF)], rV 24 [(83, vF)], rV 25 [(83, vF)], rV 27 [(100, vF), (104, vT), (108, vF)], rVC 28 [(100, vT)] [(120, .v (.bool yf15))]], [], [], []⟩ (polF 83) [(1, ⟨[2], [5, 4, 1], 0, [], []⟩, ⟨[], [], []⟩)] c_event_Check_C5 (event_Check_C5_S e y1 sf) K
  = ((eqB (y1 == 0) false) ∧ (eqB (decide (e.Hart < 0)) false) ∧ (eqB (decide (e.Hart ≥ 8)) false) ∧ (eqB (decide (e.At < 0)) false) ∧ (pc 89 [.agg [(vI e.Hart), (vI e.At), (vI e.Kind), (vU sf.2.2.2.2.1), (vU sf.2.2.2.2.2.1), (vU sf.2.2.2.2.2.2.1), .v (.bool sf.2.2.2.2.2.2.2.1), .v (.bool sf.2.2.2.2.2.2.2.2.1), (vI sf.2.2.2.2.2.2.2.2.2.1), (vI sf.2.2.2.2.2.2.2.2.2.2), (vI sf.1), .sl (sf.2.1.map eI), .sl (sf.2.2.1.map eI), .sl (sf.2.2.2.1.map eI)], (aAgg Event.enc e)] (eqA (.v (.bool yf5)))) ∧ (eqB (!yf5) false) ∧ (eqB ((remW .u64 e.Addr 8) != 0) false) ∧ (eqB (decide (e.Pred < 0)) false) ∧ (eqB (decide (e.Pred > 15)) false) ∧ (eqB (decide (e.Succ < 0)) false) ∧ (eqB (decide (e.Succ > 15)) false) ∧ (eqB ((andW .u64 y1 8) != 0) true) ∧ (eqB (decide (e.Pair < 0)) false) ∧ (eqB (decide (e.Pair ≥ e.At)) false) ∧ (pc 90 [.sl (e.Deps.Addr.map eI), (vI e.At)] (eqA (.v (.bool yf15)))) ∧ (eqB (!yf15) true) ∧ K .ret (event_Check_C5_T0 e y1 2)) := by kernel_rfl
theorem event_Check_C5_p13 (e : Event) (y1 : Int) (sf : Int × (List Int) × (List Int) × (List Int) × Int × Int × Int × Bool × Bool × Int × Int) (yf5 : Bool) (yf15 : Bool) (yf17 : Bool) (K : Ex → St → Prop) : oR pc sc lp cd ⟨ord83, [rV 15 [(67, vF)], rV 16 [(67, vF)], rV 17 [(67, vF)], rV 18 [(67, vF)], rVC 19 [(67, vF)] [(81, .v (.bool yf5))], rV 21 [(83, vF)], rV 22 [(83, vF)], rV 23 [(83, vF)], rV 24 [(83, vF)], rV 25 [(83, vF)], rV 27 [(100, vF), (104, vT), (108, vF)], rVC 28 [(100, vF)] [(120, .v (.bool yf15))], rVC 29 [(100, vT)] [(126, .v (.bool yf17))]], [], [], []⟩ (polF 83) [(1, ⟨[2], [5, 4, 1], 0, [], []⟩, ⟨[], [], []⟩)] c_event_Check_C5 (event_Check_C5_S e y1 sf) K
  = ((eqB (y1 == 0) false) ∧ (eqB (decide (e.Hart < 0)) false) ∧ (eqB (decide (e.Hart ≥ 8)) false) ∧ (eqB (decide (e.At < 0)) false) ∧ (pc 89 [.agg [(vI e.Hart), (vI e.At), (vI e.Kind), (vU sf.2.2.2.2.1), (vU sf.2.2.2.2.2.1), (vU sf.2.2.2.2.2.2.1), .v (.bool sf.2.2.2.2.2.2.2.1), .v (.bool sf.2.2.2.2.2.2.2.2.1), (vI sf.2.2.2.2.2.2.2.2.2.1), (vI sf.2.2.2.2.2.2.2.2.2.2), (vI sf.1), .sl (sf.2.1.map eI), .sl (sf.2.2.1.map eI), .sl (sf.2.2.2.1.map eI)], (aAgg Event.enc e)] (eqA (.v (.bool yf5)))) ∧ (eqB (!yf5) false) ∧ (eqB ((remW .u64 e.Addr 8) != 0) false) ∧ (eqB (decide (e.Pred < 0)) false) ∧ (eqB (decide (e.Pred > 15)) false) ∧ (eqB (decide (e.Succ < 0)) false) ∧ (eqB (decide (e.Succ > 15)) false) ∧ (eqB ((andW .u64 y1 8) != 0) true) ∧ (eqB (decide (e.Pair < 0)) false) ∧ (eqB (decide (e.Pair ≥ e.At)) false) ∧ (pc 90 [.sl (e.Deps.Addr.map eI), (vI e.At)] (eqA (.v (.bool yf15)))) ∧ (eqB (!yf15) false) ∧ (pc 90 [.sl (e.Deps.Data.map eI), (vI e.At)] (eqA (.v (.bool yf17)))) ∧ (eqB (!yf17) true) ∧ K .ret (event_Check_C5_T0 e y1 2)) := by kernel_rfl
theorem event_Check_C5_p14 (e : Event) (y1 : Int) (sf : Int × (List Int) × (List Int) × (List Int) × Int × Int × Int × Bool × Bool × Int × Int) (yf5 : Bool) (yf15 : Bool) (yf17 : Bool) (yf19 : Bool) (K : Ex → St → Prop) : oR pc sc lp cd ⟨ord83, [rV 15 [(67, vF)], rV 16 [(67, vF)], rV 17 [(67, vF)], rV 18 [(67, vF)], rVC 19 [(67, vF)] [(81, .v (.bool yf5))], rV 21 [(83, vF)], rV 22 [(83, vF)], rV 23 [(83, vF)], rV 24 [(83, vF)], rV 25 [(83, vF)], rV 27 [(100, vF), (104, vT), (108, vF)], rVC 28 [(100, vF)] [(120, .v (.bool yf15))], rVC 29 [(100, vF)] [(126, .v (.bool yf17))], rVC 30 [(100, vT)] [(132, .v (.bool yf19))]], [], [], []⟩ (polF 83) [(1, ⟨[2], [5, 4, 1], 0, [], []⟩, ⟨[], [], []⟩)] c_event_Check_C5 (event_Check_C5_S e y1 sf) K
  = ((eqB (y1 == 0) false) ∧ (eqB (decide (e.Hart < 0)) false) ∧ (eqB (decide (e.Hart ≥ 8)) false) ∧ (eqB (decide (e.At < 0)) false) ∧ (pc 89 [.agg [(vI e.Hart), (vI e.At), (vI e.Kind), (vU sf.2.2.2.2.1), (vU sf.2.2.2.2.2.1), (vU sf.2.2.2.2.2.2.1), .v (.bool sf.2.2.2.2.2.2.2.1), .v (.bool sf.2.2.2.2.2.2.2.2.1), (vI sf.2.2.2.2.2.2.2.2.2.1), (vI sf.2.2.2.2.2.2.2.2.2.2), (vI sf.1), .sl (sf.2.1.map eI), .sl (sf.2.2.1.map eI), .sl (sf.2.2.2.1.map eI)], (aAgg Event.enc e)] (eqA (.v (.bool yf5)))) ∧ (eqB (!yf5) false) ∧ (eqB ((remW .u64 e.Addr 8) != 0) false) ∧ (eqB (decide (e.Pred < 0)) false) ∧ (eqB (decide (e.Pred > 15)) false) ∧ (eqB (decide (e.Succ < 0)) false) ∧ (eqB (decide (e.Succ > 15)) false) ∧ (eqB ((andW .u64 y1 8) != 0) true) ∧ (eqB (decide (e.Pair < 0)) false) ∧ (eqB (decide (e.Pair ≥ e.At)) false) ∧ (pc 90 [.sl (e.Deps.Addr.map eI), (vI e.At)] (eqA (.v (.bool yf15)))) ∧ (eqB (!yf15) false) ∧ (pc 90 [.sl (e.Deps.Data.map eI), (vI e.At)] (eqA (.v (.bool yf17)))) ∧ (eqB (!yf17) false) ∧ (pc 90 [.sl (e.Deps.Way.map eI), (vI e.At)] (eqA (.v (.bool yf19)))) ∧ (eqB (!yf19) true) ∧ K .ret (event_Check_C5_T0 e y1 2)) := by kernel_rfl
theorem event_Check_C5_p15 (e : Event) (y1 : Int) (sf : Int × (List Int) × (List Int) × (List Int) × Int × Int × Int × Bool × Bool × Int × Int) (yf5 : Bool) (yf15 : Bool) (yf17 : Bool) (yf19 : Bool) (K : Ex → St → Prop) : oR pc sc lp cd ⟨ord83, [rV 15 [(67, vF)], rV 16 [(67, vF)], rV 17 [(67, vF)], rV 18 [(67, vF)], rVC 19 [(67, vF)] [(81, .v (.bool yf5))], rV 21 [(83, vF)], rV 22 [(83, vF)], rV 23 [(83, vF)], rV 24 [(83, vF)], rV 25 [(83, vF)], rV 27 [(100, vF), (104, vT), (108, vF)], rVC 28 [(100, vF)] [(120, .v (.bool yf15))], rVC 29 [(100, vF)] [(126, .v (.bool yf17))], rVC 30 [(100, vF)] [(132, .v (.bool yf19))]], [], [], []⟩ (polF 83) [(1, ⟨[2], [5, 4, 1], 0, [], []⟩, ⟨[], [], []⟩)] c_event_Check_C5 (event_Check_C5_S e y1 sf) K
  = ((eqB (y1 == 0) false) ∧ (eqB (decide (e.Hart < 0)) false) ∧ (eqB (decide (e.Hart ≥ 8)) false) ∧ (eqB (decide (e.At < 0)) false) ∧ (pc 89 [.agg [(vI e.Hart), (vI e.At), (vI e.Kind), (vU sf.2.2.2.2.1), (vU sf.2.2.2.2.2.1), (vU sf.2.2.2.2.2.2.1), .v (.bool sf.2.2.2.2.2.2.2.1), .v (.bool sf.2.2.2.2.2.2.2.2.1), (vI sf.2.2.2.2.2.2.2.2.2.1), (vI sf.2.2.2.2.2.2.2.2.2.2), (vI sf.1), .sl (sf.2.1.map eI), .sl (sf.2.2.1.map eI), .sl (sf.2.2.2.1.map eI)], (aAgg Event.enc e)] (eqA (.v (.bool yf5)))) ∧ (eqB (!yf5) false) ∧ (eqB ((remW .u64 e.Addr 8) != 0) false) ∧ (eqB (decide (e.Pred < 0)) false) ∧ (eqB (decide (e.Pred > 15)) false) ∧ (eqB (decide (e.Succ < 0)) false) ∧ (eqB (decide (e.Succ > 15)) false) ∧ (eqB ((andW .u64 y1 8) != 0) true) ∧ (eqB (decide (e.Pair < 0)) false) ∧ (eqB (decide (e.Pair ≥ e.At)) false) ∧ (pc 90 [.sl (e.Deps.Addr.map eI), (vI e.At)] (eqA (.v (.bool yf15)))) ∧ (eqB (!yf15) false) ∧ (pc 90 [.sl (e.Deps.Data.map eI), (vI e.At)] (eqA (.v (.bool yf17)))) ∧ (eqB (!yf17) false) ∧ (pc 90 [.sl (e.Deps.Way.map eI), (vI e.At)] (eqA (.v (.bool yf19)))) ∧ (eqB (!yf19) false) ∧ K .ret (event_Check_C5_T0 e y1 0)) := by kernel_rfl
theorem event_Check_C5_p16 (e : Event) (y1 : Int) (sf : Int × (List Int) × (List Int) × (List Int) × Int × Int × Int × Bool × Bool × Int × Int) (yf5 : Bool) (yf13 : Bool) (K : Ex → St → Prop) : oR pc sc lp cd ⟨ord83, [rV 15 [(67, vF)], rV 16 [(67, vF)], rV 17 [(67, vF)], rV 18 [(67, vF)], rVC 19 [(67, vF)] [(81, .v (.bool yf5))], rV 21 [(83, vF)], rV 22 [(83, vF)], rV 23 [(83, vF)], rV 24 [(83, vF)], rV 25 [(83, vF)], rV 27 [(104, vF)], rVC 28 [(100, vT)] [(120, .v (.bool yf13))]], [], [], []⟩ (polF 83) [(1, ⟨[2], [5, 4, 1], 0, [], []⟩, ⟨[], [], []⟩)] c_event_Check_C5 (event_Check_C5_S e y1 sf) K
  = ((eqB (y1 == 0) false) ∧ (eqB (decide (e.Hart < 0)) false) ∧ (eqB (decide (e.Hart ≥ 8)) false) ∧ (eqB (decide (e.At < 0)) false) ∧ (pc 89 [.agg [(vI e.Hart), (vI e.At), (vI e.Kind), (vU sf.2.2.2.2.1), (vU sf.2.2.2.2.2.1), (vU sf.2.2.2.2.2.2.1), .v (.bool sf.2.2.2.2.2.2.2.1), .v (.bool sf.2.2.2.2.2.2.2.2.1), (vI sf.2.2.2.2.2.2.2.2.2.1), (vI sf.2.2.2.2.2.2.2.2.2.2), (vI sf.1), .sl (sf.2.1.map eI), .sl (sf.2.2.1.map eI), .sl (sf.2.2.2.1.map eI)], (aAgg Event.enc e)] (eqA (.v (.bool yf5)))) ∧ (eqB (!yf5) false) ∧ (eqB ((remW .u64 e.Addr 8) != 0) false) ∧ (eqB (decide (e.Pred < 0)) false) ∧ (eqB (decide (e.Pred > 15)) false) ∧ (eqB (decide (e.Succ < 0)) false) ∧ (eqB (decide (e.Succ > 15)) false) ∧ (eqB ((andW .u64 y1 8) != 0) false) ∧ (pc 90 [.sl (e.Deps.Addr.map eI), (vI e.At)] (eqA (.v (.bool yf13)))) ∧ (eqB (!yf13) true) ∧ K .ret (event_Check_C5_T0 e y1 2)) := by kernel_rfl
theorem event_Check_C5_p17 (e : Event) (y1 : Int) (sf : Int × (List Int) × (List Int) × (List Int) × Int × Int × Int × Bool × Bool × Int × Int) (yf5 : Bool) (yf13 : Bool) (yf15 : Bool) (K : Ex → St → Prop) : oR pc sc lp cd ⟨ord83, [rV 15 [(67, vF)], rV 16 [(67, vF)], rV 17 [(67, vF)], rV 18 [(67, vF)], rVC 19 [(67, vF)] [(81, .v (.bool yf5))], rV 21 [(83, vF)], rV 22 [(83, vF)], rV 23 [(83, vF)], rV 24 [(83, vF)], rV 25 [(83, vF)], rV 27 [(104, vF)], rVC 28 [(100, vF)] [(120, .v (.bool yf13))], rVC 29 [(100, vT)] [(126, .v (.bool yf15))]], [], [], []⟩ (polF 83) [(1, ⟨[2], [5, 4, 1], 0, [], []⟩, ⟨[], [], []⟩)] c_event_Check_C5 (event_Check_C5_S e y1 sf) K
  = ((eqB (y1 == 0) false) ∧ (eqB (decide (e.Hart < 0)) false) ∧ (eqB (decide (e.Hart ≥ 8)) false) ∧ (eqB (decide (e.At < 0)) false) ∧ (pc 89 [.agg [(vI e.Hart), (vI e.At), (vI e.Kind), (vU sf.2.2.2.2.1), (vU sf.2.2.2.2.2.1), (vU sf.2.2.2.2.2.2.1), .v (.bool sf.2.2.2.2.2.2.2.1), .v (.bool sf.2.2.2.2.2.2.2.2.1), (vI sf.2.2.2.2.2.2.2.2.2.1), (vI sf.2.2.2.2.2.2.2.2.2.2), (vI sf.1), .sl (sf.2.1.map eI), .sl (sf.2.2.1.map eI), .sl (sf.2.2.2.1.map eI)], (aAgg Event.enc e)] (eqA (.v (.bool yf5)))) ∧ (eqB (!yf5) false) ∧ (eqB ((remW .u64 e.Addr 8) != 0) false) ∧ (eqB (decide (e.Pred < 0)) false) ∧ (eqB (decide (e.Pred > 15)) false) ∧ (eqB (decide (e.Succ < 0)) false) ∧ (eqB (decide (e.Succ > 15)) false) ∧ (eqB ((andW .u64 y1 8) != 0) false) ∧ (pc 90 [.sl (e.Deps.Addr.map eI), (vI e.At)] (eqA (.v (.bool yf13)))) ∧ (eqB (!yf13) false) ∧ (pc 90 [.sl (e.Deps.Data.map eI), (vI e.At)] (eqA (.v (.bool yf15)))) ∧ (eqB (!yf15) true) ∧ K .ret (event_Check_C5_T0 e y1 2)) := by kernel_rfl
theorem event_Check_C5_p18 (e : Event) (y1 : Int) (sf : Int × (List Int) × (List Int) × (List Int) × Int × Int × Int × Bool × Bool × Int × Int) (yf5 : Bool) (yf13 : Bool) (yf15 : Bool) (yf17 : Bool) (K : Ex → St → Prop) : oR pc sc lp cd ⟨ord83, [rV 15 [(67, vF)], rV 16 [(67, vF)], rV 17 [(67, vF)], rV 18 [(67, vF)], rVC 19 [(67, vF)] [(81, .v (.bool yf5))], rV 21 [(83, vF)], rV 22 [(83, vF)], rV 23 [(83, vF)], rV 24 [(83, vF)], rV 25 [(83, vF)], rV 27 [(104, vF)], rVC 28 [(100, vF)] [(120, .v (.bool yf13))], rVC 29 [(100, vF)] [(126, .v (.bool yf15))], rVC 30 [(100, vT)] [(132, .v (.bool yf17))]], [], [], []⟩ (polF 83) [(1, ⟨[2], [5, 4, 1], 0, [], []⟩, ⟨[], [], []⟩)] c_event_Check_C5 (event_Check_C5_S e y1 sf) K
  = ((eqB (y1 == 0) false) ∧ (eqB (decide (e.Hart < 0)) false) ∧ (eqB (decide (e.Hart ≥ 8)) false) ∧ (eqB (decide (e.At < 0)) false) ∧ (pc 89 [.agg [(vI e.Hart), (vI e.At), (vI e.Kind), (vU sf.2.2.2.2.1), (vU sf.2.2.2.2.2.1), (vU sf.2.2.2.2.2.2.1), .v (.bool sf.2.2.2.2.2.2.2.1), .v (.bool sf.2.2.2.2.2.2.2.2.1), (vI sf.2.2.2.2.2.2.2.2.2.1), (vI sf.2.2.2.2.2.2.2.2.2.2), (vI sf.1), .sl (sf.2.1.map eI), .sl (sf.2.2.1.map eI), .sl (sf.2.2.2.1.map eI)], (aAgg Event.enc e)] (eqA (.v (.bool yf5)))) ∧ (eqB (!yf5) false) ∧ (eqB ((remW .u64 e.Addr 8) != 0) false) ∧ (eqB (decide (e.Pred < 0)) false) ∧ (eqB (decide (e.Pred > 15)) false) ∧ (eqB (decide (e.Succ < 0)) false) ∧ (eqB (decide (e.Succ > 15)) false) ∧ (eqB ((andW .u64 y1 8) != 0) false) ∧ (pc 90 [.sl (e.Deps.Addr.map eI), (vI e.At)] (eqA (.v (.bool yf13)))) ∧ (eqB (!yf13) false) ∧ (pc 90 [.sl (e.Deps.Data.map eI), (vI e.At)] (eqA (.v (.bool yf15)))) ∧ (eqB (!yf15) false) ∧ (pc 90 [.sl (e.Deps.Way.map eI), (vI e.At)] (eqA (.v (.bool yf17)))) ∧ (eqB (!yf17) true) ∧ K .ret (event_Check_C5_T0 e y1 2)) := by kernel_rfl
theorem event_Check_C5_p19 (e : Event) (y1 : Int) (sf : Int × (List Int) × (List Int) × (List Int) × Int × Int × Int × Bool × Bool × Int × Int) (yf5 : Bool) (yf13 : Bool) (yf15 : Bool) (yf17 : Bool) (K : Ex → St → Prop) : oR pc sc lp cd ⟨ord83, [rV 15 [(67, vF)], rV 16 [(67, vF)], rV 17 [(67, vF)], rV 18 [(67, vF)], rVC 19 [(67, vF)] [(81, .v (.bool yf5))], rV 21 [(83, vF)], rV 22 [(83, vF)], rV 23 [(83, vF)], rV 24 [(83, vF)], rV 25 [(83, vF)], rV 27 [(104, vF)], rVC 28 [(100, vF)] [(120, .v (.bool yf13))], rVC 29 [(100, vF)] [(126, .v (.bool yf15))], rVC 30 [(100, vF)] [(132, .v (.bool yf17))]], [], [], []⟩ (polF 83) [(1, ⟨[2], [5, 4, 1], 0, [], []⟩, ⟨[], [], []⟩)] c_event_Check_C5 (event_Check_C5_S e y1 sf) K
  = ((eqB (y1 == 0) false) ∧ (eqB (decide (e.Hart < 0)) false) ∧ (eqB (decide (e.Hart ≥ 8)) false) ∧ (eqB (decide (e.At < 0)) false) ∧ (pc 89 [.agg [(vI e.Hart), (vI e.At), (vI e.Kind), (vU sf.2.2.2.2.1), (vU sf.2.2.2.2.2.1), (vU sf.2.2.2.2.2.2.1), .v (.bool sf.2.2.2.2.2.2.2.1), .v (.bool sf.2.2.2.2.2.2.2.2.1), (vI sf.2.2.2.2.2.2.2.2.2.1), (vI sf.2.2.2.2.2.2.2.2.2.2), (vI sf.1), .sl (sf.2.1.map eI), .sl (sf.2.2.1.map eI), .sl (sf.2.2.2.1.map eI)], (aAgg Event.enc e)] (eqA (.v (.bool yf5)))) ∧ (eqB (!yf5) false) ∧ (eqB ((remW .u64 e.Addr 8) != 0) false) ∧ (eqB (decide (e.Pred < 0)) false) ∧ (eqB (decide (e.Pred > 15)) false) ∧ (eqB (decide (e.Succ < 0)) false) ∧ (eqB (decide (e.Succ > 15)) false) ∧ (eqB ((andW .u64 y1 8) != 0) false) ∧ (pc 90 [.sl (e.Deps.Addr.map eI), (vI e.At)] (eqA (.v (.bool yf13)))) ∧ (eqB (!yf13) false) ∧ (pc 90 [.sl (e.Deps.Data.map eI), (vI e.At)] (eqA (.v (.bool yf15)))) ∧ (eqB (!yf15) false) ∧ (pc 90 [.sl (e.Deps.Way.map eI), (vI e.At)] (eqA (.v (.bool yf17)))) ∧ (eqB (!yf17) false) ∧ K .ret (event_Check_C5_T0 e y1 0)) := by kernel_rfl
theorem event_Check_C5_sim (n : Nat) (e : Event) (y1 : Int) : ∀ sf t, event_Check_C5 n e y1 sf = some t → CodeD Try.prog c_event_Check_C5 (event_Check_C5_S e y1 sf) (pk (event_Check_C5_out e y1) t) := by
 intro sf t h
 unfold event_Check_C5 at h
 rcases iteE h with ⟨hf1, h⟩ | ⟨hf1, h⟩
 ·
  obtain rfl := soI h
  exact okR ordB_event_Check_C5 (Eq.mpr (event_Check_C5_p0 pP sP lP dP e y1 sf _) ⟨cB hf1, ⟨rfl, rfl⟩⟩) (pkE rfl)
 rcases iteE h with ⟨hf2, h⟩ | ⟨hf2, h⟩
 ·
  obtain rfl := soI h
  exact okR ordB_event_Check_C5 (Eq.mpr (event_Check_C5_p1 pP sP lP dP e y1 sf _) ⟨cB hf1, cB hf2, ⟨rfl, rfl⟩⟩) (pkE rfl)
 rcases iteE h with ⟨hf3, h⟩ | ⟨hf3, h⟩
 ·
  obtain rfl := soI h
  exact okR ordB_event_Check_C5 (Eq.mpr (event_Check_C5_p2 pP sP lP dP e y1 sf _) ⟨cB hf1, cB hf2, cB hf3, ⟨rfl, rfl⟩⟩) (pkE rfl)
 rcases iteE h with ⟨hf4, h⟩ | ⟨hf4, h⟩
 ·
  obtain rfl := soI h
  exact okR ordB_event_Check_C5 (Eq.mpr (event_Check_C5_p3 pP sP lP dP e y1 sf _) ⟨cB hf1, cB hf2, cB hf3, cB hf4, ⟨rfl, rfl⟩⟩) (pkE rfl)
 obtain ⟨yf5, gyf5, h⟩ := bindE h
 rcases iteE h with ⟨hf6, h⟩ | ⟨hf6, h⟩
 ·
  obtain rfl := soI h
  exact okR ordB_event_Check_C5 (Eq.mpr (event_Check_C5_p4 pP sP lP dP e y1 sf yf5 _) ⟨cB hf1, cB hf2, cB hf3, cB hf4, (event_Same_sim n (Event.mk e.Hart e.At e.Kind sf.2.2.2.2.1 sf.2.2.2.2.2.1 sf.2.2.2.2.2.2.1 sf.2.2.2.2.2.2.2.1 sf.2.2.2.2.2.2.2.2.1 sf.2.2.2.2.2.2.2.2.2.1 sf.2.2.2.2.2.2.2.2.2.2 sf.1 (Deps.mk sf.2.1 sf.2.2.1 sf.2.2.2.1)) e yf5 gyf5), cB hf6, ⟨rfl, rfl⟩⟩) (pkE rfl)
 rcases iteE h with ⟨hf7, h⟩ | ⟨hf7, h⟩
 ·
  obtain rfl := soI h
  exact okR ordB_event_Check_C5 (Eq.mpr (event_Check_C5_p5 pP sP lP dP e y1 sf yf5 _) ⟨cB hf1, cB hf2, cB hf3, cB hf4, (event_Same_sim n (Event.mk e.Hart e.At e.Kind sf.2.2.2.2.1 sf.2.2.2.2.2.1 sf.2.2.2.2.2.2.1 sf.2.2.2.2.2.2.2.1 sf.2.2.2.2.2.2.2.2.1 sf.2.2.2.2.2.2.2.2.2.1 sf.2.2.2.2.2.2.2.2.2.2 sf.1 (Deps.mk sf.2.1 sf.2.2.1 sf.2.2.2.1)) e yf5 gyf5), cB hf6, cB hf7, ⟨rfl, rfl⟩⟩) (pkE rfl)
 rcases iteE h with ⟨hf8, h⟩ | ⟨hf8, h⟩
 ·
  obtain rfl := soI h
  exact okR ordB_event_Check_C5 (Eq.mpr (event_Check_C5_p6 pP sP lP dP e y1 sf yf5 _) ⟨cB hf1, cB hf2, cB hf3, cB hf4, (event_Same_sim n (Event.mk e.Hart e.At e.Kind sf.2.2.2.2.1 sf.2.2.2.2.2.1 sf.2.2.2.2.2.2.1 sf.2.2.2.2.2.2.2.1 sf.2.2.2.2.2.2.2.2.1 sf.2.2.2.2.2.2.2.2.2.1 sf.2.2.2.2.2.2.2.2.2.2 sf.1 (Deps.mk sf.2.1 sf.2.2.1 sf.2.2.2.1)) e yf5 gyf5), cB hf6, cB hf7, cB hf8, ⟨rfl, rfl⟩⟩) (pkE rfl)
 rcases iteE h with ⟨hf9, h⟩ | ⟨hf9, h⟩
 ·
  obtain rfl := soI h
  exact okR ordB_event_Check_C5 (Eq.mpr (event_Check_C5_p7 pP sP lP dP e y1 sf yf5 _) ⟨cB hf1, cB hf2, cB hf3, cB hf4, (event_Same_sim n (Event.mk e.Hart e.At e.Kind sf.2.2.2.2.1 sf.2.2.2.2.2.1 sf.2.2.2.2.2.2.1 sf.2.2.2.2.2.2.2.1 sf.2.2.2.2.2.2.2.2.1 sf.2.2.2.2.2.2.2.2.2.1 sf.2.2.2.2.2.2.2.2.2.2 sf.1 (Deps.mk sf.2.1 sf.2.2.1 sf.2.2.2.1)) e yf5 gyf5), cB hf6, cB hf7, cB hf8, cB hf9, ⟨rfl, rfl⟩⟩) (pkE rfl)
 rcases iteE h with ⟨hf10, h⟩ | ⟨hf10, h⟩
 ·
  obtain rfl := soI h
  exact okR ordB_event_Check_C5 (Eq.mpr (event_Check_C5_p8 pP sP lP dP e y1 sf yf5 _) ⟨cB hf1, cB hf2, cB hf3, cB hf4, (event_Same_sim n (Event.mk e.Hart e.At e.Kind sf.2.2.2.2.1 sf.2.2.2.2.2.1 sf.2.2.2.2.2.2.1 sf.2.2.2.2.2.2.2.1 sf.2.2.2.2.2.2.2.2.1 sf.2.2.2.2.2.2.2.2.2.1 sf.2.2.2.2.2.2.2.2.2.2 sf.1 (Deps.mk sf.2.1 sf.2.2.1 sf.2.2.2.1)) e yf5 gyf5), cB hf6, cB hf7, cB hf8, cB hf9, cB hf10, ⟨rfl, rfl⟩⟩) (pkE rfl)
 rcases iteE h with ⟨hf11, h⟩ | ⟨hf11, h⟩
 ·
  obtain rfl := soI h
  exact okR ordB_event_Check_C5 (Eq.mpr (event_Check_C5_p9 pP sP lP dP e y1 sf yf5 _) ⟨cB hf1, cB hf2, cB hf3, cB hf4, (event_Same_sim n (Event.mk e.Hart e.At e.Kind sf.2.2.2.2.1 sf.2.2.2.2.2.1 sf.2.2.2.2.2.2.1 sf.2.2.2.2.2.2.2.1 sf.2.2.2.2.2.2.2.2.1 sf.2.2.2.2.2.2.2.2.2.1 sf.2.2.2.2.2.2.2.2.2.2 sf.1 (Deps.mk sf.2.1 sf.2.2.1 sf.2.2.2.1)) e yf5 gyf5), cB hf6, cB hf7, cB hf8, cB hf9, cB hf10, cB hf11, ⟨rfl, rfl⟩⟩) (pkE rfl)
 rcases iteN h with ⟨hf12, h⟩ | ⟨hf12, h⟩
 ·
  obtain ⟨yf13, gyf13, h⟩ := bindE h
  rcases iteE h with ⟨hf14, h⟩ | ⟨hf14, h⟩
  ·
   obtain rfl := soI h
   exact okR ordB_event_Check_C5 (Eq.mpr (event_Check_C5_p16 pP sP lP dP e y1 sf yf5 yf13 _) ⟨cB hf1, cB hf2, cB hf3, cB hf4, (event_Same_sim n (Event.mk e.Hart e.At e.Kind sf.2.2.2.2.1 sf.2.2.2.2.2.1 sf.2.2.2.2.2.2.1 sf.2.2.2.2.2.2.2.1 sf.2.2.2.2.2.2.2.2.1 sf.2.2.2.2.2.2.2.2.2.1 sf.2.2.2.2.2.2.2.2.2.2 sf.1 (Deps.mk sf.2.1 sf.2.2.1 sf.2.2.2.1)) e yf5 gyf5), cB hf6, cB hf7, cB hf8, cB hf9, cB hf10, cB hf11, cB hf12, (event_below_sim n e.Deps.Addr e.At yf13 gyf13), cB hf14, ⟨rfl, rfl⟩⟩) (pkE rfl)
  obtain ⟨yf15, gyf15, h⟩ := bindE h
  rcases iteE h with ⟨hf16, h⟩ | ⟨hf16, h⟩
  ·
   obtain rfl := soI h
   exact okR ordB_event_Check_C5 (Eq.mpr (event_Check_C5_p17 pP sP lP dP e y1 sf yf5 yf13 yf15 _) ⟨cB hf1, cB hf2, cB hf3, cB hf4, (event_Same_sim n (Event.mk e.Hart e.At e.Kind sf.2.2.2.2.1 sf.2.2.2.2.2.1 sf.2.2.2.2.2.2.1 sf.2.2.2.2.2.2.2.1 sf.2.2.2.2.2.2.2.2.1 sf.2.2.2.2.2.2.2.2.2.1 sf.2.2.2.2.2.2.2.2.2.2 sf.1 (Deps.mk sf.2.1 sf.2.2.1 sf.2.2.2.1)) e yf5 gyf5), cB hf6, cB hf7, cB hf8, cB hf9, cB hf10, cB hf11, cB hf12, (event_below_sim n e.Deps.Addr e.At yf13 gyf13), cB hf14, (event_below_sim n e.Deps.Data e.At yf15 gyf15), cB hf16, ⟨rfl, rfl⟩⟩) (pkE rfl)
  obtain ⟨yf17, gyf17, h⟩ := bindE h
  rcases iteE h with ⟨hf18, h⟩ | ⟨hf18, h⟩
  ·
   obtain rfl := soI h
   exact okR ordB_event_Check_C5 (Eq.mpr (event_Check_C5_p18 pP sP lP dP e y1 sf yf5 yf13 yf15 yf17 _) ⟨cB hf1, cB hf2, cB hf3, cB hf4, (event_Same_sim n (Event.mk e.Hart e.At e.Kind sf.2.2.2.2.1 sf.2.2.2.2.2.1 sf.2.2.2.2.2.2.1 sf.2.2.2.2.2.2.2.1 sf.2.2.2.2.2.2.2.2.1 sf.2.2.2.2.2.2.2.2.2.1 sf.2.2.2.2.2.2.2.2.2.2 sf.1 (Deps.mk sf.2.1 sf.2.2.1 sf.2.2.2.1)) e yf5 gyf5), cB hf6, cB hf7, cB hf8, cB hf9, cB hf10, cB hf11, cB hf12, (event_below_sim n e.Deps.Addr e.At yf13 gyf13), cB hf14, (event_below_sim n e.Deps.Data e.At yf15 gyf15), cB hf16, (event_below_sim n e.Deps.Way e.At yf17 gyf17), cB hf18, ⟨rfl, rfl⟩⟩) (pkE rfl)
  obtain rfl := soI h
  exact okR ordB_event_Check_C5 (Eq.mpr (event_Check_C5_p19 pP sP lP dP e y1 sf yf5 yf13 yf15 yf17 _) ⟨cB hf1, cB hf2, cB hf3, cB hf4, (event_Same_sim n (Event.mk e.Hart e.At e.Kind sf.2.2.2.2.1 sf.2.2.2.2.2.1 sf.2.2.2.2.2.2.1 sf.2.2.2.2.2.2.2.1 sf.2.2.2.2.2.2.2.2.1 sf.2.2.2.2.2.2.2.2.2.1 sf.2.2.2.2.2.2.2.2.2.2 sf.1 (Deps.mk sf.2.1 sf.2.2.1 sf.2.2.2.1)) e yf5 gyf5), cB hf6, cB hf7, cB hf8, cB hf9, cB hf10, cB hf11, cB hf12, (event_below_sim n e.Deps.Addr e.At yf13 gyf13), cB hf14, (event_below_sim n e.Deps.Data e.At yf15 gyf15), cB hf16, (event_below_sim n e.Deps.Way e.At yf17 gyf17), cB hf18, ⟨rfl, rfl⟩⟩) (pkE rfl)
 rcases iteE h with ⟨hf13, h⟩ | ⟨hf13, h⟩
 ·
  obtain rfl := soI h
  exact okR ordB_event_Check_C5 (Eq.mpr (event_Check_C5_p10 pP sP lP dP e y1 sf yf5 _) ⟨cB hf1, cB hf2, cB hf3, cB hf4, (event_Same_sim n (Event.mk e.Hart e.At e.Kind sf.2.2.2.2.1 sf.2.2.2.2.2.1 sf.2.2.2.2.2.2.1 sf.2.2.2.2.2.2.2.1 sf.2.2.2.2.2.2.2.2.1 sf.2.2.2.2.2.2.2.2.2.1 sf.2.2.2.2.2.2.2.2.2.2 sf.1 (Deps.mk sf.2.1 sf.2.2.1 sf.2.2.2.1)) e yf5 gyf5), cB hf6, cB hf7, cB hf8, cB hf9, cB hf10, cB hf11, cB hf12, cB hf13, ⟨rfl, rfl⟩⟩) (pkE rfl)
 rcases iteE h with ⟨hf14, h⟩ | ⟨hf14, h⟩
 ·
  obtain rfl := soI h
  exact okR ordB_event_Check_C5 (Eq.mpr (event_Check_C5_p11 pP sP lP dP e y1 sf yf5 _) ⟨cB hf1, cB hf2, cB hf3, cB hf4, (event_Same_sim n (Event.mk e.Hart e.At e.Kind sf.2.2.2.2.1 sf.2.2.2.2.2.1 sf.2.2.2.2.2.2.1 sf.2.2.2.2.2.2.2.1 sf.2.2.2.2.2.2.2.2.1 sf.2.2.2.2.2.2.2.2.2.1 sf.2.2.2.2.2.2.2.2.2.2 sf.1 (Deps.mk sf.2.1 sf.2.2.1 sf.2.2.2.1)) e yf5 gyf5), cB hf6, cB hf7, cB hf8, cB hf9, cB hf10, cB hf11, cB hf12, cB hf13, cB hf14, ⟨rfl, rfl⟩⟩) (pkE rfl)
 obtain ⟨yf15, gyf15, h⟩ := bindE h
 rcases iteE h with ⟨hf16, h⟩ | ⟨hf16, h⟩
 ·
  obtain rfl := soI h
  exact okR ordB_event_Check_C5 (Eq.mpr (event_Check_C5_p12 pP sP lP dP e y1 sf yf5 yf15 _) ⟨cB hf1, cB hf2, cB hf3, cB hf4, (event_Same_sim n (Event.mk e.Hart e.At e.Kind sf.2.2.2.2.1 sf.2.2.2.2.2.1 sf.2.2.2.2.2.2.1 sf.2.2.2.2.2.2.2.1 sf.2.2.2.2.2.2.2.2.1 sf.2.2.2.2.2.2.2.2.2.1 sf.2.2.2.2.2.2.2.2.2.2 sf.1 (Deps.mk sf.2.1 sf.2.2.1 sf.2.2.2.1)) e yf5 gyf5), cB hf6, cB hf7, cB hf8, cB hf9, cB hf10, cB hf11, cB hf12, cB hf13, cB hf14, (event_below_sim n e.Deps.Addr e.At yf15 gyf15), cB hf16, ⟨rfl, rfl⟩⟩) (pkE rfl)
 obtain ⟨yf17, gyf17, h⟩ := bindE h
 rcases iteE h with ⟨hf18, h⟩ | ⟨hf18, h⟩
 ·
  obtain rfl := soI h
  exact okR ordB_event_Check_C5 (Eq.mpr (event_Check_C5_p13 pP sP lP dP e y1 sf yf5 yf15 yf17 _) ⟨cB hf1, cB hf2, cB hf3, cB hf4, (event_Same_sim n (Event.mk e.Hart e.At e.Kind sf.2.2.2.2.1 sf.2.2.2.2.2.1 sf.2.2.2.2.2.2.1 sf.2.2.2.2.2.2.2.1 sf.2.2.2.2.2.2.2.2.1 sf.2.2.2.2.2.2.2.2.2.1 sf.2.2.2.2.2.2.2.2.2.2 sf.1 (Deps.mk sf.2.1 sf.2.2.1 sf.2.2.2.1)) e yf5 gyf5), cB hf6, cB hf7, cB hf8, cB hf9, cB hf10, cB hf11, cB hf12, cB hf13, cB hf14, (event_below_sim n e.Deps.Addr e.At yf15 gyf15), cB hf16, (event_below_sim n e.Deps.Data e.At yf17 gyf17), cB hf18, ⟨rfl, rfl⟩⟩) (pkE rfl)
 obtain ⟨yf19, gyf19, h⟩ := bindE h
 rcases iteE h with ⟨hf20, h⟩ | ⟨hf20, h⟩
 ·
  obtain rfl := soI h
  exact okR ordB_event_Check_C5 (Eq.mpr (event_Check_C5_p14 pP sP lP dP e y1 sf yf5 yf15 yf17 yf19 _) ⟨cB hf1, cB hf2, cB hf3, cB hf4, (event_Same_sim n (Event.mk e.Hart e.At e.Kind sf.2.2.2.2.1 sf.2.2.2.2.2.1 sf.2.2.2.2.2.2.1 sf.2.2.2.2.2.2.2.1 sf.2.2.2.2.2.2.2.2.1 sf.2.2.2.2.2.2.2.2.2.1 sf.2.2.2.2.2.2.2.2.2.2 sf.1 (Deps.mk sf.2.1 sf.2.2.1 sf.2.2.2.1)) e yf5 gyf5), cB hf6, cB hf7, cB hf8, cB hf9, cB hf10, cB hf11, cB hf12, cB hf13, cB hf14, (event_below_sim n e.Deps.Addr e.At yf15 gyf15), cB hf16, (event_below_sim n e.Deps.Data e.At yf17 gyf17), cB hf18, (event_below_sim n e.Deps.Way e.At yf19 gyf19), cB hf20, ⟨rfl, rfl⟩⟩) (pkE rfl)
 obtain rfl := soI h
 exact okR ordB_event_Check_C5 (Eq.mpr (event_Check_C5_p15 pP sP lP dP e y1 sf yf5 yf15 yf17 yf19 _) ⟨cB hf1, cB hf2, cB hf3, cB hf4, (event_Same_sim n (Event.mk e.Hart e.At e.Kind sf.2.2.2.2.1 sf.2.2.2.2.2.1 sf.2.2.2.2.2.2.1 sf.2.2.2.2.2.2.2.1 sf.2.2.2.2.2.2.2.2.1 sf.2.2.2.2.2.2.2.2.2.1 sf.2.2.2.2.2.2.2.2.2.2 sf.1 (Deps.mk sf.2.1 sf.2.2.1 sf.2.2.2.1)) e yf5 gyf5), cB hf6, cB hf7, cB hf8, cB hf9, cB hf10, cB hf11, cB hf12, cB hf13, cB hf14, (event_below_sim n e.Deps.Addr e.At yf15 gyf15), cB hf16, (event_below_sim n e.Deps.Data e.At yf17 gyf17), cB hf18, (event_below_sim n e.Deps.Way e.At yf19 gyf19), cB hf20, ⟨rfl, rfl⟩⟩) (pkE rfl)

theorem ordB_event_Check_C4 : ordB (polF 83) ord83 c_event_Check_C4 = true := by kernel_rfl
def event_Check_C4_S (e : Event) (y1 : Int) (se : (List Int) × (List Int) × (List Int) × Int × Int × Int × Bool × Bool × Int × Int) : St := mkS 134 [(1, .ptr (.L 1) 0 0), (3, (vU y1)), (4, .ptr (.L 4) 0 0), (5, .ptr (.L 5) 0 0)] [(5, [(vI e.Hart), (vI e.At), (vI e.Kind), (vU se.2.2.2.1), (vU se.2.2.2.2.1), (vU se.2.2.2.2.2.1), .v (.bool se.2.2.2.2.2.2.1), .v (.bool se.2.2.2.2.2.2.2.1), (vI se.2.2.2.2.2.2.2.2.1), (vI se.2.2.2.2.2.2.2.2.2), (vI 0), .sl (se.1.map eI), .sl (se.2.1.map eI), .sl (se.2.2.1.map eI)]), (4, (Deps.enc e.Deps)), (1, (Event.enc e))] [] 0
def event_Check_C4_T0 (e : Event) (y1 : Int) (tt : Int) : St := mkS 134 [(2, (vI tt))] [] [] 0
def event_Check_C4_out (e : Event) (y1 : Int) (tt : Int) : Ex × St := (.ret, event_Check_C4_T0 e y1 tt)
theorem event_Check_C4_p0 (e : Event) (y1 : Int) (se : (List Int) × (List Int) × (List Int) × Int × Int × Int × Bool × Bool × Int × Int) (te2 : Int) (K : Ex → St → Prop) : oR pc sc lp cd ⟨ord83, [rV 13 [(63, vT)]], [], [], [(15, (⟨[1, 3, 4, 5], [], 0, [], []⟩, ⟨[], [], []⟩, .ret, event_Check_C5_T0 e y1 te2))]⟩ (polF 83) [(1, ⟨[2], [], 0, [], []⟩, ⟨[], [], []⟩)] c_event_Check_C4 (event_Check_C4_S e y1 se) K
  = ((eqB ((andW .u64 y1 8) != 0) true) ∧ (cd c_event_Check_C5 (event_Check_C5_S e y1 (e.Pair, se.1, se.2.1, se.2.2.1, se.2.2.2.1, se.2.2.2.2.1, se.2.2.2.2.2.1, se.2.2.2.2.2.2.1, se.2.2.2.2.2.2.2.1, se.2.2.2.2.2.2.2.2.1, se.2.2.2.2.2.2.2.2.2)) (fun e' S' => e' = .ret ∧ S' = event_Check_C5_T0 e y1 te2)) ∧ K .ret (event_Check_C4_T0 e y1 te2)) := by kernel_rfl
theorem event_Check_C4_p1 (e : Event) (y1 : Int) (se : (List Int) × (List Int) × (List Int) × Int × Int × Int × Bool × Bool × Int × Int) (te2 : Int) (K : Ex → St → Prop) : oR pc sc lp cd ⟨ord83, [rV 13 [(63, vF)]], [], [], [(15, (⟨[1, 3, 4, 5], [], 0, [], []⟩, ⟨[], [], []⟩, .ret, event_Check_C5_T0 e y1 te2))]⟩ (polF 83) [(1, ⟨[2], [], 0, [], []⟩, ⟨[], [], []⟩)] c_event_Check_C4 (event_Check_C4_S e y1 se) K
  = ((eqB ((andW .u64 y1 8) != 0) false) ∧ (cd c_event_Check_C5 (event_Check_C5_S e y1 (0, se.1, se.2.1, se.2.2.1, se.2.2.2.1, se.2.2.2.2.1, se.2.2.2.2.2.1, se.2.2.2.2.2.2.1, se.2.2.2.2.2.2.2.1, se.2.2.2.2.2.2.2.2.1, se.2.2.2.2.2.2.2.2.2)) (fun e' S' => e' = .ret ∧ S' = event_Check_C5_T0 e y1 te2)) ∧ K .ret (event_Check_C4_T0 e y1 te2)) := by kernel_rfl
theorem event_Check_C4_sim (n : Nat) (e : Event) (y1 : Int) : ∀ se t, event_Check_C4 n e y1 se = some t → CodeD Try.prog c_event_Check_C4 (event_Check_C4_S e y1 se) (pk (event_Check_C4_out e y1) t) := by
 intro se t h
 unfold event_Check_C4 at h
 rcases iteE h with ⟨he1, h⟩ | ⟨he1, h⟩
 ·
  obtain ⟨te2, gte2, h⟩ := bindE h
  obtain rfl := soI h
  exact okR ordB_event_Check_C4 (Eq.mpr (event_Check_C4_p0 pP sP lP dP e y1 se te2 _) ⟨cB he1, event_Check_C5_sim n e y1 _ te2 gte2, ⟨rfl, rfl⟩⟩) (pkE rfl)
 obtain ⟨te2, gte2, h⟩ := bindE h
 obtain rfl := soI h
 exact okR ordB_event_Check_C4 (Eq.mpr (event_Check_C4_p1 pP sP lP dP e y1 se te2 _) ⟨cB he1, event_Check_C5_sim n e y1 _ te2 gte2, ⟨rfl, rfl⟩⟩) (pkE rfl)

theorem ordB_event_Check_C3 : ordB (polF 83) ord83 c_event_Check_C3 = true := by kernel_rfl
def event_Check_C3_S (e : Event) (y1 : Int) (sd : (List Int) × (List Int) × (List Int) × Int × Int × Int × Int × Int) : St := mkS 134 [(1, .ptr (.L 1) 0 0), (3, (vU y1)), (4, .ptr (.L 4) 0 0), (5, .ptr (.L 5) 0 0)] [(5, [(vI e.Hart), (vI e.At), (vI e.Kind), (vU sd.2.2.2.1), (vU sd.2.2.2.2.1), (vU sd.2.2.2.2.2.1), vF, vF, (vI sd.2.2.2.2.2.2.1), (vI sd.2.2.2.2.2.2.2), (vI 0), .sl (sd.1.map eI), .sl (sd.2.1.map eI), .sl (sd.2.2.1.map eI)]), (4, (Deps.enc e.Deps)), (1, (Event.enc e))] [] 0
def event_Check_C3_T0 (e : Event) (y1 : Int) (tt : Int) : St := mkS 134 [(2, (vI tt))] [] [] 0
def event_Check_C3_out (e : Event) (y1 : Int) (tt : Int) : Ex × St := (.ret, event_Check_C3_T0 e y1 tt)
theorem event_Check_C3_p0 (e : Event) (y1 : Int) (sd : (List Int) × (List Int) × (List Int) × Int × Int × Int × Int × Int) (td2 : Int) (K : Ex → St → Prop) : oR pc sc lp cd ⟨ord83, [rV 11 [(54, vT)]], [], [], [(13, (⟨[1, 3, 4, 5], [], 0, [], []⟩, ⟨[], [], []⟩, .ret, event_Check_C4_T0 e y1 td2))]⟩ (polF 83) [(1, ⟨[2], [], 0, [], []⟩, ⟨[], [], []⟩)] c_event_Check_C3 (event_Check_C3_S e y1 sd) K
  = ((eqB ((andW .u64 y1 4) != 0) true) ∧ (cd c_event_Check_C4 (event_Check_C4_S e y1 (sd.1, sd.2.1, sd.2.2.1, sd.2.2.2.1, sd.2.2.2.2.1, sd.2.2.2.2.2.1, e.Aq, e.Rl, sd.2.2.2.2.2.2.1, sd.2.2.2.2.2.2.2)) (fun e' S' => e' = .ret ∧ S' = event_Check_C4_T0 e y1 td2)) ∧ K .ret (event_Check_C3_T0 e y1 td2)) := by kernel_rfl
theorem event_Check_C3_p1 (e : Event) (y1 : Int) (sd : (List Int) × (List Int) × (List Int) × Int × Int × Int × Int × Int) (td2 : Int) (K : Ex → St → Prop) : oR pc sc lp cd ⟨ord83, [rV 11 [(54, vF)]], [], [], [(13, (⟨[1, 3, 4, 5], [], 0, [], []⟩, ⟨[], [], []⟩, .ret, event_Check_C4_T0 e y1 td2))]⟩ (polF 83) [(1, ⟨[2], [], 0, [], []⟩, ⟨[], [], []⟩)] c_event_Check_C3 (event_Check_C3_S e y1 sd) K
  = ((eqB ((andW .u64 y1 4) != 0) false) ∧ (cd c_event_Check_C4 (event_Check_C4_S e y1 (sd.1, sd.2.1, sd.2.2.1, sd.2.2.2.1, sd.2.2.2.2.1, sd.2.2.2.2.2.1, false, false, sd.2.2.2.2.2.2.1, sd.2.2.2.2.2.2.2)) (fun e' S' => e' = .ret ∧ S' = event_Check_C4_T0 e y1 td2)) ∧ K .ret (event_Check_C3_T0 e y1 td2)) := by kernel_rfl
theorem event_Check_C3_sim (n : Nat) (e : Event) (y1 : Int) : ∀ sd t, event_Check_C3 n e y1 sd = some t → CodeD Try.prog c_event_Check_C3 (event_Check_C3_S e y1 sd) (pk (event_Check_C3_out e y1) t) := by
 intro sd t h
 unfold event_Check_C3 at h
 rcases iteE h with ⟨hd1, h⟩ | ⟨hd1, h⟩
 ·
  obtain ⟨td2, gtd2, h⟩ := bindE h
  obtain rfl := soI h
  exact okR ordB_event_Check_C3 (Eq.mpr (event_Check_C3_p0 pP sP lP dP e y1 sd td2 _) ⟨cB hd1, event_Check_C4_sim n e y1 _ td2 gtd2, ⟨rfl, rfl⟩⟩) (pkE rfl)
 obtain ⟨td2, gtd2, h⟩ := bindE h
 obtain rfl := soI h
 exact okR ordB_event_Check_C3 (Eq.mpr (event_Check_C3_p1 pP sP lP dP e y1 sd td2 _) ⟨cB hd1, event_Check_C4_sim n e y1 _ td2 gtd2, ⟨rfl, rfl⟩⟩) (pkE rfl)

theorem ordB_event_Check_C2 : ordB (polF 83) ord83 c_event_Check_C2 = true := by kernel_rfl
def event_Check_C2_S (e : Event) (y1 : Int) (sb : (List Int) × (List Int) × Int × Int × Int × Int) : St := mkS 134 [(1, .ptr (.L 1) 0 0), (3, (vU y1)), (4, .ptr (.L 4) 0 0), (5, .ptr (.L 5) 0 0)] [(5, [(vI e.Hart), (vI e.At), (vI e.Kind), (vU sb.2.2.1), (vU sb.2.2.2.1), (vU 0), vF, vF, (vI sb.2.2.2.2.1), (vI sb.2.2.2.2.2), (vI 0), .sl (sb.1.map eI), .nilsl, .sl (sb.2.1.map eI)]), (4, (Deps.enc e.Deps)), (1, (Event.enc e))] [] 0
def event_Check_C2_T0 (e : Event) (y1 : Int) (tt : Int) : St := mkS 134 [(2, (vI tt))] [] [] 0
def event_Check_C2_out (e : Event) (y1 : Int) (tt : Int) : Ex × St := (.ret, event_Check_C2_T0 e y1 tt)
theorem event_Check_C2_p0 (e : Event) (y1 : Int) (sb : (List Int) × (List Int) × Int × Int × Int × Int) (tb2 : Int) (K : Ex → St → Prop) : oR pc sc lp cd ⟨ord83, [rV 9 [(44, vT)]], [], [], [(11, (⟨[1, 3, 4, 5], [], 0, [], []⟩, ⟨[], [], []⟩, .ret, event_Check_C3_T0 e y1 tb2))]⟩ (polF 83) [(1, ⟨[2], [], 0, [], []⟩, ⟨[], [], []⟩)] c_event_Check_C2 (event_Check_C2_S e y1 sb) K
  = ((eqB ((andW .u64 y1 2) != 0) true) ∧ (cd c_event_Check_C3 (event_Check_C3_S e y1 (sb.1, e.Deps.Data, sb.2.1, sb.2.2.1, sb.2.2.2.1, e.Store, sb.2.2.2.2.1, sb.2.2.2.2.2)) (fun e' S' => e' = .ret ∧ S' = event_Check_C3_T0 e y1 tb2)) ∧ K .ret (event_Check_C2_T0 e y1 tb2)) := by kernel_rfl
theorem event_Check_C2_p1 (e : Event) (y1 : Int) (sb : (List Int) × (List Int) × Int × Int × Int × Int) (tb2 : Int) (K : Ex → St → Prop) : oR pc sc lp cd ⟨ord83, [rV 9 [(44, vF)]], [], [], [(11, (⟨[1, 3, 4, 5], [], 0, [], []⟩, ⟨[], [(5, [(vI e.Hart), (vI e.At), (vI e.Kind), (vU sb.2.2.1), (vU sb.2.2.2.1), (vU 0), vF, vF, (vI sb.2.2.2.2.1), (vI sb.2.2.2.2.2), (vI 0), .sl (sb.1.map eI), .sl (([] : List Int).map eI), .sl (sb.2.1.map eI)])], []⟩, .ret, event_Check_C3_T0 e y1 tb2))]⟩ (polF 83) [(1, ⟨[2], [], 0, [], []⟩, ⟨[], [], []⟩)] c_event_Check_C2 (event_Check_C2_S e y1 sb) K
  = ((eqB ((andW .u64 y1 2) != 0) false) ∧ (LeR [(vI e.Hart), (vI e.At), (vI e.Kind), (vU sb.2.2.1), (vU sb.2.2.2.1), (vU 0), vF, vF, (vI sb.2.2.2.2.1), (vI sb.2.2.2.2.2), (vI 0), .sl (sb.1.map eI), .nilsl, .sl (sb.2.1.map eI)] [(vI e.Hart), (vI e.At), (vI e.Kind), (vU sb.2.2.1), (vU sb.2.2.2.1), (vU 0), vF, vF, (vI sb.2.2.2.2.1), (vI sb.2.2.2.2.2), (vI 0), .sl (sb.1.map eI), .sl (([] : List Int).map eI), .sl (sb.2.1.map eI)]) ∧ (cd c_event_Check_C3 (event_Check_C3_S e y1 (sb.1, ([] : List Int), sb.2.1, sb.2.2.1, sb.2.2.2.1, 0, sb.2.2.2.2.1, sb.2.2.2.2.2)) (fun e' S' => e' = .ret ∧ S' = event_Check_C3_T0 e y1 tb2)) ∧ K .ret (event_Check_C2_T0 e y1 tb2)) := by kernel_rfl
theorem event_Check_C2_sim (n : Nat) (e : Event) (y1 : Int) : ∀ sb t, event_Check_C2 n e y1 sb = some t → CodeD Try.prog c_event_Check_C2 (event_Check_C2_S e y1 sb) (pk (event_Check_C2_out e y1) t) := by
 intro sb t h
 unfold event_Check_C2 at h
 rcases iteE h with ⟨hb1, h⟩ | ⟨hb1, h⟩
 ·
  obtain ⟨tb2, gtb2, h⟩ := bindE h
  obtain rfl := soI h
  exact okR ordB_event_Check_C2 (Eq.mpr (event_Check_C2_p0 pP sP lP dP e y1 sb tb2 _) ⟨cB hb1, event_Check_C3_sim n e y1 _ tb2 gtb2, ⟨rfl, rfl⟩⟩) (pkE rfl)
 obtain ⟨tb2, gtb2, h⟩ := bindE h
 obtain rfl := soI h
 exact okR ordB_event_Check_C2 (Eq.mpr (event_Check_C2_p1 pP sP lP dP e y1 sb tb2 _) ⟨cB hb1, (LeR.cons (LeA.refl _) (LeR.cons (LeA.refl _) (LeR.cons (LeA.refl _) (LeR.cons (LeA.refl _) (LeR.cons (LeA.refl _) (LeR.cons (LeA.refl _) (LeR.cons (LeA.refl _) (LeR.cons (LeA.refl _) (LeR.cons (LeA.refl _) (LeR.cons (LeA.refl _) (LeR.cons (LeA.refl _) (LeR.cons (LeA.refl _) (LeR.cons LeA.nil (LeR.cons (LeA.refl _) LeR.nil)))))))))))))), event_Check_C3_sim n e y1 _ tb2 gtb2, ⟨rfl, rfl⟩⟩) (pkE rfl)

theorem ordB_event_Check_C1 : ordB (polF 83) ord83 c_event_Check_C1 = true := by kernel_rfl
def event_Check_C1_S (e : Event) (y1 : Int) (sa : (List Int) × (List Int) × Int × Int × Int) : St := mkS 134 [(1, .ptr (.L 1) 0 0), (3, (vU y1)), (4, .ptr (.L 4) 0 0), (5, .ptr (.L 5) 0 0)] [(5, [(vI e.Hart), (vI e.At), (vI e.Kind), (vU sa.2.2.1), (vU 0), (vU 0), vF, vF, (vI sa.2.2.2.1), (vI sa.2.2.2.2), (vI 0), .sl (sa.1.map eI), .nilsl, .sl (sa.2.1.map eI)]), (4, (Deps.enc e.Deps)), (1, (Event.enc e))] [] 0
def event_Check_C1_T0 (e : Event) (y1 : Int) (tt : Int) : St := mkS 134 [(2, (vI tt))] [] [] 0
def event_Check_C1_out (e : Event) (y1 : Int) (tt : Int) : Ex × St := (.ret, event_Check_C1_T0 e y1 tt)
theorem event_Check_C1_p0 (e : Event) (y1 : Int) (sa : (List Int) × (List Int) × Int × Int × Int) (ta2 : Int) (K : Ex → St → Prop) : oR pc sc lp cd ⟨ord83, [rV 7 [(38, vT)]], [], [], [(9, (⟨[1, 3, 4, 5], [], 0, [], []⟩, ⟨[], [], []⟩, .ret, event_Check_C2_T0 e y1 ta2))]⟩ (polF 83) [(1, ⟨[2], [], 0, [], []⟩, ⟨[], [], []⟩)] c_event_Check_C1 (event_Check_C1_S e y1 sa) K
  = ((eqB ((andW .u64 y1 1) != 0) true) ∧ (cd c_event_Check_C2 (event_Check_C2_S e y1 (sa.1, sa.2.1, sa.2.2.1, e.Load, sa.2.2.2.1, sa.2.2.2.2)) (fun e' S' => e' = .ret ∧ S' = event_Check_C2_T0 e y1 ta2)) ∧ K .ret (event_Check_C1_T0 e y1 ta2)) := by kernel_rfl
theorem event_Check_C1_p1 (e : Event) (y1 : Int) (sa : (List Int) × (List Int) × Int × Int × Int) (ta2 : Int) (K : Ex → St → Prop) : oR pc sc lp cd ⟨ord83, [rV 7 [(38, vF)]], [], [], [(9, (⟨[1, 3, 4, 5], [], 0, [], []⟩, ⟨[], [], []⟩, .ret, event_Check_C2_T0 e y1 ta2))]⟩ (polF 83) [(1, ⟨[2], [], 0, [], []⟩, ⟨[], [], []⟩)] c_event_Check_C1 (event_Check_C1_S e y1 sa) K
  = ((eqB ((andW .u64 y1 1) != 0) false) ∧ (cd c_event_Check_C2 (event_Check_C2_S e y1 (sa.1, sa.2.1, sa.2.2.1, 0, sa.2.2.2.1, sa.2.2.2.2)) (fun e' S' => e' = .ret ∧ S' = event_Check_C2_T0 e y1 ta2)) ∧ K .ret (event_Check_C1_T0 e y1 ta2)) := by kernel_rfl
theorem event_Check_C1_sim (n : Nat) (e : Event) (y1 : Int) : ∀ sa t, event_Check_C1 n e y1 sa = some t → CodeD Try.prog c_event_Check_C1 (event_Check_C1_S e y1 sa) (pk (event_Check_C1_out e y1) t) := by
 intro sa t h
 unfold event_Check_C1 at h
 rcases iteE h with ⟨ha1, h⟩ | ⟨ha1, h⟩
 ·
  obtain ⟨ta2, gta2, h⟩ := bindE h
  obtain rfl := soI h
  exact okR ordB_event_Check_C1 (Eq.mpr (event_Check_C1_p0 pP sP lP dP e y1 sa ta2 _) ⟨cB ha1, event_Check_C2_sim n e y1 _ ta2 gta2, ⟨rfl, rfl⟩⟩) (pkE rfl)
 obtain ⟨ta2, gta2, h⟩ := bindE h
 obtain rfl := soI h
 exact okR ordB_event_Check_C1 (Eq.mpr (event_Check_C1_p1 pP sP lP dP e y1 sa ta2 _) ⟨cB ha1, event_Check_C2_sim n e y1 _ ta2 gta2, ⟨rfl, rfl⟩⟩) (pkE rfl)

theorem event_Check_p0 (e : Event) (y1 : Int) (t3 : Int) (K : AV → Prop) : oP pc sc lp cd ⟨ord83, [rVC 1 [] [(8, (vU y1))], rV 4 [(20, vT)]], [], [], [(7, (⟨[1, 3, 4, 5], [], 0, [], []⟩, ⟨[], [(5, [(vI e.Hart), (vI e.At), (vI e.Kind), (vU 0), (vU 0), (vU 0), vF, vF, (vI e.Pred), (vI e.Succ), (vI 0), .sl (([] : List Int).map eI), .nilsl, .sl (([] : List Int).map eI)])], []⟩, .ret, event_Check_C1_T0 e y1 t3))]⟩ 83 [(aAgg Event.enc e)] K
  = ((pc 78 [(vI e.Kind)] (eqA ((vU y1)))) ∧ (eqB ((andW .u64 y1 16) != 0) true) ∧ (LeR [(vI e.Hart), (vI e.At), (vI e.Kind), (vU 0), (vU 0), (vU 0), vF, vF, (vI e.Pred), (vI e.Succ), (vI 0), .nilsl, .nilsl, .nilsl] [(vI e.Hart), (vI e.At), (vI e.Kind), (vU 0), (vU 0), (vU 0), vF, vF, (vI e.Pred), (vI e.Succ), (vI 0), .sl (([] : List Int).map eI), .nilsl, .sl (([] : List Int).map eI)]) ∧ (cd c_event_Check_C1 (event_Check_C1_S e y1 (([] : List Int), ([] : List Int), 0, e.Pred, e.Succ)) (fun e' S' => e' = .ret ∧ S' = event_Check_C1_T0 e y1 t3)) ∧ K ((vI t3))) := by kernel_rfl
theorem event_Check_p1 (e : Event) (y1 : Int) (t3 : Int) (K : AV → Prop) : oP pc sc lp cd ⟨ord83, [rVC 1 [] [(8, (vU y1))], rV 4 [(20, vF)]], [], [], [(7, (⟨[1, 3, 4, 5], [], 0, [], []⟩, ⟨[], [], []⟩, .ret, event_Check_C1_T0 e y1 t3))]⟩ 83 [(aAgg Event.enc e)] K
  = ((pc 78 [(vI e.Kind)] (eqA ((vU y1)))) ∧ (eqB ((andW .u64 y1 16) != 0) false) ∧ (cd c_event_Check_C1 (event_Check_C1_S e y1 (e.Deps.Addr, e.Deps.Way, e.Addr, 0, 0)) (fun e' S' => e' = .ret ∧ S' = event_Check_C1_T0 e y1 t3)) ∧ K ((vI t3))) := by kernel_rfl
theorem event_Check_sim (n : Nat) (e : Event) (r : Int) (h : event_Check n e = some r) : PCall Try.prog 83 [(aAgg Event.enc e)] (eqA ((vI r))) := by
 unfold event_Check at h
 obtain ⟨y1, gy1, h⟩ := bindE h
 rcases iteN h with ⟨h2, h⟩ | ⟨h2, h⟩
 ·
  obtain ⟨t3, gt3, h⟩ := bindE h
  obtain rfl := soI h
  exact okP ordB83 (Eq.mpr (event_Check_p1 pP sP lP dP e y1 t3 _) (⟨(event_has_sim n e.Kind y1 gy1), cB h2, event_Check_C1_sim n e y1 _ t3 gt3, LeA.refl _⟩))
 obtain ⟨t3, gt3, h⟩ := bindE h
 obtain rfl := soI h
 exact okP ordB83 (Eq.mpr (event_Check_p0 pP sP lP dP e y1 t3 _) (⟨(event_has_sim n e.Kind y1 gy1), cB h2, (LeR.cons (LeA.refl _) (LeR.cons (LeA.refl _) (LeR.cons (LeA.refl _) (LeR.cons (LeA.refl _) (LeR.cons (LeA.refl _) (LeR.cons (LeA.refl _) (LeR.cons (LeA.refl _) (LeR.cons (LeA.refl _) (LeR.cons (LeA.refl _) (LeR.cons (LeA.refl _) (LeR.cons (LeA.refl _) (LeR.cons LeA.nil (LeR.cons (LeA.refl _) (LeR.cons LeA.nil LeR.nil)))))))))))))), event_Check_C1_sim n e y1 _ t3 gt3, LeA.refl _⟩))

def ord71 : List (Nat × PT) := [(11, (ptS [0, 1, 2, 3, 4, 5, 6, 7, 8, 9, 10, 11, 12, 13]))]
theorem ordB71 : ordB (polF 71) ord71 (bodyOf Try.prog 71) = true := by kernel_rfl
noncomputable def c_event_Row_L1 : Code := sub (bodyOf Try.prog 71) [1, 1, 0, 1, 0, 0]
theorem ordB_event_Row_L1 : ordB (polF 71) ord71 c_event_Row_L1 = true := by kernel_rfl
def event_Row_L1_S (hart : Int) (l : (List Event)) (sa : Int × Int) : St := mkS 52 [(0, (vI hart)), (1, .sl (l.map Event.enc)), (5, (vI sa.2)), (8, .sl (l.map Event.enc)), (9, (vI (l.length : Int))), (10, (vI sa.1))] [] [] 0
def event_Row_L1_T0 (hart : Int) (l : (List Event)) (tt : Unit) : St := mkS 52 [] [] [] 0
def event_Row_L1_T1 (hart : Int) (l : (List Event)) (tt : Unit) : St := mkS 52 [(4, (vI 4))] [] [] 0
def event_Row_L1_out (hart : Int) (l : (List Event)) (t0 : (Unit ⊕ Unit)) : Ex × St := match t0 with | .inl tt => (.ex 0, event_Row_L1_T0 hart l tt) | .inr tt => (.ret, event_Row_L1_T1 hart l tt)
theorem event_Row_L1_p0 (hart : Int) (l : (List Event)) (sa : Int × Int) (xa2 : Event) (ya3 : Int) (K : Ex → St → Prop) : oR pc sc lp cd ⟨ord71, [rV 3 [(11, vT)], (4, ⟨[], [], [(13, (Event.enc xa2))], [], [], [], [], []⟩), rVC 5 [(18, vT)] [(16, (vI ya3))]], [], [], []⟩ (polF 71) [(1, ⟨[4], [7], 0, [], []⟩, ⟨[], [], []⟩)] c_event_Row_L1 (event_Row_L1_S hart l sa) K
  = ((eqB (decide (sa.1 < (l.length : Int))) true) ∧ (at? (l.map Event.enc) sa.1 = some (Event.enc xa2)) ∧ (pc 83 [(aAgg Event.enc xa2)] (eqA ((vI ya3)))) ∧ (eqB (ya3 != 0) true) ∧ K .ret (event_Row_L1_T1 hart l ())) := by kernel_rfl
theorem event_Row_L1_p1 (hart : Int) (l : (List Event)) (sa : Int × Int) (xa2 : Event) (ya3 : Int) (K : Ex → St → Prop) : oR pc sc lp cd ⟨ord71, [rV 3 [(11, vT)], (4, ⟨[], [], [(13, (Event.enc xa2))], [], [], [], [], []⟩), rVC 5 [(18, vF), (24, vT)] [(16, (vI ya3))]], [], [], []⟩ (polF 71) [(1, ⟨[4], [7], 0, [], []⟩, ⟨[], [], []⟩)] c_event_Row_L1 (event_Row_L1_S hart l sa) K
  = ((eqB (decide (sa.1 < (l.length : Int))) true) ∧ (at? (l.map Event.enc) sa.1 = some (Event.enc xa2)) ∧ (pc 83 [(aAgg Event.enc xa2)] (eqA ((vI ya3)))) ∧ (eqB (ya3 != 0) false) ∧ (eqB (xa2.Hart != hart) true) ∧ K .ret (event_Row_L1_T1 hart l ())) := by kernel_rfl
theorem event_Row_L1_p2 (hart : Int) (l : (List Event)) (sa : Int × Int) (xa2 : Event) (ya3 : Int) (K : Ex → St → Prop) : oR pc sc lp cd ⟨ord71, [rV 3 [(11, vT)], (4, ⟨[], [], [(13, (Event.enc xa2))], [], [], [], [], []⟩), rVC 5 [(18, vF), (24, vF), (29, vT)] [(16, (vI ya3))]], [], [], []⟩ (polF 71) [(1, ⟨[4], [7], 0, [], []⟩, ⟨[], [], []⟩)] c_event_Row_L1 (event_Row_L1_S hart l sa) K
  = ((eqB (decide (sa.1 < (l.length : Int))) true) ∧ (at? (l.map Event.enc) sa.1 = some (Event.enc xa2)) ∧ (pc 83 [(aAgg Event.enc xa2)] (eqA ((vI ya3)))) ∧ (eqB (ya3 != 0) false) ∧ (eqB (xa2.Hart != hart) false) ∧ (eqB (xa2.At != sa.1) true) ∧ K .ret (event_Row_L1_T1 hart l ())) := by kernel_rfl
theorem event_Row_L1_p3 (hart : Int) (l : (List Event)) (sa : Int × Int) (xa2 : Event) (ya3 : Int) (K : Ex → St → Prop) : oR pc sc lp cd ⟨ord71, [rV 3 [(11, vT)], (4, ⟨[], [], [(13, (Event.enc xa2))], [], [], [], [], []⟩), rVC 5 [(18, vF), (24, vF), (29, vF)] [(16, (vI ya3))], rV 8 [(32, vT)]], [], [], []⟩ (polF 71) [(0, ⟨[0, 1, 5, 8, 9, 10], [7], 0, [], []⟩, ⟨[], [], []⟩)] c_event_Row_L1 (event_Row_L1_S hart l sa) K
  = ((eqB (decide (sa.1 < (l.length : Int))) true) ∧ (at? (l.map Event.enc) sa.1 = some (Event.enc xa2)) ∧ (pc 83 [(aAgg Event.enc xa2)] (eqA ((vI ya3)))) ∧ (eqB (ya3 != 0) false) ∧ (eqB (xa2.Hart != hart) false) ∧ (eqB (xa2.At != sa.1) false) ∧ (eqB (xa2.Kind == 3) true) ∧ K .nrm (event_Row_L1_S hart l ((addW .i64 sa.1 1), sa.1))) := by kernel_rfl
theorem event_Row_L1_p4 (hart : Int) (l : (List Event)) (sa : Int × Int) (xa2 : Event) (ya3 : Int) (K : Ex → St → Prop) : oR pc sc lp cd ⟨ord71, [rV 3 [(11, vT)], (4, ⟨[], [], [(13, (Event.enc xa2))], [], [], [], [], []⟩), rVC 5 [(18, vF), (24, vF), (29, vF)] [(16, (vI ya3))], rV 8 [(32, vF)], rV 10 [(35, vT)], rV 11 [(41, vT)]], [], [], []⟩ (polF 71) [(1, ⟨[4], [7], 0, [], []⟩, ⟨[], [], []⟩)] c_event_Row_L1 (event_Row_L1_S hart l sa) K
  = ((eqB (decide (sa.1 < (l.length : Int))) true) ∧ (at? (l.map Event.enc) sa.1 = some (Event.enc xa2)) ∧ (pc 83 [(aAgg Event.enc xa2)] (eqA ((vI ya3)))) ∧ (eqB (ya3 != 0) false) ∧ (eqB (xa2.Hart != hart) false) ∧ (eqB (xa2.At != sa.1) false) ∧ (eqB (xa2.Kind == 3) false) ∧ (eqB (xa2.Kind == 4) true) ∧ (eqB (xa2.Pair != sa.2) true) ∧ K .ret (event_Row_L1_T1 hart l ())) := by kernel_rfl
theorem event_Row_L1_p5 (hart : Int) (l : (List Event)) (sa : Int × Int) (xa2 : Event) (ya3 : Int) (xa10 : Event) (K : Ex → St → Prop) : oR pc sc lp cd ⟨ord71, [rV 3 [(11, vT)], (4, ⟨[], [], [(13, (Event.enc xa2))], [], [], [], [], []⟩), rVC 5 [(18, vF), (24, vF), (29, vF)] [(16, (vI ya3))], rV 8 [(32, vF)], rV 10 [(35, vT)], (11, ⟨[], [], [(44, (Event.enc xa10))], [(41, vF), (50, vT)], [], [], [], []⟩)], [], [], []⟩ (polF 71) [(1, ⟨[4], [7], 0, [], []⟩, ⟨[], [], []⟩)] c_event_Row_L1 (event_Row_L1_S hart l sa) K
  = ((eqB (decide (sa.1 < (l.length : Int))) true) ∧ (at? (l.map Event.enc) sa.1 = some (Event.enc xa2)) ∧ (pc 83 [(aAgg Event.enc xa2)] (eqA ((vI ya3)))) ∧ (eqB (ya3 != 0) false) ∧ (eqB (xa2.Hart != hart) false) ∧ (eqB (xa2.At != sa.1) false) ∧ (eqB (xa2.Kind == 3) false) ∧ (eqB (xa2.Kind == 4) true) ∧ (eqB (xa2.Pair != sa.2) false) ∧ (at? (l.map Event.enc) sa.2 = some (Event.enc xa10)) ∧ (eqB (xa10.Addr != xa2.Addr) true) ∧ K .ret (event_Row_L1_T1 hart l ())) := by kernel_rfl
theorem event_Row_L1_p6 (hart : Int) (l : (List Event)) (sa : Int × Int) (xa2 : Event) (ya3 : Int) (xa10 : Event) (K : Ex → St → Prop) : oR pc sc lp cd ⟨ord71, [rV 3 [(11, vT)], (4, ⟨[], [], [(13, (Event.enc xa2))], [], [], [], [], []⟩), rVC 5 [(18, vF), (24, vF), (29, vF)] [(16, (vI ya3))], rV 8 [(32, vF)], rV 10 [(35, vT)], (11, ⟨[], [], [(44, (Event.enc xa10))], [(41, vF), (50, vF)], [], [], [], []⟩)], [], [], []⟩ (polF 71) [(0, ⟨[0, 1, 5, 8, 9, 10], [7], 0, [], []⟩, ⟨[], [], []⟩)] c_event_Row_L1 (event_Row_L1_S hart l sa) K
  = ((eqB (decide (sa.1 < (l.length : Int))) true) ∧ (at? (l.map Event.enc) sa.1 = some (Event.enc xa2)) ∧ (pc 83 [(aAgg Event.enc xa2)] (eqA ((vI ya3)))) ∧ (eqB (ya3 != 0) false) ∧ (eqB (xa2.Hart != hart) false) ∧ (eqB (xa2.At != sa.1) false) ∧ (eqB (xa2.Kind == 3) false) ∧ (eqB (xa2.Kind == 4) true) ∧ (eqB (xa2.Pair != sa.2) false) ∧ (at? (l.map Event.enc) sa.2 = some (Event.enc xa10)) ∧ (eqB (xa10.Addr != xa2.Addr) false) ∧ K .nrm (event_Row_L1_S hart l ((addW .i64 sa.1 1), (-1)))) := by kernel_rfl
theorem event_Row_L1_p7 (hart : Int) (l : (List Event)) (sa : Int × Int) (xa2 : Event) (ya3 : Int) (K : Ex → St → Prop) : oR pc sc lp cd ⟨ord71, [rV 3 [(11, vT)], (4, ⟨[], [], [(13, (Event.enc xa2))], [], [], [], [], []⟩), rVC 5 [(18, vF), (24, vF), (29, vF)] [(16, (vI ya3))], rV 8 [(32, vF)], rV 10 [(35, vF)]], [], [], []⟩ (polF 71) [(0, ⟨[0, 1, 5, 8, 9, 10], [7], 0, [], []⟩, ⟨[], [], []⟩)] c_event_Row_L1 (event_Row_L1_S hart l sa) K
  = ((eqB (decide (sa.1 < (l.length : Int))) true) ∧ (at? (l.map Event.enc) sa.1 = some (Event.enc xa2)) ∧ (pc 83 [(aAgg Event.enc xa2)] (eqA ((vI ya3)))) ∧ (eqB (ya3 != 0) false) ∧ (eqB (xa2.Hart != hart) false) ∧ (eqB (xa2.At != sa.1) false) ∧ (eqB (xa2.Kind == 3) false) ∧ (eqB (xa2.Kind == 4) false) ∧ K .nrm (event_Row_L1_S hart l ((addW .i64 sa.1 1), sa.2))) := by kernel_rfl
theorem event_Row_L1_p8 (hart : Int) (l : (List Event)) (sa : Int × Int) (K : Ex → St → Prop) : oR pc sc lp cd ⟨ord71, [rV 3 [(11, vF)]], [], [], []⟩ (polF 71) [(2, ⟨[], [], 0, [], []⟩, ⟨[], [], []⟩)] c_event_Row_L1 (event_Row_L1_S hart l sa) K
  = ((eqB (decide (sa.1 < (l.length : Int))) false) ∧ K (.ex 0) (event_Row_L1_T0 hart l ())) := by kernel_rfl
theorem event_Row_L1_sim (n : Nat) (hart : Int) (l : (List Event)) : ∀ sa r, event_Row_L1 n hart l sa = some r → CodeD Try.prog c_event_Row_L1 (event_Row_L1_S hart l sa) (rk (event_Row_L1_S hart l) (event_Row_L1_out hart l) r) := by
 intro sa r h
 unfold event_Row_L1 at h
 rcases iteN h with ⟨ha1, h⟩ | ⟨ha1, h⟩
 ·
  obtain rfl := soI h
  exact okR ordB_event_Row_L1 (Eq.mpr (event_Row_L1_p8 pP sP lP dP hart l sa _) ⟨cB ha1, ⟨rfl, rfl⟩⟩) (rkE rfl neE)
 obtain ⟨xa2, gxa2, h⟩ := bindE h
 obtain ⟨ya3, gya3, h⟩ := bindE h
 rcases iteE h with ⟨ha4, h⟩ | ⟨ha4, h⟩
 ·
  obtain rfl := soI h
  exact okR ordB_event_Row_L1 (Eq.mpr (event_Row_L1_p0 pP sP lP dP hart l sa xa2 ya3 _) ⟨cB ha1, at_map Event.enc gxa2, (event_Check_sim n xa2 ya3 gya3), cB ha4, ⟨rfl, rfl⟩⟩) (rkE rfl neR)
 rcases iteE h with ⟨ha5, h⟩ | ⟨ha5, h⟩
 ·
  obtain rfl := soI h
  exact okR ordB_event_Row_L1 (Eq.mpr (event_Row_L1_p1 pP sP lP dP hart l sa xa2 ya3 _) ⟨cB ha1, at_map Event.enc gxa2, (event_Check_sim n xa2 ya3 gya3), cB ha4, cB ha5, ⟨rfl, rfl⟩⟩) (rkE rfl neR)
 rcases iteE h with ⟨ha6, h⟩ | ⟨ha6, h⟩
 ·
  obtain rfl := soI h
  exact okR ordB_event_Row_L1 (Eq.mpr (event_Row_L1_p2 pP sP lP dP hart l sa xa2 ya3 _) ⟨cB ha1, at_map Event.enc gxa2, (event_Check_sim n xa2 ya3 gya3), cB ha4, cB ha5, cB ha6, ⟨rfl, rfl⟩⟩) (rkE rfl neR)
 rcases iteE h with ⟨ha7, h⟩ | ⟨ha7, h⟩
 ·
  obtain rfl := soI h
  exact okR ordB_event_Row_L1 (Eq.mpr (event_Row_L1_p3 pP sP lP dP hart l sa xa2 ya3 _) ⟨cB ha1, at_map Event.enc gxa2, (event_Check_sim n xa2 ya3 gya3), cB ha4, cB ha5, cB ha6, cB ha7, ⟨rfl, rfl⟩⟩) rkN
 rcases iteN h with ⟨ha8, h⟩ | ⟨ha8, h⟩
 ·
  obtain rfl := soI h
  exact okR ordB_event_Row_L1 (Eq.mpr (event_Row_L1_p7 pP sP lP dP hart l sa xa2 ya3 _) ⟨cB ha1, at_map Event.enc gxa2, (event_Check_sim n xa2 ya3 gya3), cB ha4, cB ha5, cB ha6, cB ha7, cB ha8, ⟨rfl, rfl⟩⟩) rkN
 rcases iteE h with ⟨ha9, h⟩ | ⟨ha9, h⟩
 ·
  obtain rfl := soI h
  exact okR ordB_event_Row_L1 (Eq.mpr (event_Row_L1_p4 pP sP lP dP hart l sa xa2 ya3 _) ⟨cB ha1, at_map Event.enc gxa2, (event_Check_sim n xa2 ya3 gya3), cB ha4, cB ha5, cB ha6, cB ha7, cB ha8, cB ha9, ⟨rfl, rfl⟩⟩) (rkE rfl neR)
 obtain ⟨xa10, gxa10, h⟩ := bindE h
 rcases iteN h with ⟨ha11, h⟩ | ⟨ha11, h⟩
 ·
  obtain rfl := soI h
  exact okR ordB_event_Row_L1 (Eq.mpr (event_Row_L1_p6 pP sP lP dP hart l sa xa2 ya3 xa10 _) ⟨cB ha1, at_map Event.enc gxa2, (event_Check_sim n xa2 ya3 gya3), cB ha4, cB ha5, cB ha6, cB ha7, cB ha8, cB ha9, at_map Event.enc gxa10, cB ha11, ⟨rfl, rfl⟩⟩) rkN
 obtain rfl := soI h
 exact okR ordB_event_Row_L1 (Eq.mpr (event_Row_L1_p5 pP sP lP dP hart l sa xa2 ya3 xa10 _) ⟨cB ha1, at_map Event.enc gxa2, (event_Check_sim n xa2 ya3 gya3), cB ha4, cB ha5, cB ha6, cB ha7, cB ha8, cB ha9, at_map Event.enc gxa10, cB ha11, ⟨rfl, rfl⟩⟩) (rkE rfl neR)

theorem event_Row_p0 (hart : Int) (l : (List Event)) (w2 : Unit) (K : AV → Prop) : oP pc sc lp cd ⟨ord71, [rV 2 [(9, (vI (l.length : Int)))]], [], [(3, (⟨[0, 1, 5, 8, 9, 10], [], 0, [], []⟩, ⟨[], [], []⟩, (.ex 0), event_Row_L1_T0 hart l w2))], []⟩ 71 [(vI hart), .sl (l.map Event.enc)] K
  = ((AV.v (.int .i64 (((l.map Event.enc).length : Nat) : Int)) = AV.v (.int .i64 (l.length : Int))) ∧ (lp (polF 71) c_event_Row_L1 (event_Row_L1_S hart l (0, (-1))) (fun e' S' => e' = (.ex 0) ∧ S' = event_Row_L1_T0 hart l w2)) ∧ K ((vI 0))) := by kernel_rfl
theorem event_Row_p1 (hart : Int) (l : (List Event)) (w2 : Unit) (K : AV → Prop) : oP pc sc lp cd ⟨ord71, [rV 2 [(9, (vI (l.length : Int)))]], [], [(3, (⟨[0, 1, 5, 8, 9, 10], [], 0, [], []⟩, ⟨[], [], []⟩, .ret, event_Row_L1_T1 hart l w2))], []⟩ 71 [(vI hart), .sl (l.map Event.enc)] K
  = ((AV.v (.int .i64 (((l.map Event.enc).length : Nat) : Int)) = AV.v (.int .i64 (l.length : Int))) ∧ (lp (polF 71) c_event_Row_L1 (event_Row_L1_S hart l (0, (-1))) (fun e' S' => e' = .ret ∧ S' = event_Row_L1_T1 hart l w2)) ∧ K ((vI 4))) := by kernel_rfl
theorem event_Row_sim (n : Nat) (hart : Int) (l : (List Event)) (r : Int) (h : event_Row n hart l = some r) : PCall Try.prog 71 [(vI hart), .sl (l.map Event.enc)] (eqA ((vI r))) := by
 unfold event_Row at h
 obtain ⟨t1, gt1, h⟩ := bindE h
 rcases t1 with w2 | w2
 ·
  obtain rfl := soI h
  exact okP ordB71 (Eq.mpr (event_Row_p0 pP sP lP dP hart l w2 _) (⟨len_map _ _, okL (event_Row_L1_S hart l) (event_Row_L1_out hart l) (event_Row_L1_sim n hart l) n _ (.inl w2) gt1, LeA.refl _⟩))
 ·
  obtain rfl := soI h
  exact okP ordB71 (Eq.mpr (event_Row_p1 pP sP lP dP hart l w2 _) (⟨len_map _ _, okL (event_Row_L1_S hart l) (event_Row_L1_out hart l) (event_Row_L1_sim n hart l) n _ (.inr w2) gt1, LeA.refl _⟩))

def ord75 : List (Nat × PT) := []
theorem ordB75 : ordB (polF 75) ord75 (bodyOf Try.prog 75) = true := by kernel_rfl
def slices_Grow_api_Event_api_Event_S_R (n_ : Int) (y0 : ((Nat × Nat × Nat × (List Event)) ⊕ Unit)) : AV × List Ob := match y0 with | .inl y => (.msl 0 y.1 y.2.1 y.2.2.1, [.arr true 14 (y.2.2.2.map Event.enc)]) | .inr y => (.nilsl, [])
theorem slices_Grow_api_Event_api_Event_S_p1 (n_ : Int) (K : AV → List Ob → Prop) : ostore (cx pc sc lp) cd ⟨ord75, [rV 1 [(6, vF)], rV 4 [(16, vT)], (5, ⟨[], [22, 25], [], [(25, .msl 0 0 0 (((subW .i64 n_ 0)).toNat))], [], [], [], []⟩)], [(5, ⟨[], [], [(0, (List.replicate ((subW .i64 n_ 0)).toNat (Event.mk 0 0 0 0 0 0 false false 0 0 0 (Deps.mk ([] : List Int) ([] : List Int) ([] : List Int)))).map Event.enc)]⟩)], [], []⟩ 75 [.nilsl, (vI n_)] [] K
  = ((eqB (decide (n_ < 0)) false) ∧ (eqB (decide ((subW .i64 n_ 0) > 0)) true) ∧ ((Nat.blt 0 14 && Nat.blt 0 152 && decide (0 < (subW .i64 n_ 0)) && decide ((subW .i64 n_ 0) * 152 ≤ 140737488355328) && decide ((subW .i64 n_ 0) ≤ 140737488355328)) = true) ∧ ((decide (0 ≤ 0) && decide (0 ≤ (((List.replicate ((subW .i64 n_ 0)).toNat ([(vI 0), (vI 0), (vI 0), (vU 0), (vU 0), (vU 0), vF, vF, (vI 0), (vI 0), (vI 0), .nilsl, .nilsl, .nilsl] : List AV)).length : Nat) : Int))) = true) ∧ (AV.msl 0 0 (0 - 0) ((List.replicate ((subW .i64 n_ 0)).toNat ([(vI 0), (vI 0), (vI 0), (vU 0), (vU 0), (vU 0), vF, vF, (vI 0), (vI 0), (vI 0), .nilsl, .nilsl, .nilsl] : List AV)).length - 0) = AV.msl 0 0 0 (((subW .i64 n_ 0)).toNat)) ∧ (LeRs (List.replicate ((subW .i64 n_ 0)).toNat ([(vI 0), (vI 0), (vI 0), (vU 0), (vU 0), (vU 0), vF, vF, (vI 0), (vI 0), (vI 0), .nilsl, .nilsl, .nilsl] : List AV)) ((List.replicate ((subW .i64 n_ 0)).toNat (Event.mk 0 0 0 0 0 0 false false 0 0 0 (Deps.mk ([] : List Int) ([] : List Int) ([] : List Int)))).map Event.enc)) ∧ K (.msl 0 0 0 (((subW .i64 n_ 0)).toNat)) [.arr true 14 ((List.replicate ((subW .i64 n_ 0)).toNat (Event.mk 0 0 0 0 0 0 false false 0 0 0 (Deps.mk ([] : List Int) ([] : List Int) ([] : List Int)))).map Event.enc)]) := by kernel_rfl
theorem slices_Grow_api_Event_api_Event_S_p2 (n_ : Int) (K : AV → List Ob → Prop) : ostore (cx pc sc lp) cd ⟨ord75, [rV 1 [(6, vF)], rV 4 [(16, vF)]], [], [], []⟩ 75 [.nilsl, (vI n_)] [] K
  = ((eqB (decide (n_ < 0)) false) ∧ (eqB (decide ((subW .i64 n_ 0) > 0)) false) ∧ K (.nilsl) []) := by kernel_rfl
theorem slices_Grow_api_Event_api_Event_S_sim (n : Nat) (n_ : Int) (y : ((Nat × Nat × Nat × (List Event)) ⊕ Unit)) (h : slices_Grow_api_Event_api_Event_S n n_ = some y) : SD Try.prog 75 [.nilsl, (vI n_)] [] (fun r' o' => r' = (slices_Grow_api_Event_api_Event_S_R n_ y).1 ∧ o' = (slices_Grow_api_Event_api_Event_S_R n_ y).2) := by
 unfold slices_Grow_api_Event_api_Event_S at h
 rcases iteE h with ⟨h1, h⟩ | ⟨h1, h⟩
 ·
  cases h
 rcases iteN h with ⟨h2, h⟩ | ⟨h2, h⟩
 ·
  obtain rfl := soI h
  exact okS ordB75 (Eq.mpr (slices_Grow_api_Event_api_Event_S_p2 pP sP lP dP n_ _) (⟨cB h1, cB h2, ⟨rfl, rfl⟩⟩)) ⟨rfl, rfl⟩
 obtain ⟨h3, h⟩ := grdE h
 obtain ⟨h4, h⟩ := grdE h
 obtain rfl := soI h
 exact okS ordB75 (Eq.mpr (slices_Grow_api_Event_api_Event_S_p1 pP sP lP dP n_ _) (⟨cB h1, cB h2, h3, (by rw [List.length_replicate]; exact h4), rep_len _ _ _ _ _ _, rep_le Event.enc _ (LeR.cons (LeA.refl _) (LeR.cons (LeA.refl _) (LeR.cons (LeA.refl _) (LeR.cons (LeA.refl _) (LeR.cons (LeA.refl _) (LeR.cons (LeA.refl _) (LeR.cons (LeA.refl _) (LeR.cons (LeA.refl _) (LeR.cons (LeA.refl _) (LeR.cons (LeA.refl _) (LeR.cons (LeA.refl _) (LeR.cons LeA.nil (LeR.cons LeA.nil (LeR.cons LeA.nil LeR.nil)))))))))))))), ⟨rfl, rfl⟩⟩)) ⟨rfl, rfl⟩

end
end Go.Proofs.Ytigcbjbaibcgfaa
