/- What the functions compute, they compute: printed by a program, path by path. No conditions. -/
import Derived.Test.YtigcbjbaibcgfaaP4
import Derived.KernelRfl
namespace Go.Proofs.Ytigcbjbaibcgfaa
open Go A
set_option linter.unusedVariables false
set_option maxRecDepth 100000
set_option maxHeartbeats 0
section
variable (pc : Nat → List AV → (AV → Prop) → Prop) (sc : Nat → List AV → List Ob → (AV → List Ob → Prop) → Prop) (lp : Pol → Code → St → (Ex → St → Prop) → Prop) (cd : CutP)

theorem ppo_view_ahead2_p0 (a : Int) (b : Int) (K : AV → Prop) : oP pc sc lp cd ⟨ord35, [], [], [], []⟩ 35 [.nilp, (vI a), (vI b)] K
  = (K (vF)) := by kernel_rfl
theorem ppo_view_ahead2_sim (n : Nat) (a : Int) (b : Int) (r : Bool) (h : ppo_view_ahead2 n a b = some r) : PCall Try.prog 35 [.nilp, (vI a), (vI b)] (eqA (.v (.bool r))) := by
 unfold ppo_view_ahead2 at h
 obtain rfl := soI h
 exact okP ordB35 (Eq.mpr (ppo_view_ahead2_p0 pP sP lP dP a b _) (LeA.refl _))

theorem ppo_view_rule2_p0 (a : Int) (b : Int) (y1 : Bool) (K : AV → Prop) : oP pc sc lp cd ⟨ord29, [rVC 1 [(13, vT)] [(12, .v (.bool y1))]], [], [], []⟩ 29 [.nilp, (vI a), (vI b)] K
  = ((pc 35 [.nilp, (vI a), (vI b)] (eqA (.v (.bool y1)))) ∧ (eqB (!y1) true) ∧ K ((vI 0))) := by kernel_rfl
theorem ppo_view_rule2_sim (n : Nat) (a : Int) (b : Int) (r : Int) (h : ppo_view_rule2 n a b = some r) : PCall Try.prog 29 [.nilp, (vI a), (vI b)] (eqA ((vI r))) := by
 unfold ppo_view_rule2 at h
 obtain ⟨y1, gy1, h⟩ := bindE h
 rcases iteN h with ⟨h2, h⟩ | ⟨h2, h⟩
 ·
  obtain ⟨y3, gy3, h⟩ := bindE h
  cases h
 obtain rfl := soI h
 exact okP ordB29 (Eq.mpr (ppo_view_rule2_p0 pP sP lP dP a b y1 _) (⟨(ppo_view_ahead2_sim n a b y1 gy1), cB h2, LeA.refl _⟩))

def ord13 : List (Nat × PT) := []
theorem ordB13 : ordB (polF 13) ord13 (bodyOf Try.prog 13) = true := by kernel_rfl
theorem ppo_Rule_p0 (c : Cand) (a : Int) (b : Int) (y2 : Int) (K : AV → Prop) : oP pc sc lp cd ⟨ord13, [rVC 1 [] [(7, .nilp), (10, (vI y2))]], [], [], []⟩ 13 [(aAgg Cand.enc c), (vI a), (vI b)] K
  = ((pc 28 [.fptr (Cand.enc c) 0] (eqA (.nilp))) ∧ (pc 29 [.nilp, (vI a), (vI b)] (eqA ((vI y2)))) ∧ K ((vI y2))) := by kernel_rfl
theorem ppo_Rule_p1 (c : Cand) (a : Int) (b : Int) (z2 : ppo_view) (y3 : Int) (K : AV → Prop) : oP pc sc lp cd ⟨ord13, [rVC 1 [] [(7, .fptr (ppo_view.enc z2) 0), (10, (vI y3))]], [], [], []⟩ 13 [(aAgg Cand.enc c), (vI a), (vI b)] K
  = ((pc 28 [.fptr (Cand.enc c) 0] (eqA (.fptr (ppo_view.enc z2) 0))) ∧ (pc 29 [.fptr (ppo_view.enc z2) 0, (vI a), (vI b)] (eqA ((vI y3)))) ∧ K ((vI y3))) := by kernel_rfl
theorem ppo_Rule_sim (n : Nat) (c : Cand) (a : Int) (b : Int) (r : Int) (h : ppo_Rule n c a b = some r) : PCall Try.prog 13 [(aAgg Cand.enc c), (vI a), (vI b)] (eqA ((vI r))) := by
 unfold ppo_Rule at h
 obtain ⟨y1, gy1, h⟩ := bindE h
 rcases y1 with _ | z2
 ·
  obtain ⟨y2, gy2, h⟩ := bindE h
  obtain rfl := soI h
  exact okP ordB13 (Eq.mpr (ppo_Rule_p0 pP sP lP dP c a b y2 _) (⟨(ppo_of_sim n c none gy1), (ppo_view_rule2_sim n a b y2 gy2), LeA.refl _⟩))
 ·
  obtain ⟨y3, gy3, h⟩ := bindE h
  obtain rfl := soI h
  exact okP ordB13 (Eq.mpr (ppo_Rule_p1 pP sP lP dP c a b z2 y3 _) (⟨(ppo_of_sim n c (some z2) gy1), (ppo_view_rule_sim n z2 a b y3 gy3), LeA.refl _⟩))

def ord7 : List (Nat × PT) := []
theorem ordB7 : ordB (polF 7) ord7 (bodyOf Try.prog 7) = true := by kernel_rfl
theorem law_lives_p0 (y1 : Cand) (y2 : Int) (y4 : (List Event)) (y5 : Cand) (y6 : Int) (K : AV → Prop) : oP pc sc lp cd ⟨ord7, [rVC 1 [(4, vT)] [(1, (aAgg Cand.enc y1)), (2, (vI y2)), (5, .sl (y4.map Event.enc)), (6, (aAgg Cand.enc y5)), (7, (vI y6))]], [], [], []⟩ 7 [] K
  = ((pc 20 [.nilsl] (eqA ((aAgg Cand.enc y1)))) ∧ (pc 13 [(aAgg Cand.enc y1), (vI 0), (vI 1)] (eqA ((vI y2)))) ∧ (eqB (y2 == 0) true) ∧ (pc 21 [(vI 1), (vI 2)] (eqA (.sl (y4.map Event.enc)))) ∧ (pc 20 [.sl (y4.map Event.enc)] (eqA ((aAgg Cand.enc y5)))) ∧ (pc 13 [(aAgg Cand.enc y5), (vI 0), (vI 2)] (eqA ((vI y6)))) ∧ K (.v (.bool (y6 == 4)))) := by kernel_rfl
theorem law_lives_p1 (y1 : Cand) (y2 : Int) (K : AV → Prop) : oP pc sc lp cd ⟨ord7, [rVC 1 [(4, vF)] [(1, (aAgg Cand.enc y1)), (2, (vI y2))]], [], [], []⟩ 7 [] K
  = ((pc 20 [.nilsl] (eqA ((aAgg Cand.enc y1)))) ∧ (pc 13 [(aAgg Cand.enc y1), (vI 0), (vI 1)] (eqA ((vI y2)))) ∧ (eqB (y2 == 0) false) ∧ K (vF)) := by kernel_rfl
theorem law_lives_sim (n : Nat) (r : Bool) (h : law_lives n = some r) : PCall Try.prog 7 [] (eqA (.v (.bool r))) := by
 unfold law_lives at h
 obtain ⟨y1, gy1, h⟩ := bindE h
 obtain ⟨y2, gy2, h⟩ := bindE h
 rcases iteN h with ⟨h3, h⟩ | ⟨h3, h⟩
 ·
  obtain rfl := soI h
  exact okP ordB7 (Eq.mpr (law_lives_p1 pP sP lP dP y1 y2 _) (⟨(law_example_sim n ([] : List Event) y1 gy1).le (LeR.cons LeA.nil LeR.nil), (ppo_Rule_sim n y1 0 1 y2 gy2), cB h3, LeA.refl _⟩))
 obtain ⟨y4, gy4, h⟩ := bindE h
 obtain ⟨y5, gy5, h⟩ := bindE h
 obtain ⟨y6, gy6, h⟩ := bindE h
 obtain rfl := soI h
 exact okP ordB7 (Eq.mpr (law_lives_p0 pP sP lP dP y1 y2 y4 y5 y6 _) (⟨(law_example_sim n ([] : List Event) y1 gy1).le (LeR.cons LeA.nil LeR.nil), (ppo_Rule_sim n y1 0 1 y2 gy2), cB h3, (law_fence_sim n 1 2 y4 gy4), (law_example_sim n y4 y5 gy5), (ppo_Rule_sim n y5 0 2 y6 gy6), LeA.refl _⟩))

def ord46 : List (Nat × PT) := [(0, (ptS [0, 1, 2, 3, 4, 5, 6, 7, 8, 9, 10]))]
theorem ordB46 : ordB (polF 46) ord46 (bodyOf Try.prog 46) = true := by kernel_rfl
def ppo_set_put_S_R (n_ : Int) (ob : (List Int)) (y : (List Int)) : AV × List Ob := (.tup [], [.arr true 1 (y.map (eInt .u64))])
theorem ppo_set_put_S_p0 (n_ : Int) (ob : (List Int)) (x1 : Int) (K : AV → List Ob → Prop) : ostore (cx pc sc lp) cd ⟨ord46, [(0, ⟨[], [11], [(7, [(vU x1)]), (8, [(vU x1)]), (13, [(vU x1)]), (1000013, [(vU x1)])], [], [], [], [(1000013, (0, (ob.set ((quoW .i64 n_ 64)).toNat (orW .u64 x1 (shlW .u64 1 (remW .i64 n_ 64)))).map (eInt .u64)))], []⟩)], [], [], []⟩ 46 [.mf 0, (vI n_)] [.arr true 1 (ob.map (eInt .u64))] K
  = ((at? (ob.map (eInt .u64)) (quoW .i64 n_ 64) = some [(vU x1)]) ∧ ((ob.map (eInt .u64))[((quoW .i64 n_ 64)).toNat]? = some [(vU x1)]) ∧ ((decide (0 ≤ (remW .i64 n_ 64))) = true) ∧ (at? (ob.map (eInt .u64)) (quoW .i64 n_ 64) = some [(vU x1)]) ∧ ((ob.map (eInt .u64))[((quoW .i64 n_ 64)).toNat]? = some [(vU x1)]) ∧ ((ob.map (eInt .u64)).set ((quoW .i64 n_ 64)).toNat [(vU (orW .u64 x1 (shlW .u64 1 (remW .i64 n_ 64))))] = (ob.set ((quoW .i64 n_ 64)).toNat (orW .u64 x1 (shlW .u64 1 (remW .i64 n_ 64)))).map (eInt .u64)) ∧ K (.tup []) [.arr true 1 ((ob.set ((quoW .i64 n_ 64)).toNat (orW .u64 x1 (shlW .u64 1 (remW .i64 n_ 64)))).map (eInt .u64))]) := by kernel_rfl
theorem ppo_set_put_S_sim (n : Nat) (n_ : Int) (ob : (List Int)) (y : (List Int)) (h : ppo_set_put_S n n_ ob = some y) : SD Try.prog 46 [.mf 0, (vI n_)] [.arr true 1 (ob.map (eInt .u64))] (fun r' o' => r' = (ppo_set_put_S_R n_ ob y).1 ∧ o' = (ppo_set_put_S_R n_ ob y).2) := by
 unfold ppo_set_put_S at h
 obtain ⟨x1, gx1, h⟩ := bindE h
 obtain ⟨h2, h⟩ := grdE h
 obtain rfl := soI h
 exact okS ordB46 (Eq.mpr (ppo_set_put_S_p0 pP sP lP dP n_ ob x1 _) (⟨at_map (eInt .u64) gx1, at_map' (eInt .u64) gx1, h2, at_map (eInt .u64) gx1, at_map' (eInt .u64) gx1, set_map (eInt .u64) ob (((quoW .i64 n_ 64)).toNat) (orW .u64 x1 (shlW .u64 1 (remW .i64 n_ 64))), ⟨rfl, rfl⟩⟩)) ⟨rfl, rfl⟩

def ord77 : List (Nat × PT) := []
theorem ordB77 : ordB (polF 77) ord77 (bodyOf Try.prog 77) = true := by kernel_rfl
theorem math_bits_OnesCount64_p0 (x : Int) (K : AV → Prop) : oP pc sc lp cd ⟨ord77, [], [], [], []⟩ 77 [(vU x)] K
  = (K (.v (.int .i64 (andW .i64 (IntKind.wrap .i64 (addW .u64 (addW .u64 (addW .u64 (andW .u64 (addW .u64 (shrW .u64 (addW .u64 (andW .u64 (shrW .u64 (addW .u64 (andW .u64 (shrW .u64 x 1) 6148914691236517205) (andW .u64 x 6148914691236517205)) 2) 3689348814741910323) (andW .u64 (addW .u64 (andW .u64 (shrW .u64 x 1) 6148914691236517205) (andW .u64 x 6148914691236517205)) 3689348814741910323)) 4) (addW .u64 (andW .u64 (shrW .u64 (addW .u64 (andW .u64 (shrW .u64 x 1) 6148914691236517205) (andW .u64 x 6148914691236517205)) 2) 3689348814741910323) (andW .u64 (addW .u64 (andW .u64 (shrW .u64 x 1) 6148914691236517205) (andW .u64 x 6148914691236517205)) 3689348814741910323))) 1085102592571150095) (shrW .u64 (andW .u64 (addW .u64 (shrW .u64 (addW .u64 (andW .u64 (shrW .u64 (addW .u64 (andW .u64 (shrW .u64 x 1) 6148914691236517205) (andW .u64 x 6148914691236517205)) 2) 3689348814741910323) (andW .u64 (addW .u64 (andW .u64 (shrW .u64 x 1) 6148914691236517205) (andW .u64 x 6148914691236517205)) 3689348814741910323)) 4) (addW .u64 (andW .u64 (shrW .u64 (addW .u64 (andW .u64 (shrW .u64 x 1) 6148914691236517205) (andW .u64 x 6148914691236517205)) 2) 3689348814741910323) (andW .u64 (addW .u64 (andW .u64 (shrW .u64 x 1) 6148914691236517205) (andW .u64 x 6148914691236517205)) 3689348814741910323))) 1085102592571150095) 8)) (shrW .u64 (addW .u64 (andW .u64 (addW .u64 (shrW .u64 (addW .u64 (andW .u64 (shrW .u64 (addW .u64 (andW .u64 (shrW .u64 x 1) 6148914691236517205) (andW .u64 x 6148914691236517205)) 2) 3689348814741910323) (andW .u64 (addW .u64 (andW .u64 (shrW .u64 x 1) 6148914691236517205) (andW .u64 x 6148914691236517205)) 3689348814741910323)) 4) (addW .u64 (andW .u64 (shrW .u64 (addW .u64 (andW .u64 (shrW .u64 x 1) 6148914691236517205) (andW .u64 x 6148914691236517205)) 2) 3689348814741910323) (andW .u64 (addW .u64 (andW .u64 (shrW .u64 x 1) 6148914691236517205) (andW .u64 x 6148914691236517205)) 3689348814741910323))) 1085102592571150095) (shrW .u64 (andW .u64 (addW .u64 (shrW .u64 (addW .u64 (andW .u64 (shrW .u64 (addW .u64 (andW .u64 (shrW .u64 x 1) 6148914691236517205) (andW .u64 x 6148914691236517205)) 2) 3689348814741910323) (andW .u64 (addW .u64 (andW .u64 (shrW .u64 x 1) 6148914691236517205) (andW .u64 x 6148914691236517205)) 3689348814741910323)) 4) (addW .u64 (andW .u64 (shrW .u64 (addW .u64 (andW .u64 (shrW .u64 x 1) 6148914691236517205) (andW .u64 x 6148914691236517205)) 2) 3689348814741910323) (andW .u64 (addW .u64 (andW .u64 (shrW .u64 x 1) 6148914691236517205) (andW .u64 x 6148914691236517205)) 3689348814741910323))) 1085102592571150095) 8)) 16)) (shrW .u64 (addW .u64 (addW .u64 (andW .u64 (addW .u64 (shrW .u64 (addW .u64 (andW .u64 (shrW .u64 (addW .u64 (andW .u64 (shrW .u64 x 1) 6148914691236517205) (andW .u64 x 6148914691236517205)) 2) 3689348814741910323) (andW .u64 (addW .u64 (andW .u64 (shrW .u64 x 1) 6148914691236517205) (andW .u64 x 6148914691236517205)) 3689348814741910323)) 4) (addW .u64 (andW .u64 (shrW .u64 (addW .u64 (andW .u64 (shrW .u64 x 1) 6148914691236517205) (andW .u64 x 6148914691236517205)) 2) 3689348814741910323) (andW .u64 (addW .u64 (andW .u64 (shrW .u64 x 1) 6148914691236517205) (andW .u64 x 6148914691236517205)) 3689348814741910323))) 1085102592571150095) (shrW .u64 (andW .u64 (addW .u64 (shrW .u64 (addW .u64 (andW .u64 (shrW .u64 (addW .u64 (andW .u64 (shrW .u64 x 1) 6148914691236517205) (andW .u64 x 6148914691236517205)) 2) 3689348814741910323) (andW .u64 (addW .u64 (andW .u64 (shrW .u64 x 1) 6148914691236517205) (andW .u64 x 6148914691236517205)) 3689348814741910323)) 4) (addW .u64 (andW .u64 (shrW .u64 (addW .u64 (andW .u64 (shrW .u64 x 1) 6148914691236517205) (andW .u64 x 6148914691236517205)) 2) 3689348814741910323) (andW .u64 (addW .u64 (andW .u64 (shrW .u64 x 1) 6148914691236517205) (andW .u64 x 6148914691236517205)) 3689348814741910323))) 1085102592571150095) 8)) (shrW .u64 (addW .u64 (andW .u64 (addW .u64 (shrW .u64 (addW .u64 (andW .u64 (shrW .u64 (addW .u64 (andW .u64 (shrW .u64 x 1) 6148914691236517205) (andW .u64 x 6148914691236517205)) 2) 3689348814741910323) (andW .u64 (addW .u64 (andW .u64 (shrW .u64 x 1) 6148914691236517205) (andW .u64 x 6148914691236517205)) 3689348814741910323)) 4) (addW .u64 (andW .u64 (shrW .u64 (addW .u64 (andW .u64 (shrW .u64 x 1) 6148914691236517205) (andW .u64 x 6148914691236517205)) 2) 3689348814741910323) (andW .u64 (addW .u64 (andW .u64 (shrW .u64 x 1) 6148914691236517205) (andW .u64 x 6148914691236517205)) 3689348814741910323))) 1085102592571150095) (shrW .u64 (andW .u64 (addW .u64 (shrW .u64 (addW .u64 (andW .u64 (shrW .u64 (addW .u64 (andW .u64 (shrW .u64 x 1) 6148914691236517205) (andW .u64 x 6148914691236517205)) 2) 3689348814741910323) (andW .u64 (addW .u64 (andW .u64 (shrW .u64 x 1) 6148914691236517205) (andW .u64 x 6148914691236517205)) 3689348814741910323)) 4) (addW .u64 (andW .u64 (shrW .u64 (addW .u64 (andW .u64 (shrW .u64 x 1) 6148914691236517205) (andW .u64 x 6148914691236517205)) 2) 3689348814741910323) (andW .u64 (addW .u64 (andW .u64 (shrW .u64 x 1) 6148914691236517205) (andW .u64 x 6148914691236517205)) 3689348814741910323))) 1085102592571150095) 8)) 16)) 32))) 127)))) := by kernel_rfl
theorem math_bits_OnesCount64_sim (n : Nat) (x : Int) (r : Int) (h : math_bits_OnesCount64 n x = some r) : PCall Try.prog 77 [(vU x)] (eqA ((vI r))) := by
 unfold math_bits_OnesCount64 at h
 obtain rfl := soI h
 exact okP ordB77 (Eq.mpr (math_bits_OnesCount64_p0 pP sP lP dP x _) (LeA.refl _))

def ord47 : List (Nat × PT) := []
theorem ordB47 : ordB (polF 47) ord47 (bodyOf Try.prog 47) = true := by kernel_rfl
noncomputable def c_ppo_set_count_L1 : Code := sub (bodyOf Try.prog 47) [1, 0, 1, 0, 0]
theorem ordB_ppo_set_count_L1 : ordB (polF 47) ord47 c_ppo_set_count_L1 = true := by kernel_rfl
def ppo_set_count_L1_S (s_ : (List Int)) (sa : Int × Int) : St := mkS 17 [(2, (vI sa.1)), (5, .sl (s_.map (eInt .u64))), (6, (vI (s_.length : Int))), (7, (vI sa.2))] [] [] 0
def ppo_set_count_L1_T0 (s_ : (List Int)) (tt : Int) : St := mkS 17 [(2, (vI tt))] [] [] 0
def ppo_set_count_L1_out (s_ : (List Int)) (tt : Int) : Ex × St := (.ex 0, ppo_set_count_L1_T0 s_ tt)
theorem ppo_set_count_L1_p0 (s_ : (List Int)) (sa : Int × Int) (xa2 : Int) (ya3 : Int) (K : Ex → St → Prop) : oR pc sc lp cd ⟨ord47, [rV 2 [(8, vT)], (3, ⟨[], [], [(9, [(vU xa2)])], [], [], [], [], []⟩), rVC 4 [] [(13, (vI ya3))]], [], [], []⟩ (polF 47) [(0, ⟨[2, 5, 6, 7], [], 0, [], []⟩, ⟨[], [], []⟩)] c_ppo_set_count_L1 (ppo_set_count_L1_S s_ sa) K
  = ((eqB (decide (sa.2 < (s_.length : Int))) true) ∧ (at? (s_.map (eInt .u64)) sa.2 = some [(vU xa2)]) ∧ (pc 77 [(vU xa2)] (eqA ((vI ya3)))) ∧ K .nrm (ppo_set_count_L1_S s_ ((addW .i64 sa.1 ya3), (addW .i64 sa.2 1)))) := by kernel_rfl
theorem ppo_set_count_L1_p1 (s_ : (List Int)) (sa : Int × Int) (K : Ex → St → Prop) : oR pc sc lp cd ⟨ord47, [rV 2 [(8, vF)]], [], [], []⟩ (polF 47) [(2, ⟨[2], [], 0, [], []⟩, ⟨[], [], []⟩)] c_ppo_set_count_L1 (ppo_set_count_L1_S s_ sa) K
  = ((eqB (decide (sa.2 < (s_.length : Int))) false) ∧ K (.ex 0) (ppo_set_count_L1_T0 s_ sa.1)) := by kernel_rfl
theorem ppo_set_count_L1_sim (n : Nat) (s_ : (List Int)) : ∀ sa r, ppo_set_count_L1 n s_ sa = some r → CodeD Try.prog c_ppo_set_count_L1 (ppo_set_count_L1_S s_ sa) (rk (ppo_set_count_L1_S s_) (ppo_set_count_L1_out s_) r) := by
 intro sa r h
 unfold ppo_set_count_L1 at h
 rcases iteN h with ⟨ha1, h⟩ | ⟨ha1, h⟩
 ·
  obtain rfl := soI h
  exact okR ordB_ppo_set_count_L1 (Eq.mpr (ppo_set_count_L1_p1 pP sP lP dP s_ sa _) ⟨cB ha1, ⟨rfl, rfl⟩⟩) (rkE rfl neE)
 obtain ⟨xa2, gxa2, h⟩ := bindE h
 obtain ⟨ya3, gya3, h⟩ := bindE h
 obtain rfl := soI h
 exact okR ordB_ppo_set_count_L1 (Eq.mpr (ppo_set_count_L1_p0 pP sP lP dP s_ sa xa2 ya3 _) ⟨cB ha1, at_map (eInt .u64) gxa2, (math_bits_OnesCount64_sim n xa2 ya3 gya3), ⟨rfl, rfl⟩⟩) rkN

theorem ppo_set_count_p0 (s_ : (List Int)) (t1 : Int) (K : AV → Prop) : oP pc sc lp cd ⟨ord47, [rV 1 [(6, (vI (s_.length : Int)))]], [], [(2, (⟨[2, 5, 6, 7], [], 0, [], []⟩, ⟨[], [], []⟩, (.ex 0), ppo_set_count_L1_T0 s_ t1))], []⟩ 47 [.sl (s_.map (eInt .u64))] K
  = ((AV.v (.int .i64 (((s_.map (eInt .u64)).length : Nat) : Int)) = AV.v (.int .i64 (s_.length : Int))) ∧ (lp (polF 47) c_ppo_set_count_L1 (ppo_set_count_L1_S s_ (0, 0)) (fun e' S' => e' = (.ex 0) ∧ S' = ppo_set_count_L1_T0 s_ t1)) ∧ K ((vI t1))) := by kernel_rfl
theorem ppo_set_count_sim (n : Nat) (s_ : (List Int)) (r : Int) (h : ppo_set_count n s_ = some r) : PCall Try.prog 47 [.sl (s_.map (eInt .u64))] (eqA ((vI r))) := by
 unfold ppo_set_count at h
 obtain ⟨t1, gt1, h⟩ := bindE h
 obtain rfl := soI h
 exact okP ordB47 (Eq.mpr (ppo_set_count_p0 pP sP lP dP s_ t1 _) (⟨len_map _ _, okL (ppo_set_count_L1_S s_) (ppo_set_count_L1_out s_) (ppo_set_count_L1_sim n s_) n _ t1 gt1, LeA.refl _⟩))

def ord48 : List (Nat × PT) := []
theorem ordB48 : ordB (polF 48) ord48 (bodyOf Try.prog 48) = true := by kernel_rfl
theorem ppo_set_has_p0 (s_ : (List Int)) (n_ : Int) (x1 : Int) (K : AV → Prop) : oP pc sc lp cd ⟨ord48, [(1, ⟨[], [12], [(8, [(vU x1)])], [], [], [], [], []⟩)], [], [], []⟩ 48 [.sl (s_.map (eInt .u64)), (vI n_)] K
  = ((at? (s_.map (eInt .u64)) (quoW .i64 n_ 64) = some [(vU x1)]) ∧ ((decide (0 ≤ (remW .i64 n_ 64))) = true) ∧ K (.v (.bool ((andW .u64 (shrW .u64 x1 (remW .i64 n_ 64)) 1) == 1)))) := by kernel_rfl
theorem ppo_set_has_sim (n : Nat) (s_ : (List Int)) (n_ : Int) (r : Bool) (h : ppo_set_has n s_ n_ = some r) : PCall Try.prog 48 [.sl (s_.map (eInt .u64)), (vI n_)] (eqA (.v (.bool r))) := by
 unfold ppo_set_has at h
 obtain ⟨x1, gx1, h⟩ := bindE h
 obtain ⟨h2, h⟩ := grdE h
 obtain rfl := soI h
 exact okP ordB48 (Eq.mpr (ppo_set_has_p0 pP sP lP dP s_ n_ x1 _) (⟨at_map (eInt .u64) gx1, h2, LeA.refl _⟩))

def ord33 : List (Nat × PT) := []
theorem ordB33 : ordB (polF 33) ord33 (bodyOf Try.prog 33) = true := by kernel_rfl
noncomputable def c_ppo_view_leads_L1 : Code := sub (bodyOf Try.prog 33) [1, 1, 1, 1, 0, 1, 0, 0]
noncomputable def c_ppo_view_leads_L2 : Code := sub c_ppo_view_leads_L1 [1, 0, 1, 1, 0, 0]
noncomputable def c_ppo_view_leads_L3 : Code := sub c_ppo_view_leads_L2 [1, 0, 0, 1, 0, 0]
theorem ordB_ppo_view_leads_L3 : ordB (polF 33) ord33 c_ppo_view_leads_L3 = true := by kernel_rfl
def ppo_view_leads_L3_S (v : ppo_view) (a : Int) (b : Int) (ya3 : Int) (sd : (List Int) × Int × Int) : St := mkS 68 [(0, .fptr (ppo_view.enc v) 0), (1, (vI a)), (2, (vI b)), (7, .mf 0), (8, (vI ya3)), (9, (vI sd.2.2)), (10, (vI sd.2.1))] [] [.arr true 1 (sd.1.map (eInt .u64))] 0
def ppo_view_leads_L3_T0 (v : ppo_view) (a : Int) (b : Int) (ya3 : Int) (tt : (List Int) × Int) : St := mkS 68 [(0, .fptr (ppo_view.enc v) 0), (1, (vI a)), (2, (vI b)), (7, .mf 0), (8, (vI ya3)), (9, (vI tt.2))] [] [.arr true 1 (tt.1.map (eInt .u64))] 0
def ppo_view_leads_L3_out (v : ppo_view) (a : Int) (b : Int) (ya3 : Int) (tt : ((List Int) × Int)) : Ex × St := (.ex 4, ppo_view_leads_L3_T0 v a b ya3 tt)
theorem ppo_view_leads_L3_p0 (v : ppo_view) (a : Int) (b : Int) (ya3 : Int) (sd : (List Int) × Int × Int) (yd2 : Bool) (yd4 : Bool) (yd6 : Int) (yd8 : (List Int)) (K : Ex → St → Prop) : oR pc sc lp cd ⟨ord33, [rVC 12 [(44, vT), (48, vT)] [(47, .v (.bool yd2))], rVC 14 [(55, vT), (61, vT)] [(53, .v (.bool yd4)), (59, (vI yd6))], (15, ⟨[], [], [], [], [], [(64, (.tup [], [.arr true 1 (yd8.map (eInt .u64))]))], [], []⟩)], [], [], []⟩ (polF 33) [(0, ⟨[0, 1, 2, 7, 8, 9, 10], [], 1, [], []⟩, ⟨[], [], []⟩)] c_ppo_view_leads_L3 (ppo_view_leads_L3_S v a b ya3 sd) K
  = ((eqB (decide (sd.2.1 ≤ b)) true) ∧ (pc 48 [.sl (sd.1.map (eInt .u64)), (vI sd.2.2)] (eqA (.v (.bool yd2)))) ∧ (eqB yd2 true) ∧ (pc 48 [.sl (sd.1.map (eInt .u64)), (vI sd.2.1)] (eqA (.v (.bool yd4)))) ∧ (eqB (!yd4) true) ∧ (pc 29 [.fptr (ppo_view.enc v) 0, (vI sd.2.2), (vI sd.2.1)] (eqA ((vI yd6)))) ∧ (eqB (decide (yd6 > 0)) true) ∧ (sc 46 [.mf 0, (vI sd.2.1)] [.arr true 1 (sd.1.map (eInt .u64))] (fun r' o' => r' = .tup [] ∧ o' = [.arr true 1 (yd8.map (eInt .u64))])) ∧ K .nrm (ppo_view_leads_L3_S v a b ya3 (yd8, (addW .i64 sd.2.1 1), sd.2.2))) := by kernel_rfl
theorem ppo_view_leads_L3_p1 (v : ppo_view) (a : Int) (b : Int) (ya3 : Int) (sd : (List Int) × Int × Int) (yd2 : Bool) (yd4 : Bool) (yd6 : Int) (K : Ex → St → Prop) : oR pc sc lp cd ⟨ord33, [rVC 12 [(44, vT), (48, vT)] [(47, .v (.bool yd2))], rVC 14 [(55, vT), (61, vF)] [(53, .v (.bool yd4)), (59, (vI yd6))]], [], [], []⟩ (polF 33) [(0, ⟨[0, 1, 2, 7, 8, 9, 10], [], 1, [], []⟩, ⟨[], [], []⟩)] c_ppo_view_leads_L3 (ppo_view_leads_L3_S v a b ya3 sd) K
  = ((eqB (decide (sd.2.1 ≤ b)) true) ∧ (pc 48 [.sl (sd.1.map (eInt .u64)), (vI sd.2.2)] (eqA (.v (.bool yd2)))) ∧ (eqB yd2 true) ∧ (pc 48 [.sl (sd.1.map (eInt .u64)), (vI sd.2.1)] (eqA (.v (.bool yd4)))) ∧ (eqB (!yd4) true) ∧ (pc 29 [.fptr (ppo_view.enc v) 0, (vI sd.2.2), (vI sd.2.1)] (eqA ((vI yd6)))) ∧ (eqB (decide (yd6 > 0)) false) ∧ K .nrm (ppo_view_leads_L3_S v a b ya3 (sd.1, (addW .i64 sd.2.1 1), sd.2.2))) := by kernel_rfl
theorem ppo_view_leads_L3_p2 (v : ppo_view) (a : Int) (b : Int) (ya3 : Int) (sd : (List Int) × Int × Int) (yd2 : Bool) (yd4 : Bool) (K : Ex → St → Prop) : oR pc sc lp cd ⟨ord33, [rVC 12 [(44, vT), (48, vT)] [(47, .v (.bool yd2))], rVC 14 [(55, vF)] [(53, .v (.bool yd4))]], [], [], []⟩ (polF 33) [(0, ⟨[0, 1, 2, 7, 8, 9, 10], [], 1, [], []⟩, ⟨[], [], []⟩)] c_ppo_view_leads_L3 (ppo_view_leads_L3_S v a b ya3 sd) K
  = ((eqB (decide (sd.2.1 ≤ b)) true) ∧ (pc 48 [.sl (sd.1.map (eInt .u64)), (vI sd.2.2)] (eqA (.v (.bool yd2)))) ∧ (eqB yd2 true) ∧ (pc 48 [.sl (sd.1.map (eInt .u64)), (vI sd.2.1)] (eqA (.v (.bool yd4)))) ∧ (eqB (!yd4) false) ∧ K .nrm (ppo_view_leads_L3_S v a b ya3 (sd.1, (addW .i64 sd.2.1 1), sd.2.2))) := by kernel_rfl
theorem ppo_view_leads_L3_p3 (v : ppo_view) (a : Int) (b : Int) (ya3 : Int) (sd : (List Int) × Int × Int) (yd2 : Bool) (K : Ex → St → Prop) : oR pc sc lp cd ⟨ord33, [rVC 12 [(44, vT), (48, vF)] [(47, .v (.bool yd2))]], [], [], []⟩ (polF 33) [(6, ⟨[0, 1, 2, 7, 8, 9], [], 1, [], []⟩, ⟨[], [], []⟩)] c_ppo_view_leads_L3 (ppo_view_leads_L3_S v a b ya3 sd) K
  = ((eqB (decide (sd.2.1 ≤ b)) true) ∧ (pc 48 [.sl (sd.1.map (eInt .u64)), (vI sd.2.2)] (eqA (.v (.bool yd2)))) ∧ (eqB yd2 false) ∧ K (.ex 4) (ppo_view_leads_L3_T0 v a b ya3 (sd.1, sd.2.2))) := by kernel_rfl
theorem ppo_view_leads_L3_p4 (v : ppo_view) (a : Int) (b : Int) (ya3 : Int) (sd : (List Int) × Int × Int) (K : Ex → St → Prop) : oR pc sc lp cd ⟨ord33, [rV 12 [(44, vF)]], [], [], []⟩ (polF 33) [(6, ⟨[0, 1, 2, 7, 8, 9], [], 1, [], []⟩, ⟨[], [], []⟩)] c_ppo_view_leads_L3 (ppo_view_leads_L3_S v a b ya3 sd) K
  = ((eqB (decide (sd.2.1 ≤ b)) false) ∧ K (.ex 4) (ppo_view_leads_L3_T0 v a b ya3 (sd.1, sd.2.2))) := by kernel_rfl
theorem ppo_view_leads_L3_sim (n : Nat) (v : ppo_view) (a : Int) (b : Int) (ya3 : Int) : ∀ sd r, ppo_view_leads_L3 n v a b ya3 sd = some r → CodeD Try.prog c_ppo_view_leads_L3 (ppo_view_leads_L3_S v a b ya3 sd) (rk (ppo_view_leads_L3_S v a b ya3) (ppo_view_leads_L3_out v a b ya3) r) := by
 intro sd r h
 unfold ppo_view_leads_L3 at h
 rcases iteN h with ⟨hd1, h⟩ | ⟨hd1, h⟩
 ·
  obtain rfl := soI h
  exact okR ordB_ppo_view_leads_L3 (Eq.mpr (ppo_view_leads_L3_p4 pP sP lP dP v a b ya3 sd _) ⟨cB hd1, ⟨rfl, rfl⟩⟩) (rkE rfl neE)
 obtain ⟨yd2, gyd2, h⟩ := bindE h
 rcases iteN h with ⟨hd3, h⟩ | ⟨hd3, h⟩
 ·
  obtain rfl := soI h
  exact okR ordB_ppo_view_leads_L3 (Eq.mpr (ppo_view_leads_L3_p3 pP sP lP dP v a b ya3 sd yd2 _) ⟨cB hd1, (ppo_set_has_sim n sd.1 sd.2.2 yd2 gyd2), cB hd3, ⟨rfl, rfl⟩⟩) (rkE rfl neE)
 obtain ⟨yd4, gyd4, h⟩ := bindE h
 rcases iteN h with ⟨hd5, h⟩ | ⟨hd5, h⟩
 ·
  obtain rfl := soI h
  exact okR ordB_ppo_view_leads_L3 (Eq.mpr (ppo_view_leads_L3_p2 pP sP lP dP v a b ya3 sd yd2 yd4 _) ⟨cB hd1, (ppo_set_has_sim n sd.1 sd.2.2 yd2 gyd2), cB hd3, (ppo_set_has_sim n sd.1 sd.2.1 yd4 gyd4), cB hd5, ⟨rfl, rfl⟩⟩) rkN
 obtain ⟨yd6, gyd6, h⟩ := bindE h
 rcases iteN h with ⟨hd7, h⟩ | ⟨hd7, h⟩
 ·
  obtain rfl := soI h
  exact okR ordB_ppo_view_leads_L3 (Eq.mpr (ppo_view_leads_L3_p1 pP sP lP dP v a b ya3 sd yd2 yd4 yd6 _) ⟨cB hd1, (ppo_set_has_sim n sd.1 sd.2.2 yd2 gyd2), cB hd3, (ppo_set_has_sim n sd.1 sd.2.1 yd4 gyd4), cB hd5, (ppo_view_rule_sim n v sd.2.2 sd.2.1 yd6 gyd6), cB hd7, ⟨rfl, rfl⟩⟩) rkN
 obtain ⟨yd8, gyd8, h⟩ := bindE h
 obtain rfl := soI h
 exact okR ordB_ppo_view_leads_L3 (Eq.mpr (ppo_view_leads_L3_p0 pP sP lP dP v a b ya3 sd yd2 yd4 yd6 yd8 _) ⟨cB hd1, (ppo_set_has_sim n sd.1 sd.2.2 yd2 gyd2), cB hd3, (ppo_set_has_sim n sd.1 sd.2.1 yd4 gyd4), cB hd5, (ppo_view_rule_sim n v sd.2.2 sd.2.1 yd6 gyd6), cB hd7, ppo_set_put_S_sim n sd.2.1 sd.1 yd8 gyd8, ⟨rfl, rfl⟩⟩) rkN

theorem ordB_ppo_view_leads_L2 : ordB (polF 33) ord33 c_ppo_view_leads_L2 = true := by kernel_rfl
def ppo_view_leads_L2_S (v : ppo_view) (a : Int) (b : Int) (ya3 : Int) (sb : (List Int) × Int) : St := mkS 68 [(0, .fptr (ppo_view.enc v) 0), (1, (vI a)), (2, (vI b)), (7, .mf 0), (8, (vI ya3)), (9, (vI sb.2))] [] [.arr true 1 (sb.1.map (eInt .u64))] 0
def ppo_view_leads_L2_T0 (v : ppo_view) (a : Int) (b : Int) (ya3 : Int) (tt : (List Int)) : St := mkS 68 [(0, .fptr (ppo_view.enc v) 0), (1, (vI a)), (2, (vI b)), (7, .mf 0), (8, (vI ya3))] [] [.arr true 1 (tt.map (eInt .u64))] 0
def ppo_view_leads_L2_out (v : ppo_view) (a : Int) (b : Int) (ya3 : Int) (tt : ((List Int))) : Ex × St := (.ex 2, ppo_view_leads_L2_T0 v a b ya3 tt)
theorem ppo_view_leads_L2_p0 (v : ppo_view) (a : Int) (b : Int) (ya3 : Int) (sb : (List Int) × Int) (tb2 : ((List Int) × Int)) (K : Ex → St → Prop) : oR pc sc lp cd ⟨ord33, [rV 9 [(36, vT)]], [], [(12, (⟨[0, 1, 2, 7, 8, 9, 10], [], 1, [], []⟩, ⟨[], [], []⟩, (.ex 4), ppo_view_leads_L3_T0 v a b ya3 tb2))], []⟩ (polF 33) [(0, ⟨[0, 1, 2, 7, 8, 9], [], 1, [], []⟩, ⟨[], [], []⟩)] c_ppo_view_leads_L2 (ppo_view_leads_L2_S v a b ya3 sb) K
  = ((eqB (decide (sb.2 < b)) true) ∧ (lp (polF 33) c_ppo_view_leads_L3 (ppo_view_leads_L3_S v a b ya3 (sb.1, (addW .i64 sb.2 1), sb.2)) (fun e' S' => e' = (.ex 4) ∧ S' = ppo_view_leads_L3_T0 v a b ya3 tb2)) ∧ K .nrm (ppo_view_leads_L2_S v a b ya3 (tb2.1, (addW .i64 tb2.2 1)))) := by kernel_rfl
theorem ppo_view_leads_L2_p1 (v : ppo_view) (a : Int) (b : Int) (ya3 : Int) (sb : (List Int) × Int) (K : Ex → St → Prop) : oR pc sc lp cd ⟨ord33, [rV 9 [(36, vF)]], [], [], []⟩ (polF 33) [(4, ⟨[0, 1, 2, 7, 8], [], 1, [], []⟩, ⟨[], [], []⟩)] c_ppo_view_leads_L2 (ppo_view_leads_L2_S v a b ya3 sb) K
  = ((eqB (decide (sb.2 < b)) false) ∧ K (.ex 2) (ppo_view_leads_L2_T0 v a b ya3 sb.1)) := by kernel_rfl
theorem ppo_view_leads_L2_sim (n : Nat) (v : ppo_view) (a : Int) (b : Int) (ya3 : Int) : ∀ sb r, ppo_view_leads_L2 n v a b ya3 sb = some r → CodeD Try.prog c_ppo_view_leads_L2 (ppo_view_leads_L2_S v a b ya3 sb) (rk (ppo_view_leads_L2_S v a b ya3) (ppo_view_leads_L2_out v a b ya3) r) := by
 intro sb r h
 unfold ppo_view_leads_L2 at h
 rcases iteN h with ⟨hb1, h⟩ | ⟨hb1, h⟩
 ·
  obtain rfl := soI h
  exact okR ordB_ppo_view_leads_L2 (Eq.mpr (ppo_view_leads_L2_p1 pP sP lP dP v a b ya3 sb _) ⟨cB hb1, ⟨rfl, rfl⟩⟩) (rkE rfl neE)
 obtain ⟨tb2, gtb2, h⟩ := bindE h
 obtain rfl := soI h
 exact okR ordB_ppo_view_leads_L2 (Eq.mpr (ppo_view_leads_L2_p0 pP sP lP dP v a b ya3 sb tb2 _) ⟨cB hb1, okL (ppo_view_leads_L3_S v a b ya3) (ppo_view_leads_L3_out v a b ya3) (ppo_view_leads_L3_sim n v a b ya3) n _ tb2 gtb2, ⟨rfl, rfl⟩⟩) rkN

theorem ordB_ppo_view_leads_L1 : ordB (polF 33) ord33 c_ppo_view_leads_L1 = true := by kernel_rfl
def ppo_view_leads_L1_S (v : ppo_view) (a : Int) (b : Int) (sa : (List Int) × Int) : St := mkS 68 [(0, .fptr (ppo_view.enc v) 0), (1, (vI a)), (2, (vI b)), (7, .mf 0), (8, (vI sa.2))] [] [.arr true 1 (sa.1.map (eInt .u64))] 0
def ppo_view_leads_L1_T0 (v : ppo_view) (a : Int) (b : Int) (tt : (List Int)) : St := mkS 68 [(2, (vI b)), (7, .mf 0)] [] [.arr true 1 (tt.map (eInt .u64))] 0
def ppo_view_leads_L1_out (v : ppo_view) (a : Int) (b : Int) (tt : ((List Int))) : Ex × St := (.ex 0, ppo_view_leads_L1_T0 v a b tt)
theorem ppo_view_leads_L1_p0 (v : ppo_view) (a : Int) (b : Int) (sa : (List Int) × Int) (ya1 : Int) (ya3 : Int) (ta4 : ((List Int))) (K : Ex → St → Prop) : oR pc sc lp cd ⟨ord33, [rVC 6 [(30, vT)] [(29, (vI ya1))], rVC 7 [] [(32, (vI ya3))]], [], [(9, (⟨[0, 1, 2, 7, 8, 9], [], 1, [], []⟩, ⟨[], [], []⟩, (.ex 2), ppo_view_leads_L2_T0 v a b ya3 ta4))], []⟩ (polF 33) [(0, ⟨[0, 1, 2, 7, 8], [], 1, [], []⟩, ⟨[], [], []⟩)] c_ppo_view_leads_L1 (ppo_view_leads_L1_S v a b sa) K
  = ((pc 47 [.sl (sa.1.map (eInt .u64))] (eqA ((vI ya1)))) ∧ (eqB (sa.2 != ya1) true) ∧ (pc 47 [.sl (sa.1.map (eInt .u64))] (eqA ((vI ya3)))) ∧ (lp (polF 33) c_ppo_view_leads_L2 (ppo_view_leads_L2_S v a b ya3 (sa.1, a)) (fun e' S' => e' = (.ex 2) ∧ S' = ppo_view_leads_L2_T0 v a b ya3 ta4)) ∧ K .nrm (ppo_view_leads_L1_S v a b (ta4, ya3))) := by kernel_rfl
theorem ppo_view_leads_L1_p1 (v : ppo_view) (a : Int) (b : Int) (sa : (List Int) × Int) (ya1 : Int) (K : Ex → St → Prop) : oR pc sc lp cd ⟨ord33, [rVC 6 [(30, vF)] [(29, (vI ya1))]], [], [], []⟩ (polF 33) [(2, ⟨[2, 7], [], 1, [], []⟩, ⟨[], [], []⟩)] c_ppo_view_leads_L1 (ppo_view_leads_L1_S v a b sa) K
  = ((pc 47 [.sl (sa.1.map (eInt .u64))] (eqA ((vI ya1)))) ∧ (eqB (sa.2 != ya1) false) ∧ K (.ex 0) (ppo_view_leads_L1_T0 v a b sa.1)) := by kernel_rfl
theorem ppo_view_leads_L1_sim (n : Nat) (v : ppo_view) (a : Int) (b : Int) : ∀ sa r, ppo_view_leads_L1 n v a b sa = some r → CodeD Try.prog c_ppo_view_leads_L1 (ppo_view_leads_L1_S v a b sa) (rk (ppo_view_leads_L1_S v a b) (ppo_view_leads_L1_out v a b) r) := by
 intro sa r h
 unfold ppo_view_leads_L1 at h
 obtain ⟨ya1, gya1, h⟩ := bindE h
 rcases iteN h with ⟨ha2, h⟩ | ⟨ha2, h⟩
 ·
  obtain rfl := soI h
  exact okR ordB_ppo_view_leads_L1 (Eq.mpr (ppo_view_leads_L1_p1 pP sP lP dP v a b sa ya1 _) ⟨(ppo_set_count_sim n sa.1 ya1 gya1), cB ha2, ⟨rfl, rfl⟩⟩) (rkE rfl neE)
 obtain ⟨ya3, gya3, h⟩ := bindE h
 obtain ⟨ta4, gta4, h⟩ := bindE h
 obtain rfl := soI h
 exact okR ordB_ppo_view_leads_L1 (Eq.mpr (ppo_view_leads_L1_p0 pP sP lP dP v a b sa ya1 ya3 ta4 _) ⟨(ppo_set_count_sim n sa.1 ya1 gya1), cB ha2, (ppo_set_count_sim n sa.1 ya3 gya3), okL (ppo_view_leads_L2_S v a b ya3) (ppo_view_leads_L2_out v a b ya3) (ppo_view_leads_L2_sim n v a b ya3) n _ ta4 gta4, ⟨rfl, rfl⟩⟩) rkN

theorem ppo_view_leads_p0 (v : ppo_view) (a : Int) (b : Int) (y1 : Bool) (K : AV → Prop) : oP pc sc lp cd ⟨ord33, [rVC 1 [(15, vT)] [(14, .v (.bool y1))]], [], [], []⟩ 33 [.fptr (ppo_view.enc v) 0, (vI a), (vI b)] K
  = ((pc 35 [.fptr (ppo_view.enc v) 0, (vI a), (vI b)] (eqA (.v (.bool y1)))) ∧ (eqB (!y1) true) ∧ K (vF)) := by kernel_rfl
theorem ppo_view_leads_p1 (v : ppo_view) (a : Int) (b : Int) (y1 : Bool) (y4 : (List Int)) (t5 : ((List Int))) (y6 : Bool) (K : AV → Prop) : oP pc sc lp cd ⟨ord33, [rVC 1 [(15, vF)] [(14, .v (.bool y1))], (3, ⟨[], [23], [], [(20, (vI (v.all.length : Int)))], [], [], [(23, (0, (List.replicate ((addW .i64 (quoW .i64 (v.all.length : Int) 64) 1)).toNat 0).map (eInt .u64)))], []⟩), (4, ⟨[], [], [], [], [], [(26, (.tup [], [.arr true 1 (y4.map (eInt .u64))]))], [], []⟩), rVC 16 [] [(67, .v (.bool y6))]], [], [(6, (⟨[0, 1, 2, 7, 8], [], 1, [], []⟩, ⟨[], [], []⟩, (.ex 0), ppo_view_leads_L1_T0 v a b t5))], []⟩ 33 [.fptr (ppo_view.enc v) 0, (vI a), (vI b)] K
  = ((pc 35 [.fptr (ppo_view.enc v) 0, (vI a), (vI b)] (eqA (.v (.bool y1)))) ∧ (eqB (!y1) false) ∧ (AV.v (.int .i64 (((v.all.map Event.enc).length : Nat) : Int)) = AV.v (.int .i64 (v.all.length : Int))) ∧ ((decide (0 ≤ (addW .i64 (quoW .i64 (v.all.length : Int) 64) 1)) && decide ((addW .i64 (quoW .i64 (v.all.length : Int) 64) 1) ≤ (addW .i64 (quoW .i64 (v.all.length : Int) 64) 1)) && decide (8 * (addW .i64 (quoW .i64 (v.all.length : Int) 64) 1) ≤ 140737488355328) && decide ((addW .i64 (quoW .i64 (v.all.length : Int) 64) 1) ≤ 140737488355328) && Nat.blt 0 1) = true) ∧ (List.replicate ((addW .i64 (quoW .i64 (v.all.length : Int) 64) 1)).toNat [(vU 0)] = (List.replicate ((addW .i64 (quoW .i64 (v.all.length : Int) 64) 1)).toNat 0).map (eInt .u64)) ∧ (sc 46 [.mf 0, (vI a)] [.arr true 1 ((List.replicate ((addW .i64 (quoW .i64 (v.all.length : Int) 64) 1)).toNat 0).map (eInt .u64))] (fun r' o' => r' = .tup [] ∧ o' = [.arr true 1 (y4.map (eInt .u64))])) ∧ (lp (polF 33) c_ppo_view_leads_L1 (ppo_view_leads_L1_S v a b (y4, 0)) (fun e' S' => e' = (.ex 0) ∧ S' = ppo_view_leads_L1_T0 v a b t5)) ∧ (pc 48 [.sl (t5.map (eInt .u64)), (vI b)] (eqA (.v (.bool y6)))) ∧ K (.v (.bool y6))) := by kernel_rfl
theorem ppo_view_leads_sim (n : Nat) (v : ppo_view) (a : Int) (b : Int) (r : Bool) (h : ppo_view_leads n v a b = some r) : PCall Try.prog 33 [.fptr (ppo_view.enc v) 0, (vI a), (vI b)] (eqA (.v (.bool r))) := by
 unfold ppo_view_leads at h
 obtain ⟨y1, gy1, h⟩ := bindE h
 rcases iteE h with ⟨h2, h⟩ | ⟨h2, h⟩
 ·
  obtain rfl := soI h
  exact okP ordB33 (Eq.mpr (ppo_view_leads_p0 pP sP lP dP v a b y1 _) (⟨(ppo_view_ahead_sim n v a b y1 gy1), cB h2, LeA.refl _⟩))
 obtain ⟨h3, h⟩ := grdE h
 obtain ⟨y4, gy4, h⟩ := bindE h
 obtain ⟨t5, gt5, h⟩ := bindE h
 obtain ⟨y6, gy6, h⟩ := bindE h
 obtain rfl := soI h
 exact okP ordB33 (Eq.mpr (ppo_view_leads_p1 pP sP lP dP v a b y1 y4 t5 y6 _) (⟨(ppo_view_ahead_sim n v a b y1 gy1), cB h2, len_map _ _, h3, rep_map (eInt .u64) _ 0, ppo_set_put_S_sim n a (List.replicate ((addW .i64 (quoW .i64 (v.all.length : Int) 64) 1)).toNat 0) y4 gy4, okL (ppo_view_leads_L1_S v a b) (ppo_view_leads_L1_out v a b) (ppo_view_leads_L1_sim n v a b) n _ t5 gt5, (ppo_set_has_sim n t5 b y6 gy6), LeA.refl _⟩))

def ord19 : List (Nat × PT) := [(9, (ptS [0, 1, 2, 3, 4, 5, 6, 7, 8, 9, 10, 11, 12, 13, 14, 15, 16, 17, 18, 19, 20, 21]))]
theorem ordB19 : ordB (polF 19) ord19 (bodyOf Try.prog 19) = true := by kernel_rfl
noncomputable def c_ppo_Full_L1 : Code := sub (bodyOf Try.prog 19) [1, 1, 1, 1, 0, 1, 0, 0]
theorem ordB_ppo_Full_L1 : ordB (polF 19) ord19 c_ppo_Full_L1 = true := by kernel_rfl
def ppo_Full_L1_S (z2 : ppo_view) (sa : Int × Int) : St := mkS 47 [(3, .fptr (ppo_view.enc z2) 0), (4, (vI sa.2)), (13, .sl (z2.all.map Event.enc)), (14, (vI (z2.all.length : Int))), (15, (vI sa.1))] [] [] 0
def ppo_Full_L1_T0 (z2 : ppo_view) (tt : Unit) : St := mkS 47 [] [] [] 0
def ppo_Full_L1_T1 (z2 : ppo_view) (tt : Unit) : St := mkS 47 [(2, vF)] [] [] 0
def ppo_Full_L1_out (z2 : ppo_view) (t0 : (Unit ⊕ Unit)) : Ex × St := match t0 with | .inl tt => (.ex 0, ppo_Full_L1_T0 z2 tt) | .inr tt => (.ret, ppo_Full_L1_T1 z2 tt)
theorem ppo_Full_L1_p0 (z2 : ppo_view) (sa : Int × Int) (xa2 : Event) (ya3 : Bool) (K : Ex → St → Prop) : oR pc sc lp cd ⟨ord19, [rV 6 [(16, vT)], (7, ⟨[], [], [(18, (Event.enc xa2))], [], [], [], [], []⟩), rVC 8 [(22, vT)] [(21, .v (.bool ya3))]], [], [], []⟩ (polF 19) [(0, ⟨[3, 4, 13, 14, 15], [6], 0, [], []⟩, ⟨[], [], []⟩)] c_ppo_Full_L1 (ppo_Full_L1_S z2 sa) K
  = ((eqB (decide (sa.1 < (z2.all.length : Int))) true) ∧ (at? (z2.all.map Event.enc) sa.1 = some (Event.enc xa2)) ∧ (pc 38 [(aAgg Event.enc xa2)] (eqA (.v (.bool ya3)))) ∧ (eqB (!ya3) true) ∧ K .nrm (ppo_Full_L1_S z2 ((addW .i64 sa.1 1), sa.2))) := by kernel_rfl
theorem ppo_Full_L1_p1 (z2 : ppo_view) (sa : Int × Int) (xa2 : Event) (ya3 : Bool) (xa6 : Event) (ya8 : Bool) (K : Ex → St → Prop) : oR pc sc lp cd ⟨ord19, [rV 6 [(16, vT)], (7, ⟨[], [], [(18, (Event.enc xa2))], [], [], [], [], []⟩), rVC 8 [(22, vF)] [(21, .v (.bool ya3))], (9, ⟨[], [], [(31, (Event.enc xa6))], [(25, vT), (38, vT), (44, vT)], [(42, .v (.bool ya8))], [], [], []⟩)], [], [], []⟩ (polF 19) [(1, ⟨[2], [6], 0, [], []⟩, ⟨[], [], []⟩)] c_ppo_Full_L1 (ppo_Full_L1_S z2 sa) K
  = ((eqB (decide (sa.1 < (z2.all.length : Int))) true) ∧ (at? (z2.all.map Event.enc) sa.1 = some (Event.enc xa2)) ∧ (pc 38 [(aAgg Event.enc xa2)] (eqA (.v (.bool ya3)))) ∧ (eqB (!ya3) false) ∧ (eqB (decide (sa.2 ≥ 0)) true) ∧ (at? (z2.all.map Event.enc) sa.2 = some (Event.enc xa6)) ∧ (eqB (xa6.Hart == xa2.Hart) true) ∧ (pc 33 [.fptr (ppo_view.enc z2) 0, (vI sa.2), (vI sa.1)] (eqA (.v (.bool ya8)))) ∧ (eqB (!ya8) true) ∧ K .ret (ppo_Full_L1_T1 z2 ())) := by kernel_rfl
theorem ppo_Full_L1_p2 (z2 : ppo_view) (sa : Int × Int) (xa2 : Event) (ya3 : Bool) (xa6 : Event) (ya8 : Bool) (K : Ex → St → Prop) : oR pc sc lp cd ⟨ord19, [rV 6 [(16, vT)], (7, ⟨[], [], [(18, (Event.enc xa2))], [], [], [], [], []⟩), rVC 8 [(22, vF)] [(21, .v (.bool ya3))], (9, ⟨[], [], [(31, (Event.enc xa6))], [(25, vT), (38, vT), (44, vF)], [(42, .v (.bool ya8))], [], [], []⟩)], [], [], []⟩ (polF 19) [(0, ⟨[3, 4, 13, 14, 15], [6], 0, [], []⟩, ⟨[], [], []⟩)] c_ppo_Full_L1 (ppo_Full_L1_S z2 sa) K
  = ((eqB (decide (sa.1 < (z2.all.length : Int))) true) ∧ (at? (z2.all.map Event.enc) sa.1 = some (Event.enc xa2)) ∧ (pc 38 [(aAgg Event.enc xa2)] (eqA (.v (.bool ya3)))) ∧ (eqB (!ya3) false) ∧ (eqB (decide (sa.2 ≥ 0)) true) ∧ (at? (z2.all.map Event.enc) sa.2 = some (Event.enc xa6)) ∧ (eqB (xa6.Hart == xa2.Hart) true) ∧ (pc 33 [.fptr (ppo_view.enc z2) 0, (vI sa.2), (vI sa.1)] (eqA (.v (.bool ya8)))) ∧ (eqB (!ya8) false) ∧ K .nrm (ppo_Full_L1_S z2 ((addW .i64 sa.1 1), sa.1))) := by kernel_rfl
theorem ppo_Full_L1_p3 (z2 : ppo_view) (sa : Int × Int) (xa2 : Event) (ya3 : Bool) (xa6 : Event) (K : Ex → St → Prop) : oR pc sc lp cd ⟨ord19, [rV 6 [(16, vT)], (7, ⟨[], [], [(18, (Event.enc xa2))], [], [], [], [], []⟩), rVC 8 [(22, vF)] [(21, .v (.bool ya3))], (9, ⟨[], [], [(31, (Event.enc xa6))], [(25, vT), (38, vF)], [], [], [], []⟩)], [], [], []⟩ (polF 19) [(0, ⟨[3, 4, 13, 14, 15], [6], 0, [], []⟩, ⟨[], [], []⟩)] c_ppo_Full_L1 (ppo_Full_L1_S z2 sa) K
  = ((eqB (decide (sa.1 < (z2.all.length : Int))) true) ∧ (at? (z2.all.map Event.enc) sa.1 = some (Event.enc xa2)) ∧ (pc 38 [(aAgg Event.enc xa2)] (eqA (.v (.bool ya3)))) ∧ (eqB (!ya3) false) ∧ (eqB (decide (sa.2 ≥ 0)) true) ∧ (at? (z2.all.map Event.enc) sa.2 = some (Event.enc xa6)) ∧ (eqB (xa6.Hart == xa2.Hart) false) ∧ K .nrm (ppo_Full_L1_S z2 ((addW .i64 sa.1 1), sa.1))) := by kernel_rfl
theorem ppo_Full_L1_p4 (z2 : ppo_view) (sa : Int × Int) (xa2 : Event) (ya3 : Bool) (K : Ex → St → Prop) : oR pc sc lp cd ⟨ord19, [rV 6 [(16, vT)], (7, ⟨[], [], [(18, (Event.enc xa2))], [], [], [], [], []⟩), rVC 8 [(22, vF)] [(21, .v (.bool ya3))], rV 9 [(25, vF)]], [], [], []⟩ (polF 19) [(0, ⟨[3, 4, 13, 14, 15], [6], 0, [], []⟩, ⟨[], [], []⟩)] c_ppo_Full_L1 (ppo_Full_L1_S z2 sa) K
  = ((eqB (decide (sa.1 < (z2.all.length : Int))) true) ∧ (at? (z2.all.map Event.enc) sa.1 = some (Event.enc xa2)) ∧ (pc 38 [(aAgg Event.enc xa2)] (eqA (.v (.bool ya3)))) ∧ (eqB (!ya3) false) ∧ (eqB (decide (sa.2 ≥ 0)) false) ∧ K .nrm (ppo_Full_L1_S z2 ((addW .i64 sa.1 1), sa.1))) := by kernel_rfl
theorem ppo_Full_L1_p5 (z2 : ppo_view) (sa : Int × Int) (K : Ex → St → Prop) : oR pc sc lp cd ⟨ord19, [rV 6 [(16, vF)]], [], [], []⟩ (polF 19) [(2, ⟨[], [], 0, [], []⟩, ⟨[], [], []⟩)] c_ppo_Full_L1 (ppo_Full_L1_S z2 sa) K
  = ((eqB (decide (sa.1 < (z2.all.length : Int))) false) ∧ K (.ex 0) (ppo_Full_L1_T0 z2 ())) := by kernel_rfl
theorem ppo_Full_L1_sim (n : Nat) (z2 : ppo_view) : ∀ sa r, ppo_Full_L1 n z2 sa = some r → CodeD Try.prog c_ppo_Full_L1 (ppo_Full_L1_S z2 sa) (rk (ppo_Full_L1_S z2) (ppo_Full_L1_out z2) r) := by
 intro sa r h
 unfold ppo_Full_L1 at h
 rcases iteN h with ⟨ha1, h⟩ | ⟨ha1, h⟩
 ·
  obtain rfl := soI h
  exact okR ordB_ppo_Full_L1 (Eq.mpr (ppo_Full_L1_p5 pP sP lP dP z2 sa _) ⟨cB ha1, ⟨rfl, rfl⟩⟩) (rkE rfl neE)
 obtain ⟨xa2, gxa2, h⟩ := bindE h
 obtain ⟨ya3, gya3, h⟩ := bindE h
 rcases iteE h with ⟨ha4, h⟩ | ⟨ha4, h⟩
 ·
  obtain rfl := soI h
  exact okR ordB_ppo_Full_L1 (Eq.mpr (ppo_Full_L1_p0 pP sP lP dP z2 sa xa2 ya3 _) ⟨cB ha1, at_map Event.enc gxa2, (event_Memory_sim n xa2 ya3 gya3), cB ha4, ⟨rfl, rfl⟩⟩) rkN
 rcases iteN h with ⟨ha5, h⟩ | ⟨ha5, h⟩
 ·
  obtain rfl := soI h
  exact okR ordB_ppo_Full_L1 (Eq.mpr (ppo_Full_L1_p4 pP sP lP dP z2 sa xa2 ya3 _) ⟨cB ha1, at_map Event.enc gxa2, (event_Memory_sim n xa2 ya3 gya3), cB ha4, cB ha5, ⟨rfl, rfl⟩⟩) rkN
 obtain ⟨xa6, gxa6, h⟩ := bindE h
 rcases iteN h with ⟨ha7, h⟩ | ⟨ha7, h⟩
 ·
  obtain rfl := soI h
  exact okR ordB_ppo_Full_L1 (Eq.mpr (ppo_Full_L1_p3 pP sP lP dP z2 sa xa2 ya3 xa6 _) ⟨cB ha1, at_map Event.enc gxa2, (event_Memory_sim n xa2 ya3 gya3), cB ha4, cB ha5, at_map Event.enc gxa6, cB ha7, ⟨rfl, rfl⟩⟩) rkN
 obtain ⟨ya8, gya8, h⟩ := bindE h
 rcases iteN h with ⟨ha9, h⟩ | ⟨ha9, h⟩
 ·
  obtain rfl := soI h
  exact okR ordB_ppo_Full_L1 (Eq.mpr (ppo_Full_L1_p2 pP sP lP dP z2 sa xa2 ya3 xa6 ya8 _) ⟨cB ha1, at_map Event.enc gxa2, (event_Memory_sim n xa2 ya3 gya3), cB ha4, cB ha5, at_map Event.enc gxa6, cB ha7, (ppo_view_leads_sim n z2 sa.2 sa.1 ya8 gya8), cB ha9, ⟨rfl, rfl⟩⟩) rkN
 obtain rfl := soI h
 exact okR ordB_ppo_Full_L1 (Eq.mpr (ppo_Full_L1_p1 pP sP lP dP z2 sa xa2 ya3 xa6 ya8 _) ⟨cB ha1, at_map Event.enc gxa2, (event_Memory_sim n xa2 ya3 gya3), cB ha4, cB ha5, at_map Event.enc gxa6, cB ha7, (ppo_view_leads_sim n z2 sa.2 sa.1 ya8 gya8), cB ha9, ⟨rfl, rfl⟩⟩) (rkE rfl neR)

theorem ppo_Full_p0 (c : Cand) (K : AV → Prop) : oP pc sc lp cd ⟨ord19, [rVC 1 [] [(7, .nilp)]], [], [], []⟩ 19 [(aAgg Cand.enc c)] K
  = ((pc 28 [.fptr (Cand.enc c) 0] (eqA (.nilp))) ∧ K (vF)) := by kernel_rfl
theorem ppo_Full_p1 (c : Cand) (z2 : ppo_view) (w4 : Unit) (K : AV → Prop) : oP pc sc lp cd ⟨ord19, [rVC 1 [] [(7, .fptr (ppo_view.enc z2) 0)], rV 5 [(14, (vI (z2.all.length : Int)))]], [], [(6, (⟨[3, 4, 13, 14, 15], [], 0, [], []⟩, ⟨[], [], []⟩, (.ex 0), ppo_Full_L1_T0 z2 w4))], []⟩ 19 [(aAgg Cand.enc c)] K
  = ((pc 28 [.fptr (Cand.enc c) 0] (eqA (.fptr (ppo_view.enc z2) 0))) ∧ (AV.v (.int .i64 (((z2.all.map Event.enc).length : Nat) : Int)) = AV.v (.int .i64 (z2.all.length : Int))) ∧ (lp (polF 19) c_ppo_Full_L1 (ppo_Full_L1_S z2 (0, (-1))) (fun e' S' => e' = (.ex 0) ∧ S' = ppo_Full_L1_T0 z2 w4)) ∧ K (vT)) := by kernel_rfl
theorem ppo_Full_p2 (c : Cand) (z2 : ppo_view) (w4 : Unit) (K : AV → Prop) : oP pc sc lp cd ⟨ord19, [rVC 1 [] [(7, .fptr (ppo_view.enc z2) 0)], rV 5 [(14, (vI (z2.all.length : Int)))]], [], [(6, (⟨[3, 4, 13, 14, 15], [], 0, [], []⟩, ⟨[], [], []⟩, .ret, ppo_Full_L1_T1 z2 w4))], []⟩ 19 [(aAgg Cand.enc c)] K
  = ((pc 28 [.fptr (Cand.enc c) 0] (eqA (.fptr (ppo_view.enc z2) 0))) ∧ (AV.v (.int .i64 (((z2.all.map Event.enc).length : Nat) : Int)) = AV.v (.int .i64 (z2.all.length : Int))) ∧ (lp (polF 19) c_ppo_Full_L1 (ppo_Full_L1_S z2 (0, (-1))) (fun e' S' => e' = .ret ∧ S' = ppo_Full_L1_T1 z2 w4)) ∧ K (vF)) := by kernel_rfl
theorem ppo_Full_sim (n : Nat) (c : Cand) (r : Bool) (h : ppo_Full n c = some r) : PCall Try.prog 19 [(aAgg Cand.enc c)] (eqA (.v (.bool r))) := by
 unfold ppo_Full at h
 obtain ⟨y1, gy1, h⟩ := bindE h
 rcases y1 with _ | z2
 ·
  obtain rfl := soI h
  exact okP ordB19 (Eq.mpr (ppo_Full_p0 pP sP lP dP c _) (⟨(ppo_of_sim n c none gy1), LeA.refl _⟩))
 ·
  obtain ⟨t3, gt3, h⟩ := bindE h
  rcases t3 with w4 | w4
  ·
   obtain rfl := soI h
   exact okP ordB19 (Eq.mpr (ppo_Full_p1 pP sP lP dP c z2 w4 _) (⟨(ppo_of_sim n c (some z2) gy1), len_map _ _, okL (ppo_Full_L1_S z2) (ppo_Full_L1_out z2) (ppo_Full_L1_sim n z2) n _ (.inl w4) gt3, LeA.refl _⟩))
  ·
   obtain rfl := soI h
   exact okP ordB19 (Eq.mpr (ppo_Full_p2 pP sP lP dP c z2 w4 _) (⟨(ppo_of_sim n c (some z2) gy1), len_map _ _, okL (ppo_Full_L1_S z2) (ppo_Full_L1_out z2) (ppo_Full_L1_sim n z2) n _ (.inr w4) gt3, LeA.refl _⟩))

theorem ppo_view_leads2_p0 (a : Int) (b : Int) (y1 : Bool) (K : AV → Prop) : oP pc sc lp cd ⟨ord33, [rVC 1 [(15, vT)] [(14, .v (.bool y1))]], [], [], []⟩ 33 [.nilp, (vI a), (vI b)] K
  = ((pc 35 [.nilp, (vI a), (vI b)] (eqA (.v (.bool y1)))) ∧ (eqB (!y1) true) ∧ K (vF)) := by kernel_rfl
theorem ppo_view_leads2_sim (n : Nat) (a : Int) (b : Int) (r : Bool) (h : ppo_view_leads2 n a b = some r) : PCall Try.prog 33 [.nilp, (vI a), (vI b)] (eqA (.v (.bool r))) := by
 unfold ppo_view_leads2 at h
 obtain ⟨y1, gy1, h⟩ := bindE h
 rcases iteN h with ⟨h2, h⟩ | ⟨h2, h⟩
 ·
  cases h
 obtain rfl := soI h
 exact okP ordB33 (Eq.mpr (ppo_view_leads2_p0 pP sP lP dP a b y1 _) (⟨(ppo_view_ahead2_sim n a b y1 gy1), cB h2, LeA.refl _⟩))

def ord16 : List (Nat × PT) := []
theorem ordB16 : ordB (polF 16) ord16 (bodyOf Try.prog 16) = true := by kernel_rfl
theorem ppo_Whole_p0 (c : Cand) (a : Int) (b : Int) (y2 : Bool) (K : AV → Prop) : oP pc sc lp cd ⟨ord16, [rVC 1 [] [(7, .nilp), (10, .v (.bool y2))]], [], [], []⟩ 16 [(aAgg Cand.enc c), (vI a), (vI b)] K
  = ((pc 28 [.fptr (Cand.enc c) 0] (eqA (.nilp))) ∧ (pc 33 [.nilp, (vI a), (vI b)] (eqA (.v (.bool y2)))) ∧ K (.v (.bool y2))) := by kernel_rfl
theorem ppo_Whole_p1 (c : Cand) (a : Int) (b : Int) (z2 : ppo_view) (y3 : Bool) (K : AV → Prop) : oP pc sc lp cd ⟨ord16, [rVC 1 [] [(7, .fptr (ppo_view.enc z2) 0), (10, .v (.bool y3))]], [], [], []⟩ 16 [(aAgg Cand.enc c), (vI a), (vI b)] K
  = ((pc 28 [.fptr (Cand.enc c) 0] (eqA (.fptr (ppo_view.enc z2) 0))) ∧ (pc 33 [.fptr (ppo_view.enc z2) 0, (vI a), (vI b)] (eqA (.v (.bool y3)))) ∧ K (.v (.bool y3))) := by kernel_rfl
theorem ppo_Whole_sim (n : Nat) (c : Cand) (a : Int) (b : Int) (r : Bool) (h : ppo_Whole n c a b = some r) : PCall Try.prog 16 [(aAgg Cand.enc c), (vI a), (vI b)] (eqA (.v (.bool r))) := by
 unfold ppo_Whole at h
 obtain ⟨y1, gy1, h⟩ := bindE h
 rcases y1 with _ | z2
 ·
  obtain ⟨y2, gy2, h⟩ := bindE h
  obtain rfl := soI h
  exact okP ordB16 (Eq.mpr (ppo_Whole_p0 pP sP lP dP c a b y2 _) (⟨(ppo_of_sim n c none gy1), (ppo_view_leads2_sim n a b y2 gy2), LeA.refl _⟩))
 ·
  obtain ⟨y3, gy3, h⟩ := bindE h
  obtain rfl := soI h
  exact okP ordB16 (Eq.mpr (ppo_Whole_p1 pP sP lP dP c a b z2 y3 _) (⟨(ppo_of_sim n c (some z2) gy1), (ppo_view_leads_sim n z2 a b y3 gy3), LeA.refl _⟩))

def ord17 : List (Nat × PT) := [(4, (ptS [0, 1, 2, 3, 4, 5, 6, 7, 8, 9, 10, 11, 12, 13, 14, 15, 16, 17, 18, 19, 20]))]
theorem ordB17 : ordB (polF 17) ord17 (bodyOf Try.prog 17) = true := by kernel_rfl
theorem ppo_Holds_p0 (c : Cand) (a : Int) (b : Int) (rule : Int) (K : AV → Prop) : oP pc sc lp cd ⟨ord17, [(1, ⟨[], [], [], [], [(11, .nilp), (12, .agg [.fn 49 [] [], .fn 51 [] [], .fn 55 [] [], .fn 56 [] [], .fn 58 [] [], .fn 59 [] [], .fn 60 [] [], .fn 61 [] [], .fn 62 [] [], .fn 64 [] [], .fn 65 [] [], .fn 66 [] [], .fn 67 [] []])], [], [], []⟩), rV 2 [(15, vT)]], [], [], []⟩ 17 [(aAgg Cand.enc c), (vI a), (vI b), (vI rule)] K
  = ((pc 28 [.fptr (Cand.enc c) 0] (eqA (.nilp))) ∧ (pc 34 [] (eqA (.agg [.fn 49 [] [], .fn 51 [] [], .fn 55 [] [], .fn 56 [] [], .fn 58 [] [], .fn 59 [] [], .fn 60 [] [], .fn 61 [] [], .fn 62 [] [], .fn 64 [] [], .fn 65 [] [], .fn 66 [] [], .fn 67 [] []]))) ∧ (eqB (decide (rule < 1)) true) ∧ K (vF)) := by kernel_rfl
theorem ppo_Holds_p1 (c : Cand) (a : Int) (b : Int) (rule : Int) (K : AV → Prop) : oP pc sc lp cd ⟨ord17, [(1, ⟨[], [], [], [], [(11, .nilp), (12, .agg [.fn 49 [] [], .fn 51 [] [], .fn 55 [] [], .fn 56 [] [], .fn 58 [] [], .fn 59 [] [], .fn 60 [] [], .fn 61 [] [], .fn 62 [] [], .fn 64 [] [], .fn 65 [] [], .fn 66 [] [], .fn 67 [] []])], [], [], []⟩), rV 2 [(15, vF), (19, vT)]], [], [], []⟩ 17 [(aAgg Cand.enc c), (vI a), (vI b), (vI rule)] K
  = ((pc 28 [.fptr (Cand.enc c) 0] (eqA (.nilp))) ∧ (pc 34 [] (eqA (.agg [.fn 49 [] [], .fn 51 [] [], .fn 55 [] [], .fn 56 [] [], .fn 58 [] [], .fn 59 [] [], .fn 60 [] [], .fn 61 [] [], .fn 62 [] [], .fn 64 [] [], .fn 65 [] [], .fn 66 [] [], .fn 67 [] []]))) ∧ (eqB (decide (rule < 1)) false) ∧ (eqB (decide (rule > 13)) true) ∧ K (vF)) := by kernel_rfl
theorem ppo_Holds_p2 (c : Cand) (a : Int) (b : Int) (rule : Int) (y5 : Bool) (K : AV → Prop) : oP pc sc lp cd ⟨ord17, [(1, ⟨[], [], [], [], [(11, .nilp), (12, .agg [.fn 49 [] [], .fn 51 [] [], .fn 55 [] [], .fn 56 [] [], .fn 58 [] [], .fn 59 [] [], .fn 60 [] [], .fn 61 [] [], .fn 62 [] [], .fn 64 [] [], .fn 65 [] [], .fn 66 [] [], .fn 67 [] []])], [], [], []⟩), rVC 2 [(15, vF), (19, vF), (25, vT)] [(23, .v (.bool y5))]], [], [], []⟩ 17 [(aAgg Cand.enc c), (vI a), (vI b), (vI rule)] K
  = ((pc 28 [.fptr (Cand.enc c) 0] (eqA (.nilp))) ∧ (pc 34 [] (eqA (.agg [.fn 49 [] [], .fn 51 [] [], .fn 55 [] [], .fn 56 [] [], .fn 58 [] [], .fn 59 [] [], .fn 60 [] [], .fn 61 [] [], .fn 62 [] [], .fn 64 [] [], .fn 65 [] [], .fn 66 [] [], .fn 67 [] []]))) ∧ (eqB (decide (rule < 1)) false) ∧ (eqB (decide (rule > 13)) false) ∧ (pc 35 [.nilp, (vI a), (vI b)] (eqA (.v (.bool y5)))) ∧ (eqB (!y5) true) ∧ K (vF)) := by kernel_rfl
theorem ppo_Holds_p16 (c : Cand) (a : Int) (b : Int) (rule : Int) (z2 : ppo_view) (K : AV → Prop) : oP pc sc lp cd ⟨ord17, [(1, ⟨[], [], [], [], [(11, .fptr (ppo_view.enc z2) 0), (12, .agg [.fn 49 [] [], .fn 51 [] [], .fn 55 [] [], .fn 56 [] [], .fn 58 [] [], .fn 59 [] [], .fn 60 [] [], .fn 61 [] [], .fn 62 [] [], .fn 64 [] [], .fn 65 [] [], .fn 66 [] [], .fn 67 [] []])], [], [], []⟩), rV 2 [(15, vT)]], [], [], []⟩ 17 [(aAgg Cand.enc c), (vI a), (vI b), (vI rule)] K
  = ((pc 28 [.fptr (Cand.enc c) 0] (eqA (.fptr (ppo_view.enc z2) 0))) ∧ (pc 34 [] (eqA (.agg [.fn 49 [] [], .fn 51 [] [], .fn 55 [] [], .fn 56 [] [], .fn 58 [] [], .fn 59 [] [], .fn 60 [] [], .fn 61 [] [], .fn 62 [] [], .fn 64 [] [], .fn 65 [] [], .fn 66 [] [], .fn 67 [] []]))) ∧ (eqB (decide (rule < 1)) true) ∧ K (vF)) := by kernel_rfl
theorem ppo_Holds_p17 (c : Cand) (a : Int) (b : Int) (rule : Int) (z2 : ppo_view) (K : AV → Prop) : oP pc sc lp cd ⟨ord17, [(1, ⟨[], [], [], [], [(11, .fptr (ppo_view.enc z2) 0), (12, .agg [.fn 49 [] [], .fn 51 [] [], .fn 55 [] [], .fn 56 [] [], .fn 58 [] [], .fn 59 [] [], .fn 60 [] [], .fn 61 [] [], .fn 62 [] [], .fn 64 [] [], .fn 65 [] [], .fn 66 [] [], .fn 67 [] []])], [], [], []⟩), rV 2 [(15, vF), (19, vT)]], [], [], []⟩ 17 [(aAgg Cand.enc c), (vI a), (vI b), (vI rule)] K
  = ((pc 28 [.fptr (Cand.enc c) 0] (eqA (.fptr (ppo_view.enc z2) 0))) ∧ (pc 34 [] (eqA (.agg [.fn 49 [] [], .fn 51 [] [], .fn 55 [] [], .fn 56 [] [], .fn 58 [] [], .fn 59 [] [], .fn 60 [] [], .fn 61 [] [], .fn 62 [] [], .fn 64 [] [], .fn 65 [] [], .fn 66 [] [], .fn 67 [] []]))) ∧ (eqB (decide (rule < 1)) false) ∧ (eqB (decide (rule > 13)) true) ∧ K (vF)) := by kernel_rfl
theorem ppo_Holds_p18 (c : Cand) (a : Int) (b : Int) (rule : Int) (z2 : ppo_view) (y6 : Bool) (K : AV → Prop) : oP pc sc lp cd ⟨ord17, [(1, ⟨[], [], [], [], [(11, .fptr (ppo_view.enc z2) 0), (12, .agg [.fn 49 [] [], .fn 51 [] [], .fn 55 [] [], .fn 56 [] [], .fn 58 [] [], .fn 59 [] [], .fn 60 [] [], .fn 61 [] [], .fn 62 [] [], .fn 64 [] [], .fn 65 [] [], .fn 66 [] [], .fn 67 [] []])], [], [], []⟩), rVC 2 [(15, vF), (19, vF), (25, vT)] [(23, .v (.bool y6))]], [], [], []⟩ 17 [(aAgg Cand.enc c), (vI a), (vI b), (vI rule)] K
  = ((pc 28 [.fptr (Cand.enc c) 0] (eqA (.fptr (ppo_view.enc z2) 0))) ∧ (pc 34 [] (eqA (.agg [.fn 49 [] [], .fn 51 [] [], .fn 55 [] [], .fn 56 [] [], .fn 58 [] [], .fn 59 [] [], .fn 60 [] [], .fn 61 [] [], .fn 62 [] [], .fn 64 [] [], .fn 65 [] [], .fn 66 [] [], .fn 67 [] []]))) ∧ (eqB (decide (rule < 1)) false) ∧ (eqB (decide (rule > 13)) false) ∧ (pc 35 [.fptr (ppo_view.enc z2) 0, (vI a), (vI b)] (eqA (.v (.bool y6)))) ∧ (eqB (!y6) true) ∧ K (vF)) := by kernel_rfl
theorem ppo_Holds_p19 (c : Cand) (a : Int) (b : Int) (rule : Int) (z2 : ppo_view) (y6 : Bool) (x9 : Event) (x10 : Event) (y11 : Bool) (K : AV → Prop) : oP pc sc lp cd ⟨ord17, [(1, ⟨[], [], [], [], [(11, .fptr (ppo_view.enc z2) 0), (12, .agg [.fn 49 [] [], .fn 51 [] [], .fn 55 [] [], .fn 56 [] [], .fn 58 [] [], .fn 59 [] [], .fn 60 [] [], .fn 61 [] [], .fn 62 [] [], .fn 64 [] [], .fn 65 [] [], .fn 66 [] [], .fn 67 [] []])], [], [], []⟩), rVC 2 [(15, vF), (19, vF), (25, vF)] [(23, .v (.bool y6))], (4, ⟨[], [], [(38, (Event.enc x9)), (44, (Event.enc x10))], [(27, (vI 0))], [(45, .v (.bool y11))], [], [], []⟩)], [], [], []⟩ 17 [(aAgg Cand.enc c), (vI a), (vI b), (vI rule)] K
  = ((pc 28 [.fptr (Cand.enc c) 0] (eqA (.fptr (ppo_view.enc z2) 0))) ∧ (pc 34 [] (eqA (.agg [.fn 49 [] [], .fn 51 [] [], .fn 55 [] [], .fn 56 [] [], .fn 58 [] [], .fn 59 [] [], .fn 60 [] [], .fn 61 [] [], .fn 62 [] [], .fn 64 [] [], .fn 65 [] [], .fn 66 [] [], .fn 67 [] []]))) ∧ (eqB (decide (rule < 1)) false) ∧ (eqB (decide (rule > 13)) false) ∧ (pc 35 [.fptr (ppo_view.enc z2) 0, (vI a), (vI b)] (eqA (.v (.bool y6)))) ∧ (eqB (!y6) false) ∧ (AV.v (.int .i64 (subW .i64 rule 1)) = AV.v (.int .i64 0)) ∧ (at? (z2.all.map Event.enc) a = some (Event.enc x9)) ∧ (at? (z2.all.map Event.enc) b = some (Event.enc x10)) ∧ (pc 49 [.fptr (ppo_view.enc z2) 0, (vI a), (vI b), .fptr (Event.enc x9) 0, .fptr (Event.enc x10) 0] (eqA (.v (.bool y11)))) ∧ K (.v (.bool y11))) := by kernel_rfl
theorem ppo_Holds_p20 (c : Cand) (a : Int) (b : Int) (rule : Int) (z2 : ppo_view) (y6 : Bool) (x9 : Event) (x10 : Event) (y11 : Bool) (K : AV → Prop) : oP pc sc lp cd ⟨ord17, [(1, ⟨[], [], [], [], [(11, .fptr (ppo_view.enc z2) 0), (12, .agg [.fn 49 [] [], .fn 51 [] [], .fn 55 [] [], .fn 56 [] [], .fn 58 [] [], .fn 59 [] [], .fn 60 [] [], .fn 61 [] [], .fn 62 [] [], .fn 64 [] [], .fn 65 [] [], .fn 66 [] [], .fn 67 [] []])], [], [], []⟩), rVC 2 [(15, vF), (19, vF), (25, vF)] [(23, .v (.bool y6))], (4, ⟨[], [], [(38, (Event.enc x9)), (44, (Event.enc x10))], [(27, (vI 1))], [(45, .v (.bool y11))], [], [], []⟩)], [], [], []⟩ 17 [(aAgg Cand.enc c), (vI a), (vI b), (vI rule)] K
  = ((pc 28 [.fptr (Cand.enc c) 0] (eqA (.fptr (ppo_view.enc z2) 0))) ∧ (pc 34 [] (eqA (.agg [.fn 49 [] [], .fn 51 [] [], .fn 55 [] [], .fn 56 [] [], .fn 58 [] [], .fn 59 [] [], .fn 60 [] [], .fn 61 [] [], .fn 62 [] [], .fn 64 [] [], .fn 65 [] [], .fn 66 [] [], .fn 67 [] []]))) ∧ (eqB (decide (rule < 1)) false) ∧ (eqB (decide (rule > 13)) false) ∧ (pc 35 [.fptr (ppo_view.enc z2) 0, (vI a), (vI b)] (eqA (.v (.bool y6)))) ∧ (eqB (!y6) false) ∧ (AV.v (.int .i64 (subW .i64 rule 1)) = AV.v (.int .i64 1)) ∧ (at? (z2.all.map Event.enc) a = some (Event.enc x9)) ∧ (at? (z2.all.map Event.enc) b = some (Event.enc x10)) ∧ (pc 51 [.fptr (ppo_view.enc z2) 0, (vI a), (vI b), .fptr (Event.enc x9) 0, .fptr (Event.enc x10) 0] (eqA (.v (.bool y11)))) ∧ K (.v (.bool y11))) := by kernel_rfl
theorem ppo_Holds_p21 (c : Cand) (a : Int) (b : Int) (rule : Int) (z2 : ppo_view) (y6 : Bool) (x9 : Event) (x10 : Event) (y11 : Bool) (K : AV → Prop) : oP pc sc lp cd ⟨ord17, [(1, ⟨[], [], [], [], [(11, .fptr (ppo_view.enc z2) 0), (12, .agg [.fn 49 [] [], .fn 51 [] [], .fn 55 [] [], .fn 56 [] [], .fn 58 [] [], .fn 59 [] [], .fn 60 [] [], .fn 61 [] [], .fn 62 [] [], .fn 64 [] [], .fn 65 [] [], .fn 66 [] [], .fn 67 [] []])], [], [], []⟩), rVC 2 [(15, vF), (19, vF), (25, vF)] [(23, .v (.bool y6))], (4, ⟨[], [], [(38, (Event.enc x9)), (44, (Event.enc x10))], [(27, (vI 2))], [(45, .v (.bool y11))], [], [], []⟩)], [], [], []⟩ 17 [(aAgg Cand.enc c), (vI a), (vI b), (vI rule)] K
  = ((pc 28 [.fptr (Cand.enc c) 0] (eqA (.fptr (ppo_view.enc z2) 0))) ∧ (pc 34 [] (eqA (.agg [.fn 49 [] [], .fn 51 [] [], .fn 55 [] [], .fn 56 [] [], .fn 58 [] [], .fn 59 [] [], .fn 60 [] [], .fn 61 [] [], .fn 62 [] [], .fn 64 [] [], .fn 65 [] [], .fn 66 [] [], .fn 67 [] []]))) ∧ (eqB (decide (rule < 1)) false) ∧ (eqB (decide (rule > 13)) false) ∧ (pc 35 [.fptr (ppo_view.enc z2) 0, (vI a), (vI b)] (eqA (.v (.bool y6)))) ∧ (eqB (!y6) false) ∧ (AV.v (.int .i64 (subW .i64 rule 1)) = AV.v (.int .i64 2)) ∧ (at? (z2.all.map Event.enc) a = some (Event.enc x9)) ∧ (at? (z2.all.map Event.enc) b = some (Event.enc x10)) ∧ (pc 55 [.fptr (ppo_view.enc z2) 0, (vI a), (vI b), .fptr (Event.enc x9) 0, .fptr (Event.enc x10) 0] (eqA (.v (.bool y11)))) ∧ K (.v (.bool y11))) := by kernel_rfl
theorem ppo_Holds_p22 (c : Cand) (a : Int) (b : Int) (rule : Int) (z2 : ppo_view) (y6 : Bool) (x9 : Event) (x10 : Event) (y11 : Bool) (K : AV → Prop) : oP pc sc lp cd ⟨ord17, [(1, ⟨[], [], [], [], [(11, .fptr (ppo_view.enc z2) 0), (12, .agg [.fn 49 [] [], .fn 51 [] [], .fn 55 [] [], .fn 56 [] [], .fn 58 [] [], .fn 59 [] [], .fn 60 [] [], .fn 61 [] [], .fn 62 [] [], .fn 64 [] [], .fn 65 [] [], .fn 66 [] [], .fn 67 [] []])], [], [], []⟩), rVC 2 [(15, vF), (19, vF), (25, vF)] [(23, .v (.bool y6))], (4, ⟨[], [], [(38, (Event.enc x9)), (44, (Event.enc x10))], [(27, (vI 3))], [(45, .v (.bool y11))], [], [], []⟩)], [], [], []⟩ 17 [(aAgg Cand.enc c), (vI a), (vI b), (vI rule)] K
  = ((pc 28 [.fptr (Cand.enc c) 0] (eqA (.fptr (ppo_view.enc z2) 0))) ∧ (pc 34 [] (eqA (.agg [.fn 49 [] [], .fn 51 [] [], .fn 55 [] [], .fn 56 [] [], .fn 58 [] [], .fn 59 [] [], .fn 60 [] [], .fn 61 [] [], .fn 62 [] [], .fn 64 [] [], .fn 65 [] [], .fn 66 [] [], .fn 67 [] []]))) ∧ (eqB (decide (rule < 1)) false) ∧ (eqB (decide (rule > 13)) false) ∧ (pc 35 [.fptr (ppo_view.enc z2) 0, (vI a), (vI b)] (eqA (.v (.bool y6)))) ∧ (eqB (!y6) false) ∧ (AV.v (.int .i64 (subW .i64 rule 1)) = AV.v (.int .i64 3)) ∧ (at? (z2.all.map Event.enc) a = some (Event.enc x9)) ∧ (at? (z2.all.map Event.enc) b = some (Event.enc x10)) ∧ (pc 56 [.fptr (ppo_view.enc z2) 0, (vI a), (vI b), .fptr (Event.enc x9) 0, .fptr (Event.enc x10) 0] (eqA (.v (.bool y11)))) ∧ K (.v (.bool y11))) := by kernel_rfl
theorem ppo_Holds_p23 (c : Cand) (a : Int) (b : Int) (rule : Int) (z2 : ppo_view) (y6 : Bool) (x9 : Event) (x10 : Event) (y11 : Bool) (K : AV → Prop) : oP pc sc lp cd ⟨ord17, [(1, ⟨[], [], [], [], [(11, .fptr (ppo_view.enc z2) 0), (12, .agg [.fn 49 [] [], .fn 51 [] [], .fn 55 [] [], .fn 56 [] [], .fn 58 [] [], .fn 59 [] [], .fn 60 [] [], .fn 61 [] [], .fn 62 [] [], .fn 64 [] [], .fn 65 [] [], .fn 66 [] [], .fn 67 [] []])], [], [], []⟩), rVC 2 [(15, vF), (19, vF), (25, vF)] [(23, .v (.bool y6))], (4, ⟨[], [], [(38, (Event.enc x9)), (44, (Event.enc x10))], [(27, (vI 4))], [(45, .v (.bool y11))], [], [], []⟩)], [], [], []⟩ 17 [(aAgg Cand.enc c), (vI a), (vI b), (vI rule)] K
  = ((pc 28 [.fptr (Cand.enc c) 0] (eqA (.fptr (ppo_view.enc z2) 0))) ∧ (pc 34 [] (eqA (.agg [.fn 49 [] [], .fn 51 [] [], .fn 55 [] [], .fn 56 [] [], .fn 58 [] [], .fn 59 [] [], .fn 60 [] [], .fn 61 [] [], .fn 62 [] [], .fn 64 [] [], .fn 65 [] [], .fn 66 [] [], .fn 67 [] []]))) ∧ (eqB (decide (rule < 1)) false) ∧ (eqB (decide (rule > 13)) false) ∧ (pc 35 [.fptr (ppo_view.enc z2) 0, (vI a), (vI b)] (eqA (.v (.bool y6)))) ∧ (eqB (!y6) false) ∧ (AV.v (.int .i64 (subW .i64 rule 1)) = AV.v (.int .i64 4)) ∧ (at? (z2.all.map Event.enc) a = some (Event.enc x9)) ∧ (at? (z2.all.map Event.enc) b = some (Event.enc x10)) ∧ (pc 58 [.fptr (ppo_view.enc z2) 0, (vI a), (vI b), .fptr (Event.enc x9) 0, .fptr (Event.enc x10) 0] (eqA (.v (.bool y11)))) ∧ K (.v (.bool y11))) := by kernel_rfl
theorem ppo_Holds_p24 (c : Cand) (a : Int) (b : Int) (rule : Int) (z2 : ppo_view) (y6 : Bool) (x9 : Event) (x10 : Event) (y11 : Bool) (K : AV → Prop) : oP pc sc lp cd ⟨ord17, [(1, ⟨[], [], [], [], [(11, .fptr (ppo_view.enc z2) 0), (12, .agg [.fn 49 [] [], .fn 51 [] [], .fn 55 [] [], .fn 56 [] [], .fn 58 [] [], .fn 59 [] [], .fn 60 [] [], .fn 61 [] [], .fn 62 [] [], .fn 64 [] [], .fn 65 [] [], .fn 66 [] [], .fn 67 [] []])], [], [], []⟩), rVC 2 [(15, vF), (19, vF), (25, vF)] [(23, .v (.bool y6))], (4, ⟨[], [], [(38, (Event.enc x9)), (44, (Event.enc x10))], [(27, (vI 5))], [(45, .v (.bool y11))], [], [], []⟩)], [], [], []⟩ 17 [(aAgg Cand.enc c), (vI a), (vI b), (vI rule)] K
  = ((pc 28 [.fptr (Cand.enc c) 0] (eqA (.fptr (ppo_view.enc z2) 0))) ∧ (pc 34 [] (eqA (.agg [.fn 49 [] [], .fn 51 [] [], .fn 55 [] [], .fn 56 [] [], .fn 58 [] [], .fn 59 [] [], .fn 60 [] [], .fn 61 [] [], .fn 62 [] [], .fn 64 [] [], .fn 65 [] [], .fn 66 [] [], .fn 67 [] []]))) ∧ (eqB (decide (rule < 1)) false) ∧ (eqB (decide (rule > 13)) false) ∧ (pc 35 [.fptr (ppo_view.enc z2) 0, (vI a), (vI b)] (eqA (.v (.bool y6)))) ∧ (eqB (!y6) false) ∧ (AV.v (.int .i64 (subW .i64 rule 1)) = AV.v (.int .i64 5)) ∧ (at? (z2.all.map Event.enc) a = some (Event.enc x9)) ∧ (at? (z2.all.map Event.enc) b = some (Event.enc x10)) ∧ (pc 59 [.fptr (ppo_view.enc z2) 0, (vI a), (vI b), .fptr (Event.enc x9) 0, .fptr (Event.enc x10) 0] (eqA (.v (.bool y11)))) ∧ K (.v (.bool y11))) := by kernel_rfl
theorem ppo_Holds_p25 (c : Cand) (a : Int) (b : Int) (rule : Int) (z2 : ppo_view) (y6 : Bool) (x9 : Event) (x10 : Event) (y11 : Bool) (K : AV → Prop) : oP pc sc lp cd ⟨ord17, [(1, ⟨[], [], [], [], [(11, .fptr (ppo_view.enc z2) 0), (12, .agg [.fn 49 [] [], .fn 51 [] [], .fn 55 [] [], .fn 56 [] [], .fn 58 [] [], .fn 59 [] [], .fn 60 [] [], .fn 61 [] [], .fn 62 [] [], .fn 64 [] [], .fn 65 [] [], .fn 66 [] [], .fn 67 [] []])], [], [], []⟩), rVC 2 [(15, vF), (19, vF), (25, vF)] [(23, .v (.bool y6))], (4, ⟨[], [], [(38, (Event.enc x9)), (44, (Event.enc x10))], [(27, (vI 6))], [(45, .v (.bool y11))], [], [], []⟩)], [], [], []⟩ 17 [(aAgg Cand.enc c), (vI a), (vI b), (vI rule)] K
  = ((pc 28 [.fptr (Cand.enc c) 0] (eqA (.fptr (ppo_view.enc z2) 0))) ∧ (pc 34 [] (eqA (.agg [.fn 49 [] [], .fn 51 [] [], .fn 55 [] [], .fn 56 [] [], .fn 58 [] [], .fn 59 [] [], .fn 60 [] [], .fn 61 [] [], .fn 62 [] [], .fn 64 [] [], .fn 65 [] [], .fn 66 [] [], .fn 67 [] []]))) ∧ (eqB (decide (rule < 1)) false) ∧ (eqB (decide (rule > 13)) false) ∧ (pc 35 [.fptr (ppo_view.enc z2) 0, (vI a), (vI b)] (eqA (.v (.bool y6)))) ∧ (eqB (!y6) false) ∧ (AV.v (.int .i64 (subW .i64 rule 1)) = AV.v (.int .i64 6)) ∧ (at? (z2.all.map Event.enc) a = some (Event.enc x9)) ∧ (at? (z2.all.map Event.enc) b = some (Event.enc x10)) ∧ (pc 60 [.fptr (ppo_view.enc z2) 0, (vI a), (vI b), .fptr (Event.enc x9) 0, .fptr (Event.enc x10) 0] (eqA (.v (.bool y11)))) ∧ K (.v (.bool y11))) := by kernel_rfl
theorem ppo_Holds_p26 (c : Cand) (a : Int) (b : Int) (rule : Int) (z2 : ppo_view) (y6 : Bool) (x9 : Event) (x10 : Event) (y11 : Bool) (K : AV → Prop) : oP pc sc lp cd ⟨ord17, [(1, ⟨[], [], [], [], [(11, .fptr (ppo_view.enc z2) 0), (12, .agg [.fn 49 [] [], .fn 51 [] [], .fn 55 [] [], .fn 56 [] [], .fn 58 [] [], .fn 59 [] [], .fn 60 [] [], .fn 61 [] [], .fn 62 [] [], .fn 64 [] [], .fn 65 [] [], .fn 66 [] [], .fn 67 [] []])], [], [], []⟩), rVC 2 [(15, vF), (19, vF), (25, vF)] [(23, .v (.bool y6))], (4, ⟨[], [], [(38, (Event.enc x9)), (44, (Event.enc x10))], [(27, (vI 7))], [(45, .v (.bool y11))], [], [], []⟩)], [], [], []⟩ 17 [(aAgg Cand.enc c), (vI a), (vI b), (vI rule)] K
  = ((pc 28 [.fptr (Cand.enc c) 0] (eqA (.fptr (ppo_view.enc z2) 0))) ∧ (pc 34 [] (eqA (.agg [.fn 49 [] [], .fn 51 [] [], .fn 55 [] [], .fn 56 [] [], .fn 58 [] [], .fn 59 [] [], .fn 60 [] [], .fn 61 [] [], .fn 62 [] [], .fn 64 [] [], .fn 65 [] [], .fn 66 [] [], .fn 67 [] []]))) ∧ (eqB (decide (rule < 1)) false) ∧ (eqB (decide (rule > 13)) false) ∧ (pc 35 [.fptr (ppo_view.enc z2) 0, (vI a), (vI b)] (eqA (.v (.bool y6)))) ∧ (eqB (!y6) false) ∧ (AV.v (.int .i64 (subW .i64 rule 1)) = AV.v (.int .i64 7)) ∧ (at? (z2.all.map Event.enc) a = some (Event.enc x9)) ∧ (at? (z2.all.map Event.enc) b = some (Event.enc x10)) ∧ (pc 61 [.fptr (ppo_view.enc z2) 0, (vI a), (vI b), .fptr (Event.enc x9) 0, .fptr (Event.enc x10) 0] (eqA (.v (.bool y11)))) ∧ K (.v (.bool y11))) := by kernel_rfl
theorem ppo_Holds_p27 (c : Cand) (a : Int) (b : Int) (rule : Int) (z2 : ppo_view) (y6 : Bool) (x9 : Event) (x10 : Event) (y11 : Bool) (K : AV → Prop) : oP pc sc lp cd ⟨ord17, [(1, ⟨[], [], [], [], [(11, .fptr (ppo_view.enc z2) 0), (12, .agg [.fn 49 [] [], .fn 51 [] [], .fn 55 [] [], .fn 56 [] [], .fn 58 [] [], .fn 59 [] [], .fn 60 [] [], .fn 61 [] [], .fn 62 [] [], .fn 64 [] [], .fn 65 [] [], .fn 66 [] [], .fn 67 [] []])], [], [], []⟩), rVC 2 [(15, vF), (19, vF), (25, vF)] [(23, .v (.bool y6))], (4, ⟨[], [], [(38, (Event.enc x9)), (44, (Event.enc x10))], [(27, (vI 8))], [(45, .v (.bool y11))], [], [], []⟩)], [], [], []⟩ 17 [(aAgg Cand.enc c), (vI a), (vI b), (vI rule)] K
  = ((pc 28 [.fptr (Cand.enc c) 0] (eqA (.fptr (ppo_view.enc z2) 0))) ∧ (pc 34 [] (eqA (.agg [.fn 49 [] [], .fn 51 [] [], .fn 55 [] [], .fn 56 [] [], .fn 58 [] [], .fn 59 [] [], .fn 60 [] [], .fn 61 [] [], .fn 62 [] [], .fn 64 [] [], .fn 65 [] [], .fn 66 [] [], .fn 67 [] []]))) ∧ (eqB (decide (rule < 1)) false) ∧ (eqB (decide (rule > 13)) false) ∧ (pc 35 [.fptr (ppo_view.enc z2) 0, (vI a), (vI b)] (eqA (.v (.bool y6)))) ∧ (eqB (!y6) false) ∧ (AV.v (.int .i64 (subW .i64 rule 1)) = AV.v (.int .i64 8)) ∧ (at? (z2.all.map Event.enc) a = some (Event.enc x9)) ∧ (at? (z2.all.map Event.enc) b = some (Event.enc x10)) ∧ (pc 62 [.fptr (ppo_view.enc z2) 0, (vI a), (vI b), .fptr (Event.enc x9) 0, .fptr (Event.enc x10) 0] (eqA (.v (.bool y11)))) ∧ K (.v (.bool y11))) := by kernel_rfl
theorem ppo_Holds_p28 (c : Cand) (a : Int) (b : Int) (rule : Int) (z2 : ppo_view) (y6 : Bool) (x9 : Event) (x10 : Event) (y11 : Bool) (K : AV → Prop) : oP pc sc lp cd ⟨ord17, [(1, ⟨[], [], [], [], [(11, .fptr (ppo_view.enc z2) 0), (12, .agg [.fn 49 [] [], .fn 51 [] [], .fn 55 [] [], .fn 56 [] [], .fn 58 [] [], .fn 59 [] [], .fn 60 [] [], .fn 61 [] [], .fn 62 [] [], .fn 64 [] [], .fn 65 [] [], .fn 66 [] [], .fn 67 [] []])], [], [], []⟩), rVC 2 [(15, vF), (19, vF), (25, vF)] [(23, .v (.bool y6))], (4, ⟨[], [], [(38, (Event.enc x9)), (44, (Event.enc x10))], [(27, (vI 9))], [(45, .v (.bool y11))], [], [], []⟩)], [], [], []⟩ 17 [(aAgg Cand.enc c), (vI a), (vI b), (vI rule)] K
  = ((pc 28 [.fptr (Cand.enc c) 0] (eqA (.fptr (ppo_view.enc z2) 0))) ∧ (pc 34 [] (eqA (.agg [.fn 49 [] [], .fn 51 [] [], .fn 55 [] [], .fn 56 [] [], .fn 58 [] [], .fn 59 [] [], .fn 60 [] [], .fn 61 [] [], .fn 62 [] [], .fn 64 [] [], .fn 65 [] [], .fn 66 [] [], .fn 67 [] []]))) ∧ (eqB (decide (rule < 1)) false) ∧ (eqB (decide (rule > 13)) false) ∧ (pc 35 [.fptr (ppo_view.enc z2) 0, (vI a), (vI b)] (eqA (.v (.bool y6)))) ∧ (eqB (!y6) false) ∧ (AV.v (.int .i64 (subW .i64 rule 1)) = AV.v (.int .i64 9)) ∧ (at? (z2.all.map Event.enc) a = some (Event.enc x9)) ∧ (at? (z2.all.map Event.enc) b = some (Event.enc x10)) ∧ (pc 64 [.fptr (ppo_view.enc z2) 0, (vI a), (vI b), .fptr (Event.enc x9) 0, .fptr (Event.enc x10) 0] (eqA (.v (.bool y11)))) ∧ K (.v (.bool y11))) := by kernel_rfl
theorem ppo_Holds_p29 (c : Cand) (a : Int) (b : Int) (rule : Int) (z2 : ppo_view) (y6 : Bool) (x9 : Event) (x10 : Event) (y11 : Bool) (K : AV → Prop) : oP pc sc lp cd ⟨ord17, [(1, ⟨[], [], [], [], [(11, .fptr (ppo_view.enc z2) 0), (12, .agg [.fn 49 [] [], .fn 51 [] [], .fn 55 [] [], .fn 56 [] [], .fn 58 [] [], .fn 59 [] [], .fn 60 [] [], .fn 61 [] [], .fn 62 [] [], .fn 64 [] [], .fn 65 [] [], .fn 66 [] [], .fn 67 [] []])], [], [], []⟩), rVC 2 [(15, vF), (19, vF), (25, vF)] [(23, .v (.bool y6))], (4, ⟨[], [], [(38, (Event.enc x9)), (44, (Event.enc x10))], [(27, (vI 10))], [(45, .v (.bool y11))], [], [], []⟩)], [], [], []⟩ 17 [(aAgg Cand.enc c), (vI a), (vI b), (vI rule)] K
  = ((pc 28 [.fptr (Cand.enc c) 0] (eqA (.fptr (ppo_view.enc z2) 0))) ∧ (pc 34 [] (eqA (.agg [.fn 49 [] [], .fn 51 [] [], .fn 55 [] [], .fn 56 [] [], .fn 58 [] [], .fn 59 [] [], .fn 60 [] [], .fn 61 [] [], .fn 62 [] [], .fn 64 [] [], .fn 65 [] [], .fn 66 [] [], .fn 67 [] []]))) ∧ (eqB (decide (rule < 1)) false) ∧ (eqB (decide (rule > 13)) false) ∧ (pc 35 [.fptr (ppo_view.enc z2) 0, (vI a), (vI b)] (eqA (.v (.bool y6)))) ∧ (eqB (!y6) false) ∧ (AV.v (.int .i64 (subW .i64 rule 1)) = AV.v (.int .i64 10)) ∧ (at? (z2.all.map Event.enc) a = some (Event.enc x9)) ∧ (at? (z2.all.map Event.enc) b = some (Event.enc x10)) ∧ (pc 65 [.fptr (ppo_view.enc z2) 0, (vI a), (vI b), .fptr (Event.enc x9) 0, .fptr (Event.enc x10) 0] (eqA (.v (.bool y11)))) ∧ K (.v (.bool y11))) := by kernel_rfl
theorem ppo_Holds_p30 (c : Cand) (a : Int) (b : Int) (rule : Int) (z2 : ppo_view) (y6 : Bool) (x9 : Event) (x10 : Event) (y11 : Bool) (K : AV → Prop) : oP pc sc lp cd ⟨ord17, [(1, ⟨[], [], [], [], [(11, .fptr (ppo_view.enc z2) 0), (12, .agg [.fn 49 [] [], .fn 51 [] [], .fn 55 [] [], .fn 56 [] [], .fn 58 [] [], .fn 59 [] [], .fn 60 [] [], .fn 61 [] [], .fn 62 [] [], .fn 64 [] [], .fn 65 [] [], .fn 66 [] [], .fn 67 [] []])], [], [], []⟩), rVC 2 [(15, vF), (19, vF), (25, vF)] [(23, .v (.bool y6))], (4, ⟨[], [], [(38, (Event.enc x9)), (44, (Event.enc x10))], [(27, (vI 11))], [(45, .v (.bool y11))], [], [], []⟩)], [], [], []⟩ 17 [(aAgg Cand.enc c), (vI a), (vI b), (vI rule)] K
  = ((pc 28 [.fptr (Cand.enc c) 0] (eqA (.fptr (ppo_view.enc z2) 0))) ∧ (pc 34 [] (eqA (.agg [.fn 49 [] [], .fn 51 [] [], .fn 55 [] [], .fn 56 [] [], .fn 58 [] [], .fn 59 [] [], .fn 60 [] [], .fn 61 [] [], .fn 62 [] [], .fn 64 [] [], .fn 65 [] [], .fn 66 [] [], .fn 67 [] []]))) ∧ (eqB (decide (rule < 1)) false) ∧ (eqB (decide (rule > 13)) false) ∧ (pc 35 [.fptr (ppo_view.enc z2) 0, (vI a), (vI b)] (eqA (.v (.bool y6)))) ∧ (eqB (!y6) false) ∧ (AV.v (.int .i64 (subW .i64 rule 1)) = AV.v (.int .i64 11)) ∧ (at? (z2.all.map Event.enc) a = some (Event.enc x9)) ∧ (at? (z2.all.map Event.enc) b = some (Event.enc x10)) ∧ (pc 66 [.fptr (ppo_view.enc z2) 0, (vI a), (vI b), .fptr (Event.enc x9) 0, .fptr (Event.enc x10) 0] (eqA (.v (.bool y11)))) ∧ K (.v (.bool y11))) := by kernel_rfl
theorem ppo_Holds_p31 (c : Cand) (a : Int) (b : Int) (rule : Int) (z2 : ppo_view) (y6 : Bool) (x9 : Event) (x10 : Event) (y11 : Bool) (K : AV → Prop) : oP pc sc lp cd ⟨ord17, [(1, ⟨[], [], [], [], [(11, .fptr (ppo_view.enc z2) 0), (12, .agg [.fn 49 [] [], .fn 51 [] [], .fn 55 [] [], .fn 56 [] [], .fn 58 [] [], .fn 59 [] [], .fn 60 [] [], .fn 61 [] [], .fn 62 [] [], .fn 64 [] [], .fn 65 [] [], .fn 66 [] [], .fn 67 [] []])], [], [], []⟩), rVC 2 [(15, vF), (19, vF), (25, vF)] [(23, .v (.bool y6))], (4, ⟨[], [], [(38, (Event.enc x9)), (44, (Event.enc x10))], [(27, (vI 12))], [(45, .v (.bool y11))], [], [], []⟩)], [], [], []⟩ 17 [(aAgg Cand.enc c), (vI a), (vI b), (vI rule)] K
  = ((pc 28 [.fptr (Cand.enc c) 0] (eqA (.fptr (ppo_view.enc z2) 0))) ∧ (pc 34 [] (eqA (.agg [.fn 49 [] [], .fn 51 [] [], .fn 55 [] [], .fn 56 [] [], .fn 58 [] [], .fn 59 [] [], .fn 60 [] [], .fn 61 [] [], .fn 62 [] [], .fn 64 [] [], .fn 65 [] [], .fn 66 [] [], .fn 67 [] []]))) ∧ (eqB (decide (rule < 1)) false) ∧ (eqB (decide (rule > 13)) false) ∧ (pc 35 [.fptr (ppo_view.enc z2) 0, (vI a), (vI b)] (eqA (.v (.bool y6)))) ∧ (eqB (!y6) false) ∧ (AV.v (.int .i64 (subW .i64 rule 1)) = AV.v (.int .i64 12)) ∧ (at? (z2.all.map Event.enc) a = some (Event.enc x9)) ∧ (at? (z2.all.map Event.enc) b = some (Event.enc x10)) ∧ (pc 67 [.fptr (ppo_view.enc z2) 0, (vI a), (vI b), .fptr (Event.enc x9) 0, .fptr (Event.enc x10) 0] (eqA (.v (.bool y11)))) ∧ K (.v (.bool y11))) := by kernel_rfl
theorem ppo_Holds_sim (n : Nat) (c : Cand) (a : Int) (b : Int) (rule : Int) (r : Bool) (h : ppo_Holds n c a b rule = some r) : PCall Try.prog 17 [(aAgg Cand.enc c), (vI a), (vI b), (vI rule)] (eqA (.v (.bool r))) := by
 unfold ppo_Holds at h
 obtain ⟨y1, gy1, h⟩ := bindE h
 rcases y1 with _ | z2
 ·
  obtain ⟨y2, gy2, h⟩ := bindE h
  rcases iteE h with ⟨h3, h⟩ | ⟨h3, h⟩
  ·
   obtain rfl := soI h
   exact okP ordB17 (Eq.mpr (ppo_Holds_p0 pP sP lP dP c a b rule _) (⟨(ppo_of_sim n c none gy1), (ppo_rules_sim n y2 gy2), cB h3, LeA.refl _⟩))
  rcases iteE h with ⟨h4, h⟩ | ⟨h4, h⟩
  ·
   obtain rfl := soI h
   exact okP ordB17 (Eq.mpr (ppo_Holds_p1 pP sP lP dP c a b rule _) (⟨(ppo_of_sim n c none gy1), (ppo_rules_sim n y2 gy2), cB h3, cB h4, LeA.refl _⟩))
  obtain ⟨y5, gy5, h⟩ := bindE h
  rcases iteE h with ⟨h6, h⟩ | ⟨h6, h⟩
  ·
   obtain rfl := soI h
   exact okP ordB17 (Eq.mpr (ppo_Holds_p2 pP sP lP dP c a b rule y5 _) (⟨(ppo_of_sim n c none gy1), (ppo_rules_sim n y2 gy2), cB h3, cB h4, (ppo_view_ahead2_sim n a b y5 gy5), cB h6, LeA.refl _⟩))
  rcases iteE h with ⟨h7, h⟩ | ⟨h7, h⟩
  ·
   cases h
  rcases iteE h with ⟨h7, h⟩ | ⟨h7, h⟩
  ·
   cases h
  rcases iteE h with ⟨h7, h⟩ | ⟨h7, h⟩
  ·
   cases h
  rcases iteE h with ⟨h7, h⟩ | ⟨h7, h⟩
  ·
   cases h
  rcases iteE h with ⟨h7, h⟩ | ⟨h7, h⟩
  ·
   cases h
  rcases iteE h with ⟨h7, h⟩ | ⟨h7, h⟩
  ·
   cases h
  rcases iteE h with ⟨h7, h⟩ | ⟨h7, h⟩
  ·
   cases h
  rcases iteE h with ⟨h7, h⟩ | ⟨h7, h⟩
  ·
   cases h
  rcases iteE h with ⟨h7, h⟩ | ⟨h7, h⟩
  ·
   cases h
  rcases iteE h with ⟨h7, h⟩ | ⟨h7, h⟩
  ·
   cases h
  rcases iteE h with ⟨h7, h⟩ | ⟨h7, h⟩
  ·
   cases h
  rcases iteE h with ⟨h7, h⟩ | ⟨h7, h⟩
  ·
   cases h
  rcases iteE h with ⟨h7, h⟩ | ⟨h7, h⟩
  ·
   cases h
  cases h
 ·
  obtain ⟨y3, gy3, h⟩ := bindE h
  rcases iteE h with ⟨h4, h⟩ | ⟨h4, h⟩
  ·
   obtain rfl := soI h
   exact okP ordB17 (Eq.mpr (ppo_Holds_p16 pP sP lP dP c a b rule z2 _) (⟨(ppo_of_sim n c (some z2) gy1), (ppo_rules_sim n y3 gy3), cB h4, LeA.refl _⟩))
  rcases iteE h with ⟨h5, h⟩ | ⟨h5, h⟩
  ·
   obtain rfl := soI h
   exact okP ordB17 (Eq.mpr (ppo_Holds_p17 pP sP lP dP c a b rule z2 _) (⟨(ppo_of_sim n c (some z2) gy1), (ppo_rules_sim n y3 gy3), cB h4, cB h5, LeA.refl _⟩))
  obtain ⟨y6, gy6, h⟩ := bindE h
  rcases iteE h with ⟨h7, h⟩ | ⟨h7, h⟩
  ·
   obtain rfl := soI h
   exact okP ordB17 (Eq.mpr (ppo_Holds_p18 pP sP lP dP c a b rule z2 y6 _) (⟨(ppo_of_sim n c (some z2) gy1), (ppo_rules_sim n y3 gy3), cB h4, cB h5, (ppo_view_ahead_sim n z2 a b y6 gy6), cB h7, LeA.refl _⟩))
  rcases iteE h with ⟨h8, h⟩ | ⟨h8, h⟩
  ·
   obtain ⟨x9, gx9, h⟩ := bindE h
   obtain ⟨x10, gx10, h⟩ := bindE h
   obtain ⟨y11, gy11, h⟩ := bindE h
   obtain rfl := soI h
   exact okP ordB17 (Eq.mpr (ppo_Holds_p19 pP sP lP dP c a b rule z2 y6 x9 x10 y11 _) (⟨(ppo_of_sim n c (some z2) gy1), (ppo_rules_sim n y3 gy3), cB h4, cB h5, (ppo_view_ahead_sim n z2 a b y6 gy6), cB h7, eqI h8, at_map Event.enc gx9, at_map Event.enc gx10, (ppo_rules_1_sim n z2 a b x9 x10 y11 gy11), LeA.refl _⟩))
  rcases iteE h with ⟨h8, h⟩ | ⟨h8, h⟩
  ·
   obtain ⟨x9, gx9, h⟩ := bindE h
   obtain ⟨x10, gx10, h⟩ := bindE h
   obtain ⟨y11, gy11, h⟩ := bindE h
   obtain rfl := soI h
   exact okP ordB17 (Eq.mpr (ppo_Holds_p20 pP sP lP dP c a b rule z2 y6 x9 x10 y11 _) (⟨(ppo_of_sim n c (some z2) gy1), (ppo_rules_sim n y3 gy3), cB h4, cB h5, (ppo_view_ahead_sim n z2 a b y6 gy6), cB h7, eqI h8, at_map Event.enc gx9, at_map Event.enc gx10, (ppo_rules_2_sim n z2 a b x9 x10 y11 gy11), LeA.refl _⟩))
  rcases iteE h with ⟨h8, h⟩ | ⟨h8, h⟩
  ·
   obtain ⟨x9, gx9, h⟩ := bindE h
   obtain ⟨x10, gx10, h⟩ := bindE h
   obtain ⟨y11, gy11, h⟩ := bindE h
   obtain rfl := soI h
   exact okP ordB17 (Eq.mpr (ppo_Holds_p21 pP sP lP dP c a b rule z2 y6 x9 x10 y11 _) (⟨(ppo_of_sim n c (some z2) gy1), (ppo_rules_sim n y3 gy3), cB h4, cB h5, (ppo_view_ahead_sim n z2 a b y6 gy6), cB h7, eqI h8, at_map Event.enc gx9, at_map Event.enc gx10, (ppo_rules_3_sim n z2 a b x9 x10 y11 gy11), LeA.refl _⟩))
  rcases iteE h with ⟨h8, h⟩ | ⟨h8, h⟩
  ·
   obtain ⟨x9, gx9, h⟩ := bindE h
   obtain ⟨x10, gx10, h⟩ := bindE h
   obtain ⟨y11, gy11, h⟩ := bindE h
   obtain rfl := soI h
   exact okP ordB17 (Eq.mpr (ppo_Holds_p22 pP sP lP dP c a b rule z2 y6 x9 x10 y11 _) (⟨(ppo_of_sim n c (some z2) gy1), (ppo_rules_sim n y3 gy3), cB h4, cB h5, (ppo_view_ahead_sim n z2 a b y6 gy6), cB h7, eqI h8, at_map Event.enc gx9, at_map Event.enc gx10, (ppo_rules_4_sim n z2 a b x9 x10 y11 gy11), LeA.refl _⟩))
  rcases iteE h with ⟨h8, h⟩ | ⟨h8, h⟩
  ·
   obtain ⟨x9, gx9, h⟩ := bindE h
   obtain ⟨x10, gx10, h⟩ := bindE h
   obtain ⟨y11, gy11, h⟩ := bindE h
   obtain rfl := soI h
   exact okP ordB17 (Eq.mpr (ppo_Holds_p23 pP sP lP dP c a b rule z2 y6 x9 x10 y11 _) (⟨(ppo_of_sim n c (some z2) gy1), (ppo_rules_sim n y3 gy3), cB h4, cB h5, (ppo_view_ahead_sim n z2 a b y6 gy6), cB h7, eqI h8, at_map Event.enc gx9, at_map Event.enc gx10, (ppo_rules_5_sim n z2 a b x9 x10 y11 gy11), LeA.refl _⟩))
  rcases iteE h with ⟨h8, h⟩ | ⟨h8, h⟩
  ·
   obtain ⟨x9, gx9, h⟩ := bindE h
   obtain ⟨x10, gx10, h⟩ := bindE h
   obtain ⟨y11, gy11, h⟩ := bindE h
   obtain rfl := soI h
   exact okP ordB17 (Eq.mpr (ppo_Holds_p24 pP sP lP dP c a b rule z2 y6 x9 x10 y11 _) (⟨(ppo_of_sim n c (some z2) gy1), (ppo_rules_sim n y3 gy3), cB h4, cB h5, (ppo_view_ahead_sim n z2 a b y6 gy6), cB h7, eqI h8, at_map Event.enc gx9, at_map Event.enc gx10, (ppo_rules_6_sim n z2 a b x9 x10 y11 gy11), LeA.refl _⟩))
  rcases iteE h with ⟨h8, h⟩ | ⟨h8, h⟩
  ·
   obtain ⟨x9, gx9, h⟩ := bindE h
   obtain ⟨x10, gx10, h⟩ := bindE h
   obtain ⟨y11, gy11, h⟩ := bindE h
   obtain rfl := soI h
   exact okP ordB17 (Eq.mpr (ppo_Holds_p25 pP sP lP dP c a b rule z2 y6 x9 x10 y11 _) (⟨(ppo_of_sim n c (some z2) gy1), (ppo_rules_sim n y3 gy3), cB h4, cB h5, (ppo_view_ahead_sim n z2 a b y6 gy6), cB h7, eqI h8, at_map Event.enc gx9, at_map Event.enc gx10, (ppo_rules_7_sim n z2 a b x9 x10 y11 gy11), LeA.refl _⟩))
  rcases iteE h with ⟨h8, h⟩ | ⟨h8, h⟩
  ·
   obtain ⟨x9, gx9, h⟩ := bindE h
   obtain ⟨x10, gx10, h⟩ := bindE h
   obtain ⟨y11, gy11, h⟩ := bindE h
   obtain rfl := soI h
   exact okP ordB17 (Eq.mpr (ppo_Holds_p26 pP sP lP dP c a b rule z2 y6 x9 x10 y11 _) (⟨(ppo_of_sim n c (some z2) gy1), (ppo_rules_sim n y3 gy3), cB h4, cB h5, (ppo_view_ahead_sim n z2 a b y6 gy6), cB h7, eqI h8, at_map Event.enc gx9, at_map Event.enc gx10, (ppo_rules_8_sim n z2 a b x9 x10 y11 gy11), LeA.refl _⟩))
  rcases iteE h with ⟨h8, h⟩ | ⟨h8, h⟩
  ·
   obtain ⟨x9, gx9, h⟩ := bindE h
   obtain ⟨x10, gx10, h⟩ := bindE h
   obtain ⟨y11, gy11, h⟩ := bindE h
   obtain rfl := soI h
   exact okP ordB17 (Eq.mpr (ppo_Holds_p27 pP sP lP dP c a b rule z2 y6 x9 x10 y11 _) (⟨(ppo_of_sim n c (some z2) gy1), (ppo_rules_sim n y3 gy3), cB h4, cB h5, (ppo_view_ahead_sim n z2 a b y6 gy6), cB h7, eqI h8, at_map Event.enc gx9, at_map Event.enc gx10, (ppo_rules_9_sim n z2 a b x9 x10 y11 gy11), LeA.refl _⟩))
  rcases iteE h with ⟨h8, h⟩ | ⟨h8, h⟩
  ·
   obtain ⟨x9, gx9, h⟩ := bindE h
   obtain ⟨x10, gx10, h⟩ := bindE h
   obtain ⟨y11, gy11, h⟩ := bindE h
   obtain rfl := soI h
   exact okP ordB17 (Eq.mpr (ppo_Holds_p28 pP sP lP dP c a b rule z2 y6 x9 x10 y11 _) (⟨(ppo_of_sim n c (some z2) gy1), (ppo_rules_sim n y3 gy3), cB h4, cB h5, (ppo_view_ahead_sim n z2 a b y6 gy6), cB h7, eqI h8, at_map Event.enc gx9, at_map Event.enc gx10, (ppo_rules_10_sim n z2 a b x9 x10 y11 gy11), LeA.refl _⟩))
  rcases iteE h with ⟨h8, h⟩ | ⟨h8, h⟩
  ·
   obtain ⟨x9, gx9, h⟩ := bindE h
   obtain ⟨x10, gx10, h⟩ := bindE h
   obtain ⟨y11, gy11, h⟩ := bindE h
   obtain rfl := soI h
   exact okP ordB17 (Eq.mpr (ppo_Holds_p29 pP sP lP dP c a b rule z2 y6 x9 x10 y11 _) (⟨(ppo_of_sim n c (some z2) gy1), (ppo_rules_sim n y3 gy3), cB h4, cB h5, (ppo_view_ahead_sim n z2 a b y6 gy6), cB h7, eqI h8, at_map Event.enc gx9, at_map Event.enc gx10, (ppo_rules_11_sim n z2 a b x9 x10 y11 gy11), LeA.refl _⟩))
  rcases iteE h with ⟨h8, h⟩ | ⟨h8, h⟩
  ·
   obtain ⟨x9, gx9, h⟩ := bindE h
   obtain ⟨x10, gx10, h⟩ := bindE h
   obtain ⟨y11, gy11, h⟩ := bindE h
   obtain rfl := soI h
   exact okP ordB17 (Eq.mpr (ppo_Holds_p30 pP sP lP dP c a b rule z2 y6 x9 x10 y11 _) (⟨(ppo_of_sim n c (some z2) gy1), (ppo_rules_sim n y3 gy3), cB h4, cB h5, (ppo_view_ahead_sim n z2 a b y6 gy6), cB h7, eqI h8, at_map Event.enc gx9, at_map Event.enc gx10, (ppo_rules_12_sim n z2 a b x9 x10 y11 gy11), LeA.refl _⟩))
  rcases iteE h with ⟨h8, h⟩ | ⟨h8, h⟩
  ·
   obtain ⟨x9, gx9, h⟩ := bindE h
   obtain ⟨x10, gx10, h⟩ := bindE h
   obtain ⟨y11, gy11, h⟩ := bindE h
   obtain rfl := soI h
   exact okP ordB17 (Eq.mpr (ppo_Holds_p31 pP sP lP dP c a b rule z2 y6 x9 x10 y11 _) (⟨(ppo_of_sim n c (some z2) gy1), (ppo_rules_sim n y3 gy3), cB h4, cB h5, (ppo_view_ahead_sim n z2 a b y6 gy6), cB h7, eqI h8, at_map Event.enc gx9, at_map Event.enc gx10, (ppo_rules_13_sim n z2 a b x9 x10 y11 gy11), LeA.refl _⟩))
  cases h

end
end Go.Proofs.Ytigcbjbaibcgfaa
