/- What the functions compute, they compute: printed by a program, path by path. No conditions. -/
import Derived.Test.YtigcbjbaibcgfaaP3
import Derived.KernelRfl
namespace Go.Proofs.Ytigcbjbaibcgfaa
open Go A
set_option linter.unusedVariables false
set_option maxRecDepth 100000
set_option maxHeartbeats 0
section
variable (pc : Nat → List AV → (AV → Prop) → Prop) (sc : Nat → List AV → List Ob → (AV → List Ob → Prop) → Prop) (lp : Pol → Code → St → (Ex → St → Prop) → Prop) (cd : CutP)

def ord56 : List (Nat × PT) := []
theorem ordB56 : ordB (polF 56) ord56 (bodyOf Try.prog 56) = true := by kernel_rfl
theorem ppo_rules_4_p0 (v : ppo_view) (a : Int) (b : Int) (x : Event) (y : Event) (y1 : Bool) (K : AV → Prop) : oP pc sc lp cd ⟨ord56, [rVC 1 [] [(14, .v (.bool y1))]], [], [], []⟩ 56 [.fptr (ppo_view.enc v) 0, (vI a), (vI b), .fptr (Event.enc x) 0, .fptr (Event.enc y) 0] K
  = ((pc 57 [.fptr (ppo_view.enc v) 0, (vI a), (vI b)] (eqA (.v (.bool y1)))) ∧ K (.v (.bool y1))) := by kernel_rfl
theorem ppo_rules_4_sim (n : Nat) (v : ppo_view) (a : Int) (b : Int) (x : Event) (y : Event) (r : Bool) (h : ppo_rules_4 n v a b x y = some r) : PCall Try.prog 56 [.fptr (ppo_view.enc v) 0, (vI a), (vI b), .fptr (Event.enc x) 0, .fptr (Event.enc y) 0] (eqA (.v (.bool r))) := by
 unfold ppo_rules_4 at h
 obtain ⟨y1, gy1, h⟩ := bindE h
 obtain rfl := soI h
 exact okP ordB56 (Eq.mpr (ppo_rules_4_p0 pP sP lP dP v a b x y y1 _) (⟨(ppo_view_fenced_sim n v a b y1 gy1), LeA.refl _⟩))

def ord58 : List (Nat × PT) := []
theorem ordB58 : ordB (polF 58) ord58 (bodyOf Try.prog 58) = true := by kernel_rfl
theorem ppo_rules_5_p0 (v : ppo_view) (a : Int) (b : Int) (x : Event) (y : Event) (K : AV → Prop) : oP pc sc lp cd ⟨ord58, [], [], [], []⟩ 58 [.fptr (ppo_view.enc v) 0, (vI a), (vI b), .fptr (Event.enc x) 0, .fptr (Event.enc y) 0] K
  = (K (.v (.bool x.Aq))) := by kernel_rfl
theorem ppo_rules_5_sim (n : Nat) (v : ppo_view) (a : Int) (b : Int) (x : Event) (y : Event) (r : Bool) (h : ppo_rules_5 n v a b x y = some r) : PCall Try.prog 58 [.fptr (ppo_view.enc v) 0, (vI a), (vI b), .fptr (Event.enc x) 0, .fptr (Event.enc y) 0] (eqA (.v (.bool r))) := by
 unfold ppo_rules_5 at h
 obtain rfl := soI h
 exact okP ordB58 (Eq.mpr (ppo_rules_5_p0 pP sP lP dP v a b x y _) (LeA.refl _))

def ord59 : List (Nat × PT) := []
theorem ordB59 : ordB (polF 59) ord59 (bodyOf Try.prog 59) = true := by kernel_rfl
theorem ppo_rules_6_p0 (v : ppo_view) (a : Int) (b : Int) (x : Event) (y : Event) (K : AV → Prop) : oP pc sc lp cd ⟨ord59, [], [], [], []⟩ 59 [.fptr (ppo_view.enc v) 0, (vI a), (vI b), .fptr (Event.enc x) 0, .fptr (Event.enc y) 0] K
  = (K (.v (.bool y.Rl))) := by kernel_rfl
theorem ppo_rules_6_sim (n : Nat) (v : ppo_view) (a : Int) (b : Int) (x : Event) (y : Event) (r : Bool) (h : ppo_rules_6 n v a b x y = some r) : PCall Try.prog 59 [.fptr (ppo_view.enc v) 0, (vI a), (vI b), .fptr (Event.enc x) 0, .fptr (Event.enc y) 0] (eqA (.v (.bool r))) := by
 unfold ppo_rules_6 at h
 obtain rfl := soI h
 exact okP ordB59 (Eq.mpr (ppo_rules_6_p0 pP sP lP dP v a b x y _) (LeA.refl _))

def ord60 : List (Nat × PT) := []
theorem ordB60 : ordB (polF 60) ord60 (bodyOf Try.prog 60) = true := by kernel_rfl
theorem ppo_rules_7_p0 (v : ppo_view) (a : Int) (b : Int) (x : Event) (y : Event) (K : AV → Prop) : oP pc sc lp cd ⟨ord60, [rV 1 [(15, vT), (26, vT)]], [], [], []⟩ 60 [.fptr (ppo_view.enc v) 0, (vI a), (vI b), .fptr (Event.enc x) 0, .fptr (Event.enc y) 0] K
  = ((eqB x.Aq true) ∧ (eqB y.Aq true) ∧ K (vT)) := by kernel_rfl
theorem ppo_rules_7_p1 (v : ppo_view) (a : Int) (b : Int) (x : Event) (y : Event) (K : AV → Prop) : oP pc sc lp cd ⟨ord60, [rV 1 [(15, vT), (26, vF)]], [], [], []⟩ 60 [.fptr (ppo_view.enc v) 0, (vI a), (vI b), .fptr (Event.enc x) 0, .fptr (Event.enc y) 0] K
  = ((eqB x.Aq true) ∧ (eqB y.Aq false) ∧ K (.v (.bool y.Rl))) := by kernel_rfl
theorem ppo_rules_7_p2 (v : ppo_view) (a : Int) (b : Int) (x : Event) (y : Event) (K : AV → Prop) : oP pc sc lp cd ⟨ord60, [rV 1 [(15, vF), (21, vT), (26, vT)]], [], [], []⟩ 60 [.fptr (ppo_view.enc v) 0, (vI a), (vI b), .fptr (Event.enc x) 0, .fptr (Event.enc y) 0] K
  = ((eqB x.Aq false) ∧ (eqB x.Rl true) ∧ (eqB y.Aq true) ∧ K (vT)) := by kernel_rfl
theorem ppo_rules_7_p3 (v : ppo_view) (a : Int) (b : Int) (x : Event) (y : Event) (K : AV → Prop) : oP pc sc lp cd ⟨ord60, [rV 1 [(15, vF), (21, vT), (26, vF)]], [], [], []⟩ 60 [.fptr (ppo_view.enc v) 0, (vI a), (vI b), .fptr (Event.enc x) 0, .fptr (Event.enc y) 0] K
  = ((eqB x.Aq false) ∧ (eqB x.Rl true) ∧ (eqB y.Aq false) ∧ K (.v (.bool y.Rl))) := by kernel_rfl
theorem ppo_rules_7_p4 (v : ppo_view) (a : Int) (b : Int) (x : Event) (y : Event) (K : AV → Prop) : oP pc sc lp cd ⟨ord60, [rV 1 [(15, vF), (21, vF)]], [], [], []⟩ 60 [.fptr (ppo_view.enc v) 0, (vI a), (vI b), .fptr (Event.enc x) 0, .fptr (Event.enc y) 0] K
  = ((eqB x.Aq false) ∧ (eqB x.Rl false) ∧ K (vF)) := by kernel_rfl
theorem ppo_rules_7_sim (n : Nat) (v : ppo_view) (a : Int) (b : Int) (x : Event) (y : Event) (r : Bool) (h : ppo_rules_7 n v a b x y = some r) : PCall Try.prog 60 [.fptr (ppo_view.enc v) 0, (vI a), (vI b), .fptr (Event.enc x) 0, .fptr (Event.enc y) 0] (eqA (.v (.bool r))) := by
 unfold ppo_rules_7 at h
 rcases iteE h with ⟨h1, h⟩ | ⟨h1, h⟩
 ·
  rcases iteE h with ⟨h2, h⟩ | ⟨h2, h⟩
  ·
   obtain rfl := soI h
   exact okP ordB60 (Eq.mpr (ppo_rules_7_p0 pP sP lP dP v a b x y _) (⟨cB h1, cB h2, LeA.refl _⟩))
  obtain rfl := soI h
  exact okP ordB60 (Eq.mpr (ppo_rules_7_p1 pP sP lP dP v a b x y _) (⟨cB h1, cB h2, LeA.refl _⟩))
 rcases iteN h with ⟨h2, h⟩ | ⟨h2, h⟩
 ·
  obtain rfl := soI h
  exact okP ordB60 (Eq.mpr (ppo_rules_7_p4 pP sP lP dP v a b x y _) (⟨cB h1, cB h2, LeA.refl _⟩))
 rcases iteE h with ⟨h3, h⟩ | ⟨h3, h⟩
 ·
  obtain rfl := soI h
  exact okP ordB60 (Eq.mpr (ppo_rules_7_p2 pP sP lP dP v a b x y _) (⟨cB h1, cB h2, cB h3, LeA.refl _⟩))
 obtain rfl := soI h
 exact okP ordB60 (Eq.mpr (ppo_rules_7_p3 pP sP lP dP v a b x y _) (⟨cB h1, cB h2, cB h3, LeA.refl _⟩))

def ord61 : List (Nat × PT) := [(1, (ptS [0, 1, 2, 3, 4, 5, 6, 7, 8, 9, 10, 11, 12, 13, 14, 15, 16]))]
theorem ordB61 : ordB (polF 61) ord61 (bodyOf Try.prog 61) = true := by kernel_rfl
theorem ppo_rules_8_p0 (v : ppo_view) (a : Int) (b : Int) (x : Event) (y : Event) (K : AV → Prop) : oP pc sc lp cd ⟨ord61, [rV 1 [(16, vT)]], [], [], []⟩ 61 [.fptr (ppo_view.enc v) 0, (vI a), (vI b), .fptr (Event.enc x) 0, .fptr (Event.enc y) 0] K
  = ((eqB (y.Kind == 4) true) ∧ K (.v (.bool (y.Pair == x.At)))) := by kernel_rfl
theorem ppo_rules_8_p1 (v : ppo_view) (a : Int) (b : Int) (x : Event) (y : Event) (K : AV → Prop) : oP pc sc lp cd ⟨ord61, [rV 1 [(16, vF)]], [], [], []⟩ 61 [.fptr (ppo_view.enc v) 0, (vI a), (vI b), .fptr (Event.enc x) 0, .fptr (Event.enc y) 0] K
  = ((eqB (y.Kind == 4) false) ∧ K (vF)) := by kernel_rfl
theorem ppo_rules_8_sim (n : Nat) (v : ppo_view) (a : Int) (b : Int) (x : Event) (y : Event) (r : Bool) (h : ppo_rules_8 n v a b x y = some r) : PCall Try.prog 61 [.fptr (ppo_view.enc v) 0, (vI a), (vI b), .fptr (Event.enc x) 0, .fptr (Event.enc y) 0] (eqA (.v (.bool r))) := by
 unfold ppo_rules_8 at h
 rcases iteE h with ⟨h1, h⟩ | ⟨h1, h⟩
 ·
  obtain rfl := soI h
  exact okP ordB61 (Eq.mpr (ppo_rules_8_p0 pP sP lP dP v a b x y _) (⟨cB h1, LeA.refl _⟩))
 obtain rfl := soI h
 exact okP ordB61 (Eq.mpr (ppo_rules_8_p1 pP sP lP dP v a b x y _) (⟨cB h1, LeA.refl _⟩))

def ord94 : List (Nat × PT) := []
theorem ordB94 : ordB (polF 94) ord94 (bodyOf Try.prog 94) = true := by kernel_rfl
theorem cmp_isNaN_int_p0 (x : Int) (K : AV → Prop) : oP pc sc lp cd ⟨ord94, [], [], [], []⟩ 94 [(vI x)] K
  = (K (.v (.bool (x != x)))) := by kernel_rfl
theorem cmp_isNaN_int_sim (n : Nat) (x : Int) (r : Bool) (h : cmp_isNaN_int n x = some r) : PCall Try.prog 94 [(vI x)] (eqA (.v (.bool r))) := by
 unfold cmp_isNaN_int at h
 obtain rfl := soI h
 exact okP ordB94 (Eq.mpr (cmp_isNaN_int_p0 pP sP lP dP x _) (LeA.refl _))

def ord87 : List (Nat × PT) := []
theorem ordB87 : ordB (polF 87) ord87 (bodyOf Try.prog 87) = true := by kernel_rfl
theorem cmp_Less_int_p0 (x : Int) (y : Int) (y1 : Bool) (y3 : Bool) (K : AV → Prop) : oP pc sc lp cd ⟨ord87, [rVC 1 [(7, vT), (12, vT)] [(6, .v (.bool y1)), (9, .v (.bool y3))]], [], [], []⟩ 87 [(vI x), (vI y)] K
  = ((pc 94 [(vI x)] (eqA (.v (.bool y1)))) ∧ (eqB y1 true) ∧ (pc 94 [(vI y)] (eqA (.v (.bool y3)))) ∧ (eqB (!y3) true) ∧ K (vT)) := by kernel_rfl
theorem cmp_Less_int_p1 (x : Int) (y : Int) (y1 : Bool) (y3 : Bool) (K : AV → Prop) : oP pc sc lp cd ⟨ord87, [rVC 1 [(7, vT), (12, vF)] [(6, .v (.bool y1)), (9, .v (.bool y3))]], [], [], []⟩ 87 [(vI x), (vI y)] K
  = ((pc 94 [(vI x)] (eqA (.v (.bool y1)))) ∧ (eqB y1 true) ∧ (pc 94 [(vI y)] (eqA (.v (.bool y3)))) ∧ (eqB (!y3) false) ∧ K (.v (.bool (decide (x < y))))) := by kernel_rfl
theorem cmp_Less_int_p2 (x : Int) (y : Int) (y1 : Bool) (K : AV → Prop) : oP pc sc lp cd ⟨ord87, [rVC 1 [(7, vF)] [(6, .v (.bool y1))]], [], [], []⟩ 87 [(vI x), (vI y)] K
  = ((pc 94 [(vI x)] (eqA (.v (.bool y1)))) ∧ (eqB y1 false) ∧ K (.v (.bool (decide (x < y))))) := by kernel_rfl
theorem cmp_Less_int_sim (n : Nat) (x : Int) (y : Int) (r : Bool) (h : cmp_Less_int n x y = some r) : PCall Try.prog 87 [(vI x), (vI y)] (eqA (.v (.bool r))) := by
 unfold cmp_Less_int at h
 obtain ⟨y1, gy1, h⟩ := bindE h
 rcases iteN h with ⟨h2, h⟩ | ⟨h2, h⟩
 ·
  obtain rfl := soI h
  exact okP ordB87 (Eq.mpr (cmp_Less_int_p2 pP sP lP dP x y y1 _) (⟨(cmp_isNaN_int_sim n x y1 gy1), cB h2, LeA.refl _⟩))
 obtain ⟨y3, gy3, h⟩ := bindE h
 rcases iteE h with ⟨h4, h⟩ | ⟨h4, h⟩
 ·
  obtain rfl := soI h
  exact okP ordB87 (Eq.mpr (cmp_Less_int_p0 pP sP lP dP x y y1 y3 _) (⟨(cmp_isNaN_int_sim n x y1 gy1), cB h2, (cmp_isNaN_int_sim n y y3 gy3), cB h4, LeA.refl _⟩))
 obtain rfl := soI h
 exact okP ordB87 (Eq.mpr (cmp_Less_int_p1 pP sP lP dP x y y1 y3 _) (⟨(cmp_isNaN_int_sim n x y1 gy1), cB h2, (cmp_isNaN_int_sim n y y3 gy3), cB h4, LeA.refl _⟩))

def ord88 : List (Nat × PT) := []
theorem ordB88 : ordB (polF 88) ord88 (bodyOf Try.prog 88) = true := by kernel_rfl
theorem slices_isNaN_int_p0 (x : Int) (K : AV → Prop) : oP pc sc lp cd ⟨ord88, [], [], [], []⟩ 88 [(vI x)] K
  = (K (.v (.bool (x != x)))) := by kernel_rfl
theorem slices_isNaN_int_sim (n : Nat) (x : Int) (r : Bool) (h : slices_isNaN_int n x = some r) : PCall Try.prog 88 [(vI x)] (eqA (.v (.bool r))) := by
 unfold slices_isNaN_int at h
 obtain rfl := soI h
 exact okP ordB88 (Eq.mpr (slices_isNaN_int_p0 pP sP lP dP x _) (LeA.refl _))

def ord81 : List (Nat × PT) := []
theorem ordB81 : ordB (polF 81) ord81 (bodyOf Try.prog 81) = true := by kernel_rfl
noncomputable def c_slices_BinarySearch_int_int_L1 : Code := sub (bodyOf Try.prog 81) [1, 1, 1, 0, 0, 0]
theorem ordB_slices_BinarySearch_int_int_L1 : ordB (polF 81) ord81 c_slices_BinarySearch_int_int_L1 = true := by kernel_rfl
def slices_BinarySearch_int_int_L1_S (x : (List Int)) (target : Int) (sa : Int × Int) : St := mkS 54 [(0, .sl (x.map eI)), (1, (vI target)), (6, (vI (x.length : Int))), (7, (vI sa.1)), (8, (vI sa.2))] [] [] 0
def slices_BinarySearch_int_int_L1_T0 (x : (List Int)) (target : Int) (tt : Int) : St := mkS 54 [(0, .sl (x.map eI)), (1, (vI target)), (6, (vI (x.length : Int))), (7, (vI tt))] [] [] 0
def slices_BinarySearch_int_int_L1_out (x : (List Int)) (target : Int) (tt : Int) : Ex × St := (.ex 0, slices_BinarySearch_int_int_L1_T0 x target tt)
theorem slices_BinarySearch_int_int_L1_p0 (x : (List Int)) (target : Int) (sa : Int × Int) (xa2 : Int) (ya3 : Bool) (K : Ex → St → Prop) : oR pc sc lp cd ⟨ord81, [rV 3 [(15, vT)], (5, ⟨[], [], [(24, [(vI xa2)])], [(27, vT)], [(27, .v (.bool ya3))], [], [], []⟩)], [], [], []⟩ (polF 81) [(0, ⟨[0, 1, 6, 7, 8], [], 0, [], []⟩, ⟨[], [], []⟩)] c_slices_BinarySearch_int_int_L1 (slices_BinarySearch_int_int_L1_S x target sa) K
  = ((eqB (decide (sa.1 < sa.2)) true) ∧ (at? (x.map eI) (IntKind.wrap .i64 (shrW .u64 (IntKind.wrap .u64 (addW .i64 sa.1 sa.2)) 1)) = some [(vI xa2)]) ∧ (pc 87 [(vI xa2), (vI target)] (eqA (.v (.bool ya3)))) ∧ (eqB ya3 true) ∧ K .nrm (slices_BinarySearch_int_int_L1_S x target ((addW .i64 (IntKind.wrap .i64 (shrW .u64 (IntKind.wrap .u64 (addW .i64 sa.1 sa.2)) 1)) 1), sa.2))) := by kernel_rfl
theorem slices_BinarySearch_int_int_L1_p1 (x : (List Int)) (target : Int) (sa : Int × Int) (xa2 : Int) (ya3 : Bool) (K : Ex → St → Prop) : oR pc sc lp cd ⟨ord81, [rV 3 [(15, vT)], (5, ⟨[], [], [(24, [(vI xa2)])], [(27, vF)], [(27, .v (.bool ya3))], [], [], []⟩)], [], [], []⟩ (polF 81) [(0, ⟨[0, 1, 6, 7, 8], [], 0, [], []⟩, ⟨[], [], []⟩)] c_slices_BinarySearch_int_int_L1 (slices_BinarySearch_int_int_L1_S x target sa) K
  = ((eqB (decide (sa.1 < sa.2)) true) ∧ (at? (x.map eI) (IntKind.wrap .i64 (shrW .u64 (IntKind.wrap .u64 (addW .i64 sa.1 sa.2)) 1)) = some [(vI xa2)]) ∧ (pc 87 [(vI xa2), (vI target)] (eqA (.v (.bool ya3)))) ∧ (eqB ya3 false) ∧ K .nrm (slices_BinarySearch_int_int_L1_S x target (sa.1, (IntKind.wrap .i64 (shrW .u64 (IntKind.wrap .u64 (addW .i64 sa.1 sa.2)) 1))))) := by kernel_rfl
theorem slices_BinarySearch_int_int_L1_p2 (x : (List Int)) (target : Int) (sa : Int × Int) (K : Ex → St → Prop) : oR pc sc lp cd ⟨ord81, [rV 3 [(15, vF)]], [], [], []⟩ (polF 81) [(2, ⟨[0, 1, 6, 7], [], 0, [], []⟩, ⟨[], [], []⟩)] c_slices_BinarySearch_int_int_L1 (slices_BinarySearch_int_int_L1_S x target sa) K
  = ((eqB (decide (sa.1 < sa.2)) false) ∧ K (.ex 0) (slices_BinarySearch_int_int_L1_T0 x target sa.1)) := by kernel_rfl
theorem slices_BinarySearch_int_int_L1_sim (n : Nat) (x : (List Int)) (target : Int) : ∀ sa r, slices_BinarySearch_int_int_L1 n x target sa = some r → CodeD Try.prog c_slices_BinarySearch_int_int_L1 (slices_BinarySearch_int_int_L1_S x target sa) (rk (slices_BinarySearch_int_int_L1_S x target) (slices_BinarySearch_int_int_L1_out x target) r) := by
 intro sa r h
 unfold slices_BinarySearch_int_int_L1 at h
 rcases iteN h with ⟨ha1, h⟩ | ⟨ha1, h⟩
 ·
  obtain rfl := soI h
  exact okR ordB_slices_BinarySearch_int_int_L1 (Eq.mpr (slices_BinarySearch_int_int_L1_p2 pP sP lP dP x target sa _) ⟨cB ha1, ⟨rfl, rfl⟩⟩) (rkE rfl neE)
 obtain ⟨xa2, gxa2, h⟩ := bindE h
 obtain ⟨ya3, gya3, h⟩ := bindE h
 rcases iteE h with ⟨ha4, h⟩ | ⟨ha4, h⟩
 ·
  obtain rfl := soI h
  exact okR ordB_slices_BinarySearch_int_int_L1 (Eq.mpr (slices_BinarySearch_int_int_L1_p0 pP sP lP dP x target sa xa2 ya3 _) ⟨cB ha1, at_map eI gxa2, (cmp_Less_int_sim n xa2 target ya3 gya3), cB ha4, ⟨rfl, rfl⟩⟩) rkN
 obtain rfl := soI h
 exact okR ordB_slices_BinarySearch_int_int_L1 (Eq.mpr (slices_BinarySearch_int_int_L1_p1 pP sP lP dP x target sa xa2 ya3 _) ⟨cB ha1, at_map eI gxa2, (cmp_Less_int_sim n xa2 target ya3 gya3), cB ha4, ⟨rfl, rfl⟩⟩) rkN

theorem slices_BinarySearch_int_int_p0 (x : (List Int)) (target : Int) (t1 : Int) (x3 : Int) (K : AV → Prop) : oP pc sc lp cd ⟨ord81, [rV 1 [(11, (vI (x.length : Int)))], (8, ⟨[], [], [(38, [(vI x3)])], [(35, vT), (42, vT)], [], [], [], []⟩)], [], [(3, (⟨[0, 1, 6, 7, 8], [], 0, [], []⟩, ⟨[], [], []⟩, (.ex 0), slices_BinarySearch_int_int_L1_T0 x target t1))], []⟩ 81 [.sl (x.map eI), (vI target)] K
  = ((AV.v (.int .i64 (((x.map eI).length : Nat) : Int)) = AV.v (.int .i64 (x.length : Int))) ∧ (lp (polF 81) c_slices_BinarySearch_int_int_L1 (slices_BinarySearch_int_int_L1_S x target (0, (x.length : Int))) (fun e' S' => e' = (.ex 0) ∧ S' = slices_BinarySearch_int_int_L1_T0 x target t1)) ∧ (eqB (decide (t1 < (x.length : Int))) true) ∧ (at? (x.map eI) t1 = some [(vI x3)]) ∧ (eqB (x3 == target) true) ∧ K (.tup [(vI t1), vT])) := by kernel_rfl
theorem slices_BinarySearch_int_int_p1 (x : (List Int)) (target : Int) (t1 : Int) (x3 : Int) (y5 : Bool) (y7 : Bool) (K : AV → Prop) : oP pc sc lp cd ⟨ord81, [rV 1 [(11, (vI (x.length : Int)))], (8, ⟨[], [], [(38, [(vI x3)]), (45, [(vI x3)])], [(35, vT), (42, vF), (48, vT)], [(47, .v (.bool y5)), (50, .v (.bool y7))], [], [], []⟩)], [], [(3, (⟨[0, 1, 6, 7, 8], [], 0, [], []⟩, ⟨[], [], []⟩, (.ex 0), slices_BinarySearch_int_int_L1_T0 x target t1))], []⟩ 81 [.sl (x.map eI), (vI target)] K
  = ((AV.v (.int .i64 (((x.map eI).length : Nat) : Int)) = AV.v (.int .i64 (x.length : Int))) ∧ (lp (polF 81) c_slices_BinarySearch_int_int_L1 (slices_BinarySearch_int_int_L1_S x target (0, (x.length : Int))) (fun e' S' => e' = (.ex 0) ∧ S' = slices_BinarySearch_int_int_L1_T0 x target t1)) ∧ (eqB (decide (t1 < (x.length : Int))) true) ∧ (at? (x.map eI) t1 = some [(vI x3)]) ∧ (eqB (x3 == target) false) ∧ (at? (x.map eI) t1 = some [(vI x3)]) ∧ (pc 88 [(vI x3)] (eqA (.v (.bool y5)))) ∧ (eqB y5 true) ∧ (pc 88 [(vI target)] (eqA (.v (.bool y7)))) ∧ K (.tup [(vI t1), .v (.bool y7)])) := by kernel_rfl
theorem slices_BinarySearch_int_int_p2 (x : (List Int)) (target : Int) (t1 : Int) (x3 : Int) (y5 : Bool) (K : AV → Prop) : oP pc sc lp cd ⟨ord81, [rV 1 [(11, (vI (x.length : Int)))], (8, ⟨[], [], [(38, [(vI x3)]), (45, [(vI x3)])], [(35, vT), (42, vF), (48, vF)], [(47, .v (.bool y5))], [], [], []⟩)], [], [(3, (⟨[0, 1, 6, 7, 8], [], 0, [], []⟩, ⟨[], [], []⟩, (.ex 0), slices_BinarySearch_int_int_L1_T0 x target t1))], []⟩ 81 [.sl (x.map eI), (vI target)] K
  = ((AV.v (.int .i64 (((x.map eI).length : Nat) : Int)) = AV.v (.int .i64 (x.length : Int))) ∧ (lp (polF 81) c_slices_BinarySearch_int_int_L1 (slices_BinarySearch_int_int_L1_S x target (0, (x.length : Int))) (fun e' S' => e' = (.ex 0) ∧ S' = slices_BinarySearch_int_int_L1_T0 x target t1)) ∧ (eqB (decide (t1 < (x.length : Int))) true) ∧ (at? (x.map eI) t1 = some [(vI x3)]) ∧ (eqB (x3 == target) false) ∧ (at? (x.map eI) t1 = some [(vI x3)]) ∧ (pc 88 [(vI x3)] (eqA (.v (.bool y5)))) ∧ (eqB y5 false) ∧ K (.tup [(vI t1), vF])) := by kernel_rfl
theorem slices_BinarySearch_int_int_p3 (x : (List Int)) (target : Int) (t1 : Int) (K : AV → Prop) : oP pc sc lp cd ⟨ord81, [rV 1 [(11, (vI (x.length : Int)))], rV 8 [(35, vF)]], [], [(3, (⟨[0, 1, 6, 7, 8], [], 0, [], []⟩, ⟨[], [], []⟩, (.ex 0), slices_BinarySearch_int_int_L1_T0 x target t1))], []⟩ 81 [.sl (x.map eI), (vI target)] K
  = ((AV.v (.int .i64 (((x.map eI).length : Nat) : Int)) = AV.v (.int .i64 (x.length : Int))) ∧ (lp (polF 81) c_slices_BinarySearch_int_int_L1 (slices_BinarySearch_int_int_L1_S x target (0, (x.length : Int))) (fun e' S' => e' = (.ex 0) ∧ S' = slices_BinarySearch_int_int_L1_T0 x target t1)) ∧ (eqB (decide (t1 < (x.length : Int))) false) ∧ K (.tup [(vI t1), vF])) := by kernel_rfl
theorem slices_BinarySearch_int_int_sim (n : Nat) (x : (List Int)) (target : Int) (r : Int × Bool) (h : slices_BinarySearch_int_int n x target = some r) : PCall Try.prog 81 [.sl (x.map eI), (vI target)] (eqA (.tup [(vI r.1), .v (.bool r.2)])) := by
 unfold slices_BinarySearch_int_int at h
 obtain ⟨t1, gt1, h⟩ := bindE h
 rcases iteN h with ⟨h2, h⟩ | ⟨h2, h⟩
 ·
  obtain rfl := soI h
  exact okP ordB81 (Eq.mpr (slices_BinarySearch_int_int_p3 pP sP lP dP x target t1 _) (⟨len_map _ _, okL (slices_BinarySearch_int_int_L1_S x target) (slices_BinarySearch_int_int_L1_out x target) (slices_BinarySearch_int_int_L1_sim n x target) n _ t1 gt1, cB h2, LeA.refl _⟩))
 obtain ⟨x3, gx3, h⟩ := bindE h
 rcases iteE h with ⟨h4, h⟩ | ⟨h4, h⟩
 ·
  obtain rfl := soI h
  exact okP ordB81 (Eq.mpr (slices_BinarySearch_int_int_p0 pP sP lP dP x target t1 x3 _) (⟨len_map _ _, okL (slices_BinarySearch_int_int_L1_S x target) (slices_BinarySearch_int_int_L1_out x target) (slices_BinarySearch_int_int_L1_sim n x target) n _ t1 gt1, cB h2, at_map eI gx3, cB h4, LeA.refl _⟩))
 obtain ⟨y5, gy5, h⟩ := bindE h
 rcases iteN h with ⟨h6, h⟩ | ⟨h6, h⟩
 ·
  obtain rfl := soI h
  exact okP ordB81 (Eq.mpr (slices_BinarySearch_int_int_p2 pP sP lP dP x target t1 x3 y5 _) (⟨len_map _ _, okL (slices_BinarySearch_int_int_L1_S x target) (slices_BinarySearch_int_int_L1_out x target) (slices_BinarySearch_int_int_L1_sim n x target) n _ t1 gt1, cB h2, at_map eI gx3, cB h4, at_map eI gx3, (slices_isNaN_int_sim n x3 y5 gy5), cB h6, LeA.refl _⟩))
 obtain ⟨y7, gy7, h⟩ := bindE h
 obtain rfl := soI h
 exact okP ordB81 (Eq.mpr (slices_BinarySearch_int_int_p1 pP sP lP dP x target t1 x3 y5 y7 _) (⟨len_map _ _, okL (slices_BinarySearch_int_int_L1_S x target) (slices_BinarySearch_int_int_L1_out x target) (slices_BinarySearch_int_int_L1_sim n x target) n _ t1 gt1, cB h2, at_map eI gx3, cB h4, at_map eI gx3, (slices_isNaN_int_sim n x3 y5 gy5), cB h6, (slices_isNaN_int_sim n target y7 gy7), LeA.refl _⟩))

def ord63 : List (Nat × PT) := []
theorem ordB63 : ordB (polF 63) ord63 (bodyOf Try.prog 63) = true := by kernel_rfl
theorem ppo_on_p0 (l : (List Int)) (at_ : Int) (y1 : Int × Bool) (K : AV → Prop) : oP pc sc lp cd ⟨ord63, [rVC 1 [] [(10, .tup [(vI y1.1), .v (.bool y1.2)])]], [], [], []⟩ 63 [.sl (l.map eI), (vI at_)] K
  = ((pc 81 [.sl (l.map eI), (vI at_)] (eqA (.tup [(vI y1.1), .v (.bool y1.2)]))) ∧ K (.v (.bool y1.2))) := by kernel_rfl
theorem ppo_on_sim (n : Nat) (l : (List Int)) (at_ : Int) (r : Bool) (h : ppo_on n l at_ = some r) : PCall Try.prog 63 [.sl (l.map eI), (vI at_)] (eqA (.v (.bool r))) := by
 unfold ppo_on at h
 obtain ⟨y1, gy1, h⟩ := bindE h
 obtain rfl := soI h
 exact okP ordB63 (Eq.mpr (ppo_on_p0 pP sP lP dP l at_ y1 _) (⟨(slices_BinarySearch_int_int_sim n l at_ y1 gy1), LeA.refl _⟩))

def ord62 : List (Nat × PT) := [(1, (ptS [0, 1, 2, 3, 4, 5, 6, 7, 8, 9, 10]))]
theorem ordB62 : ordB (polF 62) ord62 (bodyOf Try.prog 62) = true := by kernel_rfl
theorem ppo_rules_9_p0 (v : ppo_view) (a : Int) (b : Int) (x : Event) (y : Event) (y1 : Bool) (K : AV → Prop) : oP pc sc lp cd ⟨ord62, [rVC 1 [] [(20, .v (.bool y1))]], [], [], []⟩ 62 [.fptr (ppo_view.enc v) 0, (vI a), (vI b), .fptr (Event.enc x) 0, .fptr (Event.enc y) 0] K
  = ((pc 63 [.sl (y.Deps.Addr.map eI), (vI x.At)] (eqA (.v (.bool y1)))) ∧ K (.v (.bool y1))) := by kernel_rfl
theorem ppo_rules_9_sim (n : Nat) (v : ppo_view) (a : Int) (b : Int) (x : Event) (y : Event) (r : Bool) (h : ppo_rules_9 n v a b x y = some r) : PCall Try.prog 62 [.fptr (ppo_view.enc v) 0, (vI a), (vI b), .fptr (Event.enc x) 0, .fptr (Event.enc y) 0] (eqA (.v (.bool r))) := by
 unfold ppo_rules_9 at h
 obtain ⟨y1, gy1, h⟩ := bindE h
 obtain rfl := soI h
 exact okP ordB62 (Eq.mpr (ppo_rules_9_p0 pP sP lP dP v a b x y y1 _) (⟨(ppo_on_sim n y.Deps.Addr x.At y1 gy1), LeA.refl _⟩))

def ord64 : List (Nat × PT) := [(1, (ptS [0, 1, 2, 3, 4, 5, 6, 7, 8, 9, 10]))]
theorem ordB64 : ordB (polF 64) ord64 (bodyOf Try.prog 64) = true := by kernel_rfl
theorem ppo_rules_10_p0 (v : ppo_view) (a : Int) (b : Int) (x : Event) (y : Event) (y1 : Bool) (K : AV → Prop) : oP pc sc lp cd ⟨ord64, [rVC 1 [] [(20, .v (.bool y1))]], [], [], []⟩ 64 [.fptr (ppo_view.enc v) 0, (vI a), (vI b), .fptr (Event.enc x) 0, .fptr (Event.enc y) 0] K
  = ((pc 63 [.sl (y.Deps.Data.map eI), (vI x.At)] (eqA (.v (.bool y1)))) ∧ K (.v (.bool y1))) := by kernel_rfl
theorem ppo_rules_10_sim (n : Nat) (v : ppo_view) (a : Int) (b : Int) (x : Event) (y : Event) (r : Bool) (h : ppo_rules_10 n v a b x y = some r) : PCall Try.prog 64 [.fptr (ppo_view.enc v) 0, (vI a), (vI b), .fptr (Event.enc x) 0, .fptr (Event.enc y) 0] (eqA (.v (.bool r))) := by
 unfold ppo_rules_10 at h
 obtain ⟨y1, gy1, h⟩ := bindE h
 obtain rfl := soI h
 exact okP ordB64 (Eq.mpr (ppo_rules_10_p0 pP sP lP dP v a b x y y1 _) (⟨(ppo_on_sim n y.Deps.Data x.At y1 gy1), LeA.refl _⟩))

def ord65 : List (Nat × PT) := [(1, (ptS [0, 1, 2, 3, 4, 5, 6, 7, 8, 9, 10, 11, 12, 13, 14, 15, 16]))]
theorem ordB65 : ordB (polF 65) ord65 (bodyOf Try.prog 65) = true := by kernel_rfl
theorem ppo_rules_11_p0 (v : ppo_view) (a : Int) (b : Int) (x : Event) (y : Event) (y1 : Bool) (y3 : Bool) (K : AV → Prop) : oP pc sc lp cd ⟨ord65, [rVC 1 [(15, vT)] [(14, .v (.bool y1)), (25, .v (.bool y3))]], [], [], []⟩ 65 [.fptr (ppo_view.enc v) 0, (vI a), (vI b), .fptr (Event.enc x) 0, .fptr (Event.enc y) 0] K
  = ((pc 50 [(aAgg Event.enc y)] (eqA (.v (.bool y1)))) ∧ (eqB y1 true) ∧ (pc 63 [.sl (y.Deps.Way.map eI), (vI x.At)] (eqA (.v (.bool y3)))) ∧ K (.v (.bool y3))) := by kernel_rfl
theorem ppo_rules_11_p1 (v : ppo_view) (a : Int) (b : Int) (x : Event) (y : Event) (y1 : Bool) (K : AV → Prop) : oP pc sc lp cd ⟨ord65, [rVC 1 [(15, vF)] [(14, .v (.bool y1))]], [], [], []⟩ 65 [.fptr (ppo_view.enc v) 0, (vI a), (vI b), .fptr (Event.enc x) 0, .fptr (Event.enc y) 0] K
  = ((pc 50 [(aAgg Event.enc y)] (eqA (.v (.bool y1)))) ∧ (eqB y1 false) ∧ K (vF)) := by kernel_rfl
theorem ppo_rules_11_sim (n : Nat) (v : ppo_view) (a : Int) (b : Int) (x : Event) (y : Event) (r : Bool) (h : ppo_rules_11 n v a b x y = some r) : PCall Try.prog 65 [.fptr (ppo_view.enc v) 0, (vI a), (vI b), .fptr (Event.enc x) 0, .fptr (Event.enc y) 0] (eqA (.v (.bool r))) := by
 unfold ppo_rules_11 at h
 obtain ⟨y1, gy1, h⟩ := bindE h
 rcases iteN h with ⟨h2, h⟩ | ⟨h2, h⟩
 ·
  obtain rfl := soI h
  exact okP ordB65 (Eq.mpr (ppo_rules_11_p1 pP sP lP dP v a b x y y1 _) (⟨(event_Writes_sim n y y1 gy1), cB h2, LeA.refl _⟩))
 obtain ⟨y3, gy3, h⟩ := bindE h
 obtain rfl := soI h
 exact okP ordB65 (Eq.mpr (ppo_rules_11_p0 pP sP lP dP v a b x y y1 y3 _) (⟨(event_Writes_sim n y y1 gy1), cB h2, (ppo_on_sim n y.Deps.Way x.At y3 gy3), LeA.refl _⟩))

def ord66 : List (Nat × PT) := [(2, (ptS [0, 1, 2, 3, 4, 5, 6, 7, 8, 9, 10, 11, 12, 13, 14, 15, 16, 17, 18, 19, 20, 21, 22, 23, 24, 25, 26, 27, 28, 29, 30, 31, 32, 33, 34, 35, 36, 37, 38, 39, 40, 41, 42, 43, 44, 45, 46]))]
theorem ordB66 : ordB (polF 66) ord66 (bodyOf Try.prog 66) = true := by kernel_rfl
theorem ppo_rules_12_p1 (v : ppo_view) (a : Int) (b : Int) (x : Event) (y : Event) (z1 : Cand) (x3 : Int) (y4 : Bool) (x8 : Event) (y9 : Bool) (K : AV → Prop) : oP pc sc lp cd ⟨ord66, [(1, ⟨[], [], [(20, [(vI x3)])], [(15, .fptr (Cand.enc z1) 0)], [], [], [], []⟩), (2, ⟨[], [], [(42, (Event.enc x8))], [(26, vT), (31, vT), (36, vT), (51, vT)], [(25, .v (.bool y4)), (50, .v (.bool y9))], [], [], []⟩)], [], [], []⟩ 66 [.fptr (ppo_view.enc v) 0, (vI a), (vI b), .fptr (Event.enc x) 0, .fptr (Event.enc y) 0] K
  = (((optP Cand.enc v.c) = .fptr (Cand.enc z1) 0) ∧ (at? (z1.From.map eI) b = some [(vI x3)]) ∧ (pc 52 [(aAgg Event.enc y)] (eqA (.v (.bool y4)))) ∧ (eqB y4 true) ∧ (eqB (decide (x3 > a)) true) ∧ (eqB (decide (x3 < b)) true) ∧ (at? (v.all.map Event.enc) x3 = some (Event.enc x8)) ∧ (pc 63 [.sl (x8.Deps.Addr.map eI), (vI x.At)] (eqA (.v (.bool y9)))) ∧ (eqB y9 true) ∧ K (vT)) := by kernel_rfl
theorem ppo_rules_12_p2 (v : ppo_view) (a : Int) (b : Int) (x : Event) (y : Event) (z1 : Cand) (x3 : Int) (y4 : Bool) (x8 : Event) (y9 : Bool) (y11 : Bool) (K : AV → Prop) : oP pc sc lp cd ⟨ord66, [(1, ⟨[], [], [(20, [(vI x3)])], [(15, .fptr (Cand.enc z1) 0)], [], [], [], []⟩), (2, ⟨[], [], [(42, (Event.enc x8)), (57, (Event.enc x8))], [(26, vT), (31, vT), (36, vT), (51, vF)], [(25, .v (.bool y4)), (50, .v (.bool y9)), (65, .v (.bool y11))], [], [], []⟩)], [], [], []⟩ 66 [.fptr (ppo_view.enc v) 0, (vI a), (vI b), .fptr (Event.enc x) 0, .fptr (Event.enc y) 0] K
  = (((optP Cand.enc v.c) = .fptr (Cand.enc z1) 0) ∧ (at? (z1.From.map eI) b = some [(vI x3)]) ∧ (pc 52 [(aAgg Event.enc y)] (eqA (.v (.bool y4)))) ∧ (eqB y4 true) ∧ (eqB (decide (x3 > a)) true) ∧ (eqB (decide (x3 < b)) true) ∧ (at? (v.all.map Event.enc) x3 = some (Event.enc x8)) ∧ (pc 63 [.sl (x8.Deps.Addr.map eI), (vI x.At)] (eqA (.v (.bool y9)))) ∧ (eqB y9 false) ∧ (at? (v.all.map Event.enc) x3 = some (Event.enc x8)) ∧ (pc 63 [.sl (x8.Deps.Data.map eI), (vI x.At)] (eqA (.v (.bool y11)))) ∧ K (.v (.bool y11))) := by kernel_rfl
theorem ppo_rules_12_p3 (v : ppo_view) (a : Int) (b : Int) (x : Event) (y : Event) (z1 : Cand) (x3 : Int) (y4 : Bool) (K : AV → Prop) : oP pc sc lp cd ⟨ord66, [(1, ⟨[], [], [(20, [(vI x3)])], [(15, .fptr (Cand.enc z1) 0)], [], [], [], []⟩), rVC 2 [(26, vT), (31, vT), (36, vF)] [(25, .v (.bool y4))]], [], [], []⟩ 66 [.fptr (ppo_view.enc v) 0, (vI a), (vI b), .fptr (Event.enc x) 0, .fptr (Event.enc y) 0] K
  = (((optP Cand.enc v.c) = .fptr (Cand.enc z1) 0) ∧ (at? (z1.From.map eI) b = some [(vI x3)]) ∧ (pc 52 [(aAgg Event.enc y)] (eqA (.v (.bool y4)))) ∧ (eqB y4 true) ∧ (eqB (decide (x3 > a)) true) ∧ (eqB (decide (x3 < b)) false) ∧ K (vF)) := by kernel_rfl
theorem ppo_rules_12_p4 (v : ppo_view) (a : Int) (b : Int) (x : Event) (y : Event) (z1 : Cand) (x3 : Int) (y4 : Bool) (K : AV → Prop) : oP pc sc lp cd ⟨ord66, [(1, ⟨[], [], [(20, [(vI x3)])], [(15, .fptr (Cand.enc z1) 0)], [], [], [], []⟩), rVC 2 [(26, vT), (31, vF)] [(25, .v (.bool y4))]], [], [], []⟩ 66 [.fptr (ppo_view.enc v) 0, (vI a), (vI b), .fptr (Event.enc x) 0, .fptr (Event.enc y) 0] K
  = (((optP Cand.enc v.c) = .fptr (Cand.enc z1) 0) ∧ (at? (z1.From.map eI) b = some [(vI x3)]) ∧ (pc 52 [(aAgg Event.enc y)] (eqA (.v (.bool y4)))) ∧ (eqB y4 true) ∧ (eqB (decide (x3 > a)) false) ∧ K (vF)) := by kernel_rfl
theorem ppo_rules_12_p5 (v : ppo_view) (a : Int) (b : Int) (x : Event) (y : Event) (z1 : Cand) (x3 : Int) (y4 : Bool) (K : AV → Prop) : oP pc sc lp cd ⟨ord66, [(1, ⟨[], [], [(20, [(vI x3)])], [(15, .fptr (Cand.enc z1) 0)], [], [], [], []⟩), rVC 2 [(26, vF)] [(25, .v (.bool y4))]], [], [], []⟩ 66 [.fptr (ppo_view.enc v) 0, (vI a), (vI b), .fptr (Event.enc x) 0, .fptr (Event.enc y) 0] K
  = (((optP Cand.enc v.c) = .fptr (Cand.enc z1) 0) ∧ (at? (z1.From.map eI) b = some [(vI x3)]) ∧ (pc 52 [(aAgg Event.enc y)] (eqA (.v (.bool y4)))) ∧ (eqB y4 false) ∧ K (vF)) := by kernel_rfl
theorem ppo_rules_12_sim (n : Nat) (v : ppo_view) (a : Int) (b : Int) (x : Event) (y : Event) (r : Bool) (h : ppo_rules_12 n v a b x y = some r) : PCall Try.prog 66 [.fptr (ppo_view.enc v) 0, (vI a), (vI b), .fptr (Event.enc x) 0, .fptr (Event.enc y) 0] (eqA (.v (.bool r))) := by
 unfold ppo_rules_12 at h
 rcases matchOE h with ⟨h1, h⟩ | ⟨z1, h2, h⟩
 ·
  cases h
 ·
  obtain ⟨x3, gx3, h⟩ := bindE h
  obtain ⟨y4, gy4, h⟩ := bindE h
  rcases iteN h with ⟨h5, h⟩ | ⟨h5, h⟩
  ·
   obtain rfl := soI h
   exact okP ordB66 (Eq.mpr (ppo_rules_12_p5 pP sP lP dP v a b x y z1 x3 y4 _) (⟨(congrArg (optP Cand.enc) h2), at_map eI gx3, (event_Reads_sim n y y4 gy4), cB h5, LeA.refl _⟩))
  rcases iteN h with ⟨h6, h⟩ | ⟨h6, h⟩
  ·
   obtain rfl := soI h
   exact okP ordB66 (Eq.mpr (ppo_rules_12_p4 pP sP lP dP v a b x y z1 x3 y4 _) (⟨(congrArg (optP Cand.enc) h2), at_map eI gx3, (event_Reads_sim n y y4 gy4), cB h5, cB h6, LeA.refl _⟩))
  rcases iteN h with ⟨h7, h⟩ | ⟨h7, h⟩
  ·
   obtain rfl := soI h
   exact okP ordB66 (Eq.mpr (ppo_rules_12_p3 pP sP lP dP v a b x y z1 x3 y4 _) (⟨(congrArg (optP Cand.enc) h2), at_map eI gx3, (event_Reads_sim n y y4 gy4), cB h5, cB h6, cB h7, LeA.refl _⟩))
  obtain ⟨x8, gx8, h⟩ := bindE h
  obtain ⟨y9, gy9, h⟩ := bindE h
  rcases iteE h with ⟨h10, h⟩ | ⟨h10, h⟩
  ·
   obtain rfl := soI h
   exact okP ordB66 (Eq.mpr (ppo_rules_12_p1 pP sP lP dP v a b x y z1 x3 y4 x8 y9 _) (⟨(congrArg (optP Cand.enc) h2), at_map eI gx3, (event_Reads_sim n y y4 gy4), cB h5, cB h6, cB h7, at_map Event.enc gx8, (ppo_on_sim n x8.Deps.Addr x.At y9 gy9), cB h10, LeA.refl _⟩))
  obtain ⟨y11, gy11, h⟩ := bindE h
  obtain rfl := soI h
  exact okP ordB66 (Eq.mpr (ppo_rules_12_p2 pP sP lP dP v a b x y z1 x3 y4 x8 y9 y11 _) (⟨(congrArg (optP Cand.enc) h2), at_map eI gx3, (event_Reads_sim n y y4 gy4), cB h5, cB h6, cB h7, at_map Event.enc gx8, (ppo_on_sim n x8.Deps.Addr x.At y9 gy9), cB h10, at_map Event.enc gx8, (ppo_on_sim n x8.Deps.Data x.At y11 gy11), LeA.refl _⟩))

def ord67 : List (Nat × PT) := []
theorem ordB67 : ordB (polF 67) ord67 (bodyOf Try.prog 67) = true := by kernel_rfl
theorem ppo_rules_13_p0 (v : ppo_view) (a : Int) (b : Int) (x : Event) (y : Event) (y1 : Bool) (x3 : Int) (K : AV → Prop) : oP pc sc lp cd ⟨ord67, [(1, ⟨[], [], [(21, [(vI x3)])], [(15, vT)], [(14, .v (.bool y1))], [], [], []⟩)], [], [], []⟩ 67 [.fptr (ppo_view.enc v) 0, (vI a), (vI b), .fptr (Event.enc x) 0, .fptr (Event.enc y) 0] K
  = ((pc 50 [(aAgg Event.enc y)] (eqA (.v (.bool y1)))) ∧ (eqB y1 true) ∧ (at? (v.hung.map eI) a = some [(vI x3)]) ∧ K (.v (.bool (decide (x3 < b))))) := by kernel_rfl
theorem ppo_rules_13_p1 (v : ppo_view) (a : Int) (b : Int) (x : Event) (y : Event) (y1 : Bool) (K : AV → Prop) : oP pc sc lp cd ⟨ord67, [rVC 1 [(15, vF)] [(14, .v (.bool y1))]], [], [], []⟩ 67 [.fptr (ppo_view.enc v) 0, (vI a), (vI b), .fptr (Event.enc x) 0, .fptr (Event.enc y) 0] K
  = ((pc 50 [(aAgg Event.enc y)] (eqA (.v (.bool y1)))) ∧ (eqB y1 false) ∧ K (vF)) := by kernel_rfl
theorem ppo_rules_13_sim (n : Nat) (v : ppo_view) (a : Int) (b : Int) (x : Event) (y : Event) (r : Bool) (h : ppo_rules_13 n v a b x y = some r) : PCall Try.prog 67 [.fptr (ppo_view.enc v) 0, (vI a), (vI b), .fptr (Event.enc x) 0, .fptr (Event.enc y) 0] (eqA (.v (.bool r))) := by
 unfold ppo_rules_13 at h
 obtain ⟨y1, gy1, h⟩ := bindE h
 rcases iteN h with ⟨h2, h⟩ | ⟨h2, h⟩
 ·
  obtain rfl := soI h
  exact okP ordB67 (Eq.mpr (ppo_rules_13_p1 pP sP lP dP v a b x y y1 _) (⟨(event_Writes_sim n y y1 gy1), cB h2, LeA.refl _⟩))
 obtain ⟨x3, gx3, h⟩ := bindE h
 obtain rfl := soI h
 exact okP ordB67 (Eq.mpr (ppo_rules_13_p0 pP sP lP dP v a b x y y1 x3 _) (⟨(event_Writes_sim n y y1 gy1), cB h2, at_map eI gx3, LeA.refl _⟩))

def ord29 : List (Nat × PT) := [(6, (ptS [0, 1, 2, 3, 4, 5, 6, 7, 8, 9, 10, 11, 12, 13, 14, 15, 16]))]
theorem ordB29 : ordB (polF 29) ord29 (bodyOf Try.prog 29) = true := by kernel_rfl
noncomputable def c_ppo_view_rule_L1 : Code := sub (bodyOf Try.prog 29) [1, 1, 0, 1, 0, 0]
theorem ordB_ppo_view_rule_L1 : ordB (polF 29) ord29 c_ppo_view_rule_L1 = true := by kernel_rfl
def ppo_view_rule_L1_S (v : ppo_view) (a : Int) (b : Int) (sa : Int) : St := mkS 39 [(0, .fptr (ppo_view.enc v) 0), (1, (vI a)), (2, (vI b)), (14, .agg [.fn 49 [] [], .fn 51 [] [], .fn 55 [] [], .fn 56 [] [], .fn 58 [] [], .fn 59 [] [], .fn 60 [] [], .fn 61 [] [], .fn 62 [] [], .fn 64 [] [], .fn 65 [] [], .fn 66 [] [], .fn 67 [] []]), (15, (vI sa))] [] [] 0
def ppo_view_rule_L1_T0 (v : ppo_view) (a : Int) (b : Int) (tt : Unit) : St := mkS 39 [] [] [] 0
def ppo_view_rule_L1_T1 (v : ppo_view) (a : Int) (b : Int) (tt : Int) : St := mkS 39 [(6, (vI tt))] [] [] 0
def ppo_view_rule_L1_out (v : ppo_view) (a : Int) (b : Int) (t0 : (Unit ⊕ Int)) : Ex × St := match t0 with | .inl tt => (.ex 0, ppo_view_rule_L1_T0 v a b tt) | .inr tt => (.ret, ppo_view_rule_L1_T1 v a b tt)
theorem ppo_view_rule_L1_p0 (v : ppo_view) (a : Int) (b : Int) (sa : Int) (xa3 : Event) (xa4 : Event) (ya5 : Bool) (K : Ex → St → Prop) : oR pc sc lp cd ⟨ord29, [rV 4 [(16, vT)], (6, ⟨[], [], [(28, (Event.enc xa3)), (34, (Event.enc xa4))], [(35, vT)], [(35, .v (.bool ya5))], [], [], []⟩)], [(4, ⟨[(15, (vI 0))], [], []⟩)], [], []⟩ (polF 29) [(1, ⟨[6], [], 0, [], []⟩, ⟨[], [], []⟩)] c_ppo_view_rule_L1 (ppo_view_rule_L1_S v a b sa) K
  = ((eqB (decide (sa < 13)) true) ∧ (LeA ((vI sa)) ((vI 0))) ∧ (at? (v.all.map Event.enc) a = some (Event.enc xa3)) ∧ (at? (v.all.map Event.enc) b = some (Event.enc xa4)) ∧ (pc 49 [.fptr (ppo_view.enc v) 0, (vI a), (vI b), .fptr (Event.enc xa3) 0, .fptr (Event.enc xa4) 0] (eqA (.v (.bool ya5)))) ∧ (eqB ya5 true) ∧ K .ret (ppo_view_rule_L1_T1 v a b 1)) := by kernel_rfl
theorem ppo_view_rule_L1_p1 (v : ppo_view) (a : Int) (b : Int) (sa : Int) (xa3 : Event) (xa4 : Event) (ya5 : Bool) (K : Ex → St → Prop) : oR pc sc lp cd ⟨ord29, [rV 4 [(16, vT)], (6, ⟨[], [], [(28, (Event.enc xa3)), (34, (Event.enc xa4))], [(35, vF)], [(35, .v (.bool ya5))], [], [], []⟩)], [(4, ⟨[(15, (vI 0))], [], []⟩)], [], []⟩ (polF 29) [(0, ⟨[0, 1, 2, 14, 15], [], 0, [], []⟩, ⟨[], [], []⟩)] c_ppo_view_rule_L1 (ppo_view_rule_L1_S v a b sa) K
  = ((eqB (decide (sa < 13)) true) ∧ (LeA ((vI sa)) ((vI 0))) ∧ (at? (v.all.map Event.enc) a = some (Event.enc xa3)) ∧ (at? (v.all.map Event.enc) b = some (Event.enc xa4)) ∧ (pc 49 [.fptr (ppo_view.enc v) 0, (vI a), (vI b), .fptr (Event.enc xa3) 0, .fptr (Event.enc xa4) 0] (eqA (.v (.bool ya5)))) ∧ (eqB ya5 false) ∧ K .nrm (ppo_view_rule_L1_S v a b 1)) := by kernel_rfl
theorem ppo_view_rule_L1_p2 (v : ppo_view) (a : Int) (b : Int) (sa : Int) (xa3 : Event) (xa4 : Event) (ya5 : Bool) (K : Ex → St → Prop) : oR pc sc lp cd ⟨ord29, [rV 4 [(16, vT)], (6, ⟨[], [], [(28, (Event.enc xa3)), (34, (Event.enc xa4))], [(35, vT)], [(35, .v (.bool ya5))], [], [], []⟩)], [(4, ⟨[(15, (vI 1))], [], []⟩)], [], []⟩ (polF 29) [(1, ⟨[6], [], 0, [], []⟩, ⟨[], [], []⟩)] c_ppo_view_rule_L1 (ppo_view_rule_L1_S v a b sa) K
  = ((eqB (decide (sa < 13)) true) ∧ (LeA ((vI sa)) ((vI 1))) ∧ (at? (v.all.map Event.enc) a = some (Event.enc xa3)) ∧ (at? (v.all.map Event.enc) b = some (Event.enc xa4)) ∧ (pc 51 [.fptr (ppo_view.enc v) 0, (vI a), (vI b), .fptr (Event.enc xa3) 0, .fptr (Event.enc xa4) 0] (eqA (.v (.bool ya5)))) ∧ (eqB ya5 true) ∧ K .ret (ppo_view_rule_L1_T1 v a b 2)) := by kernel_rfl
theorem ppo_view_rule_L1_p3 (v : ppo_view) (a : Int) (b : Int) (sa : Int) (xa3 : Event) (xa4 : Event) (ya5 : Bool) (K : Ex → St → Prop) : oR pc sc lp cd ⟨ord29, [rV 4 [(16, vT)], (6, ⟨[], [], [(28, (Event.enc xa3)), (34, (Event.enc xa4))], [(35, vF)], [(35, .v (.bool ya5))], [], [], []⟩)], [(4, ⟨[(15, (vI 1))], [], []⟩)], [], []⟩ (polF 29) [(0, ⟨[0, 1, 2, 14, 15], [], 0, [], []⟩, ⟨[], [], []⟩)] c_ppo_view_rule_L1 (ppo_view_rule_L1_S v a b sa) K
  = ((eqB (decide (sa < 13)) true) ∧ (LeA ((vI sa)) ((vI 1))) ∧ (at? (v.all.map Event.enc) a = some (Event.enc xa3)) ∧ (at? (v.all.map Event.enc) b = some (Event.enc xa4)) ∧ (pc 51 [.fptr (ppo_view.enc v) 0, (vI a), (vI b), .fptr (Event.enc xa3) 0, .fptr (Event.enc xa4) 0] (eqA (.v (.bool ya5)))) ∧ (eqB ya5 false) ∧ K .nrm (ppo_view_rule_L1_S v a b 2)) := by kernel_rfl
theorem ppo_view_rule_L1_p4 (v : ppo_view) (a : Int) (b : Int) (sa : Int) (xa3 : Event) (xa4 : Event) (ya5 : Bool) (K : Ex → St → Prop) : oR pc sc lp cd ⟨ord29, [rV 4 [(16, vT)], (6, ⟨[], [], [(28, (Event.enc xa3)), (34, (Event.enc xa4))], [(35, vT)], [(35, .v (.bool ya5))], [], [], []⟩)], [(4, ⟨[(15, (vI 2))], [], []⟩)], [], []⟩ (polF 29) [(1, ⟨[6], [], 0, [], []⟩, ⟨[], [], []⟩)] c_ppo_view_rule_L1 (ppo_view_rule_L1_S v a b sa) K
  = ((eqB (decide (sa < 13)) true) ∧ (LeA ((vI sa)) ((vI 2))) ∧ (at? (v.all.map Event.enc) a = some (Event.enc xa3)) ∧ (at? (v.all.map Event.enc) b = some (Event.enc xa4)) ∧ (pc 55 [.fptr (ppo_view.enc v) 0, (vI a), (vI b), .fptr (Event.enc xa3) 0, .fptr (Event.enc xa4) 0] (eqA (.v (.bool ya5)))) ∧ (eqB ya5 true) ∧ K .ret (ppo_view_rule_L1_T1 v a b 3)) := by kernel_rfl
theorem ppo_view_rule_L1_p5 (v : ppo_view) (a : Int) (b : Int) (sa : Int) (xa3 : Event) (xa4 : Event) (ya5 : Bool) (K : Ex → St → Prop) : oR pc sc lp cd ⟨ord29, [rV 4 [(16, vT)], (6, ⟨[], [], [(28, (Event.enc xa3)), (34, (Event.enc xa4))], [(35, vF)], [(35, .v (.bool ya5))], [], [], []⟩)], [(4, ⟨[(15, (vI 2))], [], []⟩)], [], []⟩ (polF 29) [(0, ⟨[0, 1, 2, 14, 15], [], 0, [], []⟩, ⟨[], [], []⟩)] c_ppo_view_rule_L1 (ppo_view_rule_L1_S v a b sa) K
  = ((eqB (decide (sa < 13)) true) ∧ (LeA ((vI sa)) ((vI 2))) ∧ (at? (v.all.map Event.enc) a = some (Event.enc xa3)) ∧ (at? (v.all.map Event.enc) b = some (Event.enc xa4)) ∧ (pc 55 [.fptr (ppo_view.enc v) 0, (vI a), (vI b), .fptr (Event.enc xa3) 0, .fptr (Event.enc xa4) 0] (eqA (.v (.bool ya5)))) ∧ (eqB ya5 false) ∧ K .nrm (ppo_view_rule_L1_S v a b 3)) := by kernel_rfl
theorem ppo_view_rule_L1_p6 (v : ppo_view) (a : Int) (b : Int) (sa : Int) (xa3 : Event) (xa4 : Event) (ya5 : Bool) (K : Ex → St → Prop) : oR pc sc lp cd ⟨ord29, [rV 4 [(16, vT)], (6, ⟨[], [], [(28, (Event.enc xa3)), (34, (Event.enc xa4))], [(35, vT)], [(35, .v (.bool ya5))], [], [], []⟩)], [(4, ⟨[(15, (vI 3))], [], []⟩)], [], []⟩ (polF 29) [(1, ⟨[6], [], 0, [], []⟩, ⟨[], [], []⟩)] c_ppo_view_rule_L1 (ppo_view_rule_L1_S v a b sa) K
  = ((eqB (decide (sa < 13)) true) ∧ (LeA ((vI sa)) ((vI 3))) ∧ (at? (v.all.map Event.enc) a = some (Event.enc xa3)) ∧ (at? (v.all.map Event.enc) b = some (Event.enc xa4)) ∧ (pc 56 [.fptr (ppo_view.enc v) 0, (vI a), (vI b), .fptr (Event.enc xa3) 0, .fptr (Event.enc xa4) 0] (eqA (.v (.bool ya5)))) ∧ (eqB ya5 true) ∧ K .ret (ppo_view_rule_L1_T1 v a b 4)) := by kernel_rfl
theorem ppo_view_rule_L1_p7 (v : ppo_view) (a : Int) (b : Int) (sa : Int) (xa3 : Event) (xa4 : Event) (ya5 : Bool) (K : Ex → St → Prop) : oR pc sc lp cd ⟨ord29, [rV 4 [(16, vT)], (6, ⟨[], [], [(28, (Event.enc xa3)), (34, (Event.enc xa4))], [(35, vF)], [(35, .v (.bool ya5))], [], [], []⟩)], [(4, ⟨[(15, (vI 3))], [], []⟩)], [], []⟩ (polF 29) [(0, ⟨[0, 1, 2, 14, 15], [], 0, [], []⟩, ⟨[], [], []⟩)] c_ppo_view_rule_L1 (ppo_view_rule_L1_S v a b sa) K
  = ((eqB (decide (sa < 13)) true) ∧ (LeA ((vI sa)) ((vI 3))) ∧ (at? (v.all.map Event.enc) a = some (Event.enc xa3)) ∧ (at? (v.all.map Event.enc) b = some (Event.enc xa4)) ∧ (pc 56 [.fptr (ppo_view.enc v) 0, (vI a), (vI b), .fptr (Event.enc xa3) 0, .fptr (Event.enc xa4) 0] (eqA (.v (.bool ya5)))) ∧ (eqB ya5 false) ∧ K .nrm (ppo_view_rule_L1_S v a b 4)) := by kernel_rfl
theorem ppo_view_rule_L1_p8 (v : ppo_view) (a : Int) (b : Int) (sa : Int) (xa3 : Event) (xa4 : Event) (ya5 : Bool) (K : Ex → St → Prop) : oR pc sc lp cd ⟨ord29, [rV 4 [(16, vT)], (6, ⟨[], [], [(28, (Event.enc xa3)), (34, (Event.enc xa4))], [(35, vT)], [(35, .v (.bool ya5))], [], [], []⟩)], [(4, ⟨[(15, (vI 4))], [], []⟩)], [], []⟩ (polF 29) [(1, ⟨[6], [], 0, [], []⟩, ⟨[], [], []⟩)] c_ppo_view_rule_L1 (ppo_view_rule_L1_S v a b sa) K
  = ((eqB (decide (sa < 13)) true) ∧ (LeA ((vI sa)) ((vI 4))) ∧ (at? (v.all.map Event.enc) a = some (Event.enc xa3)) ∧ (at? (v.all.map Event.enc) b = some (Event.enc xa4)) ∧ (pc 58 [.fptr (ppo_view.enc v) 0, (vI a), (vI b), .fptr (Event.enc xa3) 0, .fptr (Event.enc xa4) 0] (eqA (.v (.bool ya5)))) ∧ (eqB ya5 true) ∧ K .ret (ppo_view_rule_L1_T1 v a b 5)) := by kernel_rfl
theorem ppo_view_rule_L1_p9 (v : ppo_view) (a : Int) (b : Int) (sa : Int) (xa3 : Event) (xa4 : Event) (ya5 : Bool) (K : Ex → St → Prop) : oR pc sc lp cd ⟨ord29, [rV 4 [(16, vT)], (6, ⟨[], [], [(28, (Event.enc xa3)), (34, (Event.enc xa4))], [(35, vF)], [(35, .v (.bool ya5))], [], [], []⟩)], [(4, ⟨[(15, (vI 4))], [], []⟩)], [], []⟩ (polF 29) [(0, ⟨[0, 1, 2, 14, 15], [], 0, [], []⟩, ⟨[], [], []⟩)] c_ppo_view_rule_L1 (ppo_view_rule_L1_S v a b sa) K
  = ((eqB (decide (sa < 13)) true) ∧ (LeA ((vI sa)) ((vI 4))) ∧ (at? (v.all.map Event.enc) a = some (Event.enc xa3)) ∧ (at? (v.all.map Event.enc) b = some (Event.enc xa4)) ∧ (pc 58 [.fptr (ppo_view.enc v) 0, (vI a), (vI b), .fptr (Event.enc xa3) 0, .fptr (Event.enc xa4) 0] (eqA (.v (.bool ya5)))) ∧ (eqB ya5 false) ∧ K .nrm (ppo_view_rule_L1_S v a b 5)) := by kernel_rfl
theorem ppo_view_rule_L1_p10 (v : ppo_view) (a : Int) (b : Int) (sa : Int) (xa3 : Event) (xa4 : Event) (ya5 : Bool) (K : Ex → St → Prop) : oR pc sc lp cd ⟨ord29, [rV 4 [(16, vT)], (6, ⟨[], [], [(28, (Event.enc xa3)), (34, (Event.enc xa4))], [(35, vT)], [(35, .v (.bool ya5))], [], [], []⟩)], [(4, ⟨[(15, (vI 5))], [], []⟩)], [], []⟩ (polF 29) [(1, ⟨[6], [], 0, [], []⟩, ⟨[], [], []⟩)] c_ppo_view_rule_L1 (ppo_view_rule_L1_S v a b sa) K
  = ((eqB (decide (sa < 13)) true) ∧ (LeA ((vI sa)) ((vI 5))) ∧ (at? (v.all.map Event.enc) a = some (Event.enc xa3)) ∧ (at? (v.all.map Event.enc) b = some (Event.enc xa4)) ∧ (pc 59 [.fptr (ppo_view.enc v) 0, (vI a), (vI b), .fptr (Event.enc xa3) 0, .fptr (Event.enc xa4) 0] (eqA (.v (.bool ya5)))) ∧ (eqB ya5 true) ∧ K .ret (ppo_view_rule_L1_T1 v a b 6)) := by kernel_rfl
theorem ppo_view_rule_L1_p11 (v : ppo_view) (a : Int) (b : Int) (sa : Int) (xa3 : Event) (xa4 : Event) (ya5 : Bool) (K : Ex → St → Prop) : oR pc sc lp cd ⟨ord29, [rV 4 [(16, vT)], (6, ⟨[], [], [(28, (Event.enc xa3)), (34, (Event.enc xa4))], [(35, vF)], [(35, .v (.bool ya5))], [], [], []⟩)], [(4, ⟨[(15, (vI 5))], [], []⟩)], [], []⟩ (polF 29) [(0, ⟨[0, 1, 2, 14, 15], [], 0, [], []⟩, ⟨[], [], []⟩)] c_ppo_view_rule_L1 (ppo_view_rule_L1_S v a b sa) K
  = ((eqB (decide (sa < 13)) true) ∧ (LeA ((vI sa)) ((vI 5))) ∧ (at? (v.all.map Event.enc) a = some (Event.enc xa3)) ∧ (at? (v.all.map Event.enc) b = some (Event.enc xa4)) ∧ (pc 59 [.fptr (ppo_view.enc v) 0, (vI a), (vI b), .fptr (Event.enc xa3) 0, .fptr (Event.enc xa4) 0] (eqA (.v (.bool ya5)))) ∧ (eqB ya5 false) ∧ K .nrm (ppo_view_rule_L1_S v a b 6)) := by kernel_rfl
theorem ppo_view_rule_L1_p12 (v : ppo_view) (a : Int) (b : Int) (sa : Int) (xa3 : Event) (xa4 : Event) (ya5 : Bool) (K : Ex → St → Prop) : oR pc sc lp cd ⟨ord29, [rV 4 [(16, vT)], (6, ⟨[], [], [(28, (Event.enc xa3)), (34, (Event.enc xa4))], [(35, vT)], [(35, .v (.bool ya5))], [], [], []⟩)], [(4, ⟨[(15, (vI 6))], [], []⟩)], [], []⟩ (polF 29) [(1, ⟨[6], [], 0, [], []⟩, ⟨[], [], []⟩)] c_ppo_view_rule_L1 (ppo_view_rule_L1_S v a b sa) K
  = ((eqB (decide (sa < 13)) true) ∧ (LeA ((vI sa)) ((vI 6))) ∧ (at? (v.all.map Event.enc) a = some (Event.enc xa3)) ∧ (at? (v.all.map Event.enc) b = some (Event.enc xa4)) ∧ (pc 60 [.fptr (ppo_view.enc v) 0, (vI a), (vI b), .fptr (Event.enc xa3) 0, .fptr (Event.enc xa4) 0] (eqA (.v (.bool ya5)))) ∧ (eqB ya5 true) ∧ K .ret (ppo_view_rule_L1_T1 v a b 7)) := by kernel_rfl
theorem ppo_view_rule_L1_p13 (v : ppo_view) (a : Int) (b : Int) (sa : Int) (xa3 : Event) (xa4 : Event) (ya5 : Bool) (K : Ex → St → Prop) : oR pc sc lp cd ⟨ord29, [rV 4 [(16, vT)], (6, ⟨[], [], [(28, (Event.enc xa3)), (34, (Event.enc xa4))], [(35, vF)], [(35, .v (.bool ya5))], [], [], []⟩)], [(4, ⟨[(15, (vI 6))], [], []⟩)], [], []⟩ (polF 29) [(0, ⟨[0, 1, 2, 14, 15], [], 0, [], []⟩, ⟨[], [], []⟩)] c_ppo_view_rule_L1 (ppo_view_rule_L1_S v a b sa) K
  = ((eqB (decide (sa < 13)) true) ∧ (LeA ((vI sa)) ((vI 6))) ∧ (at? (v.all.map Event.enc) a = some (Event.enc xa3)) ∧ (at? (v.all.map Event.enc) b = some (Event.enc xa4)) ∧ (pc 60 [.fptr (ppo_view.enc v) 0, (vI a), (vI b), .fptr (Event.enc xa3) 0, .fptr (Event.enc xa4) 0] (eqA (.v (.bool ya5)))) ∧ (eqB ya5 false) ∧ K .nrm (ppo_view_rule_L1_S v a b 7)) := by kernel_rfl
theorem ppo_view_rule_L1_p14 (v : ppo_view) (a : Int) (b : Int) (sa : Int) (xa3 : Event) (xa4 : Event) (ya5 : Bool) (K : Ex → St → Prop) : oR pc sc lp cd ⟨ord29, [rV 4 [(16, vT)], (6, ⟨[], [], [(28, (Event.enc xa3)), (34, (Event.enc xa4))], [(35, vT)], [(35, .v (.bool ya5))], [], [], []⟩)], [(4, ⟨[(15, (vI 7))], [], []⟩)], [], []⟩ (polF 29) [(1, ⟨[6], [], 0, [], []⟩, ⟨[], [], []⟩)] c_ppo_view_rule_L1 (ppo_view_rule_L1_S v a b sa) K
  = ((eqB (decide (sa < 13)) true) ∧ (LeA ((vI sa)) ((vI 7))) ∧ (at? (v.all.map Event.enc) a = some (Event.enc xa3)) ∧ (at? (v.all.map Event.enc) b = some (Event.enc xa4)) ∧ (pc 61 [.fptr (ppo_view.enc v) 0, (vI a), (vI b), .fptr (Event.enc xa3) 0, .fptr (Event.enc xa4) 0] (eqA (.v (.bool ya5)))) ∧ (eqB ya5 true) ∧ K .ret (ppo_view_rule_L1_T1 v a b 8)) := by kernel_rfl
theorem ppo_view_rule_L1_p15 (v : ppo_view) (a : Int) (b : Int) (sa : Int) (xa3 : Event) (xa4 : Event) (ya5 : Bool) (K : Ex → St → Prop) : oR pc sc lp cd ⟨ord29, [rV 4 [(16, vT)], (6, ⟨[], [], [(28, (Event.enc xa3)), (34, (Event.enc xa4))], [(35, vF)], [(35, .v (.bool ya5))], [], [], []⟩)], [(4, ⟨[(15, (vI 7))], [], []⟩)], [], []⟩ (polF 29) [(0, ⟨[0, 1, 2, 14, 15], [], 0, [], []⟩, ⟨[], [], []⟩)] c_ppo_view_rule_L1 (ppo_view_rule_L1_S v a b sa) K
  = ((eqB (decide (sa < 13)) true) ∧ (LeA ((vI sa)) ((vI 7))) ∧ (at? (v.all.map Event.enc) a = some (Event.enc xa3)) ∧ (at? (v.all.map Event.enc) b = some (Event.enc xa4)) ∧ (pc 61 [.fptr (ppo_view.enc v) 0, (vI a), (vI b), .fptr (Event.enc xa3) 0, .fptr (Event.enc xa4) 0] (eqA (.v (.bool ya5)))) ∧ (eqB ya5 false) ∧ K .nrm (ppo_view_rule_L1_S v a b 8)) := by kernel_rfl
theorem ppo_view_rule_L1_p16 (v : ppo_view) (a : Int) (b : Int) (sa : Int) (xa3 : Event) (xa4 : Event) (ya5 : Bool) (K : Ex → St → Prop) : oR pc sc lp cd ⟨ord29, [rV 4 [(16, vT)], (6, ⟨[], [], [(28, (Event.enc xa3)), (34, (Event.enc xa4))], [(35, vT)], [(35, .v (.bool ya5))], [], [], []⟩)], [(4, ⟨[(15, (vI 8))], [], []⟩)], [], []⟩ (polF 29) [(1, ⟨[6], [], 0, [], []⟩, ⟨[], [], []⟩)] c_ppo_view_rule_L1 (ppo_view_rule_L1_S v a b sa) K
  = ((eqB (decide (sa < 13)) true) ∧ (LeA ((vI sa)) ((vI 8))) ∧ (at? (v.all.map Event.enc) a = some (Event.enc xa3)) ∧ (at? (v.all.map Event.enc) b = some (Event.enc xa4)) ∧ (pc 62 [.fptr (ppo_view.enc v) 0, (vI a), (vI b), .fptr (Event.enc xa3) 0, .fptr (Event.enc xa4) 0] (eqA (.v (.bool ya5)))) ∧ (eqB ya5 true) ∧ K .ret (ppo_view_rule_L1_T1 v a b 9)) := by kernel_rfl
theorem ppo_view_rule_L1_p17 (v : ppo_view) (a : Int) (b : Int) (sa : Int) (xa3 : Event) (xa4 : Event) (ya5 : Bool) (K : Ex → St → Prop) : oR pc sc lp cd ⟨ord29, [rV 4 [(16, vT)], (6, ⟨[], [], [(28, (Event.enc xa3)), (34, (Event.enc xa4))], [(35, vF)], [(35, .v (.bool ya5))], [], [], []⟩)], [(4, ⟨[(15, (vI 8))], [], []⟩)], [], []⟩ (polF 29) [(0, ⟨[0, 1, 2, 14, 15], [], 0, [], []⟩, ⟨[], [], []⟩)] c_ppo_view_rule_L1 (ppo_view_rule_L1_S v a b sa) K
  = ((eqB (decide (sa < 13)) true) ∧ (LeA ((vI sa)) ((vI 8))) ∧ (at? (v.all.map Event.enc) a = some (Event.enc xa3)) ∧ (at? (v.all.map Event.enc) b = some (Event.enc xa4)) ∧ (pc 62 [.fptr (ppo_view.enc v) 0, (vI a), (vI b), .fptr (Event.enc xa3) 0, .fptr (Event.enc xa4) 0] (eqA (.v (.bool ya5)))) ∧ (eqB ya5 false) ∧ K .nrm (ppo_view_rule_L1_S v a b 9)) := by kernel_rfl
theorem ppo_view_rule_L1_p18 (v : ppo_view) (a : Int) (b : Int) (sa : Int) (xa3 : Event) (xa4 : Event) (ya5 : Bool) (K : Ex → St → Prop) : oR pc sc lp cd ⟨ord29, [rV 4 [(16, vT)], (6, ⟨[], [], [(28, (Event.enc xa3)), (34, (Event.enc xa4))], [(35, vT)], [(35, .v (.bool ya5))], [], [], []⟩)], [(4, ⟨[(15, (vI 9))], [], []⟩)], [], []⟩ (polF 29) [(1, ⟨[6], [], 0, [], []⟩, ⟨[], [], []⟩)] c_ppo_view_rule_L1 (ppo_view_rule_L1_S v a b sa) K
  = ((eqB (decide (sa < 13)) true) ∧ (LeA ((vI sa)) ((vI 9))) ∧ (at? (v.all.map Event.enc) a = some (Event.enc xa3)) ∧ (at? (v.all.map Event.enc) b = some (Event.enc xa4)) ∧ (pc 64 [.fptr (ppo_view.enc v) 0, (vI a), (vI b), .fptr (Event.enc xa3) 0, .fptr (Event.enc xa4) 0] (eqA (.v (.bool ya5)))) ∧ (eqB ya5 true) ∧ K .ret (ppo_view_rule_L1_T1 v a b 10)) := by kernel_rfl
theorem ppo_view_rule_L1_p19 (v : ppo_view) (a : Int) (b : Int) (sa : Int) (xa3 : Event) (xa4 : Event) (ya5 : Bool) (K : Ex → St → Prop) : oR pc sc lp cd ⟨ord29, [rV 4 [(16, vT)], (6, ⟨[], [], [(28, (Event.enc xa3)), (34, (Event.enc xa4))], [(35, vF)], [(35, .v (.bool ya5))], [], [], []⟩)], [(4, ⟨[(15, (vI 9))], [], []⟩)], [], []⟩ (polF 29) [(0, ⟨[0, 1, 2, 14, 15], [], 0, [], []⟩, ⟨[], [], []⟩)] c_ppo_view_rule_L1 (ppo_view_rule_L1_S v a b sa) K
  = ((eqB (decide (sa < 13)) true) ∧ (LeA ((vI sa)) ((vI 9))) ∧ (at? (v.all.map Event.enc) a = some (Event.enc xa3)) ∧ (at? (v.all.map Event.enc) b = some (Event.enc xa4)) ∧ (pc 64 [.fptr (ppo_view.enc v) 0, (vI a), (vI b), .fptr (Event.enc xa3) 0, .fptr (Event.enc xa4) 0] (eqA (.v (.bool ya5)))) ∧ (eqB ya5 false) ∧ K .nrm (ppo_view_rule_L1_S v a b 10)) := by kernel_rfl
theorem ppo_view_rule_L1_p20 (v : ppo_view) (a : Int) (b : Int) (sa : Int) (xa3 : Event) (xa4 : Event) (ya5 : Bool) (K : Ex → St → Prop) : oR pc sc lp cd ⟨ord29, [rV 4 [(16, vT)], (6, ⟨[], [], [(28, (Event.enc xa3)), (34, (Event.enc xa4))], [(35, vT)], [(35, .v (.bool ya5))], [], [], []⟩)], [(4, ⟨[(15, (vI 10))], [], []⟩)], [], []⟩ (polF 29) [(1, ⟨[6], [], 0, [], []⟩, ⟨[], [], []⟩)] c_ppo_view_rule_L1 (ppo_view_rule_L1_S v a b sa) K
  = ((eqB (decide (sa < 13)) true) ∧ (LeA ((vI sa)) ((vI 10))) ∧ (at? (v.all.map Event.enc) a = some (Event.enc xa3)) ∧ (at? (v.all.map Event.enc) b = some (Event.enc xa4)) ∧ (pc 65 [.fptr (ppo_view.enc v) 0, (vI a), (vI b), .fptr (Event.enc xa3) 0, .fptr (Event.enc xa4) 0] (eqA (.v (.bool ya5)))) ∧ (eqB ya5 true) ∧ K .ret (ppo_view_rule_L1_T1 v a b 11)) := by kernel_rfl
theorem ppo_view_rule_L1_p21 (v : ppo_view) (a : Int) (b : Int) (sa : Int) (xa3 : Event) (xa4 : Event) (ya5 : Bool) (K : Ex → St → Prop) : oR pc sc lp cd ⟨ord29, [rV 4 [(16, vT)], (6, ⟨[], [], [(28, (Event.enc xa3)), (34, (Event.enc xa4))], [(35, vF)], [(35, .v (.bool ya5))], [], [], []⟩)], [(4, ⟨[(15, (vI 10))], [], []⟩)], [], []⟩ (polF 29) [(0, ⟨[0, 1, 2, 14, 15], [], 0, [], []⟩, ⟨[], [], []⟩)] c_ppo_view_rule_L1 (ppo_view_rule_L1_S v a b sa) K
  = ((eqB (decide (sa < 13)) true) ∧ (LeA ((vI sa)) ((vI 10))) ∧ (at? (v.all.map Event.enc) a = some (Event.enc xa3)) ∧ (at? (v.all.map Event.enc) b = some (Event.enc xa4)) ∧ (pc 65 [.fptr (ppo_view.enc v) 0, (vI a), (vI b), .fptr (Event.enc xa3) 0, .fptr (Event.enc xa4) 0] (eqA (.v (.bool ya5)))) ∧ (eqB ya5 false) ∧ K .nrm (ppo_view_rule_L1_S v a b 11)) := by kernel_rfl
theorem ppo_view_rule_L1_p22 (v : ppo_view) (a : Int) (b : Int) (sa : Int) (xa3 : Event) (xa4 : Event) (ya5 : Bool) (K : Ex → St → Prop) : oR pc sc lp cd ⟨ord29, [rV 4 [(16, vT)], (6, ⟨[], [], [(28, (Event.enc xa3)), (34, (Event.enc xa4))], [(35, vT)], [(35, .v (.bool ya5))], [], [], []⟩)], [(4, ⟨[(15, (vI 11))], [], []⟩)], [], []⟩ (polF 29) [(1, ⟨[6], [], 0, [], []⟩, ⟨[], [], []⟩)] c_ppo_view_rule_L1 (ppo_view_rule_L1_S v a b sa) K
  = ((eqB (decide (sa < 13)) true) ∧ (LeA ((vI sa)) ((vI 11))) ∧ (at? (v.all.map Event.enc) a = some (Event.enc xa3)) ∧ (at? (v.all.map Event.enc) b = some (Event.enc xa4)) ∧ (pc 66 [.fptr (ppo_view.enc v) 0, (vI a), (vI b), .fptr (Event.enc xa3) 0, .fptr (Event.enc xa4) 0] (eqA (.v (.bool ya5)))) ∧ (eqB ya5 true) ∧ K .ret (ppo_view_rule_L1_T1 v a b 12)) := by kernel_rfl
theorem ppo_view_rule_L1_p23 (v : ppo_view) (a : Int) (b : Int) (sa : Int) (xa3 : Event) (xa4 : Event) (ya5 : Bool) (K : Ex → St → Prop) : oR pc sc lp cd ⟨ord29, [rV 4 [(16, vT)], (6, ⟨[], [], [(28, (Event.enc xa3)), (34, (Event.enc xa4))], [(35, vF)], [(35, .v (.bool ya5))], [], [], []⟩)], [(4, ⟨[(15, (vI 11))], [], []⟩)], [], []⟩ (polF 29) [(0, ⟨[0, 1, 2, 14, 15], [], 0, [], []⟩, ⟨[], [], []⟩)] c_ppo_view_rule_L1 (ppo_view_rule_L1_S v a b sa) K
  = ((eqB (decide (sa < 13)) true) ∧ (LeA ((vI sa)) ((vI 11))) ∧ (at? (v.all.map Event.enc) a = some (Event.enc xa3)) ∧ (at? (v.all.map Event.enc) b = some (Event.enc xa4)) ∧ (pc 66 [.fptr (ppo_view.enc v) 0, (vI a), (vI b), .fptr (Event.enc xa3) 0, .fptr (Event.enc xa4) 0] (eqA (.v (.bool ya5)))) ∧ (eqB ya5 false) ∧ K .nrm (ppo_view_rule_L1_S v a b 12)) := by kernel_rfl
theorem ppo_view_rule_L1_p24 (v : ppo_view) (a : Int) (b : Int) (sa : Int) (xa3 : Event) (xa4 : Event) (ya5 : Bool) (K : Ex → St → Prop) : oR pc sc lp cd ⟨ord29, [rV 4 [(16, vT)], (6, ⟨[], [], [(28, (Event.enc xa3)), (34, (Event.enc xa4))], [(35, vT)], [(35, .v (.bool ya5))], [], [], []⟩)], [(4, ⟨[(15, (vI 12))], [], []⟩)], [], []⟩ (polF 29) [(1, ⟨[6], [], 0, [], []⟩, ⟨[], [], []⟩)] c_ppo_view_rule_L1 (ppo_view_rule_L1_S v a b sa) K
  = ((eqB (decide (sa < 13)) true) ∧ (LeA ((vI sa)) ((vI 12))) ∧ (at? (v.all.map Event.enc) a = some (Event.enc xa3)) ∧ (at? (v.all.map Event.enc) b = some (Event.enc xa4)) ∧ (pc 67 [.fptr (ppo_view.enc v) 0, (vI a), (vI b), .fptr (Event.enc xa3) 0, .fptr (Event.enc xa4) 0] (eqA (.v (.bool ya5)))) ∧ (eqB ya5 true) ∧ K .ret (ppo_view_rule_L1_T1 v a b 13)) := by kernel_rfl
theorem ppo_view_rule_L1_p25 (v : ppo_view) (a : Int) (b : Int) (sa : Int) (xa3 : Event) (xa4 : Event) (ya5 : Bool) (K : Ex → St → Prop) : oR pc sc lp cd ⟨ord29, [rV 4 [(16, vT)], (6, ⟨[], [], [(28, (Event.enc xa3)), (34, (Event.enc xa4))], [(35, vF)], [(35, .v (.bool ya5))], [], [], []⟩)], [(4, ⟨[(15, (vI 12))], [], []⟩)], [], []⟩ (polF 29) [(0, ⟨[0, 1, 2, 14, 15], [], 0, [], []⟩, ⟨[], [], []⟩)] c_ppo_view_rule_L1 (ppo_view_rule_L1_S v a b sa) K
  = ((eqB (decide (sa < 13)) true) ∧ (LeA ((vI sa)) ((vI 12))) ∧ (at? (v.all.map Event.enc) a = some (Event.enc xa3)) ∧ (at? (v.all.map Event.enc) b = some (Event.enc xa4)) ∧ (pc 67 [.fptr (ppo_view.enc v) 0, (vI a), (vI b), .fptr (Event.enc xa3) 0, .fptr (Event.enc xa4) 0] (eqA (.v (.bool ya5)))) ∧ (eqB ya5 false) ∧ K .nrm (ppo_view_rule_L1_S v a b 13)) := by kernel_rfl
theorem ppo_view_rule_L1_p27 (v : ppo_view) (a : Int) (b : Int) (sa : Int) (K : Ex → St → Prop) : oR pc sc lp cd ⟨ord29, [rV 4 [(16, vF)]], [], [], []⟩ (polF 29) [(2, ⟨[], [], 0, [], []⟩, ⟨[], [], []⟩)] c_ppo_view_rule_L1 (ppo_view_rule_L1_S v a b sa) K
  = ((eqB (decide (sa < 13)) false) ∧ K (.ex 0) (ppo_view_rule_L1_T0 v a b ())) := by kernel_rfl
theorem ppo_view_rule_L1_sim (n : Nat) (v : ppo_view) (a : Int) (b : Int) : ∀ sa r, ppo_view_rule_L1 n v a b sa = some r → CodeD Try.prog c_ppo_view_rule_L1 (ppo_view_rule_L1_S v a b sa) (rk (ppo_view_rule_L1_S v a b) (ppo_view_rule_L1_out v a b) r) := by
 intro sa r h
 unfold ppo_view_rule_L1 at h
 rcases iteN h with ⟨ha1, h⟩ | ⟨ha1, h⟩
 ·
  obtain rfl := soI h
  exact okR ordB_ppo_view_rule_L1 (Eq.mpr (ppo_view_rule_L1_p27 pP sP lP dP v a b sa _) ⟨cB ha1, ⟨rfl, rfl⟩⟩) (rkE rfl neE)
 rcases iteE h with ⟨ha2, h⟩ | ⟨ha2, h⟩
 ·
  obtain ⟨xa3, gxa3, h⟩ := bindE h
  obtain ⟨xa4, gxa4, h⟩ := bindE h
  obtain ⟨ya5, gya5, h⟩ := bindE h
  rcases iteN h with ⟨ha6, h⟩ | ⟨ha6, h⟩
  ·
   obtain rfl := soI h
   exact okR ordB_ppo_view_rule_L1 (Eq.mpr (ppo_view_rule_L1_p1 pP sP lP dP v a b sa xa3 xa4 ya5 _) ⟨cB ha1, (LeA.ofEq (eqI ha2)), at_map Event.enc gxa3, at_map Event.enc gxa4, (ppo_rules_1_sim n v a b xa3 xa4 ya5 gya5), cB ha6, ⟨rfl, rfl⟩⟩) rkN
  obtain rfl := soI h
  exact okR ordB_ppo_view_rule_L1 (Eq.mpr (ppo_view_rule_L1_p0 pP sP lP dP v a b sa xa3 xa4 ya5 _) ⟨cB ha1, (LeA.ofEq (eqI ha2)), at_map Event.enc gxa3, at_map Event.enc gxa4, (ppo_rules_1_sim n v a b xa3 xa4 ya5 gya5), cB ha6, ⟨rfl, rfl⟩⟩) (rkE rfl neR)
 rcases iteE h with ⟨ha2, h⟩ | ⟨ha2, h⟩
 ·
  obtain ⟨xa3, gxa3, h⟩ := bindE h
  obtain ⟨xa4, gxa4, h⟩ := bindE h
  obtain ⟨ya5, gya5, h⟩ := bindE h
  rcases iteN h with ⟨ha6, h⟩ | ⟨ha6, h⟩
  ·
   obtain rfl := soI h
   exact okR ordB_ppo_view_rule_L1 (Eq.mpr (ppo_view_rule_L1_p3 pP sP lP dP v a b sa xa3 xa4 ya5 _) ⟨cB ha1, (LeA.ofEq (eqI ha2)), at_map Event.enc gxa3, at_map Event.enc gxa4, (ppo_rules_2_sim n v a b xa3 xa4 ya5 gya5), cB ha6, ⟨rfl, rfl⟩⟩) rkN
  obtain rfl := soI h
  exact okR ordB_ppo_view_rule_L1 (Eq.mpr (ppo_view_rule_L1_p2 pP sP lP dP v a b sa xa3 xa4 ya5 _) ⟨cB ha1, (LeA.ofEq (eqI ha2)), at_map Event.enc gxa3, at_map Event.enc gxa4, (ppo_rules_2_sim n v a b xa3 xa4 ya5 gya5), cB ha6, ⟨rfl, rfl⟩⟩) (rkE rfl neR)
 rcases iteE h with ⟨ha2, h⟩ | ⟨ha2, h⟩
 ·
  obtain ⟨xa3, gxa3, h⟩ := bindE h
  obtain ⟨xa4, gxa4, h⟩ := bindE h
  obtain ⟨ya5, gya5, h⟩ := bindE h
  rcases iteN h with ⟨ha6, h⟩ | ⟨ha6, h⟩
  ·
   obtain rfl := soI h
   exact okR ordB_ppo_view_rule_L1 (Eq.mpr (ppo_view_rule_L1_p5 pP sP lP dP v a b sa xa3 xa4 ya5 _) ⟨cB ha1, (LeA.ofEq (eqI ha2)), at_map Event.enc gxa3, at_map Event.enc gxa4, (ppo_rules_3_sim n v a b xa3 xa4 ya5 gya5), cB ha6, ⟨rfl, rfl⟩⟩) rkN
  obtain rfl := soI h
  exact okR ordB_ppo_view_rule_L1 (Eq.mpr (ppo_view_rule_L1_p4 pP sP lP dP v a b sa xa3 xa4 ya5 _) ⟨cB ha1, (LeA.ofEq (eqI ha2)), at_map Event.enc gxa3, at_map Event.enc gxa4, (ppo_rules_3_sim n v a b xa3 xa4 ya5 gya5), cB ha6, ⟨rfl, rfl⟩⟩) (rkE rfl neR)
 rcases iteE h with ⟨ha2, h⟩ | ⟨ha2, h⟩
 ·
  obtain ⟨xa3, gxa3, h⟩ := bindE h
  obtain ⟨xa4, gxa4, h⟩ := bindE h
  obtain ⟨ya5, gya5, h⟩ := bindE h
  rcases iteN h with ⟨ha6, h⟩ | ⟨ha6, h⟩
  ·
   obtain rfl := soI h
   exact okR ordB_ppo_view_rule_L1 (Eq.mpr (ppo_view_rule_L1_p7 pP sP lP dP v a b sa xa3 xa4 ya5 _) ⟨cB ha1, (LeA.ofEq (eqI ha2)), at_map Event.enc gxa3, at_map Event.enc gxa4, (ppo_rules_4_sim n v a b xa3 xa4 ya5 gya5), cB ha6, ⟨rfl, rfl⟩⟩) rkN
  obtain rfl := soI h
  exact okR ordB_ppo_view_rule_L1 (Eq.mpr (ppo_view_rule_L1_p6 pP sP lP dP v a b sa xa3 xa4 ya5 _) ⟨cB ha1, (LeA.ofEq (eqI ha2)), at_map Event.enc gxa3, at_map Event.enc gxa4, (ppo_rules_4_sim n v a b xa3 xa4 ya5 gya5), cB ha6, ⟨rfl, rfl⟩⟩) (rkE rfl neR)
 rcases iteE h with ⟨ha2, h⟩ | ⟨ha2, h⟩
 ·
  obtain ⟨xa3, gxa3, h⟩ := bindE h
  obtain ⟨xa4, gxa4, h⟩ := bindE h
  obtain ⟨ya5, gya5, h⟩ := bindE h
  rcases iteN h with ⟨ha6, h⟩ | ⟨ha6, h⟩
  ·
   obtain rfl := soI h
   exact okR ordB_ppo_view_rule_L1 (Eq.mpr (ppo_view_rule_L1_p9 pP sP lP dP v a b sa xa3 xa4 ya5 _) ⟨cB ha1, (LeA.ofEq (eqI ha2)), at_map Event.enc gxa3, at_map Event.enc gxa4, (ppo_rules_5_sim n v a b xa3 xa4 ya5 gya5), cB ha6, ⟨rfl, rfl⟩⟩) rkN
  obtain rfl := soI h
  exact okR ordB_ppo_view_rule_L1 (Eq.mpr (ppo_view_rule_L1_p8 pP sP lP dP v a b sa xa3 xa4 ya5 _) ⟨cB ha1, (LeA.ofEq (eqI ha2)), at_map Event.enc gxa3, at_map Event.enc gxa4, (ppo_rules_5_sim n v a b xa3 xa4 ya5 gya5), cB ha6, ⟨rfl, rfl⟩⟩) (rkE rfl neR)
 rcases iteE h with ⟨ha2, h⟩ | ⟨ha2, h⟩
 ·
  obtain ⟨xa3, gxa3, h⟩ := bindE h
  obtain ⟨xa4, gxa4, h⟩ := bindE h
  obtain ⟨ya5, gya5, h⟩ := bindE h
  rcases iteN h with ⟨ha6, h⟩ | ⟨ha6, h⟩
  ·
   obtain rfl := soI h
   exact okR ordB_ppo_view_rule_L1 (Eq.mpr (ppo_view_rule_L1_p11 pP sP lP dP v a b sa xa3 xa4 ya5 _) ⟨cB ha1, (LeA.ofEq (eqI ha2)), at_map Event.enc gxa3, at_map Event.enc gxa4, (ppo_rules_6_sim n v a b xa3 xa4 ya5 gya5), cB ha6, ⟨rfl, rfl⟩⟩) rkN
  obtain rfl := soI h
  exact okR ordB_ppo_view_rule_L1 (Eq.mpr (ppo_view_rule_L1_p10 pP sP lP dP v a b sa xa3 xa4 ya5 _) ⟨cB ha1, (LeA.ofEq (eqI ha2)), at_map Event.enc gxa3, at_map Event.enc gxa4, (ppo_rules_6_sim n v a b xa3 xa4 ya5 gya5), cB ha6, ⟨rfl, rfl⟩⟩) (rkE rfl neR)
 rcases iteE h with ⟨ha2, h⟩ | ⟨ha2, h⟩
 ·
  obtain ⟨xa3, gxa3, h⟩ := bindE h
  obtain ⟨xa4, gxa4, h⟩ := bindE h
  obtain ⟨ya5, gya5, h⟩ := bindE h
  rcases iteN h with ⟨ha6, h⟩ | ⟨ha6, h⟩
  ·
   obtain rfl := soI h
   exact okR ordB_ppo_view_rule_L1 (Eq.mpr (ppo_view_rule_L1_p13 pP sP lP dP v a b sa xa3 xa4 ya5 _) ⟨cB ha1, (LeA.ofEq (eqI ha2)), at_map Event.enc gxa3, at_map Event.enc gxa4, (ppo_rules_7_sim n v a b xa3 xa4 ya5 gya5), cB ha6, ⟨rfl, rfl⟩⟩) rkN
  obtain rfl := soI h
  exact okR ordB_ppo_view_rule_L1 (Eq.mpr (ppo_view_rule_L1_p12 pP sP lP dP v a b sa xa3 xa4 ya5 _) ⟨cB ha1, (LeA.ofEq (eqI ha2)), at_map Event.enc gxa3, at_map Event.enc gxa4, (ppo_rules_7_sim n v a b xa3 xa4 ya5 gya5), cB ha6, ⟨rfl, rfl⟩⟩) (rkE rfl neR)
 rcases iteE h with ⟨ha2, h⟩ | ⟨ha2, h⟩
 ·
  obtain ⟨xa3, gxa3, h⟩ := bindE h
  obtain ⟨xa4, gxa4, h⟩ := bindE h
  obtain ⟨ya5, gya5, h⟩ := bindE h
  rcases iteN h with ⟨ha6, h⟩ | ⟨ha6, h⟩
  ·
   obtain rfl := soI h
   exact okR ordB_ppo_view_rule_L1 (Eq.mpr (ppo_view_rule_L1_p15 pP sP lP dP v a b sa xa3 xa4 ya5 _) ⟨cB ha1, (LeA.ofEq (eqI ha2)), at_map Event.enc gxa3, at_map Event.enc gxa4, (ppo_rules_8_sim n v a b xa3 xa4 ya5 gya5), cB ha6, ⟨rfl, rfl⟩⟩) rkN
  obtain rfl := soI h
  exact okR ordB_ppo_view_rule_L1 (Eq.mpr (ppo_view_rule_L1_p14 pP sP lP dP v a b sa xa3 xa4 ya5 _) ⟨cB ha1, (LeA.ofEq (eqI ha2)), at_map Event.enc gxa3, at_map Event.enc gxa4, (ppo_rules_8_sim n v a b xa3 xa4 ya5 gya5), cB ha6, ⟨rfl, rfl⟩⟩) (rkE rfl neR)
 rcases iteE h with ⟨ha2, h⟩ | ⟨ha2, h⟩
 ·
  obtain ⟨xa3, gxa3, h⟩ := bindE h
  obtain ⟨xa4, gxa4, h⟩ := bindE h
  obtain ⟨ya5, gya5, h⟩ := bindE h
  rcases iteN h with ⟨ha6, h⟩ | ⟨ha6, h⟩
  ·
   obtain rfl := soI h
   exact okR ordB_ppo_view_rule_L1 (Eq.mpr (ppo_view_rule_L1_p17 pP sP lP dP v a b sa xa3 xa4 ya5 _) ⟨cB ha1, (LeA.ofEq (eqI ha2)), at_map Event.enc gxa3, at_map Event.enc gxa4, (ppo_rules_9_sim n v a b xa3 xa4 ya5 gya5), cB ha6, ⟨rfl, rfl⟩⟩) rkN
  obtain rfl := soI h
  exact okR ordB_ppo_view_rule_L1 (Eq.mpr (ppo_view_rule_L1_p16 pP sP lP dP v a b sa xa3 xa4 ya5 _) ⟨cB ha1, (LeA.ofEq (eqI ha2)), at_map Event.enc gxa3, at_map Event.enc gxa4, (ppo_rules_9_sim n v a b xa3 xa4 ya5 gya5), cB ha6, ⟨rfl, rfl⟩⟩) (rkE rfl neR)
 rcases iteE h with ⟨ha2, h⟩ | ⟨ha2, h⟩
 ·
  obtain ⟨xa3, gxa3, h⟩ := bindE h
  obtain ⟨xa4, gxa4, h⟩ := bindE h
  obtain ⟨ya5, gya5, h⟩ := bindE h
  rcases iteN h with ⟨ha6, h⟩ | ⟨ha6, h⟩
  ·
   obtain rfl := soI h
   exact okR ordB_ppo_view_rule_L1 (Eq.mpr (ppo_view_rule_L1_p19 pP sP lP dP v a b sa xa3 xa4 ya5 _) ⟨cB ha1, (LeA.ofEq (eqI ha2)), at_map Event.enc gxa3, at_map Event.enc gxa4, (ppo_rules_10_sim n v a b xa3 xa4 ya5 gya5), cB ha6, ⟨rfl, rfl⟩⟩) rkN
  obtain rfl := soI h
  exact okR ordB_ppo_view_rule_L1 (Eq.mpr (ppo_view_rule_L1_p18 pP sP lP dP v a b sa xa3 xa4 ya5 _) ⟨cB ha1, (LeA.ofEq (eqI ha2)), at_map Event.enc gxa3, at_map Event.enc gxa4, (ppo_rules_10_sim n v a b xa3 xa4 ya5 gya5), cB ha6, ⟨rfl, rfl⟩⟩) (rkE rfl neR)
 rcases iteE h with ⟨ha2, h⟩ | ⟨ha2, h⟩
 ·
  obtain ⟨xa3, gxa3, h⟩ := bindE h
  obtain ⟨xa4, gxa4, h⟩ := bindE h
  obtain ⟨ya5, gya5, h⟩ := bindE h
  rcases iteN h with ⟨ha6, h⟩ | ⟨ha6, h⟩
  ·
   obtain rfl := soI h
   exact okR ordB_ppo_view_rule_L1 (Eq.mpr (ppo_view_rule_L1_p21 pP sP lP dP v a b sa xa3 xa4 ya5 _) ⟨cB ha1, (LeA.ofEq (eqI ha2)), at_map Event.enc gxa3, at_map Event.enc gxa4, (ppo_rules_11_sim n v a b xa3 xa4 ya5 gya5), cB ha6, ⟨rfl, rfl⟩⟩) rkN
  obtain rfl := soI h
  exact okR ordB_ppo_view_rule_L1 (Eq.mpr (ppo_view_rule_L1_p20 pP sP lP dP v a b sa xa3 xa4 ya5 _) ⟨cB ha1, (LeA.ofEq (eqI ha2)), at_map Event.enc gxa3, at_map Event.enc gxa4, (ppo_rules_11_sim n v a b xa3 xa4 ya5 gya5), cB ha6, ⟨rfl, rfl⟩⟩) (rkE rfl neR)
 rcases iteE h with ⟨ha2, h⟩ | ⟨ha2, h⟩
 ·
  obtain ⟨xa3, gxa3, h⟩ := bindE h
  obtain ⟨xa4, gxa4, h⟩ := bindE h
  obtain ⟨ya5, gya5, h⟩ := bindE h
  rcases iteN h with ⟨ha6, h⟩ | ⟨ha6, h⟩
  ·
   obtain rfl := soI h
   exact okR ordB_ppo_view_rule_L1 (Eq.mpr (ppo_view_rule_L1_p23 pP sP lP dP v a b sa xa3 xa4 ya5 _) ⟨cB ha1, (LeA.ofEq (eqI ha2)), at_map Event.enc gxa3, at_map Event.enc gxa4, (ppo_rules_12_sim n v a b xa3 xa4 ya5 gya5), cB ha6, ⟨rfl, rfl⟩⟩) rkN
  obtain rfl := soI h
  exact okR ordB_ppo_view_rule_L1 (Eq.mpr (ppo_view_rule_L1_p22 pP sP lP dP v a b sa xa3 xa4 ya5 _) ⟨cB ha1, (LeA.ofEq (eqI ha2)), at_map Event.enc gxa3, at_map Event.enc gxa4, (ppo_rules_12_sim n v a b xa3 xa4 ya5 gya5), cB ha6, ⟨rfl, rfl⟩⟩) (rkE rfl neR)
 rcases iteE h with ⟨ha2, h⟩ | ⟨ha2, h⟩
 ·
  obtain ⟨xa3, gxa3, h⟩ := bindE h
  obtain ⟨xa4, gxa4, h⟩ := bindE h
  obtain ⟨ya5, gya5, h⟩ := bindE h
  rcases iteN h with ⟨ha6, h⟩ | ⟨ha6, h⟩
  ·
   obtain rfl := soI h
   exact okR ordB_ppo_view_rule_L1 (Eq.mpr (ppo_view_rule_L1_p25 pP sP lP dP v a b sa xa3 xa4 ya5 _) ⟨cB ha1, (LeA.ofEq (eqI ha2)), at_map Event.enc gxa3, at_map Event.enc gxa4, (ppo_rules_13_sim n v a b xa3 xa4 ya5 gya5), cB ha6, ⟨rfl, rfl⟩⟩) rkN
  obtain rfl := soI h
  exact okR ordB_ppo_view_rule_L1 (Eq.mpr (ppo_view_rule_L1_p24 pP sP lP dP v a b sa xa3 xa4 ya5 _) ⟨cB ha1, (LeA.ofEq (eqI ha2)), at_map Event.enc gxa3, at_map Event.enc gxa4, (ppo_rules_13_sim n v a b xa3 xa4 ya5 gya5), cB ha6, ⟨rfl, rfl⟩⟩) (rkE rfl neR)
 rcases iteE h with ⟨ha2, h⟩ | ⟨ha2, h⟩
 ·
  cases h
 cases h

theorem ppo_view_rule_p0 (v : ppo_view) (a : Int) (b : Int) (y1 : Bool) (K : AV → Prop) : oP pc sc lp cd ⟨ord29, [rVC 1 [(13, vT)] [(12, .v (.bool y1))]], [], [], []⟩ 29 [.fptr (ppo_view.enc v) 0, (vI a), (vI b)] K
  = ((pc 35 [.fptr (ppo_view.enc v) 0, (vI a), (vI b)] (eqA (.v (.bool y1)))) ∧ (eqB (!y1) true) ∧ K ((vI 0))) := by kernel_rfl
theorem ppo_view_rule_p1 (v : ppo_view) (a : Int) (b : Int) (y1 : Bool) (w5 : Unit) (K : AV → Prop) : oP pc sc lp cd ⟨ord29, [rVC 1 [(13, vF)] [(12, .v (.bool y1))], (3, ⟨[], [], [], [], [(14, .agg [.fn 49 [] [], .fn 51 [] [], .fn 55 [] [], .fn 56 [] [], .fn 58 [] [], .fn 59 [] [], .fn 60 [] [], .fn 61 [] [], .fn 62 [] [], .fn 64 [] [], .fn 65 [] [], .fn 66 [] [], .fn 67 [] []])], [], [], []⟩)], [], [(4, (⟨[0, 1, 2, 14, 15], [], 0, [], []⟩, ⟨[], [], []⟩, (.ex 0), ppo_view_rule_L1_T0 v a b w5))], []⟩ 29 [.fptr (ppo_view.enc v) 0, (vI a), (vI b)] K
  = ((pc 35 [.fptr (ppo_view.enc v) 0, (vI a), (vI b)] (eqA (.v (.bool y1)))) ∧ (eqB (!y1) false) ∧ (pc 34 [] (eqA (.agg [.fn 49 [] [], .fn 51 [] [], .fn 55 [] [], .fn 56 [] [], .fn 58 [] [], .fn 59 [] [], .fn 60 [] [], .fn 61 [] [], .fn 62 [] [], .fn 64 [] [], .fn 65 [] [], .fn 66 [] [], .fn 67 [] []]))) ∧ (lp (polF 29) c_ppo_view_rule_L1 (ppo_view_rule_L1_S v a b 0) (fun e' S' => e' = (.ex 0) ∧ S' = ppo_view_rule_L1_T0 v a b w5)) ∧ K ((vI 0))) := by kernel_rfl
theorem ppo_view_rule_p2 (v : ppo_view) (a : Int) (b : Int) (y1 : Bool) (w5 : Int) (K : AV → Prop) : oP pc sc lp cd ⟨ord29, [rVC 1 [(13, vF)] [(12, .v (.bool y1))], (3, ⟨[], [], [], [], [(14, .agg [.fn 49 [] [], .fn 51 [] [], .fn 55 [] [], .fn 56 [] [], .fn 58 [] [], .fn 59 [] [], .fn 60 [] [], .fn 61 [] [], .fn 62 [] [], .fn 64 [] [], .fn 65 [] [], .fn 66 [] [], .fn 67 [] []])], [], [], []⟩)], [], [(4, (⟨[0, 1, 2, 14, 15], [], 0, [], []⟩, ⟨[], [], []⟩, .ret, ppo_view_rule_L1_T1 v a b w5))], []⟩ 29 [.fptr (ppo_view.enc v) 0, (vI a), (vI b)] K
  = ((pc 35 [.fptr (ppo_view.enc v) 0, (vI a), (vI b)] (eqA (.v (.bool y1)))) ∧ (eqB (!y1) false) ∧ (pc 34 [] (eqA (.agg [.fn 49 [] [], .fn 51 [] [], .fn 55 [] [], .fn 56 [] [], .fn 58 [] [], .fn 59 [] [], .fn 60 [] [], .fn 61 [] [], .fn 62 [] [], .fn 64 [] [], .fn 65 [] [], .fn 66 [] [], .fn 67 [] []]))) ∧ (lp (polF 29) c_ppo_view_rule_L1 (ppo_view_rule_L1_S v a b 0) (fun e' S' => e' = .ret ∧ S' = ppo_view_rule_L1_T1 v a b w5)) ∧ K ((vI w5))) := by kernel_rfl
theorem ppo_view_rule_sim (n : Nat) (v : ppo_view) (a : Int) (b : Int) (r : Int) (h : ppo_view_rule n v a b = some r) : PCall Try.prog 29 [.fptr (ppo_view.enc v) 0, (vI a), (vI b)] (eqA ((vI r))) := by
 unfold ppo_view_rule at h
 obtain ⟨y1, gy1, h⟩ := bindE h
 rcases iteE h with ⟨h2, h⟩ | ⟨h2, h⟩
 ·
  obtain rfl := soI h
  exact okP ordB29 (Eq.mpr (ppo_view_rule_p0 pP sP lP dP v a b y1 _) (⟨(ppo_view_ahead_sim n v a b y1 gy1), cB h2, LeA.refl _⟩))
 obtain ⟨y3, gy3, h⟩ := bindE h
 obtain ⟨t4, gt4, h⟩ := bindE h
 rcases t4 with w5 | w5
 ·
  obtain rfl := soI h
  exact okP ordB29 (Eq.mpr (ppo_view_rule_p1 pP sP lP dP v a b y1 w5 _) (⟨(ppo_view_ahead_sim n v a b y1 gy1), cB h2, (ppo_rules_sim n y3 gy3), okL (ppo_view_rule_L1_S v a b) (ppo_view_rule_L1_out v a b) (ppo_view_rule_L1_sim n v a b) n _ (.inl w5) gt4, LeA.refl _⟩))
 ·
  obtain rfl := soI h
  exact okP ordB29 (Eq.mpr (ppo_view_rule_p2 pP sP lP dP v a b y1 w5 _) (⟨(ppo_view_ahead_sim n v a b y1 gy1), cB h2, (ppo_rules_sim n y3 gy3), okL (ppo_view_rule_L1_S v a b) (ppo_view_rule_L1_out v a b) (ppo_view_rule_L1_sim n v a b) n _ (.inr w5) gt4, LeA.refl _⟩))

def ord14 : List (Nat × PT) := [(9, (ptS [0, 1, 2, 3, 4, 5, 6, 7, 8, 9, 10, 11, 12, 13, 14, 15, 16, 17, 18, 19]))]
theorem ordB14 : ordB (polF 14) ord14 (bodyOf Try.prog 14) = true := by kernel_rfl
noncomputable def c_ppo_Pairs_L1 : Code := sub (bodyOf Try.prog 14) [1, 1, 1, 1, 0, 1, 0, 0]
noncomputable def c_ppo_Pairs_L2 : Code := sub c_ppo_Pairs_L1 [1, 1, 0, 0, 1, 1, 0, 0]
theorem ordB_ppo_Pairs_L2 : ordB (polF 14) ord14 c_ppo_Pairs_L2 = true := by kernel_rfl
def ppo_Pairs_L2_S (z2 : ppo_view) (xa2 : Event) (sb : (List (Arr2 Int)) × Int × Int × Int) : St := mkS 58 [(3, .fptr (ppo_view.enc z2) 0), (4, .mf 0), (5, (vI sb.2.2.1)), (6, .ptr (.L 6) 0 0), (7, (vI sb.2.2.2)), (14, .sl (z2.all.map Event.enc)), (15, (vI (z2.all.length : Int))), (16, (vI sb.2.1))] [(6, (Event.enc xa2))] [.arr true 2 (sb.1.map (eArr2 eI))] 0
def ppo_Pairs_L2_T0 (z2 : ppo_view) (xa2 : Event) (tt : (List (Arr2 Int)) × Int) : St := mkS 58 [(3, .fptr (ppo_view.enc z2) 0), (4, .mf 0), (14, .sl (z2.all.map Event.enc)), (15, (vI (z2.all.length : Int))), (16, (vI tt.2))] [] [.arr true 2 (tt.1.map (eArr2 eI))] 0
def ppo_Pairs_L2_out (z2 : ppo_view) (xa2 : Event) (tt : ((List (Arr2 Int)) × Int)) : Ex × St := (.ex 2, ppo_Pairs_L2_T0 z2 xa2 tt)
theorem ppo_Pairs_L2_p0 (z2 : ppo_view) (xa2 : Event) (sb : (List (Arr2 Int)) × Int × Int × Int) (xb2 : Event) (yb4 : Int) (K : Ex → St → Prop) : oR pc sc lp cd ⟨ord14, [(9, ⟨[], [], [(36, (Event.enc xb2))], [(28, (vI (z2.all.length : Int))), (30, vT), (42, vT)], [], [], [], []⟩), rVC 11 [(49, vT)] [(48, (vI yb4))], (12, ⟨[], [55], [], [], [], [], [(55, (0, (sb.1 ++ ([(Arr2.mk sb.2.2.1 sb.2.2.2)] : List (Arr2 Int))).map (eArr2 eI)))], []⟩)], [], [], []⟩ (polF 14) [(0, ⟨[3, 4, 5, 6, 7, 14, 15, 16], [], 1, [], []⟩, ⟨[], [], []⟩)] c_ppo_Pairs_L2 (ppo_Pairs_L2_S z2 xa2 sb) K
  = ((AV.v (.int .i64 (((z2.all.map Event.enc).length : Nat) : Int)) = AV.v (.int .i64 (z2.all.length : Int))) ∧ (eqB (decide (sb.2.2.2 < (z2.all.length : Int))) true) ∧ (at? (z2.all.map Event.enc) sb.2.2.2 = some (Event.enc xb2)) ∧ (eqB (xb2.Hart == xa2.Hart) true) ∧ (pc 29 [.fptr (ppo_view.enc z2) 0, (vI sb.2.2.1), (vI sb.2.2.2)] (eqA ((vI yb4)))) ∧ (eqB (decide (yb4 > 0)) true) ∧ (szOk 2 [[(vI sb.2.2.1), (vI sb.2.2.2)]] = true) ∧ (okRows [[(vI sb.2.2.1), (vI sb.2.2.2)]] = true) ∧ (Nat.ble (((sb.1.map (eArr2 eI)).length + 1) * 16) 140737488355328 = true) ∧ ((sb.1.map (eArr2 eI)) ++ [[(vI sb.2.2.1), (vI sb.2.2.2)]] = (sb.1 ++ ([(Arr2.mk sb.2.2.1 sb.2.2.2)] : List (Arr2 Int))).map (eArr2 eI)) ∧ K .nrm (ppo_Pairs_L2_S z2 xa2 ((sb.1 ++ ([(Arr2.mk sb.2.2.1 sb.2.2.2)] : List (Arr2 Int))), sb.2.1, sb.2.2.1, (addW .i64 sb.2.2.2 1)))) := by kernel_rfl
theorem ppo_Pairs_L2_p1 (z2 : ppo_view) (xa2 : Event) (sb : (List (Arr2 Int)) × Int × Int × Int) (xb2 : Event) (yb4 : Int) (K : Ex → St → Prop) : oR pc sc lp cd ⟨ord14, [(9, ⟨[], [], [(36, (Event.enc xb2))], [(28, (vI (z2.all.length : Int))), (30, vT), (42, vT)], [], [], [], []⟩), rVC 11 [(49, vF)] [(48, (vI yb4))]], [], [], []⟩ (polF 14) [(0, ⟨[3, 4, 5, 6, 7, 14, 15, 16], [], 1, [], []⟩, ⟨[], [], []⟩)] c_ppo_Pairs_L2 (ppo_Pairs_L2_S z2 xa2 sb) K
  = ((AV.v (.int .i64 (((z2.all.map Event.enc).length : Nat) : Int)) = AV.v (.int .i64 (z2.all.length : Int))) ∧ (eqB (decide (sb.2.2.2 < (z2.all.length : Int))) true) ∧ (at? (z2.all.map Event.enc) sb.2.2.2 = some (Event.enc xb2)) ∧ (eqB (xb2.Hart == xa2.Hart) true) ∧ (pc 29 [.fptr (ppo_view.enc z2) 0, (vI sb.2.2.1), (vI sb.2.2.2)] (eqA ((vI yb4)))) ∧ (eqB (decide (yb4 > 0)) false) ∧ K .nrm (ppo_Pairs_L2_S z2 xa2 (sb.1, sb.2.1, sb.2.2.1, (addW .i64 sb.2.2.2 1)))) := by kernel_rfl
theorem ppo_Pairs_L2_p2 (z2 : ppo_view) (xa2 : Event) (sb : (List (Arr2 Int)) × Int × Int × Int) (xb2 : Event) (K : Ex → St → Prop) : oR pc sc lp cd ⟨ord14, [(9, ⟨[], [], [(36, (Event.enc xb2))], [(28, (vI (z2.all.length : Int))), (30, vT), (42, vF)], [], [], [], []⟩)], [], [], []⟩ (polF 14) [(4, ⟨[3, 4, 14, 15, 16], [6], 1, [], []⟩, ⟨[], [], []⟩)] c_ppo_Pairs_L2 (ppo_Pairs_L2_S z2 xa2 sb) K
  = ((AV.v (.int .i64 (((z2.all.map Event.enc).length : Nat) : Int)) = AV.v (.int .i64 (z2.all.length : Int))) ∧ (eqB (decide (sb.2.2.2 < (z2.all.length : Int))) true) ∧ (at? (z2.all.map Event.enc) sb.2.2.2 = some (Event.enc xb2)) ∧ (eqB (xb2.Hart == xa2.Hart) false) ∧ K (.ex 2) (ppo_Pairs_L2_T0 z2 xa2 (sb.1, sb.2.1))) := by kernel_rfl
theorem ppo_Pairs_L2_p3 (z2 : ppo_view) (xa2 : Event) (sb : (List (Arr2 Int)) × Int × Int × Int) (K : Ex → St → Prop) : oR pc sc lp cd ⟨ord14, [rV 9 [(28, (vI (z2.all.length : Int))), (30, vF)]], [], [], []⟩ (polF 14) [(4, ⟨[3, 4, 14, 15, 16], [6], 1, [], []⟩, ⟨[], [], []⟩)] c_ppo_Pairs_L2 (ppo_Pairs_L2_S z2 xa2 sb) K
  = ((AV.v (.int .i64 (((z2.all.map Event.enc).length : Nat) : Int)) = AV.v (.int .i64 (z2.all.length : Int))) ∧ (eqB (decide (sb.2.2.2 < (z2.all.length : Int))) false) ∧ K (.ex 2) (ppo_Pairs_L2_T0 z2 xa2 (sb.1, sb.2.1))) := by kernel_rfl
theorem ppo_Pairs_L2_sim (n : Nat) (z2 : ppo_view) (xa2 : Event) : ∀ sb r, ppo_Pairs_L2 n z2 xa2 sb = some r → CodeD Try.prog c_ppo_Pairs_L2 (ppo_Pairs_L2_S z2 xa2 sb) (rk (ppo_Pairs_L2_S z2 xa2) (ppo_Pairs_L2_out z2 xa2) r) := by
 intro sb r h
 unfold ppo_Pairs_L2 at h
 rcases iteN h with ⟨hb1, h⟩ | ⟨hb1, h⟩
 ·
  obtain rfl := soI h
  exact okR ordB_ppo_Pairs_L2 (Eq.mpr (ppo_Pairs_L2_p3 pP sP lP dP z2 xa2 sb _) ⟨len_map _ _, cB hb1, ⟨rfl, rfl⟩⟩) (rkE rfl neE)
 obtain ⟨xb2, gxb2, h⟩ := bindE h
 rcases iteN h with ⟨hb3, h⟩ | ⟨hb3, h⟩
 ·
  obtain rfl := soI h
  exact okR ordB_ppo_Pairs_L2 (Eq.mpr (ppo_Pairs_L2_p2 pP sP lP dP z2 xa2 sb xb2 _) ⟨len_map _ _, cB hb1, at_map Event.enc gxb2, cB hb3, ⟨rfl, rfl⟩⟩) (rkE rfl neE)
 obtain ⟨yb4, gyb4, h⟩ := bindE h
 rcases iteN h with ⟨hb5, h⟩ | ⟨hb5, h⟩
 ·
  obtain rfl := soI h
  exact okR ordB_ppo_Pairs_L2 (Eq.mpr (ppo_Pairs_L2_p1 pP sP lP dP z2 xa2 sb xb2 yb4 _) ⟨len_map _ _, cB hb1, at_map Event.enc gxb2, cB hb3, (ppo_view_rule_sim n z2 sb.2.2.1 sb.2.2.2 yb4 gyb4), cB hb5, ⟨rfl, rfl⟩⟩) rkN
 obtain ⟨hb6, h⟩ := grdE h
 obtain rfl := soI h
 exact okR ordB_ppo_Pairs_L2 (Eq.mpr (ppo_Pairs_L2_p0 pP sP lP dP z2 xa2 sb xb2 yb4 _) ⟨len_map _ _, cB hb1, at_map Event.enc gxb2, cB hb3, (ppo_view_rule_sim n z2 sb.2.2.1 sb.2.2.2 yb4 gyb4), cB hb5, rfl, rfl, ble_maps1 hb6, app_map (eArr2 eI) sb.1 ([(Arr2.mk sb.2.2.1 sb.2.2.2)] : List (Arr2 Int)), ⟨rfl, rfl⟩⟩) rkN

theorem ordB_ppo_Pairs_L1 : ordB (polF 14) ord14 c_ppo_Pairs_L1 = true := by kernel_rfl
def ppo_Pairs_L1_S (z2 : ppo_view) (sa : (List (Arr2 Int)) × Int) : St := mkS 58 [(3, .fptr (ppo_view.enc z2) 0), (4, .mf 0), (14, .sl (z2.all.map Event.enc)), (15, (vI (z2.all.length : Int))), (16, (vI sa.2))] [] [.arr true 2 (sa.1.map (eArr2 eI))] 0
def ppo_Pairs_L1_T0 (z2 : ppo_view) (tt : (List (Arr2 Int))) : St := mkS 58 [(4, .mf 0)] [] [.arr true 2 (tt.map (eArr2 eI))] 0
def ppo_Pairs_L1_out (z2 : ppo_view) (tt : ((List (Arr2 Int)))) : Ex × St := (.ex 0, ppo_Pairs_L1_T0 z2 tt)
theorem ppo_Pairs_L1_p0 (z2 : ppo_view) (sa : (List (Arr2 Int)) × Int) (xa2 : Event) (ta3 : ((List (Arr2 Int)) × Int)) (K : Ex → St → Prop) : oR pc sc lp cd ⟨ord14, [rV 6 [(17, vT)], (7, ⟨[], [], [(19, (Event.enc xa2))], [], [], [], [], []⟩)], [], [(9, (⟨[3, 4, 5, 6, 7, 14, 15, 16], [], 1, [], []⟩, ⟨[], [], []⟩, (.ex 2), ppo_Pairs_L2_T0 z2 xa2 ta3))], []⟩ (polF 14) [(0, ⟨[3, 4, 14, 15, 16], [], 1, [], []⟩, ⟨[], [], []⟩)] c_ppo_Pairs_L1 (ppo_Pairs_L1_S z2 sa) K
  = ((eqB (decide (sa.2 < (z2.all.length : Int))) true) ∧ (at? (z2.all.map Event.enc) sa.2 = some (Event.enc xa2)) ∧ (lp (polF 14) c_ppo_Pairs_L2 (ppo_Pairs_L2_S z2 xa2 (sa.1, sa.2, sa.2, (addW .i64 sa.2 1))) (fun e' S' => e' = (.ex 2) ∧ S' = ppo_Pairs_L2_T0 z2 xa2 ta3)) ∧ K .nrm (ppo_Pairs_L1_S z2 (ta3.1, (addW .i64 ta3.2 1)))) := by kernel_rfl
theorem ppo_Pairs_L1_p1 (z2 : ppo_view) (sa : (List (Arr2 Int)) × Int) (K : Ex → St → Prop) : oR pc sc lp cd ⟨ord14, [rV 6 [(17, vF)]], [], [], []⟩ (polF 14) [(2, ⟨[4], [], 1, [], []⟩, ⟨[], [], []⟩)] c_ppo_Pairs_L1 (ppo_Pairs_L1_S z2 sa) K
  = ((eqB (decide (sa.2 < (z2.all.length : Int))) false) ∧ K (.ex 0) (ppo_Pairs_L1_T0 z2 sa.1)) := by kernel_rfl
theorem ppo_Pairs_L1_sim (n : Nat) (z2 : ppo_view) : ∀ sa r, ppo_Pairs_L1 n z2 sa = some r → CodeD Try.prog c_ppo_Pairs_L1 (ppo_Pairs_L1_S z2 sa) (rk (ppo_Pairs_L1_S z2) (ppo_Pairs_L1_out z2) r) := by
 intro sa r h
 unfold ppo_Pairs_L1 at h
 rcases iteN h with ⟨ha1, h⟩ | ⟨ha1, h⟩
 ·
  obtain rfl := soI h
  exact okR ordB_ppo_Pairs_L1 (Eq.mpr (ppo_Pairs_L1_p1 pP sP lP dP z2 sa _) ⟨cB ha1, ⟨rfl, rfl⟩⟩) (rkE rfl neE)
 obtain ⟨xa2, gxa2, h⟩ := bindE h
 obtain ⟨ta3, gta3, h⟩ := bindE h
 obtain rfl := soI h
 exact okR ordB_ppo_Pairs_L1 (Eq.mpr (ppo_Pairs_L1_p0 pP sP lP dP z2 sa xa2 ta3 _) ⟨cB ha1, at_map Event.enc gxa2, okL (ppo_Pairs_L2_S z2 xa2) (ppo_Pairs_L2_out z2 xa2) (ppo_Pairs_L2_sim n z2 xa2) n _ ta3 gta3, ⟨rfl, rfl⟩⟩) rkN

theorem ppo_Pairs_p0 (c : Cand) (K : AV → Prop) : oP pc sc lp cd ⟨ord14, [rVC 1 [] [(8, .nilp)]], [], [], []⟩ 14 [(aAgg Cand.enc c)] K
  = ((pc 28 [.fptr (Cand.enc c) 0] (eqA (.nilp))) ∧ K (.nilsl)) := by kernel_rfl
theorem ppo_Pairs_p1 (c : Cand) (z2 : ppo_view) (t3 : ((List (Arr2 Int)))) (K : AV → Prop) : oP pc sc lp cd ⟨ord14, [rVC 1 [] [(8, .fptr (ppo_view.enc z2) 0)], rV 5 [(15, (vI (z2.all.length : Int)))]], [], [(6, (⟨[3, 4, 14, 15, 16], [], 0, [(4, 2)], []⟩, ⟨[], [], []⟩, (.ex 0), ppo_Pairs_L1_T0 z2 t3))], []⟩ 14 [(aAgg Cand.enc c)] K
  = ((pc 28 [.fptr (Cand.enc c) 0] (eqA (.fptr (ppo_view.enc z2) 0))) ∧ (AV.v (.int .i64 (((z2.all.map Event.enc).length : Nat) : Int)) = AV.v (.int .i64 (z2.all.length : Int))) ∧ (lp (polF 14) c_ppo_Pairs_L1 (ppo_Pairs_L1_S z2 (([] : List (Arr2 Int)), 0)) (fun e' S' => e' = (.ex 0) ∧ S' = ppo_Pairs_L1_T0 z2 t3)) ∧ K (.sl (t3.map (eArr2 eI)))) := by kernel_rfl
theorem ppo_Pairs_sim (n : Nat) (c : Cand) (r : (List (Arr2 Int))) (h : ppo_Pairs n c = some r) : PCall Try.prog 14 [(aAgg Cand.enc c)] (eqA (.sl (r.map (eArr2 eI)))) := by
 unfold ppo_Pairs at h
 obtain ⟨y1, gy1, h⟩ := bindE h
 rcases y1 with _ | z2
 ·
  obtain rfl := soI h
  exact okP ordB14 (Eq.mpr (ppo_Pairs_p0 pP sP lP dP c _) (⟨(ppo_of_sim n c none gy1), LeA.nil⟩))
 ·
  obtain ⟨t3, gt3, h⟩ := bindE h
  obtain rfl := soI h
  exact okP ordB14 (Eq.mpr (ppo_Pairs_p1 pP sP lP dP c z2 t3 _) (⟨(ppo_of_sim n c (some z2) gy1), len_map _ _, okL (ppo_Pairs_L1_S z2) (ppo_Pairs_L1_out z2) (ppo_Pairs_L1_sim n z2) n _ t3 gt3, LeA.refl _⟩))

end
end Go.Proofs.Ytigcbjbaibcgfaa
