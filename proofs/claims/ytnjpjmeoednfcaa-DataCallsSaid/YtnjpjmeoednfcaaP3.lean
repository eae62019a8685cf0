/- What the functions compute, they compute: printed by a program, path by path. No conditions. -/
import Derived.Test.YtnjpjmeoednfcaaP2
import Derived.KernelRfl
namespace Go.Proofs.Ytnjpjmeoednfcaa
open Go A
set_option linter.unusedVariables false
set_option maxRecDepth 100000
set_option maxHeartbeats 0
section
variable (pc : Nat → List AV → (AV → Prop) → Prop) (sc : Nat → List AV → List Ob → (AV → List Ob → Prop) → Prop) (lp : Pol → Code → St → (Ex → St → Prop) → Prop) (cd : CutP)

def ord35 : List (Nat × List Nat) := []
theorem ordB35 : ordB (polF 35) ord35 (bodyOf Try.prog 35) = true := by kernel_rfl
noncomputable def c_slices_stableCmpFunc_Piece_S_L1 : Code := sub (bodyOf Try.prog 35) [1, 1, 0, 0, 0]
noncomputable def c_slices_stableCmpFunc_Piece_S_L2 : Code := sub (bodyOf Try.prog 35) [1, 1, 1, 1, 0, 0]
noncomputable def c_slices_stableCmpFunc_Piece_S_L3 : Code := sub c_slices_stableCmpFunc_Piece_S_L2 [1, 0, 1, 0, 0, 0]
theorem ordB_slices_stableCmpFunc_Piece_S_L1 : ordB (polF 35) ord35 c_slices_stableCmpFunc_Piece_S_L1 = true := by kernel_rfl
def slices_stableCmpFunc_Piece_S_L1_S (n_ : Int) (sa : (List Piece) × Int × Int) : St := mkS 63 [(0, .mf 0), (1, .v (.int .i64 n_)), (2, .fn 29 [] []), (6, .v (.int .i64 20)), (7, .v (.int .i64 sa.2.1)), (8, .v (.int .i64 sa.2.2))] [] [.arr true 3 (sa.1.map Piece.enc)] 1
def slices_stableCmpFunc_Piece_S_L1_T0 (n_ : Int) (tt : (List Piece) × Int) : St := mkS 63 [(0, .mf 0), (1, .v (.int .i64 n_)), (2, .fn 29 [] []), (6, .v (.int .i64 20)), (7, .v (.int .i64 tt.2))] [] [.arr true 3 (tt.1.map Piece.enc)] 1
def slices_stableCmpFunc_Piece_S_L1_out (n_ : Int) (tt : ((List Piece) × Int)) : Ex × St := (.ex 0, slices_stableCmpFunc_Piece_S_L1_T0 n_ tt)
theorem slices_stableCmpFunc_Piece_S_L1_p0 (n_ : Int) (sa : (List Piece) × Int × Int) (ya2 : (List Piece)) (K : Ex → St → Prop) : oround (cx pc sc lp) cd ⟨ord35, [(2, ⟨[], [], [], [(13, .v (.bool true))], [], [], [], []⟩), (3, ⟨[], [], [], [], [], [(18, (.tup [], [.arr true 3 (ya2.map Piece.enc)]))], [], []⟩)], [], [], []⟩ (polF 35) [(0, ⟨[0, 1, 2, 6, 7, 8], [], 1, [], []⟩, ⟨[], [], []⟩)] c_slices_stableCmpFunc_Piece_S_L1 (slices_stableCmpFunc_Piece_S_L1_S n_ sa) K
  = ((AV.v (.bool (decide (sa.2.2 ≤ n_))) = AV.v (.bool true)) ∧ (sc 37 [.mf 0, .v (.int .i64 sa.2.1), .v (.int .i64 sa.2.2), .fn 29 [] []] [.arr true 3 (sa.1.map Piece.enc)] (fun r' o' => r' = .tup [] ∧ o' = [.arr true 3 (ya2.map Piece.enc)])) ∧ K .nrm (slices_stableCmpFunc_Piece_S_L1_S n_ (ya2, sa.2.2, (addW .i64 sa.2.2 20)))) := by kernel_rfl
theorem slices_stableCmpFunc_Piece_S_L1_p1 (n_ : Int) (sa : (List Piece) × Int × Int) (K : Ex → St → Prop) : oround (cx pc sc lp) cd ⟨ord35, [(2, ⟨[], [], [], [(13, .v (.bool false))], [], [], [], []⟩)], [], [], []⟩ (polF 35) [(2, ⟨[0, 1, 2, 6, 7], [], 1, [], []⟩, ⟨[], [], []⟩)] c_slices_stableCmpFunc_Piece_S_L1 (slices_stableCmpFunc_Piece_S_L1_S n_ sa) K
  = ((AV.v (.bool (decide (sa.2.2 ≤ n_))) = AV.v (.bool false)) ∧ K (.ex 0) (slices_stableCmpFunc_Piece_S_L1_T0 n_ (sa.1, sa.2.1))) := by kernel_rfl
theorem slices_stableCmpFunc_Piece_S_L1_sim (n : Nat) (n_ : Int) : ∀ sa r, slices_stableCmpFunc_Piece_S_L1 n n_ sa = some r → CodeD Try.prog c_slices_stableCmpFunc_Piece_S_L1 (slices_stableCmpFunc_Piece_S_L1_S n_ sa) (rk (slices_stableCmpFunc_Piece_S_L1_S n_) (slices_stableCmpFunc_Piece_S_L1_out n_) r) := by
  intro sa r h
  unfold slices_stableCmpFunc_Piece_S_L1 at h
  rcases bcase (decide (sa.2.2 ≤ n_)) with ha1 | ha1
  · replace h := iteT ha1 h
    obtain ⟨ya2, gya2, h⟩ := bindE h
    have e := Option.some.inj h
    subst e
    exact okR ordB_slices_stableCmpFunc_Piece_S_L1 (Eq.mpr (slices_stableCmpFunc_Piece_S_L1_p0 (PCall Try.prog) (SD Try.prog) (LoopD Try.prog) (CodeD Try.prog) n_ sa ya2 _) ⟨congrArg aBool ha1, slices_insertionSortCmpFunc_Piece_S_sim n sa.2.1 sa.2.2 sa.1 ya2 gya2, ⟨rfl, rfl⟩⟩) rkN
  · replace h := iteF ha1 h
    have e := Option.some.inj h
    subst e
    exact okR ordB_slices_stableCmpFunc_Piece_S_L1 (Eq.mpr (slices_stableCmpFunc_Piece_S_L1_p1 (PCall Try.prog) (SD Try.prog) (LoopD Try.prog) (CodeD Try.prog) n_ sa _) ⟨congrArg aBool ha1, ⟨rfl, rfl⟩⟩) (rkE rfl neE)

theorem ordB_slices_stableCmpFunc_Piece_S_L3 : ordB (polF 35) ord35 c_slices_stableCmpFunc_Piece_S_L3 = true := by kernel_rfl
def slices_stableCmpFunc_Piece_S_L3_S (n_ : Int) (sb : (List Piece) × Int × Int × Int) : St := mkS 63 [(0, .mf 0), (1, .v (.int .i64 n_)), (2, .fn 29 [] []), (6, .v (.int .i64 sb.2.1)), (7, .v (.int .i64 sb.2.2.1)), (8, .v (.int .i64 sb.2.2.2))] [] [.arr true 3 (sb.1.map Piece.enc)] 1
def slices_stableCmpFunc_Piece_S_L3_T0 (n_ : Int) (tt : (List Piece) × Int × Int) : St := mkS 63 [(0, .mf 0), (1, .v (.int .i64 n_)), (2, .fn 29 [] []), (6, .v (.int .i64 tt.2.1)), (7, .v (.int .i64 tt.2.2))] [] [.arr true 3 (tt.1.map Piece.enc)] 1
def slices_stableCmpFunc_Piece_S_L3_out (n_ : Int) (tt : ((List Piece) × Int × Int)) : Ex × St := (.ex 4, slices_stableCmpFunc_Piece_S_L3_T0 n_ tt)
theorem slices_stableCmpFunc_Piece_S_L3_p0 (n_ : Int) (sb : (List Piece) × Int × Int × Int) (yb2 : (List Piece)) (K : Ex → St → Prop) : oround (cx pc sc lp) cd ⟨ord35, [(9, ⟨[], [], [], [(35, .v (.bool true))], [], [], [], []⟩), (10, ⟨[], [], [], [], [], [(43, (.tup [], [.arr true 3 (yb2.map Piece.enc)]))], [], []⟩)], [], [], []⟩ (polF 35) [(0, ⟨[0, 1, 2, 6, 7, 8], [], 1, [], []⟩, ⟨[], [], []⟩)] c_slices_stableCmpFunc_Piece_S_L3 (slices_stableCmpFunc_Piece_S_L3_S n_ sb) K
  = ((AV.v (.bool (decide (sb.2.2.2 ≤ n_))) = AV.v (.bool true)) ∧ (sc 38 [.mf 0, .v (.int .i64 sb.2.2.1), .v (.int .i64 (addW .i64 sb.2.2.1 sb.2.1)), .v (.int .i64 sb.2.2.2), .fn 29 [] []] [.arr true 3 (sb.1.map Piece.enc)] (fun r' o' => r' = .tup [] ∧ o' = [.arr true 3 (yb2.map Piece.enc)])) ∧ K .nrm (slices_stableCmpFunc_Piece_S_L3_S n_ (yb2, sb.2.1, sb.2.2.2, (addW .i64 sb.2.2.2 (mulW .i64 2 sb.2.1))))) := by kernel_rfl
theorem slices_stableCmpFunc_Piece_S_L3_p1 (n_ : Int) (sb : (List Piece) × Int × Int × Int) (K : Ex → St → Prop) : oround (cx pc sc lp) cd ⟨ord35, [(9, ⟨[], [], [], [(35, .v (.bool false))], [], [], [], []⟩)], [], [], []⟩ (polF 35) [(6, ⟨[0, 1, 2, 6, 7], [], 1, [], []⟩, ⟨[], [], []⟩)] c_slices_stableCmpFunc_Piece_S_L3 (slices_stableCmpFunc_Piece_S_L3_S n_ sb) K
  = ((AV.v (.bool (decide (sb.2.2.2 ≤ n_))) = AV.v (.bool false)) ∧ K (.ex 4) (slices_stableCmpFunc_Piece_S_L3_T0 n_ (sb.1, sb.2.1, sb.2.2.1))) := by kernel_rfl
theorem slices_stableCmpFunc_Piece_S_L3_sim (n : Nat) (n_ : Int) : ∀ sb r, slices_stableCmpFunc_Piece_S_L3 n n_ sb = some r → CodeD Try.prog c_slices_stableCmpFunc_Piece_S_L3 (slices_stableCmpFunc_Piece_S_L3_S n_ sb) (rk (slices_stableCmpFunc_Piece_S_L3_S n_) (slices_stableCmpFunc_Piece_S_L3_out n_) r) := by
  intro sb r h
  unfold slices_stableCmpFunc_Piece_S_L3 at h
  rcases bcase (decide (sb.2.2.2 ≤ n_)) with hb1 | hb1
  · replace h := iteT hb1 h
    obtain ⟨yb2, gyb2, h⟩ := bindE h
    have e := Option.some.inj h
    subst e
    exact okR ordB_slices_stableCmpFunc_Piece_S_L3 (Eq.mpr (slices_stableCmpFunc_Piece_S_L3_p0 (PCall Try.prog) (SD Try.prog) (LoopD Try.prog) (CodeD Try.prog) n_ sb yb2 _) ⟨congrArg aBool hb1, slices_symMergeCmpFunc_Piece_S_sim n sb.2.2.1 (addW .i64 sb.2.2.1 sb.2.1) sb.2.2.2 sb.1 yb2 gyb2, ⟨rfl, rfl⟩⟩) rkN
  · replace h := iteF hb1 h
    have e := Option.some.inj h
    subst e
    exact okR ordB_slices_stableCmpFunc_Piece_S_L3 (Eq.mpr (slices_stableCmpFunc_Piece_S_L3_p1 (PCall Try.prog) (SD Try.prog) (LoopD Try.prog) (CodeD Try.prog) n_ sb _) ⟨congrArg aBool hb1, ⟨rfl, rfl⟩⟩) (rkE rfl neE)

theorem ordB_slices_stableCmpFunc_Piece_S_L2 : ordB (polF 35) ord35 c_slices_stableCmpFunc_Piece_S_L2 = true := by kernel_rfl
def slices_stableCmpFunc_Piece_S_L2_S (n_ : Int) (sa : (List Piece) × Int) : St := mkS 63 [(0, .mf 0), (1, .v (.int .i64 n_)), (2, .fn 29 [] []), (6, .v (.int .i64 sa.2))] [] [.arr true 3 (sa.1.map Piece.enc)] 1
def slices_stableCmpFunc_Piece_S_L2_T0 (n_ : Int) (tt : (List Piece)) : St := mkS 63 [] [] [.arr true 3 (tt.map Piece.enc)] 1
def slices_stableCmpFunc_Piece_S_L2_out (n_ : Int) (tt : ((List Piece))) : Ex × St := (.ex 2, slices_stableCmpFunc_Piece_S_L2_T0 n_ tt)
theorem slices_stableCmpFunc_Piece_S_L2_p0 (n_ : Int) (sa : (List Piece) × Int) (ta2 : ((List Piece) × Int × Int)) (ya4 : (List Piece)) (K : Ex → St → Prop) : oround (cx pc sc lp) cd ⟨ord35, [(7, ⟨[], [], [], [(30, .v (.bool true))], [], [], [], []⟩), (14, ⟨[], [], [], [(54, .v (.bool true))], [], [], [], []⟩), (15, ⟨[], [], [], [], [], [(60, (.tup [], [.arr true 3 (ya4.map Piece.enc)]))], [], []⟩)], [], [(9, (⟨[0, 1, 2, 6, 7, 8], [], 1, [], []⟩, ⟨[], [], []⟩, (.ex 4), slices_stableCmpFunc_Piece_S_L3_T0 n_ ta2))], []⟩ (polF 35) [(0, ⟨[0, 1, 2, 6], [], 1, [], []⟩, ⟨[], [], []⟩)] c_slices_stableCmpFunc_Piece_S_L2 (slices_stableCmpFunc_Piece_S_L2_S n_ sa) K
  = ((AV.v (.bool (decide (sa.2 < n_))) = AV.v (.bool true)) ∧ (lp (polF 35) c_slices_stableCmpFunc_Piece_S_L3 (slices_stableCmpFunc_Piece_S_L3_S n_ (sa.1, sa.2, 0, (mulW .i64 2 sa.2))) (fun e' S' => e' = (.ex 4) ∧ S' = slices_stableCmpFunc_Piece_S_L3_T0 n_ ta2)) ∧ (AV.v (.bool (decide ((addW .i64 ta2.2.2 ta2.2.1) < n_))) = AV.v (.bool true)) ∧ (sc 38 [.mf 0, .v (.int .i64 ta2.2.2), .v (.int .i64 (addW .i64 ta2.2.2 ta2.2.1)), .v (.int .i64 n_), .fn 29 [] []] [.arr true 3 (ta2.1.map Piece.enc)] (fun r' o' => r' = .tup [] ∧ o' = [.arr true 3 (ya4.map Piece.enc)])) ∧ K .nrm (slices_stableCmpFunc_Piece_S_L2_S n_ (ya4, (mulW .i64 ta2.2.1 2)))) := by kernel_rfl
theorem slices_stableCmpFunc_Piece_S_L2_p1 (n_ : Int) (sa : (List Piece) × Int) (ta2 : ((List Piece) × Int × Int)) (K : Ex → St → Prop) : oround (cx pc sc lp) cd ⟨ord35, [(7, ⟨[], [], [], [(30, .v (.bool true))], [], [], [], []⟩), (14, ⟨[], [], [], [(54, .v (.bool false))], [], [], [], []⟩)], [], [(9, (⟨[0, 1, 2, 6, 7, 8], [], 1, [], []⟩, ⟨[], [], []⟩, (.ex 4), slices_stableCmpFunc_Piece_S_L3_T0 n_ ta2))], []⟩ (polF 35) [(0, ⟨[0, 1, 2, 6], [], 1, [], []⟩, ⟨[], [], []⟩)] c_slices_stableCmpFunc_Piece_S_L2 (slices_stableCmpFunc_Piece_S_L2_S n_ sa) K
  = ((AV.v (.bool (decide (sa.2 < n_))) = AV.v (.bool true)) ∧ (lp (polF 35) c_slices_stableCmpFunc_Piece_S_L3 (slices_stableCmpFunc_Piece_S_L3_S n_ (sa.1, sa.2, 0, (mulW .i64 2 sa.2))) (fun e' S' => e' = (.ex 4) ∧ S' = slices_stableCmpFunc_Piece_S_L3_T0 n_ ta2)) ∧ (AV.v (.bool (decide ((addW .i64 ta2.2.2 ta2.2.1) < n_))) = AV.v (.bool false)) ∧ K .nrm (slices_stableCmpFunc_Piece_S_L2_S n_ (ta2.1, (mulW .i64 ta2.2.1 2)))) := by kernel_rfl
theorem slices_stableCmpFunc_Piece_S_L2_p2 (n_ : Int) (sa : (List Piece) × Int) (K : Ex → St → Prop) : oround (cx pc sc lp) cd ⟨ord35, [(7, ⟨[], [], [], [(30, .v (.bool false))], [], [], [], []⟩)], [], [], []⟩ (polF 35) [(4, ⟨[], [], 1, [], []⟩, ⟨[], [], []⟩)] c_slices_stableCmpFunc_Piece_S_L2 (slices_stableCmpFunc_Piece_S_L2_S n_ sa) K
  = ((AV.v (.bool (decide (sa.2 < n_))) = AV.v (.bool false)) ∧ K (.ex 2) (slices_stableCmpFunc_Piece_S_L2_T0 n_ sa.1)) := by kernel_rfl
theorem slices_stableCmpFunc_Piece_S_L2_sim (n : Nat) (n_ : Int) : ∀ sa r, slices_stableCmpFunc_Piece_S_L2 n n_ sa = some r → CodeD Try.prog c_slices_stableCmpFunc_Piece_S_L2 (slices_stableCmpFunc_Piece_S_L2_S n_ sa) (rk (slices_stableCmpFunc_Piece_S_L2_S n_) (slices_stableCmpFunc_Piece_S_L2_out n_) r) := by
  intro sa r h
  unfold slices_stableCmpFunc_Piece_S_L2 at h
  rcases bcase (decide (sa.2 < n_)) with ha1 | ha1
  · replace h := iteT ha1 h
    obtain ⟨ta2, gta2, h⟩ := bindE h
    rcases bcase (decide ((addW .i64 ta2.2.2 ta2.2.1) < n_)) with ha3 | ha3
    · replace h := iteT ha3 h
      obtain ⟨ya4, gya4, h⟩ := bindE h
      have e := Option.some.inj h
      subst e
      exact okR ordB_slices_stableCmpFunc_Piece_S_L2 (Eq.mpr (slices_stableCmpFunc_Piece_S_L2_p0 (PCall Try.prog) (SD Try.prog) (LoopD Try.prog) (CodeD Try.prog) n_ sa ta2 ya4 _) ⟨congrArg aBool ha1, okL (slices_stableCmpFunc_Piece_S_L3_S n_) (slices_stableCmpFunc_Piece_S_L3_out n_) (slices_stableCmpFunc_Piece_S_L3_sim n n_) n _ ta2 gta2, congrArg aBool ha3, slices_symMergeCmpFunc_Piece_S_sim n ta2.2.2 (addW .i64 ta2.2.2 ta2.2.1) n_ ta2.1 ya4 gya4, ⟨rfl, rfl⟩⟩) rkN
    · replace h := iteF ha3 h
      have e := Option.some.inj h
      subst e
      exact okR ordB_slices_stableCmpFunc_Piece_S_L2 (Eq.mpr (slices_stableCmpFunc_Piece_S_L2_p1 (PCall Try.prog) (SD Try.prog) (LoopD Try.prog) (CodeD Try.prog) n_ sa ta2 _) ⟨congrArg aBool ha1, okL (slices_stableCmpFunc_Piece_S_L3_S n_) (slices_stableCmpFunc_Piece_S_L3_out n_) (slices_stableCmpFunc_Piece_S_L3_sim n n_) n _ ta2 gta2, congrArg aBool ha3, ⟨rfl, rfl⟩⟩) rkN
  · replace h := iteF ha1 h
    have e := Option.some.inj h
    subst e
    exact okR ordB_slices_stableCmpFunc_Piece_S_L2 (Eq.mpr (slices_stableCmpFunc_Piece_S_L2_p2 (PCall Try.prog) (SD Try.prog) (LoopD Try.prog) (CodeD Try.prog) n_ sa _) ⟨congrArg aBool ha1, ⟨rfl, rfl⟩⟩) (rkE rfl neE)

def slices_stableCmpFunc_Piece_S_R (n_ : Int) (ob : (List Piece)) (y : (List Piece)) : AV × List Ob := (.tup [], [.arr true 3 (y.map Piece.enc)])
theorem slices_stableCmpFunc_Piece_S_p0 (n_ : Int) (ob : (List Piece)) (t1 : ((List Piece) × Int)) (y2 : (List Piece)) (t3 : ((List Piece))) (K : AV → List Ob → Prop) : ostore (cx pc sc lp) cd ⟨ord35, [(6, ⟨[], [], [], [], [], [(27, (.tup [], [.arr true 3 (y2.map Piece.enc)]))], [], []⟩)], [], [(2, (⟨[0, 1, 2, 6, 7, 8], [], 1, [], []⟩, ⟨[], [], []⟩, (.ex 0), slices_stableCmpFunc_Piece_S_L1_T0 n_ t1)), (7, (⟨[0, 1, 2, 6], [], 1, [], []⟩, ⟨[], [], []⟩, (.ex 2), slices_stableCmpFunc_Piece_S_L2_T0 n_ t3))], []⟩ 35 [.mf 0, .v (.int .i64 n_), .fn 29 [] []] [.arr true 3 (ob.map Piece.enc)] K
  = ((lp (polF 35) c_slices_stableCmpFunc_Piece_S_L1 (slices_stableCmpFunc_Piece_S_L1_S n_ (ob, 0, 20)) (fun e' S' => e' = (.ex 0) ∧ S' = slices_stableCmpFunc_Piece_S_L1_T0 n_ t1)) ∧ (sc 37 [.mf 0, .v (.int .i64 t1.2), .v (.int .i64 n_), .fn 29 [] []] [.arr true 3 (t1.1.map Piece.enc)] (fun r' o' => r' = .tup [] ∧ o' = [.arr true 3 (y2.map Piece.enc)])) ∧ (lp (polF 35) c_slices_stableCmpFunc_Piece_S_L2 (slices_stableCmpFunc_Piece_S_L2_S n_ (y2, 20)) (fun e' S' => e' = (.ex 2) ∧ S' = slices_stableCmpFunc_Piece_S_L2_T0 n_ t3)) ∧ K (.tup []) [.arr true 3 (t3.map Piece.enc)]) := by kernel_rfl
theorem slices_stableCmpFunc_Piece_S_sim (n : Nat) (n_ : Int) (ob : (List Piece)) (y : (List Piece)) (h : slices_stableCmpFunc_Piece_S n n_ ob = some y) : SD Try.prog 35 [.mf 0, .v (.int .i64 n_), .fn 29 [] []] [.arr true 3 (ob.map Piece.enc)] (fun r' o' => r' = (slices_stableCmpFunc_Piece_S_R n_ ob y).1 ∧ o' = (slices_stableCmpFunc_Piece_S_R n_ ob y).2) := by
  unfold slices_stableCmpFunc_Piece_S at h
  obtain ⟨t1, gt1, h⟩ := bindE h
  obtain ⟨y2, gy2, h⟩ := bindE h
  obtain ⟨t3, gt3, h⟩ := bindE h
  have e := Option.some.inj h
  subst e
  exact okS ordB35 (Eq.mpr (slices_stableCmpFunc_Piece_S_p0 (PCall Try.prog) (SD Try.prog) (LoopD Try.prog) (CodeD Try.prog) n_ ob t1 y2 t3 _) (⟨okL (slices_stableCmpFunc_Piece_S_L1_S n_) (slices_stableCmpFunc_Piece_S_L1_out n_) (slices_stableCmpFunc_Piece_S_L1_sim n n_) n _ t1 gt1, slices_insertionSortCmpFunc_Piece_S_sim n t1.2 n_ t1.1 y2 gy2, okL (slices_stableCmpFunc_Piece_S_L2_S n_) (slices_stableCmpFunc_Piece_S_L2_out n_) (slices_stableCmpFunc_Piece_S_L2_sim n n_) n _ t3 gt3, ⟨rfl, rfl⟩⟩)) ⟨rfl, rfl⟩

def ord28 : List (Nat × List Nat) := []
theorem ordB28 : ordB (polF 28) ord28 (bodyOf Try.prog 28) = true := by kernel_rfl
def slices_SortStableFunc_api_Piece_api_Piece_S_R (ob : (List Piece)) (y : (List Piece)) : AV × List Ob := (.tup [], [.arr true 3 (y.map Piece.enc)])
theorem slices_SortStableFunc_api_Piece_api_Piece_S_p0 (ob : (List Piece)) (y1 : (List Piece)) (K : AV → List Ob → Prop) : ostore (cx pc sc lp) cd ⟨ord28, [(0, ⟨[], [], [], [(6, .v (.int .i64 (ob.length : Int)))], [], [(8, (.tup [], [.arr true 3 (y1.map Piece.enc)]))], [], []⟩)], [], [], []⟩ 28 [.mf 0, .fn 29 [] []] [.arr true 3 (ob.map Piece.enc)] K
  = ((AV.v (.int .i64 (((ob.map Piece.enc).length : Nat) : Int)) = AV.v (.int .i64 (ob.length : Int))) ∧ (sc 35 [.mf 0, .v (.int .i64 (ob.length : Int)), .fn 29 [] []] [.arr true 3 (ob.map Piece.enc)] (fun r' o' => r' = .tup [] ∧ o' = [.arr true 3 (y1.map Piece.enc)])) ∧ K (.tup []) [.arr true 3 (y1.map Piece.enc)]) := by kernel_rfl
theorem slices_SortStableFunc_api_Piece_api_Piece_S_sim (n : Nat) (ob : (List Piece)) (y : (List Piece)) (h : slices_SortStableFunc_api_Piece_api_Piece_S n ob = some y) : SD Try.prog 28 [.mf 0, .fn 29 [] []] [.arr true 3 (ob.map Piece.enc)] (fun r' o' => r' = (slices_SortStableFunc_api_Piece_api_Piece_S_R ob y).1 ∧ o' = (slices_SortStableFunc_api_Piece_api_Piece_S_R ob y).2) := by
  unfold slices_SortStableFunc_api_Piece_api_Piece_S at h
  obtain ⟨y1, gy1, h⟩ := bindE h
  have e := Option.some.inj h
  subst e
  exact okS ordB28 (Eq.mpr (slices_SortStableFunc_api_Piece_api_Piece_S_p0 (PCall Try.prog) (SD Try.prog) (LoopD Try.prog) (CodeD Try.prog) ob y1 _) (⟨len_map _ _, slices_stableCmpFunc_Piece_S_sim n (ob.length : Int) ob y1 gy1, ⟨rfl, rfl⟩⟩)) ⟨rfl, rfl⟩

def ord26 : List (Nat × List Nat) := []
theorem ordB26 : ordB (polF 26) ord26 (bodyOf Try.prog 26) = true := by kernel_rfl
theorem data_piece_bytes_p0 (p : data_piece) (K : AV → Prop) : opure (cx pc sc lp) cd ⟨ord26, [], [], [], []⟩ 26 [.agg [.v (.string p.Piece.Name), .v (.int .i64 p.Piece.Size), .v (.int .i64 p.Piece.Hart)]] K
  = (K (.v (.int .u64 (mulW .u64 8 (IntKind.wrap .u64 p.Piece.Size))))) := by kernel_rfl
theorem data_piece_bytes_sim (n : Nat) (p : data_piece) (r : Int) (h : data_piece_bytes n p = some r) : PCall Try.prog 26 [.agg [.v (.string p.Piece.Name), .v (.int .i64 p.Piece.Size), .v (.int .i64 p.Piece.Hart)]] (fun x => x = .v (.int .u64 r)) := by
  unfold data_piece_bytes at h
  have e := Option.some.inj h
  subst e
  exact okP ordB26 (Eq.mpr (data_piece_bytes_p0 (PCall Try.prog) (SD Try.prog) (LoopD Try.prog) (CodeD Try.prog) p _) (LeA.refl _))

def ord14 : List (Nat × List Nat) := []
theorem ordB14 : ordB (polF 14) ord14 (bodyOf Try.prog 14) = true := by kernel_rfl
noncomputable def c_data_Lay2_L1 : Code := sub (bodyOf Try.prog 14) [1, 1, 1, 1, 1, 1, 0, 1, 0, 0]
theorem ordB_data_Lay2_L1 : ordB (polF 14) ord14 c_data_Lay2_L1 = true := by kernel_rfl
def data_Lay2_L1_S (y4 : (List Piece)) (sa : (List Seat) × Int × Int) : St := mkS 38 [(6, .mf 1), (7, .v (.int .u64 sa.2.2)), (19, .mf 0), (20, .v (.int .i64 (y4.length : Int))), (21, .v (.int .i64 sa.2.1))] [] [.arr true 3 (y4.map Piece.enc), .arr true 4 (sa.1.map Seat.enc)] 0
def data_Lay2_L1_T0 (y4 : (List Piece)) (tt : (List Seat)) : St := mkS 38 [(6, .mf 1)] [] [.arr true 3 (y4.map Piece.enc), .arr true 4 (tt.map Seat.enc)] 0
def data_Lay2_L1_out (y4 : (List Piece)) (tt : ((List Seat))) : Ex × St := (.ex 0, data_Lay2_L1_T0 y4 tt)
theorem data_Lay2_L1_p0 (y4 : (List Piece)) (sa : (List Seat) × Int × Int) (xa2 : Piece) (ya4 : Int) (K : Ex → St → Prop) : oround (cx pc sc lp) cd ⟨ord14, [(9, ⟨[], [], [], [(22, .v (.bool true))], [], [], [], []⟩), (10, ⟨[], [], [(23, [.v (.string xa2.Name), .v (.int .i64 xa2.Size), .v (.int .i64 xa2.Hart)]), (24, [.v (.string xa2.Name), .v (.int .i64 xa2.Size), .v (.int .i64 xa2.Hart)])], [], [], [], [], []⟩), (11, ⟨[], [30], [], [], [], [], [(30, (1, (sa.1 ++ ([(Seat.mk xa2 sa.2.2)] : List Seat)).map Seat.enc))], []⟩), (12, ⟨[], [], [], [], [(34, .v (.int .u64 ya4))], [], [], []⟩)], [], [], []⟩ (polF 14) [(0, ⟨[6, 7, 19, 20, 21], [9], 2, [], []⟩, ⟨[], [], []⟩)] c_data_Lay2_L1 (data_Lay2_L1_S y4 sa) K
  = ((AV.v (.bool (decide (sa.2.1 < (y4.length : Int)))) = AV.v (.bool true)) ∧ (at? (y4.map Piece.enc) sa.2.1 = some [.v (.string xa2.Name), .v (.int .i64 xa2.Size), .v (.int .i64 xa2.Hart)]) ∧ ((y4.map Piece.enc)[(sa.2.1).toNat]? = some [.v (.string xa2.Name), .v (.int .i64 xa2.Size), .v (.int .i64 xa2.Hart)]) ∧ (szOk 4 [[.v (.string xa2.Name), .v (.int .i64 xa2.Size), .v (.int .i64 xa2.Hart), .v (.int .u64 sa.2.2)]] = true) ∧ (okRows [[.v (.string xa2.Name), .v (.int .i64 xa2.Size), .v (.int .i64 xa2.Hart), .v (.int .u64 sa.2.2)]] = true) ∧ (Nat.ble (((sa.1.map Seat.enc).length + 1) * 40) 140737488355328 = true) ∧ ((sa.1.map Seat.enc) ++ [[.v (.string xa2.Name), .v (.int .i64 xa2.Size), .v (.int .i64 xa2.Hart), .v (.int .u64 sa.2.2)]] = (sa.1 ++ ([(Seat.mk xa2 sa.2.2)] : List Seat)).map Seat.enc) ∧ (pc 26 [.agg [.v (.string xa2.Name), .v (.int .i64 xa2.Size), .v (.int .i64 xa2.Hart)]] (fun x => x = .v (.int .u64 ya4))) ∧ K .nrm (data_Lay2_L1_S y4 ((sa.1 ++ ([(Seat.mk xa2 sa.2.2)] : List Seat)), (addW .i64 sa.2.1 1), (addW .u64 sa.2.2 ya4)))) := by kernel_rfl
theorem data_Lay2_L1_p1 (y4 : (List Piece)) (sa : (List Seat) × Int × Int) (K : Ex → St → Prop) : oround (cx pc sc lp) cd ⟨ord14, [(9, ⟨[], [], [], [(22, .v (.bool false))], [], [], [], []⟩)], [], [], []⟩ (polF 14) [(2, ⟨[6], [], 2, [], []⟩, ⟨[], [], []⟩)] c_data_Lay2_L1 (data_Lay2_L1_S y4 sa) K
  = ((AV.v (.bool (decide (sa.2.1 < (y4.length : Int)))) = AV.v (.bool false)) ∧ K (.ex 0) (data_Lay2_L1_T0 y4 sa.1)) := by kernel_rfl
theorem data_Lay2_L1_sim (n : Nat) (y4 : (List Piece)) : ∀ sa r, data_Lay2_L1 n y4 sa = some r → CodeD Try.prog c_data_Lay2_L1 (data_Lay2_L1_S y4 sa) (rk (data_Lay2_L1_S y4) (data_Lay2_L1_out y4) r) := by
  intro sa r h
  unfold data_Lay2_L1 at h
  rcases bcase (decide (sa.2.1 < (y4.length : Int))) with ha1 | ha1
  · replace h := iteT ha1 h
    obtain ⟨xa2, gxa2, h⟩ := bindE h
    obtain ⟨ha3, h⟩ := grdE h
    obtain ⟨ya4, gya4, h⟩ := bindE h
    have e := Option.some.inj h
    subst e
    exact okR ordB_data_Lay2_L1 (Eq.mpr (data_Lay2_L1_p0 (PCall Try.prog) (SD Try.prog) (LoopD Try.prog) (CodeD Try.prog) y4 sa xa2 ya4 _) ⟨congrArg aBool ha1, at_map Piece.enc gxa2, at_map' Piece.enc gxa2, rfl, rfl, ble_maps1 ha3, app_map Seat.enc sa.1 ([(Seat.mk xa2 sa.2.2)] : List Seat), (data_piece_bytes_sim n (data_piece.mk xa2) ya4 gya4), ⟨rfl, rfl⟩⟩) rkN
  · replace h := iteF ha1 h
    have e := Option.some.inj h
    subst e
    exact okR ordB_data_Lay2_L1 (Eq.mpr (data_Lay2_L1_p1 (PCall Try.prog) (SD Try.prog) (LoopD Try.prog) (CodeD Try.prog) y4 sa _) ⟨congrArg aBool ha1, ⟨rfl, rfl⟩⟩) (rkE rfl neE)

theorem data_Lay2_p0 (l : Piece) (l_ : (List Piece)) (y1 : Int) (K : AV → Prop) : opure (cx pc sc lp) cd ⟨ord14, [(1, ⟨[], [], [], [], [(11, .v (.int .i64 y1))], [], [], []⟩), (2, ⟨[], [], [], [(13, .v (.bool true))], [], [], [], []⟩)], [], [], []⟩ 14 [.sl ((l :: l_).map Piece.enc)] K
  = ((pc 9 [.sl ((l :: l_).map Piece.enc)] (fun x => x = .v (.int .i64 y1))) ∧ (AV.v (.bool (y1 != 0)) = AV.v (.bool true)) ∧ K (.tup [.nilsl, .v (.int .i64 y1)])) := by kernel_rfl
theorem data_Lay2_p1 (l : Piece) (l_ : (List Piece)) (y1 : Int) (y3 : (List Piece)) (y4 : (List Piece)) (t5 : ((List Seat))) (K : AV → Prop) : opure (cx pc sc lp) cd ⟨ord14, [(1, ⟨[], [], [], [], [(11, .v (.int .i64 y1))], [], [], []⟩), (2, ⟨[], [], [], [(13, .v (.bool false))], [], [], [], []⟩), (4, ⟨[], [], [], [], [], [(16, (.mf 0, [.arr true 3 (y3.map Piece.enc)]))], [], []⟩), (5, ⟨[], [], [], [], [], [(18, (.tup [], [.arr true 3 (y4.map Piece.enc)]))], [], []⟩), (8, ⟨[], [], [], [(20, .v (.int .i64 (y4.length : Int)))], [], [], [], []⟩)], [], [(9, (⟨[6, 7, 19, 20, 21], [], 1, [(6, 4)], []⟩, ⟨[], [], []⟩, (.ex 0), data_Lay2_L1_T0 y4 t5))], []⟩ 14 [.sl ((l :: l_).map Piece.enc)] K
  = ((pc 9 [.sl ((l :: l_).map Piece.enc)] (fun x => x = .v (.int .i64 y1))) ∧ (AV.v (.bool (y1 != 0)) = AV.v (.bool false)) ∧ (sc 27 [.sl ((l :: l_).map Piece.enc)] [] (fun r' o' => r' = .mf 0 ∧ o' = [.arr true 3 (y3.map Piece.enc)])) ∧ (sc 28 [.mf 0, .fn 29 [] []] [.arr true 3 (y3.map Piece.enc)] (fun r' o' => r' = .tup [] ∧ o' = [.arr true 3 (y4.map Piece.enc)])) ∧ (AV.v (.int .i64 (((y4.map Piece.enc).length : Nat) : Int)) = AV.v (.int .i64 (y4.length : Int))) ∧ (lp (polF 14) c_data_Lay2_L1 (data_Lay2_L1_S y4 (([] : List Seat), 0, 1048576)) (fun e' S' => e' = (.ex 0) ∧ S' = data_Lay2_L1_T0 y4 t5)) ∧ K (.tup [.sl (t5.map Seat.enc), .v (.int .i64 0)])) := by kernel_rfl
theorem data_Lay2_sim (n : Nat) (l : Piece) (l_ : (List Piece)) (r : (List Seat) × Int) (h : data_Lay2 n l l_ = some r) : PCall Try.prog 14 [.sl ((l :: l_).map Piece.enc)] (fun x => x = .tup [.sl (r.1.map Seat.enc), .v (.int .i64 r.2)]) := by
  unfold data_Lay2 at h
  obtain ⟨y1, gy1, h⟩ := bindE h
  rcases bcase (y1 != 0) with h2 | h2
  · replace h := iteT h2 h
    have e := Option.some.inj h
    subst e
    exact okP ordB14 (Eq.mpr (data_Lay2_p0 (PCall Try.prog) (SD Try.prog) (LoopD Try.prog) (CodeD Try.prog) l l_ y1 _) (⟨(data_Check_sim n (l :: l_) y1 gy1), congrArg aBool h2, (LeA.tup (LeR.cons LeA.nil (LeR.cons (LeA.refl _) LeR.nil)))⟩))
  · replace h := iteF h2 h
    obtain ⟨y3, gy3, h⟩ := bindE h
    obtain ⟨y4, gy4, h⟩ := bindE h
    obtain ⟨t5, gt5, h⟩ := bindE h
    have e := Option.some.inj h
    subst e
    exact okP ordB14 (Eq.mpr (data_Lay2_p1 (PCall Try.prog) (SD Try.prog) (LoopD Try.prog) (CodeD Try.prog) l l_ y1 y3 y4 t5 _) (⟨(data_Check_sim n (l :: l_) y1 gy1), congrArg aBool h2, slices_Clone_api_Piece_api_Piece_S_sim n l l_ y3 gy3, slices_SortStableFunc_api_Piece_api_Piece_S_sim n y3 y4 gy4, len_map _ _, okL (data_Lay2_L1_S y4) (data_Lay2_L1_out y4) (data_Lay2_L1_sim n y4) n _ t5 gt5, LeA.refl _⟩))

def polE (f : Nat) : Pol := { polF f with st := [] }
noncomputable def cfgE : Cfg := { P := Try.prog, pure := fun _ => true, pol := polE }
noncomputable def cxE (pc : Nat → List AV → (AV → Prop) → Prop) (sc : Nat → List AV → List Ob → (AV → List Ob → Prop) → Prop) (lp : Pol → Code → St → (Ex → St → Prop) → Prop) : Ctx := { P := Try.prog, pure := fun _ => true, pol := polE, pcall := pc, scall := sc, loop := lp }
theorem mixedE : cfgE.P.follows .mixedOrders = true := mixed
theorem okPE {A : Ans} {f : Nat} {args : List AV} {r : AV} (hB : ordB (polE f) A.ord (bodyOf Try.prog f) = true) (h : opure (cxE (PCall Try.prog) (SD Try.prog) (LoopD Try.prog)) (CodeD Try.prog) A f args (fun x => LeA x r)) : PCall Try.prog f args (fun x => x = r) := PCall.ofO (cfg := cfgE) names mixedE hB h
theorem okRE {pl : Pol} {c : Code} {S S1 : St} {e : Ex} {K : Ex → St → Prop} {A : Ans} {we : List (Nat × (Wk × Le))} (hB : ordB pl A.ord c = true) (h : oround (cxE (PCall Try.prog) (SD Try.prog) (LoopD Try.prog)) (CodeD Try.prog) A pl we c S (fun e2 S2 => e2 = e ∧ S2 = S1)) (hk : K e S1) : CodeD Try.prog c S K := CodeD.of (cfg := cfgE) mixedE hB h hk
theorem okLE {pl : Pol} {c : Code} {σ τ : Type} {step : σ → Option (σ ⊕ τ)} (Sf : σ → St) (out : τ → Ex × St) (hs : ∀ s r, step s = some r → CodeD Try.prog c (Sf s) (rk Sf out r)) (n : Nat) (s : σ) (t : τ) (h : A.iter step n s = some t) : LoopD Try.prog pl c (Sf s) fun e S2 => e = (out t).1 ∧ S2 = (out t).2 := LoopD.iter (cfg := cfgE) Sf out hs n s t h
theorem run9 : A.Gives cfgE 500 9 [.sl []] (.v (.int .i64 0)) = (AV.v (.int .i64 0) = AV.v (.int .i64 0)) := by kernel_rfl
theorem e9 : PCall Try.prog 9 [.sl []] (fun x => x = .v (.int .i64 0)) := PCall.ofN (cfg := cfgE) (n := 500) names mixedE (by rw [run9])
theorem run28 : A.Gives cfgE 500 28 [.sl [], .fn 29 [] []] (.tup []) = (AV.tup [] = AV.tup []) := by kernel_rfl
theorem e28 : PCall Try.prog 28 [.sl [], .fn 29 [] []] (fun x => x = .tup []) := PCall.ofN (cfg := cfgE) (n := 500) names mixedE (by rw [run28])
theorem ordB27E : ordB (polE 27) [] (bodyOf Try.prog 27) = true := by kernel_rfl
theorem clone_p (K : AV → Prop) : opure (cxE pc sc lp) cd ⟨[], [(1, ⟨[4], [], [], [], [], [], [], []⟩), (3, ⟨[], [7], [], [], [], [], [], []⟩)], [], [], []⟩ 27 [.sl []] K
  = ((([] : List (List AV)) = [] → K .nilsl) ∧ (szOk 3 [] = true) ∧ (okRows [] = true) ∧ (Nat.ble (([] : List (List AV)).length * 32) 140737488355328 = true) ∧ K (.sl [])) := by kernel_rfl
theorem e27 : PCall Try.prog 27 [.sl []] (fun x => x = .sl []) := okPE ordB27E (Eq.mpr (clone_p (PCall Try.prog) (SD Try.prog) (LoopD Try.prog) (CodeD Try.prog) _) ⟨fun _ => LeA.nil, rfl, rfl, rfl, LeA.refl _⟩)
def ord14E : List (Nat × List Nat) := []
theorem ordB14E : ordB (polE 14) ord14E (bodyOf Try.prog 14) = true := by kernel_rfl
noncomputable def c_data_Lay3_L1 : Code := sub (bodyOf Try.prog 14) [1, 1, 1, 1, 1, 1, 0, 1, 0, 0]
theorem ordB_data_Lay3_L1 : ordB (polE 14) ord14E c_data_Lay3_L1 = true := by kernel_rfl
def data_Lay3_L1_S (sa : Unit) : St := mkS 38 [(6, .nilsl), (7, .v (.int .u64 1048576)), (19, .sl []), (20, .v (.int .i64 0)), (21, .v (.int .i64 0))] [] [] 0
def data_Lay3_L1_T0 (tt : Unit) : St := mkS 38 [(6, .nilsl)] [] [] 0
def data_Lay3_L1_out (tt : Unit) : Ex × St := (.ex 0, data_Lay3_L1_T0 tt)
theorem data_Lay3_L1_p0 (sa : Unit) (K : Ex → St → Prop) : oround (cxE pc sc lp) cd ⟨ord14E, [], [], [], []⟩ (polE 14) [(2, ⟨[6], [], 0, [], []⟩, ⟨[], [], []⟩)] c_data_Lay3_L1 (data_Lay3_L1_S sa) K
  = (K (.ex 0) (data_Lay3_L1_T0 ())) := by kernel_rfl
theorem data_Lay3_L1_sim (n : Nat) : ∀ sa r, data_Lay3_L1 n sa = some r → CodeD Try.prog c_data_Lay3_L1 (data_Lay3_L1_S sa) (rk (data_Lay3_L1_S) (data_Lay3_L1_out) r) := by
  intro sa r h
  unfold data_Lay3_L1 at h
  have e := Option.some.inj h
  subst e
  exact okRE ordB_data_Lay3_L1 (Eq.mpr (data_Lay3_L1_p0 (PCall Try.prog) (SD Try.prog) (LoopD Try.prog) (CodeD Try.prog) sa _) ⟨rfl, rfl⟩) (rkE rfl neE)

theorem data_Lay3_p0 (t1 : Unit) (K : AV → Prop) : opure (cxE pc sc lp) cd ⟨ord14E, [(1, ⟨[], [], [], [], [(11, .v (.int .i64 0))], [], [], []⟩), (4, ⟨[], [], [], [], [(16, .sl [])], [], [], []⟩), (5, ⟨[], [], [], [], [(18, .tup [])], [], [], []⟩)], [], [(9, (⟨[6, 7, 19, 20, 21], [], 0, [], []⟩, ⟨[], [], []⟩, (.ex 0), data_Lay3_L1_T0 t1))], []⟩ 14 [.sl []] K
  = ((pc 9 [.sl []] (fun x => x = .v (.int .i64 0))) ∧ (pc 27 [.sl []] (fun x => x = .sl [])) ∧ (pc 28 [.sl [], .fn 29 [] []] (fun x => x = .tup [])) ∧ (lp (polE 14) c_data_Lay3_L1 (data_Lay3_L1_S ()) (fun e' S' => e' = (.ex 0) ∧ S' = data_Lay3_L1_T0 t1)) ∧ K (.tup [.nilsl, .v (.int .i64 0)])) := by kernel_rfl
theorem data_Lay3_sim (n : Nat) (r : (List Seat) × Int) (h : data_Lay3 n = some r) : PCall Try.prog 14 [.sl []] (fun x => x = .tup [.sl (r.1.map Seat.enc), .v (.int .i64 r.2)]) := by
  unfold data_Lay3 at h
  obtain ⟨t1, gt1, h⟩ := bindE h
  have e := Option.some.inj h
  subst e
  exact okPE ordB14E (Eq.mpr (data_Lay3_p0 (PCall Try.prog) (SD Try.prog) (LoopD Try.prog) (CodeD Try.prog) t1 _) (⟨e9, e27, e28, okLE (data_Lay3_L1_S) (data_Lay3_L1_out) (data_Lay3_L1_sim n) n _ t1 gt1, (LeA.tup (LeR.cons LeA.nil (LeR.cons (LeA.refl _) LeR.nil)))⟩))

theorem data_Lay_sim (n : Nat) (l : List Piece) (r : List Seat × Int) (h : data_Lay n l = some r) : PCall Try.prog 14 [.sl (l.map Piece.enc)] (fun x => x = .tup [.sl (r.1.map Seat.enc), .v (.int .i64 r.2)]) := by
  cases l with
  | nil => exact data_Lay3_sim n r h
  | cons x xs => exact data_Lay2_sim n x xs r h
def ord34 : List (Nat × List Nat) := []
theorem ordB34 : ordB (polF 34) ord34 (bodyOf Try.prog 34) = true := by kernel_rfl
theorem ref_may_p0 (p : Piece) (K : AV → Prop) : opure (cx pc sc lp) cd ⟨ord34, [(1, ⟨[], [], [], [(7, .v (.bool true)), (13, .v (.bool true)), (18, .v (.bool true)), (23, .v (.bool true)), (28, .v (.bool true))], [], [], [], []⟩)], [], [], []⟩ 34 [.agg [.v (.string p.Name), .v (.int .i64 p.Size), .v (.int .i64 p.Hart)]] K
  = ((AV.v (.bool (decide ((p.Name.size : Int) ≥ 1))) = AV.v (.bool true)) ∧ (AV.v (.bool (decide ((p.Name.size : Int) ≤ 32))) = AV.v (.bool true)) ∧ (AV.v (.bool (decide (p.Size ≥ 1))) = AV.v (.bool true)) ∧ (AV.v (.bool (decide (p.Size ≤ 65536))) = AV.v (.bool true)) ∧ (AV.v (.bool (decide (p.Hart ≥ (-1)))) = AV.v (.bool true)) ∧ K (.v (.bool (decide (p.Hart < 8))))) := by kernel_rfl
theorem ref_may_p1 (p : Piece) (K : AV → Prop) : opure (cx pc sc lp) cd ⟨ord34, [(1, ⟨[], [], [], [(7, .v (.bool true)), (13, .v (.bool true)), (18, .v (.bool true)), (23, .v (.bool true)), (28, .v (.bool false))], [], [], [], []⟩)], [], [], []⟩ 34 [.agg [.v (.string p.Name), .v (.int .i64 p.Size), .v (.int .i64 p.Hart)]] K
  = ((AV.v (.bool (decide ((p.Name.size : Int) ≥ 1))) = AV.v (.bool true)) ∧ (AV.v (.bool (decide ((p.Name.size : Int) ≤ 32))) = AV.v (.bool true)) ∧ (AV.v (.bool (decide (p.Size ≥ 1))) = AV.v (.bool true)) ∧ (AV.v (.bool (decide (p.Size ≤ 65536))) = AV.v (.bool true)) ∧ (AV.v (.bool (decide (p.Hart ≥ (-1)))) = AV.v (.bool false)) ∧ K (.v (.bool false))) := by kernel_rfl
theorem ref_may_p2 (p : Piece) (K : AV → Prop) : opure (cx pc sc lp) cd ⟨ord34, [(1, ⟨[], [], [], [(7, .v (.bool true)), (13, .v (.bool true)), (18, .v (.bool true)), (23, .v (.bool false))], [], [], [], []⟩)], [], [], []⟩ 34 [.agg [.v (.string p.Name), .v (.int .i64 p.Size), .v (.int .i64 p.Hart)]] K
  = ((AV.v (.bool (decide ((p.Name.size : Int) ≥ 1))) = AV.v (.bool true)) ∧ (AV.v (.bool (decide ((p.Name.size : Int) ≤ 32))) = AV.v (.bool true)) ∧ (AV.v (.bool (decide (p.Size ≥ 1))) = AV.v (.bool true)) ∧ (AV.v (.bool (decide (p.Size ≤ 65536))) = AV.v (.bool false)) ∧ K (.v (.bool false))) := by kernel_rfl
theorem ref_may_p3 (p : Piece) (K : AV → Prop) : opure (cx pc sc lp) cd ⟨ord34, [(1, ⟨[], [], [], [(7, .v (.bool true)), (13, .v (.bool true)), (18, .v (.bool false))], [], [], [], []⟩)], [], [], []⟩ 34 [.agg [.v (.string p.Name), .v (.int .i64 p.Size), .v (.int .i64 p.Hart)]] K
  = ((AV.v (.bool (decide ((p.Name.size : Int) ≥ 1))) = AV.v (.bool true)) ∧ (AV.v (.bool (decide ((p.Name.size : Int) ≤ 32))) = AV.v (.bool true)) ∧ (AV.v (.bool (decide (p.Size ≥ 1))) = AV.v (.bool false)) ∧ K (.v (.bool false))) := by kernel_rfl
theorem ref_may_p4 (p : Piece) (K : AV → Prop) : opure (cx pc sc lp) cd ⟨ord34, [(1, ⟨[], [], [], [(7, .v (.bool true)), (13, .v (.bool false))], [], [], [], []⟩)], [], [], []⟩ 34 [.agg [.v (.string p.Name), .v (.int .i64 p.Size), .v (.int .i64 p.Hart)]] K
  = ((AV.v (.bool (decide ((p.Name.size : Int) ≥ 1))) = AV.v (.bool true)) ∧ (AV.v (.bool (decide ((p.Name.size : Int) ≤ 32))) = AV.v (.bool false)) ∧ K (.v (.bool false))) := by kernel_rfl
theorem ref_may_p5 (p : Piece) (K : AV → Prop) : opure (cx pc sc lp) cd ⟨ord34, [(1, ⟨[], [], [], [(7, .v (.bool false))], [], [], [], []⟩)], [], [], []⟩ 34 [.agg [.v (.string p.Name), .v (.int .i64 p.Size), .v (.int .i64 p.Hart)]] K
  = ((AV.v (.bool (decide ((p.Name.size : Int) ≥ 1))) = AV.v (.bool false)) ∧ K (.v (.bool false))) := by kernel_rfl
theorem ref_may_sim (n : Nat) (p : Piece) (r : Bool) (h : ref_may n p = some r) : PCall Try.prog 34 [.agg [.v (.string p.Name), .v (.int .i64 p.Size), .v (.int .i64 p.Hart)]] (fun x => x = .v (.bool r)) := by
  unfold ref_may at h
  rcases bcase (decide ((p.Name.size : Int) ≥ 1)) with h1 | h1
  · replace h := iteT h1 h
    rcases bcase (decide ((p.Name.size : Int) ≤ 32)) with h2 | h2
    · replace h := iteT h2 h
      rcases bcase (decide (p.Size ≥ 1)) with h3 | h3
      · replace h := iteT h3 h
        rcases bcase (decide (p.Size ≤ 65536)) with h4 | h4
        · replace h := iteT h4 h
          rcases bcase (decide (p.Hart ≥ (-1))) with h5 | h5
          · replace h := iteT h5 h
            have e := Option.some.inj h
            subst e
            exact okP ordB34 (Eq.mpr (ref_may_p0 (PCall Try.prog) (SD Try.prog) (LoopD Try.prog) (CodeD Try.prog) p _) (⟨congrArg aBool h1, congrArg aBool h2, congrArg aBool h3, congrArg aBool h4, congrArg aBool h5, LeA.refl _⟩))
          · replace h := iteF h5 h
            have e := Option.some.inj h
            subst e
            exact okP ordB34 (Eq.mpr (ref_may_p1 (PCall Try.prog) (SD Try.prog) (LoopD Try.prog) (CodeD Try.prog) p _) (⟨congrArg aBool h1, congrArg aBool h2, congrArg aBool h3, congrArg aBool h4, congrArg aBool h5, LeA.refl _⟩))
        · replace h := iteF h4 h
          have e := Option.some.inj h
          subst e
          exact okP ordB34 (Eq.mpr (ref_may_p2 (PCall Try.prog) (SD Try.prog) (LoopD Try.prog) (CodeD Try.prog) p _) (⟨congrArg aBool h1, congrArg aBool h2, congrArg aBool h3, congrArg aBool h4, LeA.refl _⟩))
      · replace h := iteF h3 h
        have e := Option.some.inj h
        subst e
        exact okP ordB34 (Eq.mpr (ref_may_p3 (PCall Try.prog) (SD Try.prog) (LoopD Try.prog) (CodeD Try.prog) p _) (⟨congrArg aBool h1, congrArg aBool h2, congrArg aBool h3, LeA.refl _⟩))
    · replace h := iteF h2 h
      have e := Option.some.inj h
      subst e
      exact okP ordB34 (Eq.mpr (ref_may_p4 (PCall Try.prog) (SD Try.prog) (LoopD Try.prog) (CodeD Try.prog) p _) (⟨congrArg aBool h1, congrArg aBool h2, LeA.refl _⟩))
  · replace h := iteF h1 h
    have e := Option.some.inj h
    subst e
    exact okP ordB34 (Eq.mpr (ref_may_p5 (PCall Try.prog) (SD Try.prog) (LoopD Try.prog) (CodeD Try.prog) p _) (⟨congrArg aBool h1, LeA.refl _⟩))

def ord23 : List (Nat × List Nat) := [(10, [0, 1, 2, 3, 4, 5, 6, 7, 8, 9, 10, 11, 12, 13, 14, 15, 16, 17, 18, 19, 20, 21, 22, 23])]
theorem ordB23 : ordB (polF 23) ord23 (bodyOf Try.prog 23) = true := by kernel_rfl
noncomputable def c_ref_Check_L1 : Code := sub (bodyOf Try.prog 23) [1, 1, 0, 1, 0, 0]
noncomputable def c_ref_Check_L2 : Code := sub c_ref_Check_L1 [1, 0, 0, 1, 0, 1, 0, 0]
theorem ordB_ref_Check_L2 : ordB (polF 23) ord23 c_ref_Check_L2 = true := by kernel_rfl
def ref_Check_L2_S (l : (List Piece)) (sb : Int × Int × Int) : St := mkS 60 [(0, .sl (l.map Piece.enc)), (3, .v (.int .i64 sb.1)), (4, .v (.int .i64 sb.2.1)), (5, .v (.int .i64 sb.2.2))] [] [] 0
def ref_Check_L2_T0 (l : (List Piece)) (tt : Int × Int) : St := mkS 60 [(0, .sl (l.map Piece.enc)), (3, .v (.int .i64 tt.1)), (4, .v (.int .i64 tt.2))] [] [] 0
def ref_Check_L2_T1 (l : (List Piece)) (tt : Unit) : St := mkS 60 [(2, .v (.int .i64 8))] [] [] 0
def ref_Check_L2_out (l : (List Piece)) (t0 : ((Int × Int) ⊕ Unit)) : Ex × St := match t0 with | .inl tt => (.ex 2, ref_Check_L2_T0 l tt) | .inr tt => (.ret, ref_Check_L2_T1 l tt)
theorem ref_Check_L2_p0 (l : (List Piece)) (sb : Int × Int × Int) (xb2 : Piece) (xb3 : Piece) (K : Ex → St → Prop) : oround (cx pc sc lp) cd ⟨ord23, [(8, ⟨[], [], [], [(20, .v (.bool true))], [], [], [], []⟩), (10, ⟨[], [], [(25, [.v (.string xb2.Name), .v (.int .i64 xb2.Size), .v (.int .i64 xb2.Hart)]), (30, [.v (.string xb3.Name), .v (.int .i64 xb3.Size), .v (.int .i64 xb3.Hart)]), (37, [.v (.string xb2.Name), .v (.int .i64 xb2.Size), .v (.int .i64 xb2.Hart)]), (42, [.v (.string xb3.Name), .v (.int .i64 xb3.Size), .v (.int .i64 xb3.Hart)])], [(34, .v (.bool true)), (46, .v (.bool true))], [], [], [], []⟩)], [], [], []⟩ (polF 23) [(1, ⟨[2], [], 0, [], []⟩, ⟨[], [], []⟩)] c_ref_Check_L2 (ref_Check_L2_S l sb) K
  = ((AV.v (.bool (decide (sb.2.2 < sb.2.1))) = AV.v (.bool true)) ∧ (at? (l.map Piece.enc) sb.2.2 = some [.v (.string xb2.Name), .v (.int .i64 xb2.Size), .v (.int .i64 xb2.Hart)]) ∧ (at? (l.map Piece.enc) sb.2.1 = some [.v (.string xb3.Name), .v (.int .i64 xb3.Size), .v (.int .i64 xb3.Hart)]) ∧ (AV.v (.bool (xb2.Name.toList == xb3.Name.toList)) = AV.v (.bool true)) ∧ (at? (l.map Piece.enc) sb.2.2 = some [.v (.string xb2.Name), .v (.int .i64 xb2.Size), .v (.int .i64 xb2.Hart)]) ∧ (at? (l.map Piece.enc) sb.2.1 = some [.v (.string xb3.Name), .v (.int .i64 xb3.Size), .v (.int .i64 xb3.Hart)]) ∧ (AV.v (.bool (xb2.Hart == xb3.Hart)) = AV.v (.bool true)) ∧ K .ret (ref_Check_L2_T1 l ())) := by kernel_rfl
theorem ref_Check_L2_p1 (l : (List Piece)) (sb : Int × Int × Int) (xb2 : Piece) (xb3 : Piece) (K : Ex → St → Prop) : oround (cx pc sc lp) cd ⟨ord23, [(8, ⟨[], [], [], [(20, .v (.bool true))], [], [], [], []⟩), (10, ⟨[], [], [(25, [.v (.string xb2.Name), .v (.int .i64 xb2.Size), .v (.int .i64 xb2.Hart)]), (30, [.v (.string xb3.Name), .v (.int .i64 xb3.Size), .v (.int .i64 xb3.Hart)]), (37, [.v (.string xb2.Name), .v (.int .i64 xb2.Size), .v (.int .i64 xb2.Hart)]), (42, [.v (.string xb3.Name), .v (.int .i64 xb3.Size), .v (.int .i64 xb3.Hart)])], [(34, .v (.bool true)), (46, .v (.bool false))], [], [], [], []⟩)], [], [], []⟩ (polF 23) [(0, ⟨[0, 3, 4, 5], [], 0, [], []⟩, ⟨[], [], []⟩)] c_ref_Check_L2 (ref_Check_L2_S l sb) K
  = ((AV.v (.bool (decide (sb.2.2 < sb.2.1))) = AV.v (.bool true)) ∧ (at? (l.map Piece.enc) sb.2.2 = some [.v (.string xb2.Name), .v (.int .i64 xb2.Size), .v (.int .i64 xb2.Hart)]) ∧ (at? (l.map Piece.enc) sb.2.1 = some [.v (.string xb3.Name), .v (.int .i64 xb3.Size), .v (.int .i64 xb3.Hart)]) ∧ (AV.v (.bool (xb2.Name.toList == xb3.Name.toList)) = AV.v (.bool true)) ∧ (at? (l.map Piece.enc) sb.2.2 = some [.v (.string xb2.Name), .v (.int .i64 xb2.Size), .v (.int .i64 xb2.Hart)]) ∧ (at? (l.map Piece.enc) sb.2.1 = some [.v (.string xb3.Name), .v (.int .i64 xb3.Size), .v (.int .i64 xb3.Hart)]) ∧ (AV.v (.bool (xb2.Hart == xb3.Hart)) = AV.v (.bool false)) ∧ K .nrm (ref_Check_L2_S l (sb.1, sb.2.1, (addW .i64 sb.2.2 1)))) := by kernel_rfl
theorem ref_Check_L2_p2 (l : (List Piece)) (sb : Int × Int × Int) (xb2 : Piece) (xb3 : Piece) (K : Ex → St → Prop) : oround (cx pc sc lp) cd ⟨ord23, [(8, ⟨[], [], [], [(20, .v (.bool true))], [], [], [], []⟩), (10, ⟨[], [], [(25, [.v (.string xb2.Name), .v (.int .i64 xb2.Size), .v (.int .i64 xb2.Hart)]), (30, [.v (.string xb3.Name), .v (.int .i64 xb3.Size), .v (.int .i64 xb3.Hart)])], [(34, .v (.bool false))], [], [], [], []⟩)], [], [], []⟩ (polF 23) [(0, ⟨[0, 3, 4, 5], [], 0, [], []⟩, ⟨[], [], []⟩)] c_ref_Check_L2 (ref_Check_L2_S l sb) K
  = ((AV.v (.bool (decide (sb.2.2 < sb.2.1))) = AV.v (.bool true)) ∧ (at? (l.map Piece.enc) sb.2.2 = some [.v (.string xb2.Name), .v (.int .i64 xb2.Size), .v (.int .i64 xb2.Hart)]) ∧ (at? (l.map Piece.enc) sb.2.1 = some [.v (.string xb3.Name), .v (.int .i64 xb3.Size), .v (.int .i64 xb3.Hart)]) ∧ (AV.v (.bool (xb2.Name.toList == xb3.Name.toList)) = AV.v (.bool false)) ∧ K .nrm (ref_Check_L2_S l (sb.1, sb.2.1, (addW .i64 sb.2.2 1)))) := by kernel_rfl
theorem ref_Check_L2_p3 (l : (List Piece)) (sb : Int × Int × Int) (K : Ex → St → Prop) : oround (cx pc sc lp) cd ⟨ord23, [(8, ⟨[], [], [], [(20, .v (.bool false))], [], [], [], []⟩)], [], [], []⟩ (polF 23) [(4, ⟨[0, 3, 4], [], 0, [], []⟩, ⟨[], [], []⟩)] c_ref_Check_L2 (ref_Check_L2_S l sb) K
  = ((AV.v (.bool (decide (sb.2.2 < sb.2.1))) = AV.v (.bool false)) ∧ K (.ex 2) (ref_Check_L2_T0 l (sb.1, sb.2.1))) := by kernel_rfl
theorem ref_Check_L2_sim (n : Nat) (l : (List Piece)) : ∀ sb r, ref_Check_L2 n l sb = some r → CodeD Try.prog c_ref_Check_L2 (ref_Check_L2_S l sb) (rk (ref_Check_L2_S l) (ref_Check_L2_out l) r) := by
  intro sb r h
  unfold ref_Check_L2 at h
  rcases bcase (decide (sb.2.2 < sb.2.1)) with hb1 | hb1
  · replace h := iteT hb1 h
    obtain ⟨xb2, gxb2, h⟩ := bindE h
    obtain ⟨xb3, gxb3, h⟩ := bindE h
    rcases bcase (xb2.Name.toList == xb3.Name.toList) with hb4 | hb4
    · replace h := iteT hb4 h
      rcases bcase (xb2.Hart == xb3.Hart) with hb5 | hb5
      · replace h := iteT hb5 h
        have e := Option.some.inj h
        subst e
        exact okR ordB_ref_Check_L2 (Eq.mpr (ref_Check_L2_p0 (PCall Try.prog) (SD Try.prog) (LoopD Try.prog) (CodeD Try.prog) l sb xb2 xb3 _) ⟨congrArg aBool hb1, at_map Piece.enc gxb2, at_map Piece.enc gxb3, congrArg aBool hb4, at_map Piece.enc gxb2, at_map Piece.enc gxb3, congrArg aBool hb5, ⟨rfl, rfl⟩⟩) (rkE rfl neR)
      · replace h := iteF hb5 h
        have e := Option.some.inj h
        subst e
        exact okR ordB_ref_Check_L2 (Eq.mpr (ref_Check_L2_p1 (PCall Try.prog) (SD Try.prog) (LoopD Try.prog) (CodeD Try.prog) l sb xb2 xb3 _) ⟨congrArg aBool hb1, at_map Piece.enc gxb2, at_map Piece.enc gxb3, congrArg aBool hb4, at_map Piece.enc gxb2, at_map Piece.enc gxb3, congrArg aBool hb5, ⟨rfl, rfl⟩⟩) rkN
    · replace h := iteF hb4 h
      have e := Option.some.inj h
      subst e
      exact okR ordB_ref_Check_L2 (Eq.mpr (ref_Check_L2_p2 (PCall Try.prog) (SD Try.prog) (LoopD Try.prog) (CodeD Try.prog) l sb xb2 xb3 _) ⟨congrArg aBool hb1, at_map Piece.enc gxb2, at_map Piece.enc gxb3, congrArg aBool hb4, ⟨rfl, rfl⟩⟩) rkN
  · replace h := iteF hb1 h
    have e := Option.some.inj h
    subst e
    exact okR ordB_ref_Check_L2 (Eq.mpr (ref_Check_L2_p3 (PCall Try.prog) (SD Try.prog) (LoopD Try.prog) (CodeD Try.prog) l sb _) ⟨congrArg aBool hb1, ⟨rfl, rfl⟩⟩) (rkE rfl neE)

theorem ordB_ref_Check_L1 : ordB (polF 23) ord23 c_ref_Check_L1 = true := by kernel_rfl
def ref_Check_L1_S (l : (List Piece)) (sa : Int × Int) : St := mkS 60 [(0, .sl (l.map Piece.enc)), (3, .v (.int .i64 sa.1)), (4, .v (.int .i64 sa.2))] [] [] 0
def ref_Check_L1_T0 (l : (List Piece)) (tt : Unit) : St := mkS 60 [] [] [] 0
def ref_Check_L1_T1 (l : (List Piece)) (tt : Int) : St := mkS 60 [(2, .v (.int .i64 tt))] [] [] 0
def ref_Check_L1_out (l : (List Piece)) (t0 : (Unit ⊕ Int)) : Ex × St := match t0 with | .inl tt => (.ex 0, ref_Check_L1_T0 l tt) | .inr tt => (.ret, ref_Check_L1_T1 l tt)
theorem ref_Check_L1_p0 (l : (List Piece)) (sa : Int × Int) (xa2 : Piece) (ya3 : Bool) (K : Ex → St → Prop) : oround (cx pc sc lp) cd ⟨ord23, [(3, ⟨[], [], [], [(8, .v (.int .i64 (l.length : Int))), (9, .v (.bool true))], [], [], [], []⟩), (5, ⟨[], [], [(14, [.v (.string xa2.Name), .v (.int .i64 xa2.Size), .v (.int .i64 xa2.Hart)])], [(17, .v (.bool true))], [(16, .v (.bool ya3))], [], [], []⟩)], [], [], []⟩ (polF 23) [(1, ⟨[2], [], 0, [], []⟩, ⟨[], [], []⟩)] c_ref_Check_L1 (ref_Check_L1_S l sa) K
  = ((AV.v (.int .i64 (((l.map Piece.enc).length : Nat) : Int)) = AV.v (.int .i64 (l.length : Int))) ∧ (AV.v (.bool (decide (sa.2 < (l.length : Int)))) = AV.v (.bool true)) ∧ (at? (l.map Piece.enc) sa.2 = some [.v (.string xa2.Name), .v (.int .i64 xa2.Size), .v (.int .i64 xa2.Hart)]) ∧ (pc 34 [.agg [.v (.string xa2.Name), .v (.int .i64 xa2.Size), .v (.int .i64 xa2.Hart)]] (fun x => x = .v (.bool ya3))) ∧ (AV.v (.bool !ya3) = AV.v (.bool true)) ∧ K .ret (ref_Check_L1_T1 l 2)) := by kernel_rfl
theorem ref_Check_L1_p1 (l : (List Piece)) (sa : Int × Int) (xa2 : Piece) (ya3 : Bool) (wa6 : Int × Int) (xa7 : Piece) (K : Ex → St → Prop) : oround (cx pc sc lp) cd ⟨ord23, [(3, ⟨[], [], [], [(8, .v (.int .i64 (l.length : Int))), (9, .v (.bool true))], [], [], [], []⟩), (5, ⟨[], [], [(14, [.v (.string xa2.Name), .v (.int .i64 xa2.Size), .v (.int .i64 xa2.Hart)])], [(17, .v (.bool false))], [(16, .v (.bool ya3))], [], [], []⟩), (12, ⟨[], [], [(50, [.v (.string xa7.Name), .v (.int .i64 xa7.Size), .v (.int .i64 xa7.Hart)])], [], [], [], [], []⟩), (13, ⟨[], [], [], [(56, .v (.bool true))], [], [], [], []⟩)], [], [(8, (⟨[0, 3, 4, 5], [], 0, [], []⟩, ⟨[], [], []⟩, (.ex 2), ref_Check_L2_T0 l wa6))], []⟩ (polF 23) [(1, ⟨[2], [], 0, [], []⟩, ⟨[], [], []⟩)] c_ref_Check_L1 (ref_Check_L1_S l sa) K
  = ((AV.v (.int .i64 (((l.map Piece.enc).length : Nat) : Int)) = AV.v (.int .i64 (l.length : Int))) ∧ (AV.v (.bool (decide (sa.2 < (l.length : Int)))) = AV.v (.bool true)) ∧ (at? (l.map Piece.enc) sa.2 = some [.v (.string xa2.Name), .v (.int .i64 xa2.Size), .v (.int .i64 xa2.Hart)]) ∧ (pc 34 [.agg [.v (.string xa2.Name), .v (.int .i64 xa2.Size), .v (.int .i64 xa2.Hart)]] (fun x => x = .v (.bool ya3))) ∧ (AV.v (.bool !ya3) = AV.v (.bool false)) ∧ (lp (polF 23) c_ref_Check_L2 (ref_Check_L2_S l (sa.1, sa.2, 0)) (fun e' S' => e' = (.ex 2) ∧ S' = ref_Check_L2_T0 l wa6)) ∧ (at? (l.map Piece.enc) wa6.2 = some [.v (.string xa7.Name), .v (.int .i64 xa7.Size), .v (.int .i64 xa7.Hart)]) ∧ (AV.v (.bool (decide (wa6.2 ≥ 1024))) = AV.v (.bool true)) ∧ K .ret (ref_Check_L1_T1 l 7)) := by kernel_rfl
theorem ref_Check_L1_p2 (l : (List Piece)) (sa : Int × Int) (xa2 : Piece) (ya3 : Bool) (wa6 : Int × Int) (xa7 : Piece) (K : Ex → St → Prop) : oround (cx pc sc lp) cd ⟨ord23, [(3, ⟨[], [], [], [(8, .v (.int .i64 (l.length : Int))), (9, .v (.bool true))], [], [], [], []⟩), (5, ⟨[], [], [(14, [.v (.string xa2.Name), .v (.int .i64 xa2.Size), .v (.int .i64 xa2.Hart)])], [(17, .v (.bool false))], [(16, .v (.bool ya3))], [], [], []⟩), (12, ⟨[], [], [(50, [.v (.string xa7.Name), .v (.int .i64 xa7.Size), .v (.int .i64 xa7.Hart)])], [], [], [], [], []⟩), (13, ⟨[], [], [], [(56, .v (.bool false)), (59, .v (.bool true))], [], [], [], []⟩)], [], [(8, (⟨[0, 3, 4, 5], [], 0, [], []⟩, ⟨[], [], []⟩, (.ex 2), ref_Check_L2_T0 l wa6))], []⟩ (polF 23) [(1, ⟨[2], [], 0, [], []⟩, ⟨[], [], []⟩)] c_ref_Check_L1 (ref_Check_L1_S l sa) K
  = ((AV.v (.int .i64 (((l.map Piece.enc).length : Nat) : Int)) = AV.v (.int .i64 (l.length : Int))) ∧ (AV.v (.bool (decide (sa.2 < (l.length : Int)))) = AV.v (.bool true)) ∧ (at? (l.map Piece.enc) sa.2 = some [.v (.string xa2.Name), .v (.int .i64 xa2.Size), .v (.int .i64 xa2.Hart)]) ∧ (pc 34 [.agg [.v (.string xa2.Name), .v (.int .i64 xa2.Size), .v (.int .i64 xa2.Hart)]] (fun x => x = .v (.bool ya3))) ∧ (AV.v (.bool !ya3) = AV.v (.bool false)) ∧ (lp (polF 23) c_ref_Check_L2 (ref_Check_L2_S l (sa.1, sa.2, 0)) (fun e' S' => e' = (.ex 2) ∧ S' = ref_Check_L2_T0 l wa6)) ∧ (at? (l.map Piece.enc) wa6.2 = some [.v (.string xa7.Name), .v (.int .i64 xa7.Size), .v (.int .i64 xa7.Hart)]) ∧ (AV.v (.bool (decide (wa6.2 ≥ 1024))) = AV.v (.bool false)) ∧ (AV.v (.bool (decide ((addW .i64 wa6.1 xa7.Size) > 65536))) = AV.v (.bool true)) ∧ K .ret (ref_Check_L1_T1 l 7)) := by kernel_rfl
theorem ref_Check_L1_p3 (l : (List Piece)) (sa : Int × Int) (xa2 : Piece) (ya3 : Bool) (wa6 : Int × Int) (xa7 : Piece) (K : Ex → St → Prop) : oround (cx pc sc lp) cd ⟨ord23, [(3, ⟨[], [], [], [(8, .v (.int .i64 (l.length : Int))), (9, .v (.bool true))], [], [], [], []⟩), (5, ⟨[], [], [(14, [.v (.string xa2.Name), .v (.int .i64 xa2.Size), .v (.int .i64 xa2.Hart)])], [(17, .v (.bool false))], [(16, .v (.bool ya3))], [], [], []⟩), (12, ⟨[], [], [(50, [.v (.string xa7.Name), .v (.int .i64 xa7.Size), .v (.int .i64 xa7.Hart)])], [], [], [], [], []⟩), (13, ⟨[], [], [], [(56, .v (.bool false)), (59, .v (.bool false))], [], [], [], []⟩)], [], [(8, (⟨[0, 3, 4, 5], [], 0, [], []⟩, ⟨[], [], []⟩, (.ex 2), ref_Check_L2_T0 l wa6))], []⟩ (polF 23) [(0, ⟨[0, 3, 4], [], 0, [], []⟩, ⟨[], [], []⟩)] c_ref_Check_L1 (ref_Check_L1_S l sa) K
  = ((AV.v (.int .i64 (((l.map Piece.enc).length : Nat) : Int)) = AV.v (.int .i64 (l.length : Int))) ∧ (AV.v (.bool (decide (sa.2 < (l.length : Int)))) = AV.v (.bool true)) ∧ (at? (l.map Piece.enc) sa.2 = some [.v (.string xa2.Name), .v (.int .i64 xa2.Size), .v (.int .i64 xa2.Hart)]) ∧ (pc 34 [.agg [.v (.string xa2.Name), .v (.int .i64 xa2.Size), .v (.int .i64 xa2.Hart)]] (fun x => x = .v (.bool ya3))) ∧ (AV.v (.bool !ya3) = AV.v (.bool false)) ∧ (lp (polF 23) c_ref_Check_L2 (ref_Check_L2_S l (sa.1, sa.2, 0)) (fun e' S' => e' = (.ex 2) ∧ S' = ref_Check_L2_T0 l wa6)) ∧ (at? (l.map Piece.enc) wa6.2 = some [.v (.string xa7.Name), .v (.int .i64 xa7.Size), .v (.int .i64 xa7.Hart)]) ∧ (AV.v (.bool (decide (wa6.2 ≥ 1024))) = AV.v (.bool false)) ∧ (AV.v (.bool (decide ((addW .i64 wa6.1 xa7.Size) > 65536))) = AV.v (.bool false)) ∧ K .nrm (ref_Check_L1_S l ((addW .i64 wa6.1 xa7.Size), (addW .i64 wa6.2 1)))) := by kernel_rfl
theorem ref_Check_L1_p4 (l : (List Piece)) (sa : Int × Int) (xa2 : Piece) (ya3 : Bool) (wa6 : Unit) (K : Ex → St → Prop) : oround (cx pc sc lp) cd ⟨ord23, [(3, ⟨[], [], [], [(8, .v (.int .i64 (l.length : Int))), (9, .v (.bool true))], [], [], [], []⟩), (5, ⟨[], [], [(14, [.v (.string xa2.Name), .v (.int .i64 xa2.Size), .v (.int .i64 xa2.Hart)])], [(17, .v (.bool false))], [(16, .v (.bool ya3))], [], [], []⟩)], [], [(8, (⟨[0, 3, 4, 5], [], 0, [], []⟩, ⟨[], [], []⟩, .ret, ref_Check_L2_T1 l wa6))], []⟩ (polF 23) [(1, ⟨[2], [], 0, [], []⟩, ⟨[], [], []⟩)] c_ref_Check_L1 (ref_Check_L1_S l sa) K
  = ((AV.v (.int .i64 (((l.map Piece.enc).length : Nat) : Int)) = AV.v (.int .i64 (l.length : Int))) ∧ (AV.v (.bool (decide (sa.2 < (l.length : Int)))) = AV.v (.bool true)) ∧ (at? (l.map Piece.enc) sa.2 = some [.v (.string xa2.Name), .v (.int .i64 xa2.Size), .v (.int .i64 xa2.Hart)]) ∧ (pc 34 [.agg [.v (.string xa2.Name), .v (.int .i64 xa2.Size), .v (.int .i64 xa2.Hart)]] (fun x => x = .v (.bool ya3))) ∧ (AV.v (.bool !ya3) = AV.v (.bool false)) ∧ (lp (polF 23) c_ref_Check_L2 (ref_Check_L2_S l (sa.1, sa.2, 0)) (fun e' S' => e' = .ret ∧ S' = ref_Check_L2_T1 l wa6)) ∧ K .ret (ref_Check_L1_T1 l 8)) := by kernel_rfl
theorem ref_Check_L1_p5 (l : (List Piece)) (sa : Int × Int) (K : Ex → St → Prop) : oround (cx pc sc lp) cd ⟨ord23, [(3, ⟨[], [], [], [(8, .v (.int .i64 (l.length : Int))), (9, .v (.bool false))], [], [], [], []⟩)], [], [], []⟩ (polF 23) [(2, ⟨[], [], 0, [], []⟩, ⟨[], [], []⟩)] c_ref_Check_L1 (ref_Check_L1_S l sa) K
  = ((AV.v (.int .i64 (((l.map Piece.enc).length : Nat) : Int)) = AV.v (.int .i64 (l.length : Int))) ∧ (AV.v (.bool (decide (sa.2 < (l.length : Int)))) = AV.v (.bool false)) ∧ K (.ex 0) (ref_Check_L1_T0 l ())) := by kernel_rfl
theorem ref_Check_L1_sim (n : Nat) (l : (List Piece)) : ∀ sa r, ref_Check_L1 n l sa = some r → CodeD Try.prog c_ref_Check_L1 (ref_Check_L1_S l sa) (rk (ref_Check_L1_S l) (ref_Check_L1_out l) r) := by
  intro sa r h
  unfold ref_Check_L1 at h
  rcases bcase (decide (sa.2 < (l.length : Int))) with ha1 | ha1
  · replace h := iteT ha1 h
    obtain ⟨xa2, gxa2, h⟩ := bindE h
    obtain ⟨ya3, gya3, h⟩ := bindE h
    rcases bcase (!ya3) with ha4 | ha4
    · replace h := iteT ha4 h
      have e := Option.some.inj h
      subst e
      exact okR ordB_ref_Check_L1 (Eq.mpr (ref_Check_L1_p0 (PCall Try.prog) (SD Try.prog) (LoopD Try.prog) (CodeD Try.prog) l sa xa2 ya3 _) ⟨len_map _ _, congrArg aBool ha1, at_map Piece.enc gxa2, (ref_may_sim n xa2 ya3 gya3), congrArg aBool ha4, ⟨rfl, rfl⟩⟩) (rkE rfl neR)
    · replace h := iteF ha4 h
      obtain ⟨ta5, gta5, h⟩ := bindE h
      rcases ta5 with wa6 | wa6
      · skip
        obtain ⟨xa7, gxa7, h⟩ := bindE h
        rcases bcase (decide (wa6.2 ≥ 1024)) with ha8 | ha8
        · replace h := iteT ha8 h
          have e := Option.some.inj h
          subst e
          exact okR ordB_ref_Check_L1 (Eq.mpr (ref_Check_L1_p1 (PCall Try.prog) (SD Try.prog) (LoopD Try.prog) (CodeD Try.prog) l sa xa2 ya3 wa6 xa7 _) ⟨len_map _ _, congrArg aBool ha1, at_map Piece.enc gxa2, (ref_may_sim n xa2 ya3 gya3), congrArg aBool ha4, okL (ref_Check_L2_S l) (ref_Check_L2_out l) (ref_Check_L2_sim n l) n _ (.inl wa6) gta5, at_map Piece.enc gxa7, congrArg aBool ha8, ⟨rfl, rfl⟩⟩) (rkE rfl neR)
        · replace h := iteF ha8 h
          rcases bcase (decide ((addW .i64 wa6.1 xa7.Size) > 65536)) with ha9 | ha9
          · replace h := iteT ha9 h
            have e := Option.some.inj h
            subst e
            exact okR ordB_ref_Check_L1 (Eq.mpr (ref_Check_L1_p2 (PCall Try.prog) (SD Try.prog) (LoopD Try.prog) (CodeD Try.prog) l sa xa2 ya3 wa6 xa7 _) ⟨len_map _ _, congrArg aBool ha1, at_map Piece.enc gxa2, (ref_may_sim n xa2 ya3 gya3), congrArg aBool ha4, okL (ref_Check_L2_S l) (ref_Check_L2_out l) (ref_Check_L2_sim n l) n _ (.inl wa6) gta5, at_map Piece.enc gxa7, congrArg aBool ha8, congrArg aBool ha9, ⟨rfl, rfl⟩⟩) (rkE rfl neR)
          · replace h := iteF ha9 h
            have e := Option.some.inj h
            subst e
            exact okR ordB_ref_Check_L1 (Eq.mpr (ref_Check_L1_p3 (PCall Try.prog) (SD Try.prog) (LoopD Try.prog) (CodeD Try.prog) l sa xa2 ya3 wa6 xa7 _) ⟨len_map _ _, congrArg aBool ha1, at_map Piece.enc gxa2, (ref_may_sim n xa2 ya3 gya3), congrArg aBool ha4, okL (ref_Check_L2_S l) (ref_Check_L2_out l) (ref_Check_L2_sim n l) n _ (.inl wa6) gta5, at_map Piece.enc gxa7, congrArg aBool ha8, congrArg aBool ha9, ⟨rfl, rfl⟩⟩) rkN
      · skip
        have e := Option.some.inj h
        subst e
        exact okR ordB_ref_Check_L1 (Eq.mpr (ref_Check_L1_p4 (PCall Try.prog) (SD Try.prog) (LoopD Try.prog) (CodeD Try.prog) l sa xa2 ya3 wa6 _) ⟨len_map _ _, congrArg aBool ha1, at_map Piece.enc gxa2, (ref_may_sim n xa2 ya3 gya3), congrArg aBool ha4, okL (ref_Check_L2_S l) (ref_Check_L2_out l) (ref_Check_L2_sim n l) n _ (.inr wa6) gta5, ⟨rfl, rfl⟩⟩) (rkE rfl neR)
  · replace h := iteF ha1 h
    have e := Option.some.inj h
    subst e
    exact okR ordB_ref_Check_L1 (Eq.mpr (ref_Check_L1_p5 (PCall Try.prog) (SD Try.prog) (LoopD Try.prog) (CodeD Try.prog) l sa _) ⟨len_map _ _, congrArg aBool ha1, ⟨rfl, rfl⟩⟩) (rkE rfl neE)

theorem ref_Check_p0 (l : (List Piece)) (w2 : Unit) (K : AV → Prop) : opure (cx pc sc lp) cd ⟨ord23, [], [], [(3, (⟨[0, 3, 4], [], 0, [], []⟩, ⟨[], [], []⟩, (.ex 0), ref_Check_L1_T0 l w2))], []⟩ 23 [.sl (l.map Piece.enc)] K
  = ((lp (polF 23) c_ref_Check_L1 (ref_Check_L1_S l (0, 0)) (fun e' S' => e' = (.ex 0) ∧ S' = ref_Check_L1_T0 l w2)) ∧ K (.v (.int .i64 0))) := by kernel_rfl
theorem ref_Check_p1 (l : (List Piece)) (w2 : Int) (K : AV → Prop) : opure (cx pc sc lp) cd ⟨ord23, [], [], [(3, (⟨[0, 3, 4], [], 0, [], []⟩, ⟨[], [], []⟩, .ret, ref_Check_L1_T1 l w2))], []⟩ 23 [.sl (l.map Piece.enc)] K
  = ((lp (polF 23) c_ref_Check_L1 (ref_Check_L1_S l (0, 0)) (fun e' S' => e' = .ret ∧ S' = ref_Check_L1_T1 l w2)) ∧ K (.v (.int .i64 w2))) := by kernel_rfl
theorem ref_Check_sim (n : Nat) (l : (List Piece)) (r : Int) (h : ref_Check n l = some r) : PCall Try.prog 23 [.sl (l.map Piece.enc)] (fun x => x = .v (.int .i64 r)) := by
  unfold ref_Check at h
  obtain ⟨t1, gt1, h⟩ := bindE h
  rcases t1 with w2 | w2
  · skip
    have e := Option.some.inj h
    subst e
    exact okP ordB23 (Eq.mpr (ref_Check_p0 (PCall Try.prog) (SD Try.prog) (LoopD Try.prog) (CodeD Try.prog) l w2 _) (⟨okL (ref_Check_L1_S l) (ref_Check_L1_out l) (ref_Check_L1_sim n l) n _ (.inl w2) gt1, LeA.refl _⟩))
  · skip
    have e := Option.some.inj h
    subst e
    exact okP ordB23 (Eq.mpr (ref_Check_p1 (PCall Try.prog) (SD Try.prog) (LoopD Try.prog) (CodeD Try.prog) l w2 _) (⟨okL (ref_Check_L1_S l) (ref_Check_L1_out l) (ref_Check_L1_sim n l) n _ (.inr w2) gt1, LeA.refl _⟩))

def ord18 : List (Nat × List Nat) := []
theorem ordB18 : ordB (polF 18) ord18 (bodyOf Try.prog 18) = true := by kernel_rfl
noncomputable def c_ref_Lay_L1 : Code := sub (bodyOf Try.prog 18) [1, 1, 1, 1, 1, 0, 1, 0, 0]
noncomputable def c_ref_Lay_L2 : Code := sub c_ref_Lay_L1 [1, 0, 0, 1, 0, 0]
theorem ordB_ref_Lay_L2 : ordB (polF 18) ord18 c_ref_Lay_L2 = true := by kernel_rfl
def ref_Lay_L2_S (l : (List Piece)) (sb : (List Seat) × Int × Int × Int) : St := mkS 50 [(0, .sl (l.map Piece.enc)), (5, .mf 0), (6, .v (.int .u64 sb.2.1)), (7, .v (.int .i64 sb.2.2.1)), (8, .v (.int .i64 sb.2.2.2))] [] [.arr true 4 (sb.1.map Seat.enc)] 0
def ref_Lay_L2_T0 (l : (List Piece)) (tt : (List Seat) × Int × Int) : St := mkS 50 [(0, .sl (l.map Piece.enc)), (5, .mf 0), (6, .v (.int .u64 tt.2.1)), (7, .v (.int .i64 tt.2.2))] [] [.arr true 4 (tt.1.map Seat.enc)] 0
def ref_Lay_L2_out (l : (List Piece)) (tt : ((List Seat) × Int × Int)) : Ex × St := (.ex 2, ref_Lay_L2_T0 l tt)
theorem ref_Lay_L2_p0 (l : (List Piece)) (sb : (List Seat) × Int × Int × Int) (xb2 : Piece) (K : Ex → St → Prop) : oround (cx pc sc lp) cd ⟨ord18, [(10, ⟨[], [], [], [(20, .v (.int .i64 (l.length : Int))), (21, .v (.bool true))], [], [], [], []⟩), (12, ⟨[], [], [(26, [.v (.string xb2.Name), .v (.int .i64 xb2.Size), .v (.int .i64 xb2.Hart)])], [(30, .v (.bool true))], [], [], [], []⟩), (13, ⟨[], [39], [(34, [.v (.string xb2.Name), .v (.int .i64 xb2.Size), .v (.int .i64 xb2.Hart)])], [], [], [], [(39, (0, (sb.1 ++ ([(Seat.mk xb2 sb.2.1)] : List Seat)).map Seat.enc))], []⟩), (14, ⟨[], [], [(43, [.v (.string xb2.Name), .v (.int .i64 xb2.Size), .v (.int .i64 xb2.Hart)])], [], [], [], [], []⟩)], [], [], []⟩ (polF 18) [(0, ⟨[0, 5, 6, 7, 8], [], 1, [], []⟩, ⟨[], [], []⟩)] c_ref_Lay_L2 (ref_Lay_L2_S l sb) K
  = ((AV.v (.int .i64 (((l.map Piece.enc).length : Nat) : Int)) = AV.v (.int .i64 (l.length : Int))) ∧ (AV.v (.bool (decide (sb.2.2.2 < (l.length : Int)))) = AV.v (.bool true)) ∧ (at? (l.map Piece.enc) sb.2.2.2 = some [.v (.string xb2.Name), .v (.int .i64 xb2.Size), .v (.int .i64 xb2.Hart)]) ∧ (AV.v (.bool (xb2.Hart == sb.2.2.1)) = AV.v (.bool true)) ∧ (at? (l.map Piece.enc) sb.2.2.2 = some [.v (.string xb2.Name), .v (.int .i64 xb2.Size), .v (.int .i64 xb2.Hart)]) ∧ (szOk 4 [[.v (.string xb2.Name), .v (.int .i64 xb2.Size), .v (.int .i64 xb2.Hart), .v (.int .u64 sb.2.1)]] = true) ∧ (okRows [[.v (.string xb2.Name), .v (.int .i64 xb2.Size), .v (.int .i64 xb2.Hart), .v (.int .u64 sb.2.1)]] = true) ∧ (Nat.ble (((sb.1.map Seat.enc).length + 1) * 40) 140737488355328 = true) ∧ ((sb.1.map Seat.enc) ++ [[.v (.string xb2.Name), .v (.int .i64 xb2.Size), .v (.int .i64 xb2.Hart), .v (.int .u64 sb.2.1)]] = (sb.1 ++ ([(Seat.mk xb2 sb.2.1)] : List Seat)).map Seat.enc) ∧ (at? (l.map Piece.enc) sb.2.2.2 = some [.v (.string xb2.Name), .v (.int .i64 xb2.Size), .v (.int .i64 xb2.Hart)]) ∧ K .nrm (ref_Lay_L2_S l ((sb.1 ++ ([(Seat.mk xb2 sb.2.1)] : List Seat)), (addW .u64 sb.2.1 (mulW .u64 8 (IntKind.wrap .u64 xb2.Size))), sb.2.2.1, (addW .i64 sb.2.2.2 1)))) := by kernel_rfl
theorem ref_Lay_L2_p1 (l : (List Piece)) (sb : (List Seat) × Int × Int × Int) (xb2 : Piece) (K : Ex → St → Prop) : oround (cx pc sc lp) cd ⟨ord18, [(10, ⟨[], [], [], [(20, .v (.int .i64 (l.length : Int))), (21, .v (.bool true))], [], [], [], []⟩), (12, ⟨[], [], [(26, [.v (.string xb2.Name), .v (.int .i64 xb2.Size), .v (.int .i64 xb2.Hart)])], [(30, .v (.bool false))], [], [], [], []⟩)], [], [], []⟩ (polF 18) [(0, ⟨[0, 5, 6, 7, 8], [], 1, [], []⟩, ⟨[], [], []⟩)] c_ref_Lay_L2 (ref_Lay_L2_S l sb) K
  = ((AV.v (.int .i64 (((l.map Piece.enc).length : Nat) : Int)) = AV.v (.int .i64 (l.length : Int))) ∧ (AV.v (.bool (decide (sb.2.2.2 < (l.length : Int)))) = AV.v (.bool true)) ∧ (at? (l.map Piece.enc) sb.2.2.2 = some [.v (.string xb2.Name), .v (.int .i64 xb2.Size), .v (.int .i64 xb2.Hart)]) ∧ (AV.v (.bool (xb2.Hart == sb.2.2.1)) = AV.v (.bool false)) ∧ K .nrm (ref_Lay_L2_S l (sb.1, sb.2.1, sb.2.2.1, (addW .i64 sb.2.2.2 1)))) := by kernel_rfl
theorem ref_Lay_L2_p2 (l : (List Piece)) (sb : (List Seat) × Int × Int × Int) (K : Ex → St → Prop) : oround (cx pc sc lp) cd ⟨ord18, [(10, ⟨[], [], [], [(20, .v (.int .i64 (l.length : Int))), (21, .v (.bool false))], [], [], [], []⟩)], [], [], []⟩ (polF 18) [(4, ⟨[0, 5, 6, 7], [], 1, [], []⟩, ⟨[], [], []⟩)] c_ref_Lay_L2 (ref_Lay_L2_S l sb) K
  = ((AV.v (.int .i64 (((l.map Piece.enc).length : Nat) : Int)) = AV.v (.int .i64 (l.length : Int))) ∧ (AV.v (.bool (decide (sb.2.2.2 < (l.length : Int)))) = AV.v (.bool false)) ∧ K (.ex 2) (ref_Lay_L2_T0 l (sb.1, sb.2.1, sb.2.2.1))) := by kernel_rfl
theorem ref_Lay_L2_sim (n : Nat) (l : (List Piece)) : ∀ sb r, ref_Lay_L2 n l sb = some r → CodeD Try.prog c_ref_Lay_L2 (ref_Lay_L2_S l sb) (rk (ref_Lay_L2_S l) (ref_Lay_L2_out l) r) := by
  intro sb r h
  unfold ref_Lay_L2 at h
  rcases bcase (decide (sb.2.2.2 < (l.length : Int))) with hb1 | hb1
  · replace h := iteT hb1 h
    obtain ⟨xb2, gxb2, h⟩ := bindE h
    rcases bcase (xb2.Hart == sb.2.2.1) with hb3 | hb3
    · replace h := iteT hb3 h
      obtain ⟨hb4, h⟩ := grdE h
      have e := Option.some.inj h
      subst e
      exact okR ordB_ref_Lay_L2 (Eq.mpr (ref_Lay_L2_p0 (PCall Try.prog) (SD Try.prog) (LoopD Try.prog) (CodeD Try.prog) l sb xb2 _) ⟨len_map _ _, congrArg aBool hb1, at_map Piece.enc gxb2, congrArg aBool hb3, at_map Piece.enc gxb2, rfl, rfl, ble_maps1 hb4, app_map Seat.enc sb.1 ([(Seat.mk xb2 sb.2.1)] : List Seat), at_map Piece.enc gxb2, ⟨rfl, rfl⟩⟩) rkN
    · replace h := iteF hb3 h
      have e := Option.some.inj h
      subst e
      exact okR ordB_ref_Lay_L2 (Eq.mpr (ref_Lay_L2_p1 (PCall Try.prog) (SD Try.prog) (LoopD Try.prog) (CodeD Try.prog) l sb xb2 _) ⟨len_map _ _, congrArg aBool hb1, at_map Piece.enc gxb2, congrArg aBool hb3, ⟨rfl, rfl⟩⟩) rkN
  · replace h := iteF hb1 h
    have e := Option.some.inj h
    subst e
    exact okR ordB_ref_Lay_L2 (Eq.mpr (ref_Lay_L2_p2 (PCall Try.prog) (SD Try.prog) (LoopD Try.prog) (CodeD Try.prog) l sb _) ⟨len_map _ _, congrArg aBool hb1, ⟨rfl, rfl⟩⟩) (rkE rfl neE)

theorem ordB_ref_Lay_L1 : ordB (polF 18) ord18 c_ref_Lay_L1 = true := by kernel_rfl
def ref_Lay_L1_S (l : (List Piece)) (sa : (List Seat) × Int × Int) : St := mkS 50 [(0, .sl (l.map Piece.enc)), (5, .mf 0), (6, .v (.int .u64 sa.2.1)), (7, .v (.int .i64 sa.2.2))] [] [.arr true 4 (sa.1.map Seat.enc)] 0
def ref_Lay_L1_T0 (l : (List Piece)) (tt : (List Seat)) : St := mkS 50 [(5, .mf 0)] [] [.arr true 4 (tt.map Seat.enc)] 0
def ref_Lay_L1_out (l : (List Piece)) (tt : ((List Seat))) : Ex × St := (.ex 0, ref_Lay_L1_T0 l tt)
theorem ref_Lay_L1_p0 (l : (List Piece)) (sa : (List Seat) × Int × Int) (ta2 : ((List Seat) × Int × Int)) (K : Ex → St → Prop) : oround (cx pc sc lp) cd ⟨ord18, [(7, ⟨[], [], [], [(15, .v (.bool true))], [], [], [], []⟩)], [], [(10, (⟨[0, 5, 6, 7, 8], [], 1, [], []⟩, ⟨[], [], []⟩, (.ex 2), ref_Lay_L2_T0 l ta2))], []⟩ (polF 18) [(0, ⟨[0, 5, 6, 7], [], 1, [], []⟩, ⟨[], [], []⟩)] c_ref_Lay_L1 (ref_Lay_L1_S l sa) K
  = ((AV.v (.bool (decide (sa.2.2 < 8))) = AV.v (.bool true)) ∧ (lp (polF 18) c_ref_Lay_L2 (ref_Lay_L2_S l (sa.1, sa.2.1, sa.2.2, 0)) (fun e' S' => e' = (.ex 2) ∧ S' = ref_Lay_L2_T0 l ta2)) ∧ K .nrm (ref_Lay_L1_S l (ta2.1, ta2.2.1, (addW .i64 ta2.2.2 1)))) := by kernel_rfl
theorem ref_Lay_L1_p1 (l : (List Piece)) (sa : (List Seat) × Int × Int) (K : Ex → St → Prop) : oround (cx pc sc lp) cd ⟨ord18, [(7, ⟨[], [], [], [(15, .v (.bool false))], [], [], [], []⟩)], [], [], []⟩ (polF 18) [(2, ⟨[5], [], 1, [], []⟩, ⟨[], [], []⟩)] c_ref_Lay_L1 (ref_Lay_L1_S l sa) K
  = ((AV.v (.bool (decide (sa.2.2 < 8))) = AV.v (.bool false)) ∧ K (.ex 0) (ref_Lay_L1_T0 l sa.1)) := by kernel_rfl
theorem ref_Lay_L1_sim (n : Nat) (l : (List Piece)) : ∀ sa r, ref_Lay_L1 n l sa = some r → CodeD Try.prog c_ref_Lay_L1 (ref_Lay_L1_S l sa) (rk (ref_Lay_L1_S l) (ref_Lay_L1_out l) r) := by
  intro sa r h
  unfold ref_Lay_L1 at h
  rcases bcase (decide (sa.2.2 < 8)) with ha1 | ha1
  · replace h := iteT ha1 h
    obtain ⟨ta2, gta2, h⟩ := bindE h
    have e := Option.some.inj h
    subst e
    exact okR ordB_ref_Lay_L1 (Eq.mpr (ref_Lay_L1_p0 (PCall Try.prog) (SD Try.prog) (LoopD Try.prog) (CodeD Try.prog) l sa ta2 _) ⟨congrArg aBool ha1, okL (ref_Lay_L2_S l) (ref_Lay_L2_out l) (ref_Lay_L2_sim n l) n _ ta2 gta2, ⟨rfl, rfl⟩⟩) rkN
  · replace h := iteF ha1 h
    have e := Option.some.inj h
    subst e
    exact okR ordB_ref_Lay_L1 (Eq.mpr (ref_Lay_L1_p1 (PCall Try.prog) (SD Try.prog) (LoopD Try.prog) (CodeD Try.prog) l sa _) ⟨congrArg aBool ha1, ⟨rfl, rfl⟩⟩) (rkE rfl neE)

theorem ref_Lay_p0 (l : (List Piece)) (y1 : Int) (K : AV → Prop) : opure (cx pc sc lp) cd ⟨ord18, [(1, ⟨[], [], [], [], [(10, .v (.int .i64 y1))], [], [], []⟩), (2, ⟨[], [], [], [(12, .v (.bool true))], [], [], [], []⟩)], [], [], []⟩ 18 [.sl (l.map Piece.enc)] K
  = ((pc 23 [.sl (l.map Piece.enc)] (fun x => x = .v (.int .i64 y1))) ∧ (AV.v (.bool (y1 != 0)) = AV.v (.bool true)) ∧ K (.tup [.nilsl, .v (.int .i64 y1)])) := by kernel_rfl
theorem ref_Lay_p1 (l : (List Piece)) (y1 : Int) (t3 : ((List Seat))) (K : AV → Prop) : opure (cx pc sc lp) cd ⟨ord18, [(1, ⟨[], [], [], [], [(10, .v (.int .i64 y1))], [], [], []⟩), (2, ⟨[], [], [], [(12, .v (.bool false))], [], [], [], []⟩)], [], [(7, (⟨[0, 5, 6, 7], [], 0, [(5, 4)], []⟩, ⟨[], [], []⟩, (.ex 0), ref_Lay_L1_T0 l t3))], []⟩ 18 [.sl (l.map Piece.enc)] K
  = ((pc 23 [.sl (l.map Piece.enc)] (fun x => x = .v (.int .i64 y1))) ∧ (AV.v (.bool (y1 != 0)) = AV.v (.bool false)) ∧ (lp (polF 18) c_ref_Lay_L1 (ref_Lay_L1_S l (([] : List Seat), 1048576, (-1))) (fun e' S' => e' = (.ex 0) ∧ S' = ref_Lay_L1_T0 l t3)) ∧ K (.tup [.sl (t3.map Seat.enc), .v (.int .i64 0)])) := by kernel_rfl
theorem ref_Lay_sim (n : Nat) (l : (List Piece)) (r : (List Seat) × Int) (h : ref_Lay n l = some r) : PCall Try.prog 18 [.sl (l.map Piece.enc)] (fun x => x = .tup [.sl (r.1.map Seat.enc), .v (.int .i64 r.2)]) := by
  unfold ref_Lay at h
  obtain ⟨y1, gy1, h⟩ := bindE h
  rcases bcase (y1 != 0) with h2 | h2
  · replace h := iteT h2 h
    have e := Option.some.inj h
    subst e
    exact okP ordB18 (Eq.mpr (ref_Lay_p0 (PCall Try.prog) (SD Try.prog) (LoopD Try.prog) (CodeD Try.prog) l y1 _) (⟨(ref_Check_sim n l y1 gy1), congrArg aBool h2, (LeA.tup (LeR.cons LeA.nil (LeR.cons (LeA.refl _) LeR.nil)))⟩))
  · replace h := iteF h2 h
    obtain ⟨t3, gt3, h⟩ := bindE h
    have e := Option.some.inj h
    subst e
    exact okP ordB18 (Eq.mpr (ref_Lay_p1 (PCall Try.prog) (SD Try.prog) (LoopD Try.prog) (CodeD Try.prog) l y1 t3 _) (⟨(ref_Check_sim n l y1 gy1), congrArg aBool h2, okL (ref_Lay_L1_S l) (ref_Lay_L1_out l) (ref_Lay_L1_sim n l) n _ t3 gt3, LeA.refl _⟩))

def ord10 : List (Nat × List Nat) := []
theorem ordB10 : ordB (polF 10) ord10 (bodyOf Try.prog 10) = true := by kernel_rfl
noncomputable def c_data_Part_L1 : Code := sub (bodyOf Try.prog 10) [1, 1, 1, 1, 0, 1, 0, 0]
theorem ordB_data_Part_L1 : ordB (polF 10) ord10 c_data_Part_L1 = true := by kernel_rfl
def data_Part_L1_S (l : (List Piece)) (hart : Int) (sa : Int × Int × Int) : St := mkS 48 [(1, .v (.int .i64 hart)), (4, .v (.int .u64 sa.2.1)), (5, .v (.int .u64 sa.2.2)), (21, .sl (l.map Piece.enc)), (22, .v (.int .i64 (l.length : Int))), (23, .v (.int .i64 sa.1))] [] [] 0
def data_Part_L1_T0 (l : (List Piece)) (hart : Int) (tt : Int × Int) : St := mkS 48 [(4, .v (.int .u64 tt.1)), (5, .v (.int .u64 tt.2))] [] [] 0
def data_Part_L1_out (l : (List Piece)) (hart : Int) (tt : (Int × Int)) : Ex × St := (.ex 0, data_Part_L1_T0 l hart tt)
theorem data_Part_L1_p0 (l : (List Piece)) (hart : Int) (sa : Int × Int × Int) (xa2 : Piece) (ya4 : Int) (ya6 : Int) (K : Ex → St → Prop) : oround (cx pc sc lp) cd ⟨ord10, [(8, ⟨[], [], [], [(24, .v (.bool true))], [], [], [], []⟩), (9, ⟨[], [], [(25, [.v (.string xa2.Name), .v (.int .i64 xa2.Size), .v (.int .i64 xa2.Hart)])], [], [], [], [], []⟩), (10, ⟨[], [], [], [(30, .v (.bool true))], [], [], [], []⟩), (11, ⟨[], [], [], [], [(34, .v (.int .u64 ya4))], [], [], []⟩), (12, ⟨[], [], [], [(39, .v (.bool true))], [], [], [], []⟩), (13, ⟨[], [], [], [], [(43, .v (.int .u64 ya6))], [], [], []⟩)], [], [], []⟩ (polF 10) [(0, ⟨[1, 4, 5, 21, 22, 23], [9], 0, [], []⟩, ⟨[], [], []⟩)] c_data_Part_L1 (data_Part_L1_S l hart sa) K
  = ((AV.v (.bool (decide (sa.1 < (l.length : Int)))) = AV.v (.bool true)) ∧ (at? (l.map Piece.enc) sa.1 = some [.v (.string xa2.Name), .v (.int .i64 xa2.Size), .v (.int .i64 xa2.Hart)]) ∧ (AV.v (.bool (decide (xa2.Hart < hart))) = AV.v (.bool true)) ∧ (pc 26 [.agg [.v (.string xa2.Name), .v (.int .i64 xa2.Size), .v (.int .i64 xa2.Hart)]] (fun x => x = .v (.int .u64 ya4))) ∧ (AV.v (.bool (decide (xa2.Hart ≤ hart))) = AV.v (.bool true)) ∧ (pc 26 [.agg [.v (.string xa2.Name), .v (.int .i64 xa2.Size), .v (.int .i64 xa2.Hart)]] (fun x => x = .v (.int .u64 ya6))) ∧ K .nrm (data_Part_L1_S l hart ((addW .i64 sa.1 1), (addW .u64 sa.2.1 ya4), (addW .u64 sa.2.2 ya6)))) := by kernel_rfl
theorem data_Part_L1_p1 (l : (List Piece)) (hart : Int) (sa : Int × Int × Int) (xa2 : Piece) (ya4 : Int) (K : Ex → St → Prop) : oround (cx pc sc lp) cd ⟨ord10, [(8, ⟨[], [], [], [(24, .v (.bool true))], [], [], [], []⟩), (9, ⟨[], [], [(25, [.v (.string xa2.Name), .v (.int .i64 xa2.Size), .v (.int .i64 xa2.Hart)])], [], [], [], [], []⟩), (10, ⟨[], [], [], [(30, .v (.bool true))], [], [], [], []⟩), (11, ⟨[], [], [], [], [(34, .v (.int .u64 ya4))], [], [], []⟩), (12, ⟨[], [], [], [(39, .v (.bool false))], [], [], [], []⟩)], [], [], []⟩ (polF 10) [(0, ⟨[1, 4, 5, 21, 22, 23], [9], 0, [], []⟩, ⟨[], [], []⟩)] c_data_Part_L1 (data_Part_L1_S l hart sa) K
  = ((AV.v (.bool (decide (sa.1 < (l.length : Int)))) = AV.v (.bool true)) ∧ (at? (l.map Piece.enc) sa.1 = some [.v (.string xa2.Name), .v (.int .i64 xa2.Size), .v (.int .i64 xa2.Hart)]) ∧ (AV.v (.bool (decide (xa2.Hart < hart))) = AV.v (.bool true)) ∧ (pc 26 [.agg [.v (.string xa2.Name), .v (.int .i64 xa2.Size), .v (.int .i64 xa2.Hart)]] (fun x => x = .v (.int .u64 ya4))) ∧ (AV.v (.bool (decide (xa2.Hart ≤ hart))) = AV.v (.bool false)) ∧ K .nrm (data_Part_L1_S l hart ((addW .i64 sa.1 1), (addW .u64 sa.2.1 ya4), sa.2.2))) := by kernel_rfl
theorem data_Part_L1_p2 (l : (List Piece)) (hart : Int) (sa : Int × Int × Int) (xa2 : Piece) (ya5 : Int) (K : Ex → St → Prop) : oround (cx pc sc lp) cd ⟨ord10, [(8, ⟨[], [], [], [(24, .v (.bool true))], [], [], [], []⟩), (9, ⟨[], [], [(25, [.v (.string xa2.Name), .v (.int .i64 xa2.Size), .v (.int .i64 xa2.Hart)])], [], [], [], [], []⟩), (10, ⟨[], [], [], [(30, .v (.bool false))], [], [], [], []⟩), (12, ⟨[], [], [], [(39, .v (.bool true))], [], [], [], []⟩), (13, ⟨[], [], [], [], [(43, .v (.int .u64 ya5))], [], [], []⟩)], [], [], []⟩ (polF 10) [(0, ⟨[1, 4, 5, 21, 22, 23], [9], 0, [], []⟩, ⟨[], [], []⟩)] c_data_Part_L1 (data_Part_L1_S l hart sa) K
  = ((AV.v (.bool (decide (sa.1 < (l.length : Int)))) = AV.v (.bool true)) ∧ (at? (l.map Piece.enc) sa.1 = some [.v (.string xa2.Name), .v (.int .i64 xa2.Size), .v (.int .i64 xa2.Hart)]) ∧ (AV.v (.bool (decide (xa2.Hart < hart))) = AV.v (.bool false)) ∧ (AV.v (.bool (decide (xa2.Hart ≤ hart))) = AV.v (.bool true)) ∧ (pc 26 [.agg [.v (.string xa2.Name), .v (.int .i64 xa2.Size), .v (.int .i64 xa2.Hart)]] (fun x => x = .v (.int .u64 ya5))) ∧ K .nrm (data_Part_L1_S l hart ((addW .i64 sa.1 1), sa.2.1, (addW .u64 sa.2.2 ya5)))) := by kernel_rfl
theorem data_Part_L1_p3 (l : (List Piece)) (hart : Int) (sa : Int × Int × Int) (xa2 : Piece) (K : Ex → St → Prop) : oround (cx pc sc lp) cd ⟨ord10, [(8, ⟨[], [], [], [(24, .v (.bool true))], [], [], [], []⟩), (9, ⟨[], [], [(25, [.v (.string xa2.Name), .v (.int .i64 xa2.Size), .v (.int .i64 xa2.Hart)])], [], [], [], [], []⟩), (10, ⟨[], [], [], [(30, .v (.bool false))], [], [], [], []⟩), (12, ⟨[], [], [], [(39, .v (.bool false))], [], [], [], []⟩)], [], [], []⟩ (polF 10) [(0, ⟨[1, 4, 5, 21, 22, 23], [9], 0, [], []⟩, ⟨[], [], []⟩)] c_data_Part_L1 (data_Part_L1_S l hart sa) K
  = ((AV.v (.bool (decide (sa.1 < (l.length : Int)))) = AV.v (.bool true)) ∧ (at? (l.map Piece.enc) sa.1 = some [.v (.string xa2.Name), .v (.int .i64 xa2.Size), .v (.int .i64 xa2.Hart)]) ∧ (AV.v (.bool (decide (xa2.Hart < hart))) = AV.v (.bool false)) ∧ (AV.v (.bool (decide (xa2.Hart ≤ hart))) = AV.v (.bool false)) ∧ K .nrm (data_Part_L1_S l hart ((addW .i64 sa.1 1), sa.2.1, sa.2.2))) := by kernel_rfl
theorem data_Part_L1_p4 (l : (List Piece)) (hart : Int) (sa : Int × Int × Int) (K : Ex → St → Prop) : oround (cx pc sc lp) cd ⟨ord10, [(8, ⟨[], [], [], [(24, .v (.bool false))], [], [], [], []⟩)], [], [], []⟩ (polF 10) [(2, ⟨[4, 5], [], 0, [], []⟩, ⟨[], [], []⟩)] c_data_Part_L1 (data_Part_L1_S l hart sa) K
  = ((AV.v (.bool (decide (sa.1 < (l.length : Int)))) = AV.v (.bool false)) ∧ K (.ex 0) (data_Part_L1_T0 l hart (sa.2.1, sa.2.2))) := by kernel_rfl
theorem data_Part_L1_sim (n : Nat) (l : (List Piece)) (hart : Int) : ∀ sa r, data_Part_L1 n l hart sa = some r → CodeD Try.prog c_data_Part_L1 (data_Part_L1_S l hart sa) (rk (data_Part_L1_S l hart) (data_Part_L1_out l hart) r) := by
  intro sa r h
  unfold data_Part_L1 at h
  rcases bcase (decide (sa.1 < (l.length : Int))) with ha1 | ha1
  · replace h := iteT ha1 h
    obtain ⟨xa2, gxa2, h⟩ := bindE h
    rcases bcase (decide (xa2.Hart < hart)) with ha3 | ha3
    · replace h := iteT ha3 h
      obtain ⟨ya4, gya4, h⟩ := bindE h
      rcases bcase (decide (xa2.Hart ≤ hart)) with ha5 | ha5
      · replace h := iteT ha5 h
        obtain ⟨ya6, gya6, h⟩ := bindE h
        have e := Option.some.inj h
        subst e
        exact okR ordB_data_Part_L1 (Eq.mpr (data_Part_L1_p0 (PCall Try.prog) (SD Try.prog) (LoopD Try.prog) (CodeD Try.prog) l hart sa xa2 ya4 ya6 _) ⟨congrArg aBool ha1, at_map Piece.enc gxa2, congrArg aBool ha3, (data_piece_bytes_sim n (data_piece.mk xa2) ya4 gya4), congrArg aBool ha5, (data_piece_bytes_sim n (data_piece.mk xa2) ya6 gya6), ⟨rfl, rfl⟩⟩) rkN
      · replace h := iteF ha5 h
        have e := Option.some.inj h
        subst e
        exact okR ordB_data_Part_L1 (Eq.mpr (data_Part_L1_p1 (PCall Try.prog) (SD Try.prog) (LoopD Try.prog) (CodeD Try.prog) l hart sa xa2 ya4 _) ⟨congrArg aBool ha1, at_map Piece.enc gxa2, congrArg aBool ha3, (data_piece_bytes_sim n (data_piece.mk xa2) ya4 gya4), congrArg aBool ha5, ⟨rfl, rfl⟩⟩) rkN
    · replace h := iteF ha3 h
      rcases bcase (decide (xa2.Hart ≤ hart)) with ha4 | ha4
      · replace h := iteT ha4 h
        obtain ⟨ya5, gya5, h⟩ := bindE h
        have e := Option.some.inj h
        subst e
        exact okR ordB_data_Part_L1 (Eq.mpr (data_Part_L1_p2 (PCall Try.prog) (SD Try.prog) (LoopD Try.prog) (CodeD Try.prog) l hart sa xa2 ya5 _) ⟨congrArg aBool ha1, at_map Piece.enc gxa2, congrArg aBool ha3, congrArg aBool ha4, (data_piece_bytes_sim n (data_piece.mk xa2) ya5 gya5), ⟨rfl, rfl⟩⟩) rkN
      · replace h := iteF ha4 h
        have e := Option.some.inj h
        subst e
        exact okR ordB_data_Part_L1 (Eq.mpr (data_Part_L1_p3 (PCall Try.prog) (SD Try.prog) (LoopD Try.prog) (CodeD Try.prog) l hart sa xa2 _) ⟨congrArg aBool ha1, at_map Piece.enc gxa2, congrArg aBool ha3, congrArg aBool ha4, ⟨rfl, rfl⟩⟩) rkN
  · replace h := iteF ha1 h
    have e := Option.some.inj h
    subst e
    exact okR ordB_data_Part_L1 (Eq.mpr (data_Part_L1_p4 (PCall Try.prog) (SD Try.prog) (LoopD Try.prog) (CodeD Try.prog) l hart sa _) ⟨congrArg aBool ha1, ⟨rfl, rfl⟩⟩) (rkE rfl neE)

theorem data_Part_p0 (l : (List Piece)) (hart : Int) (y1 : Int) (K : AV → Prop) : opure (cx pc sc lp) cd ⟨ord10, [(1, ⟨[], [], [], [], [(11, .v (.int .i64 y1))], [], [], []⟩), (2, ⟨[], [], [], [(13, .v (.bool true))], [], [], [], []⟩)], [], [], []⟩ 10 [.sl (l.map Piece.enc), .v (.int .i64 hart)] K
  = ((pc 9 [.sl (l.map Piece.enc)] (fun x => x = .v (.int .i64 y1))) ∧ (AV.v (.bool (y1 != 0)) = AV.v (.bool true)) ∧ K (.tup [.v (.int .u64 0), .v (.int .u64 0), .v (.int .i64 y1)])) := by kernel_rfl
theorem data_Part_p1 (l : (List Piece)) (hart : Int) (y1 : Int) (K : AV → Prop) : opure (cx pc sc lp) cd ⟨ord10, [(1, ⟨[], [], [], [], [(11, .v (.int .i64 y1))], [], [], []⟩), (2, ⟨[], [], [], [(13, .v (.bool false))], [], [], [], []⟩), (4, ⟨[], [], [], [(17, .v (.bool true))], [], [], [], []⟩)], [], [], []⟩ 10 [.sl (l.map Piece.enc), .v (.int .i64 hart)] K
  = ((pc 9 [.sl (l.map Piece.enc)] (fun x => x = .v (.int .i64 y1))) ∧ (AV.v (.bool (y1 != 0)) = AV.v (.bool false)) ∧ (AV.v (.bool (decide (hart < (-1)))) = AV.v (.bool true)) ∧ K (.tup [.v (.int .u64 0), .v (.int .u64 0), .v (.int .i64 2)])) := by kernel_rfl
theorem data_Part_p2 (l : (List Piece)) (hart : Int) (y1 : Int) (K : AV → Prop) : opure (cx pc sc lp) cd ⟨ord10, [(1, ⟨[], [], [], [], [(11, .v (.int .i64 y1))], [], [], []⟩), (2, ⟨[], [], [], [(13, .v (.bool false))], [], [], [], []⟩), (4, ⟨[], [], [], [(17, .v (.bool false)), (20, .v (.bool true))], [], [], [], []⟩)], [], [], []⟩ 10 [.sl (l.map Piece.enc), .v (.int .i64 hart)] K
  = ((pc 9 [.sl (l.map Piece.enc)] (fun x => x = .v (.int .i64 y1))) ∧ (AV.v (.bool (y1 != 0)) = AV.v (.bool false)) ∧ (AV.v (.bool (decide (hart < (-1)))) = AV.v (.bool false)) ∧ (AV.v (.bool (decide (hart ≥ 8))) = AV.v (.bool true)) ∧ K (.tup [.v (.int .u64 0), .v (.int .u64 0), .v (.int .i64 2)])) := by kernel_rfl
theorem data_Part_p3 (l : (List Piece)) (hart : Int) (y1 : Int) (t5 : (Int × Int)) (K : AV → Prop) : opure (cx pc sc lp) cd ⟨ord10, [(1, ⟨[], [], [], [], [(11, .v (.int .i64 y1))], [], [], []⟩), (2, ⟨[], [], [], [(13, .v (.bool false))], [], [], [], []⟩), (4, ⟨[], [], [], [(17, .v (.bool false)), (20, .v (.bool false))], [], [], [], []⟩), (7, ⟨[], [], [], [(22, .v (.int .i64 (l.length : Int)))], [], [], [], []⟩)], [], [(8, (⟨[1, 4, 5, 21, 22, 23], [], 0, [], []⟩, ⟨[], [], []⟩, (.ex 0), data_Part_L1_T0 l hart t5))], []⟩ 10 [.sl (l.map Piece.enc), .v (.int .i64 hart)] K
  = ((pc 9 [.sl (l.map Piece.enc)] (fun x => x = .v (.int .i64 y1))) ∧ (AV.v (.bool (y1 != 0)) = AV.v (.bool false)) ∧ (AV.v (.bool (decide (hart < (-1)))) = AV.v (.bool false)) ∧ (AV.v (.bool (decide (hart ≥ 8))) = AV.v (.bool false)) ∧ (AV.v (.int .i64 (((l.map Piece.enc).length : Nat) : Int)) = AV.v (.int .i64 (l.length : Int))) ∧ (lp (polF 10) c_data_Part_L1 (data_Part_L1_S l hart (0, 1048576, 1048576)) (fun e' S' => e' = (.ex 0) ∧ S' = data_Part_L1_T0 l hart t5)) ∧ K (.tup [.v (.int .u64 t5.1), .v (.int .u64 t5.2), .v (.int .i64 0)])) := by kernel_rfl
theorem data_Part_sim (n : Nat) (l : (List Piece)) (hart : Int) (r : Int × Int × Int) (h : data_Part n l hart = some r) : PCall Try.prog 10 [.sl (l.map Piece.enc), .v (.int .i64 hart)] (fun x => x = .tup [.v (.int .u64 r.1), .v (.int .u64 r.2.1), .v (.int .i64 r.2.2)]) := by
  unfold data_Part at h
  obtain ⟨y1, gy1, h⟩ := bindE h
  rcases bcase (y1 != 0) with h2 | h2
  · replace h := iteT h2 h
    have e := Option.some.inj h
    subst e
    exact okP ordB10 (Eq.mpr (data_Part_p0 (PCall Try.prog) (SD Try.prog) (LoopD Try.prog) (CodeD Try.prog) l hart y1 _) (⟨(data_Check_sim n l y1 gy1), congrArg aBool h2, LeA.refl _⟩))
  · replace h := iteF h2 h
    rcases bcase (decide (hart < (-1))) with h3 | h3
    · replace h := iteT h3 h
      have e := Option.some.inj h
      subst e
      exact okP ordB10 (Eq.mpr (data_Part_p1 (PCall Try.prog) (SD Try.prog) (LoopD Try.prog) (CodeD Try.prog) l hart y1 _) (⟨(data_Check_sim n l y1 gy1), congrArg aBool h2, congrArg aBool h3, LeA.refl _⟩))
    · replace h := iteF h3 h
      rcases bcase (decide (hart ≥ 8)) with h4 | h4
      · replace h := iteT h4 h
        have e := Option.some.inj h
        subst e
        exact okP ordB10 (Eq.mpr (data_Part_p2 (PCall Try.prog) (SD Try.prog) (LoopD Try.prog) (CodeD Try.prog) l hart y1 _) (⟨(data_Check_sim n l y1 gy1), congrArg aBool h2, congrArg aBool h3, congrArg aBool h4, LeA.refl _⟩))
      · replace h := iteF h4 h
        obtain ⟨t5, gt5, h⟩ := bindE h
        have e := Option.some.inj h
        subst e
        exact okP ordB10 (Eq.mpr (data_Part_p3 (PCall Try.prog) (SD Try.prog) (LoopD Try.prog) (CodeD Try.prog) l hart y1 t5 _) (⟨(data_Check_sim n l y1 gy1), congrArg aBool h2, congrArg aBool h3, congrArg aBool h4, len_map _ _, okL (data_Part_L1_S l hart) (data_Part_L1_out l hart) (data_Part_L1_sim n l hart) n _ t5 gt5, LeA.refl _⟩))

def ord19 : List (Nat × List Nat) := []
theorem ordB19 : ordB (polF 19) ord19 (bodyOf Try.prog 19) = true := by kernel_rfl
noncomputable def c_ref_Part_L1 : Code := sub (bodyOf Try.prog 19) [1, 1, 1, 1, 1, 0, 1, 0, 0]
theorem ordB_ref_Part_L1 : ordB (polF 19) ord19 c_ref_Part_L1 = true := by kernel_rfl
def ref_Part_L1_S (l : (List Piece)) (hart : Int) (sa : Int × Int × Int) : St := mkS 64 [(0, .sl (l.map Piece.enc)), (1, .v (.int .i64 hart)), (8, .v (.int .u64 sa.2.1)), (9, .v (.int .u64 sa.2.2)), (10, .v (.int .i64 sa.1))] [] [] 0
def ref_Part_L1_T0 (l : (List Piece)) (hart : Int) (tt : Int × Int) : St := mkS 64 [(8, .v (.int .u64 tt.1)), (9, .v (.int .u64 tt.2))] [] [] 0
def ref_Part_L1_out (l : (List Piece)) (hart : Int) (tt : (Int × Int)) : Ex × St := (.ex 0, ref_Part_L1_T0 l hart tt)
theorem ref_Part_L1_p0 (l : (List Piece)) (hart : Int) (sa : Int × Int × Int) (xa2 : Piece) (K : Ex → St → Prop) : oround (cx pc sc lp) cd ⟨ord19, [(8, ⟨[], [], [], [(24, .v (.int .i64 (l.length : Int))), (25, .v (.bool true))], [], [], [], []⟩), (10, ⟨[], [], [(30, [.v (.string xa2.Name), .v (.int .i64 xa2.Size), .v (.int .i64 xa2.Hart)])], [(34, .v (.bool true))], [], [], [], []⟩), (11, ⟨[], [], [(38, [.v (.string xa2.Name), .v (.int .i64 xa2.Size), .v (.int .i64 xa2.Hart)])], [], [], [], [], []⟩), (12, ⟨[], [], [(46, [.v (.string xa2.Name), .v (.int .i64 xa2.Size), .v (.int .i64 xa2.Hart)])], [(50, .v (.bool true))], [], [], [], []⟩), (13, ⟨[], [], [(54, [.v (.string xa2.Name), .v (.int .i64 xa2.Size), .v (.int .i64 xa2.Hart)])], [], [], [], [], []⟩)], [], [], []⟩ (polF 19) [(0, ⟨[0, 1, 8, 9, 10], [], 0, [], []⟩, ⟨[], [], []⟩)] c_ref_Part_L1 (ref_Part_L1_S l hart sa) K
  = ((AV.v (.int .i64 (((l.map Piece.enc).length : Nat) : Int)) = AV.v (.int .i64 (l.length : Int))) ∧ (AV.v (.bool (decide (sa.1 < (l.length : Int)))) = AV.v (.bool true)) ∧ (at? (l.map Piece.enc) sa.1 = some [.v (.string xa2.Name), .v (.int .i64 xa2.Size), .v (.int .i64 xa2.Hart)]) ∧ (AV.v (.bool (decide (xa2.Hart < hart))) = AV.v (.bool true)) ∧ (at? (l.map Piece.enc) sa.1 = some [.v (.string xa2.Name), .v (.int .i64 xa2.Size), .v (.int .i64 xa2.Hart)]) ∧ (at? (l.map Piece.enc) sa.1 = some [.v (.string xa2.Name), .v (.int .i64 xa2.Size), .v (.int .i64 xa2.Hart)]) ∧ (AV.v (.bool (xa2.Hart == hart)) = AV.v (.bool true)) ∧ (at? (l.map Piece.enc) sa.1 = some [.v (.string xa2.Name), .v (.int .i64 xa2.Size), .v (.int .i64 xa2.Hart)]) ∧ K .nrm (ref_Part_L1_S l hart ((addW .i64 sa.1 1), (addW .u64 sa.2.1 (mulW .u64 8 (IntKind.wrap .u64 xa2.Size))), (addW .u64 sa.2.2 (mulW .u64 8 (IntKind.wrap .u64 xa2.Size)))))) := by kernel_rfl
theorem ref_Part_L1_p1 (l : (List Piece)) (hart : Int) (sa : Int × Int × Int) (xa2 : Piece) (K : Ex → St → Prop) : oround (cx pc sc lp) cd ⟨ord19, [(8, ⟨[], [], [], [(24, .v (.int .i64 (l.length : Int))), (25, .v (.bool true))], [], [], [], []⟩), (10, ⟨[], [], [(30, [.v (.string xa2.Name), .v (.int .i64 xa2.Size), .v (.int .i64 xa2.Hart)])], [(34, .v (.bool true))], [], [], [], []⟩), (11, ⟨[], [], [(38, [.v (.string xa2.Name), .v (.int .i64 xa2.Size), .v (.int .i64 xa2.Hart)])], [], [], [], [], []⟩), (12, ⟨[], [], [(46, [.v (.string xa2.Name), .v (.int .i64 xa2.Size), .v (.int .i64 xa2.Hart)])], [(50, .v (.bool false))], [], [], [], []⟩)], [], [], []⟩ (polF 19) [(0, ⟨[0, 1, 8, 9, 10], [], 0, [], []⟩, ⟨[], [], []⟩)] c_ref_Part_L1 (ref_Part_L1_S l hart sa) K
  = ((AV.v (.int .i64 (((l.map Piece.enc).length : Nat) : Int)) = AV.v (.int .i64 (l.length : Int))) ∧ (AV.v (.bool (decide (sa.1 < (l.length : Int)))) = AV.v (.bool true)) ∧ (at? (l.map Piece.enc) sa.1 = some [.v (.string xa2.Name), .v (.int .i64 xa2.Size), .v (.int .i64 xa2.Hart)]) ∧ (AV.v (.bool (decide (xa2.Hart < hart))) = AV.v (.bool true)) ∧ (at? (l.map Piece.enc) sa.1 = some [.v (.string xa2.Name), .v (.int .i64 xa2.Size), .v (.int .i64 xa2.Hart)]) ∧ (at? (l.map Piece.enc) sa.1 = some [.v (.string xa2.Name), .v (.int .i64 xa2.Size), .v (.int .i64 xa2.Hart)]) ∧ (AV.v (.bool (xa2.Hart == hart)) = AV.v (.bool false)) ∧ K .nrm (ref_Part_L1_S l hart ((addW .i64 sa.1 1), (addW .u64 sa.2.1 (mulW .u64 8 (IntKind.wrap .u64 xa2.Size))), sa.2.2))) := by kernel_rfl
theorem ref_Part_L1_p2 (l : (List Piece)) (hart : Int) (sa : Int × Int × Int) (xa2 : Piece) (K : Ex → St → Prop) : oround (cx pc sc lp) cd ⟨ord19, [(8, ⟨[], [], [], [(24, .v (.int .i64 (l.length : Int))), (25, .v (.bool true))], [], [], [], []⟩), (10, ⟨[], [], [(30, [.v (.string xa2.Name), .v (.int .i64 xa2.Size), .v (.int .i64 xa2.Hart)])], [(34, .v (.bool false))], [], [], [], []⟩), (12, ⟨[], [], [(46, [.v (.string xa2.Name), .v (.int .i64 xa2.Size), .v (.int .i64 xa2.Hart)])], [(50, .v (.bool true))], [], [], [], []⟩), (13, ⟨[], [], [(54, [.v (.string xa2.Name), .v (.int .i64 xa2.Size), .v (.int .i64 xa2.Hart)])], [], [], [], [], []⟩)], [], [], []⟩ (polF 19) [(0, ⟨[0, 1, 8, 9, 10], [], 0, [], []⟩, ⟨[], [], []⟩)] c_ref_Part_L1 (ref_Part_L1_S l hart sa) K
  = ((AV.v (.int .i64 (((l.map Piece.enc).length : Nat) : Int)) = AV.v (.int .i64 (l.length : Int))) ∧ (AV.v (.bool (decide (sa.1 < (l.length : Int)))) = AV.v (.bool true)) ∧ (at? (l.map Piece.enc) sa.1 = some [.v (.string xa2.Name), .v (.int .i64 xa2.Size), .v (.int .i64 xa2.Hart)]) ∧ (AV.v (.bool (decide (xa2.Hart < hart))) = AV.v (.bool false)) ∧ (at? (l.map Piece.enc) sa.1 = some [.v (.string xa2.Name), .v (.int .i64 xa2.Size), .v (.int .i64 xa2.Hart)]) ∧ (AV.v (.bool (xa2.Hart == hart)) = AV.v (.bool true)) ∧ (at? (l.map Piece.enc) sa.1 = some [.v (.string xa2.Name), .v (.int .i64 xa2.Size), .v (.int .i64 xa2.Hart)]) ∧ K .nrm (ref_Part_L1_S l hart ((addW .i64 sa.1 1), sa.2.1, (addW .u64 sa.2.2 (mulW .u64 8 (IntKind.wrap .u64 xa2.Size)))))) := by kernel_rfl
theorem ref_Part_L1_p3 (l : (List Piece)) (hart : Int) (sa : Int × Int × Int) (xa2 : Piece) (K : Ex → St → Prop) : oround (cx pc sc lp) cd ⟨ord19, [(8, ⟨[], [], [], [(24, .v (.int .i64 (l.length : Int))), (25, .v (.bool true))], [], [], [], []⟩), (10, ⟨[], [], [(30, [.v (.string xa2.Name), .v (.int .i64 xa2.Size), .v (.int .i64 xa2.Hart)])], [(34, .v (.bool false))], [], [], [], []⟩), (12, ⟨[], [], [(46, [.v (.string xa2.Name), .v (.int .i64 xa2.Size), .v (.int .i64 xa2.Hart)])], [(50, .v (.bool false))], [], [], [], []⟩)], [], [], []⟩ (polF 19) [(0, ⟨[0, 1, 8, 9, 10], [], 0, [], []⟩, ⟨[], [], []⟩)] c_ref_Part_L1 (ref_Part_L1_S l hart sa) K
  = ((AV.v (.int .i64 (((l.map Piece.enc).length : Nat) : Int)) = AV.v (.int .i64 (l.length : Int))) ∧ (AV.v (.bool (decide (sa.1 < (l.length : Int)))) = AV.v (.bool true)) ∧ (at? (l.map Piece.enc) sa.1 = some [.v (.string xa2.Name), .v (.int .i64 xa2.Size), .v (.int .i64 xa2.Hart)]) ∧ (AV.v (.bool (decide (xa2.Hart < hart))) = AV.v (.bool false)) ∧ (at? (l.map Piece.enc) sa.1 = some [.v (.string xa2.Name), .v (.int .i64 xa2.Size), .v (.int .i64 xa2.Hart)]) ∧ (AV.v (.bool (xa2.Hart == hart)) = AV.v (.bool false)) ∧ K .nrm (ref_Part_L1_S l hart ((addW .i64 sa.1 1), sa.2.1, sa.2.2))) := by kernel_rfl
theorem ref_Part_L1_p4 (l : (List Piece)) (hart : Int) (sa : Int × Int × Int) (K : Ex → St → Prop) : oround (cx pc sc lp) cd ⟨ord19, [(8, ⟨[], [], [], [(24, .v (.int .i64 (l.length : Int))), (25, .v (.bool false))], [], [], [], []⟩)], [], [], []⟩ (polF 19) [(2, ⟨[8, 9], [], 0, [], []⟩, ⟨[], [], []⟩)] c_ref_Part_L1 (ref_Part_L1_S l hart sa) K
  = ((AV.v (.int .i64 (((l.map Piece.enc).length : Nat) : Int)) = AV.v (.int .i64 (l.length : Int))) ∧ (AV.v (.bool (decide (sa.1 < (l.length : Int)))) = AV.v (.bool false)) ∧ K (.ex 0) (ref_Part_L1_T0 l hart (sa.2.1, sa.2.2))) := by kernel_rfl
theorem ref_Part_L1_sim (n : Nat) (l : (List Piece)) (hart : Int) : ∀ sa r, ref_Part_L1 n l hart sa = some r → CodeD Try.prog c_ref_Part_L1 (ref_Part_L1_S l hart sa) (rk (ref_Part_L1_S l hart) (ref_Part_L1_out l hart) r) := by
  intro sa r h
  unfold ref_Part_L1 at h
  rcases bcase (decide (sa.1 < (l.length : Int))) with ha1 | ha1
  · replace h := iteT ha1 h
    obtain ⟨xa2, gxa2, h⟩ := bindE h
    rcases bcase (decide (xa2.Hart < hart)) with ha3 | ha3
    · replace h := iteT ha3 h
      rcases bcase (xa2.Hart == hart) with ha4 | ha4
      · replace h := iteT ha4 h
        have e := Option.some.inj h
        subst e
        exact okR ordB_ref_Part_L1 (Eq.mpr (ref_Part_L1_p0 (PCall Try.prog) (SD Try.prog) (LoopD Try.prog) (CodeD Try.prog) l hart sa xa2 _) ⟨len_map _ _, congrArg aBool ha1, at_map Piece.enc gxa2, congrArg aBool ha3, at_map Piece.enc gxa2, at_map Piece.enc gxa2, congrArg aBool ha4, at_map Piece.enc gxa2, ⟨rfl, rfl⟩⟩) rkN
      · replace h := iteF ha4 h
        have e := Option.some.inj h
        subst e
        exact okR ordB_ref_Part_L1 (Eq.mpr (ref_Part_L1_p1 (PCall Try.prog) (SD Try.prog) (LoopD Try.prog) (CodeD Try.prog) l hart sa xa2 _) ⟨len_map _ _, congrArg aBool ha1, at_map Piece.enc gxa2, congrArg aBool ha3, at_map Piece.enc gxa2, at_map Piece.enc gxa2, congrArg aBool ha4, ⟨rfl, rfl⟩⟩) rkN
    · replace h := iteF ha3 h
      rcases bcase (xa2.Hart == hart) with ha4 | ha4
      · replace h := iteT ha4 h
        have e := Option.some.inj h
        subst e
        exact okR ordB_ref_Part_L1 (Eq.mpr (ref_Part_L1_p2 (PCall Try.prog) (SD Try.prog) (LoopD Try.prog) (CodeD Try.prog) l hart sa xa2 _) ⟨len_map _ _, congrArg aBool ha1, at_map Piece.enc gxa2, congrArg aBool ha3, at_map Piece.enc gxa2, congrArg aBool ha4, at_map Piece.enc gxa2, ⟨rfl, rfl⟩⟩) rkN
      · replace h := iteF ha4 h
        have e := Option.some.inj h
        subst e
        exact okR ordB_ref_Part_L1 (Eq.mpr (ref_Part_L1_p3 (PCall Try.prog) (SD Try.prog) (LoopD Try.prog) (CodeD Try.prog) l hart sa xa2 _) ⟨len_map _ _, congrArg aBool ha1, at_map Piece.enc gxa2, congrArg aBool ha3, at_map Piece.enc gxa2, congrArg aBool ha4, ⟨rfl, rfl⟩⟩) rkN
  · replace h := iteF ha1 h
    have e := Option.some.inj h
    subst e
    exact okR ordB_ref_Part_L1 (Eq.mpr (ref_Part_L1_p4 (PCall Try.prog) (SD Try.prog) (LoopD Try.prog) (CodeD Try.prog) l hart sa _) ⟨len_map _ _, congrArg aBool ha1, ⟨rfl, rfl⟩⟩) (rkE rfl neE)

theorem ref_Part_p0 (l : (List Piece)) (hart : Int) (y1 : Int) (K : AV → Prop) : opure (cx pc sc lp) cd ⟨ord19, [(1, ⟨[], [], [], [], [(12, .v (.int .i64 y1))], [], [], []⟩), (2, ⟨[], [], [], [(14, .v (.bool true))], [], [], [], []⟩)], [], [], []⟩ 19 [.sl (l.map Piece.enc), .v (.int .i64 hart)] K
  = ((pc 23 [.sl (l.map Piece.enc)] (fun x => x = .v (.int .i64 y1))) ∧ (AV.v (.bool (y1 != 0)) = AV.v (.bool true)) ∧ K (.tup [.v (.int .u64 0), .v (.int .u64 0), .v (.int .i64 y1)])) := by kernel_rfl
theorem ref_Part_p1 (l : (List Piece)) (hart : Int) (y1 : Int) (K : AV → Prop) : opure (cx pc sc lp) cd ⟨ord19, [(1, ⟨[], [], [], [], [(12, .v (.int .i64 y1))], [], [], []⟩), (2, ⟨[], [], [], [(14, .v (.bool false))], [], [], [], []⟩), (4, ⟨[], [], [], [(18, .v (.bool true))], [], [], [], []⟩)], [], [], []⟩ 19 [.sl (l.map Piece.enc), .v (.int .i64 hart)] K
  = ((pc 23 [.sl (l.map Piece.enc)] (fun x => x = .v (.int .i64 y1))) ∧ (AV.v (.bool (y1 != 0)) = AV.v (.bool false)) ∧ (AV.v (.bool (decide (hart < (-1)))) = AV.v (.bool true)) ∧ K (.tup [.v (.int .u64 0), .v (.int .u64 0), .v (.int .i64 2)])) := by kernel_rfl
theorem ref_Part_p2 (l : (List Piece)) (hart : Int) (y1 : Int) (K : AV → Prop) : opure (cx pc sc lp) cd ⟨ord19, [(1, ⟨[], [], [], [], [(12, .v (.int .i64 y1))], [], [], []⟩), (2, ⟨[], [], [], [(14, .v (.bool false))], [], [], [], []⟩), (4, ⟨[], [], [], [(18, .v (.bool false)), (21, .v (.bool true))], [], [], [], []⟩)], [], [], []⟩ 19 [.sl (l.map Piece.enc), .v (.int .i64 hart)] K
  = ((pc 23 [.sl (l.map Piece.enc)] (fun x => x = .v (.int .i64 y1))) ∧ (AV.v (.bool (y1 != 0)) = AV.v (.bool false)) ∧ (AV.v (.bool (decide (hart < (-1)))) = AV.v (.bool false)) ∧ (AV.v (.bool (decide (hart ≥ 8))) = AV.v (.bool true)) ∧ K (.tup [.v (.int .u64 0), .v (.int .u64 0), .v (.int .i64 2)])) := by kernel_rfl
theorem ref_Part_p3 (l : (List Piece)) (hart : Int) (y1 : Int) (t5 : (Int × Int)) (K : AV → Prop) : opure (cx pc sc lp) cd ⟨ord19, [(1, ⟨[], [], [], [], [(12, .v (.int .i64 y1))], [], [], []⟩), (2, ⟨[], [], [], [(14, .v (.bool false))], [], [], [], []⟩), (4, ⟨[], [], [], [(18, .v (.bool false)), (21, .v (.bool false))], [], [], [], []⟩)], [], [(8, (⟨[0, 1, 8, 9, 10], [], 0, [], []⟩, ⟨[], [], []⟩, (.ex 0), ref_Part_L1_T0 l hart t5))], []⟩ 19 [.sl (l.map Piece.enc), .v (.int .i64 hart)] K
  = ((pc 23 [.sl (l.map Piece.enc)] (fun x => x = .v (.int .i64 y1))) ∧ (AV.v (.bool (y1 != 0)) = AV.v (.bool false)) ∧ (AV.v (.bool (decide (hart < (-1)))) = AV.v (.bool false)) ∧ (AV.v (.bool (decide (hart ≥ 8))) = AV.v (.bool false)) ∧ (lp (polF 19) c_ref_Part_L1 (ref_Part_L1_S l hart (0, 1048576, 0)) (fun e' S' => e' = (.ex 0) ∧ S' = ref_Part_L1_T0 l hart t5)) ∧ K (.tup [.v (.int .u64 t5.1), .v (.int .u64 (addW .u64 t5.1 t5.2)), .v (.int .i64 0)])) := by kernel_rfl
theorem ref_Part_sim (n : Nat) (l : (List Piece)) (hart : Int) (r : Int × Int × Int) (h : ref_Part n l hart = some r) : PCall Try.prog 19 [.sl (l.map Piece.enc), .v (.int .i64 hart)] (fun x => x = .tup [.v (.int .u64 r.1), .v (.int .u64 r.2.1), .v (.int .i64 r.2.2)]) := by
  unfold ref_Part at h
  obtain ⟨y1, gy1, h⟩ := bindE h
  rcases bcase (y1 != 0) with h2 | h2
  · replace h := iteT h2 h
    have e := Option.some.inj h
    subst e
    exact okP ordB19 (Eq.mpr (ref_Part_p0 (PCall Try.prog) (SD Try.prog) (LoopD Try.prog) (CodeD Try.prog) l hart y1 _) (⟨(ref_Check_sim n l y1 gy1), congrArg aBool h2, LeA.refl _⟩))
  · replace h := iteF h2 h
    rcases bcase (decide (hart < (-1))) with h3 | h3
    · replace h := iteT h3 h
      have e := Option.some.inj h
      subst e
      exact okP ordB19 (Eq.mpr (ref_Part_p1 (PCall Try.prog) (SD Try.prog) (LoopD Try.prog) (CodeD Try.prog) l hart y1 _) (⟨(ref_Check_sim n l y1 gy1), congrArg aBool h2, congrArg aBool h3, LeA.refl _⟩))
    · replace h := iteF h3 h
      rcases bcase (decide (hart ≥ 8)) with h4 | h4
      · replace h := iteT h4 h
        have e := Option.some.inj h
        subst e
        exact okP ordB19 (Eq.mpr (ref_Part_p2 (PCall Try.prog) (SD Try.prog) (LoopD Try.prog) (CodeD Try.prog) l hart y1 _) (⟨(ref_Check_sim n l y1 gy1), congrArg aBool h2, congrArg aBool h3, congrArg aBool h4, LeA.refl _⟩))
      · replace h := iteF h4 h
        obtain ⟨t5, gt5, h⟩ := bindE h
        have e := Option.some.inj h
        subst e
        exact okP ordB19 (Eq.mpr (ref_Part_p3 (PCall Try.prog) (SD Try.prog) (LoopD Try.prog) (CodeD Try.prog) l hart y1 t5 _) (⟨(ref_Check_sim n l y1 gy1), congrArg aBool h2, congrArg aBool h3, congrArg aBool h4, okL (ref_Part_L1_S l hart) (ref_Part_L1_out l hart) (ref_Part_L1_sim n l hart) n _ t5 gt5, LeA.refl _⟩))

def ord33 : List (Nat × List Nat) := []
theorem ordB33 : ordB (polF 33) ord33 (bodyOf Try.prog 33) = true := by kernel_rfl
theorem data_Find_1_p0 (s_ : Seat) (a : ByteArray) (a_ : Int) (K : AV → Prop) : opure (cx pc sc lp) cd ⟨ord33, [(1, ⟨[], [], [], [(10, .v (.bool true))], [], [], [], []⟩)], [], [], []⟩ 33 [.agg [.v (.string s_.Piece.Name), .v (.int .i64 s_.Piece.Size), .v (.int .i64 s_.Piece.Hart), .v (.int .u64 s_.Addr)], .fptr [.v (.string a)] 0, .fptr [.v (.int .i64 a_)] 0] K
  = ((AV.v (.bool (s_.Piece.Name.toList == a.toList)) = AV.v (.bool true)) ∧ K (.v (.bool (s_.Piece.Hart == a_)))) := by kernel_rfl
theorem data_Find_1_p1 (s_ : Seat) (a : ByteArray) (a_ : Int) (K : AV → Prop) : opure (cx pc sc lp) cd ⟨ord33, [(1, ⟨[], [], [], [(10, .v (.bool false))], [], [], [], []⟩)], [], [], []⟩ 33 [.agg [.v (.string s_.Piece.Name), .v (.int .i64 s_.Piece.Size), .v (.int .i64 s_.Piece.Hart), .v (.int .u64 s_.Addr)], .fptr [.v (.string a)] 0, .fptr [.v (.int .i64 a_)] 0] K
  = ((AV.v (.bool (s_.Piece.Name.toList == a.toList)) = AV.v (.bool false)) ∧ K (.v (.bool false))) := by kernel_rfl
theorem data_Find_1_sim (n : Nat) (s_ : Seat) (a : ByteArray) (a_ : Int) (r : Bool) (h : data_Find_1 n s_ a a_ = some r) : PCall Try.prog 33 [.agg [.v (.string s_.Piece.Name), .v (.int .i64 s_.Piece.Size), .v (.int .i64 s_.Piece.Hart), .v (.int .u64 s_.Addr)], .fptr [.v (.string a)] 0, .fptr [.v (.int .i64 a_)] 0] (fun x => x = .v (.bool r)) := by
  unfold data_Find_1 at h
  rcases bcase (s_.Piece.Name.toList == a.toList) with h1 | h1
  · replace h := iteT h1 h
    have e := Option.some.inj h
    subst e
    exact okP ordB33 (Eq.mpr (data_Find_1_p0 (PCall Try.prog) (SD Try.prog) (LoopD Try.prog) (CodeD Try.prog) s_ a a_ _) (⟨congrArg aBool h1, LeA.refl _⟩))
  · replace h := iteF h1 h
    have e := Option.some.inj h
    subst e
    exact okP ordB33 (Eq.mpr (data_Find_1_p1 (PCall Try.prog) (SD Try.prog) (LoopD Try.prog) (CodeD Try.prog) s_ a a_ _) (⟨congrArg aBool h1, LeA.refl _⟩))

def ord32 : List (Nat × List Nat) := []
theorem ordB32 : ordB (polF 32) ord32 (bodyOf Try.prog 32) = true := by kernel_rfl
noncomputable def c_slices_IndexFunc_api_Seat_api_Seat_L1 : Code := sub (bodyOf Try.prog 32) [1, 0, 1, 0, 0]
theorem ordB_slices_IndexFunc_api_Seat_api_Seat_L1 : ordB (polF 32) ord32 c_slices_IndexFunc_api_Seat_api_Seat_L1 = true := by kernel_rfl
def slices_IndexFunc_api_Seat_api_Seat_L1_S (s_ : (List Seat)) (f : ByteArray) (f_ : Int) (sa : Int) : St := mkS 19 [(0, .sl (s_.map Seat.enc)), (1, .fn 33 [] [.fptr [.v (.string f)] 0, .fptr [.v (.int .i64 f_)] 0]), (7, .v (.int .i64 (s_.length : Int))), (8, .v (.int .i64 sa))] [] [] 0
def slices_IndexFunc_api_Seat_api_Seat_L1_T0 (s_ : (List Seat)) (f : ByteArray) (f_ : Int) (tt : Unit) : St := mkS 19 [] [] [] 0
def slices_IndexFunc_api_Seat_api_Seat_L1_T1 (s_ : (List Seat)) (f : ByteArray) (f_ : Int) (tt : Int) : St := mkS 19 [(4, .v (.int .i64 tt))] [] [] 0
def slices_IndexFunc_api_Seat_api_Seat_L1_out (s_ : (List Seat)) (f : ByteArray) (f_ : Int) (t0 : (Unit ⊕ Int)) : Ex × St := match t0 with | .inl tt => (.ex 0, slices_IndexFunc_api_Seat_api_Seat_L1_T0 s_ f f_ tt) | .inr tt => (.ret, slices_IndexFunc_api_Seat_api_Seat_L1_T1 s_ f f_ tt)
theorem slices_IndexFunc_api_Seat_api_Seat_L1_p0 (s_ : (List Seat)) (f : ByteArray) (f_ : Int) (sa : Int) (xa2 : Seat) (ya3 : Bool) (K : Ex → St → Prop) : oround (cx pc sc lp) cd ⟨ord32, [(2, ⟨[], [], [], [(9, .v (.bool true))], [], [], [], []⟩), (4, ⟨[], [], [(14, [.v (.string xa2.Piece.Name), .v (.int .i64 xa2.Piece.Size), .v (.int .i64 xa2.Piece.Hart), .v (.int .u64 xa2.Addr)])], [(16, .v (.bool true))], [(16, .v (.bool ya3))], [], [], []⟩)], [], [], []⟩ (polF 32) [(1, ⟨[4], [], 0, [], []⟩, ⟨[], [], []⟩)] c_slices_IndexFunc_api_Seat_api_Seat_L1 (slices_IndexFunc_api_Seat_api_Seat_L1_S s_ f f_ sa) K
  = ((AV.v (.bool (decide (sa < (s_.length : Int)))) = AV.v (.bool true)) ∧ (at? (s_.map Seat.enc) sa = some [.v (.string xa2.Piece.Name), .v (.int .i64 xa2.Piece.Size), .v (.int .i64 xa2.Piece.Hart), .v (.int .u64 xa2.Addr)]) ∧ (pc 33 [.agg [.v (.string xa2.Piece.Name), .v (.int .i64 xa2.Piece.Size), .v (.int .i64 xa2.Piece.Hart), .v (.int .u64 xa2.Addr)], .fptr [.v (.string f)] 0, .fptr [.v (.int .i64 f_)] 0] (fun x => x = .v (.bool ya3))) ∧ (AV.v (.bool ya3) = AV.v (.bool true)) ∧ K .ret (slices_IndexFunc_api_Seat_api_Seat_L1_T1 s_ f f_ sa)) := by kernel_rfl
theorem slices_IndexFunc_api_Seat_api_Seat_L1_p1 (s_ : (List Seat)) (f : ByteArray) (f_ : Int) (sa : Int) (xa2 : Seat) (ya3 : Bool) (K : Ex → St → Prop) : oround (cx pc sc lp) cd ⟨ord32, [(2, ⟨[], [], [], [(9, .v (.bool true))], [], [], [], []⟩), (4, ⟨[], [], [(14, [.v (.string xa2.Piece.Name), .v (.int .i64 xa2.Piece.Size), .v (.int .i64 xa2.Piece.Hart), .v (.int .u64 xa2.Addr)])], [(16, .v (.bool false))], [(16, .v (.bool ya3))], [], [], []⟩)], [], [], []⟩ (polF 32) [(0, ⟨[0, 1, 7, 8], [], 0, [], []⟩, ⟨[], [], []⟩)] c_slices_IndexFunc_api_Seat_api_Seat_L1 (slices_IndexFunc_api_Seat_api_Seat_L1_S s_ f f_ sa) K
  = ((AV.v (.bool (decide (sa < (s_.length : Int)))) = AV.v (.bool true)) ∧ (at? (s_.map Seat.enc) sa = some [.v (.string xa2.Piece.Name), .v (.int .i64 xa2.Piece.Size), .v (.int .i64 xa2.Piece.Hart), .v (.int .u64 xa2.Addr)]) ∧ (pc 33 [.agg [.v (.string xa2.Piece.Name), .v (.int .i64 xa2.Piece.Size), .v (.int .i64 xa2.Piece.Hart), .v (.int .u64 xa2.Addr)], .fptr [.v (.string f)] 0, .fptr [.v (.int .i64 f_)] 0] (fun x => x = .v (.bool ya3))) ∧ (AV.v (.bool ya3) = AV.v (.bool false)) ∧ K .nrm (slices_IndexFunc_api_Seat_api_Seat_L1_S s_ f f_ (addW .i64 sa 1))) := by kernel_rfl
theorem slices_IndexFunc_api_Seat_api_Seat_L1_p2 (s_ : (List Seat)) (f : ByteArray) (f_ : Int) (sa : Int) (K : Ex → St → Prop) : oround (cx pc sc lp) cd ⟨ord32, [(2, ⟨[], [], [], [(9, .v (.bool false))], [], [], [], []⟩)], [], [], []⟩ (polF 32) [(2, ⟨[], [], 0, [], []⟩, ⟨[], [], []⟩)] c_slices_IndexFunc_api_Seat_api_Seat_L1 (slices_IndexFunc_api_Seat_api_Seat_L1_S s_ f f_ sa) K
  = ((AV.v (.bool (decide (sa < (s_.length : Int)))) = AV.v (.bool false)) ∧ K (.ex 0) (slices_IndexFunc_api_Seat_api_Seat_L1_T0 s_ f f_ ())) := by kernel_rfl
theorem slices_IndexFunc_api_Seat_api_Seat_L1_sim (n : Nat) (s_ : (List Seat)) (f : ByteArray) (f_ : Int) : ∀ sa r, slices_IndexFunc_api_Seat_api_Seat_L1 n s_ f f_ sa = some r → CodeD Try.prog c_slices_IndexFunc_api_Seat_api_Seat_L1 (slices_IndexFunc_api_Seat_api_Seat_L1_S s_ f f_ sa) (rk (slices_IndexFunc_api_Seat_api_Seat_L1_S s_ f f_) (slices_IndexFunc_api_Seat_api_Seat_L1_out s_ f f_) r) := by
  intro sa r h
  unfold slices_IndexFunc_api_Seat_api_Seat_L1 at h
  rcases bcase (decide (sa < (s_.length : Int))) with ha1 | ha1
  · replace h := iteT ha1 h
    obtain ⟨xa2, gxa2, h⟩ := bindE h
    obtain ⟨ya3, gya3, h⟩ := bindE h
    rcases bcase ya3 with ha4 | ha4
    · replace h := iteT ha4 h
      have e := Option.some.inj h
      subst e
      exact okR ordB_slices_IndexFunc_api_Seat_api_Seat_L1 (Eq.mpr (slices_IndexFunc_api_Seat_api_Seat_L1_p0 (PCall Try.prog) (SD Try.prog) (LoopD Try.prog) (CodeD Try.prog) s_ f f_ sa xa2 ya3 _) ⟨congrArg aBool ha1, at_map Seat.enc gxa2, (data_Find_1_sim n xa2 f f_ ya3 gya3), congrArg aBool ha4, ⟨rfl, rfl⟩⟩) (rkE rfl neR)
    · replace h := iteF ha4 h
      have e := Option.some.inj h
      subst e
      exact okR ordB_slices_IndexFunc_api_Seat_api_Seat_L1 (Eq.mpr (slices_IndexFunc_api_Seat_api_Seat_L1_p1 (PCall Try.prog) (SD Try.prog) (LoopD Try.prog) (CodeD Try.prog) s_ f f_ sa xa2 ya3 _) ⟨congrArg aBool ha1, at_map Seat.enc gxa2, (data_Find_1_sim n xa2 f f_ ya3 gya3), congrArg aBool ha4, ⟨rfl, rfl⟩⟩) rkN
  · replace h := iteF ha1 h
    have e := Option.some.inj h
    subst e
    exact okR ordB_slices_IndexFunc_api_Seat_api_Seat_L1 (Eq.mpr (slices_IndexFunc_api_Seat_api_Seat_L1_p2 (PCall Try.prog) (SD Try.prog) (LoopD Try.prog) (CodeD Try.prog) s_ f f_ sa _) ⟨congrArg aBool ha1, ⟨rfl, rfl⟩⟩) (rkE rfl neE)

theorem slices_IndexFunc_api_Seat_api_Seat_p0 (s_ : (List Seat)) (f : ByteArray) (f_ : Int) (w2 : Unit) (K : AV → Prop) : opure (cx pc sc lp) cd ⟨ord32, [(1, ⟨[], [], [], [(7, .v (.int .i64 (s_.length : Int)))], [], [], [], []⟩)], [], [(2, (⟨[0, 1, 7, 8], [], 0, [], []⟩, ⟨[], [], []⟩, (.ex 0), slices_IndexFunc_api_Seat_api_Seat_L1_T0 s_ f f_ w2))], []⟩ 32 [.sl (s_.map Seat.enc), .fn 33 [] [.fptr [.v (.string f)] 0, .fptr [.v (.int .i64 f_)] 0]] K
  = ((AV.v (.int .i64 (((s_.map Seat.enc).length : Nat) : Int)) = AV.v (.int .i64 (s_.length : Int))) ∧ (lp (polF 32) c_slices_IndexFunc_api_Seat_api_Seat_L1 (slices_IndexFunc_api_Seat_api_Seat_L1_S s_ f f_ 0) (fun e' S' => e' = (.ex 0) ∧ S' = slices_IndexFunc_api_Seat_api_Seat_L1_T0 s_ f f_ w2)) ∧ K (.v (.int .i64 (-1)))) := by kernel_rfl
theorem slices_IndexFunc_api_Seat_api_Seat_p1 (s_ : (List Seat)) (f : ByteArray) (f_ : Int) (w2 : Int) (K : AV → Prop) : opure (cx pc sc lp) cd ⟨ord32, [(1, ⟨[], [], [], [(7, .v (.int .i64 (s_.length : Int)))], [], [], [], []⟩)], [], [(2, (⟨[0, 1, 7, 8], [], 0, [], []⟩, ⟨[], [], []⟩, .ret, slices_IndexFunc_api_Seat_api_Seat_L1_T1 s_ f f_ w2))], []⟩ 32 [.sl (s_.map Seat.enc), .fn 33 [] [.fptr [.v (.string f)] 0, .fptr [.v (.int .i64 f_)] 0]] K
  = ((AV.v (.int .i64 (((s_.map Seat.enc).length : Nat) : Int)) = AV.v (.int .i64 (s_.length : Int))) ∧ (lp (polF 32) c_slices_IndexFunc_api_Seat_api_Seat_L1 (slices_IndexFunc_api_Seat_api_Seat_L1_S s_ f f_ 0) (fun e' S' => e' = .ret ∧ S' = slices_IndexFunc_api_Seat_api_Seat_L1_T1 s_ f f_ w2)) ∧ K (.v (.int .i64 w2))) := by kernel_rfl
theorem slices_IndexFunc_api_Seat_api_Seat_sim (n : Nat) (s_ : (List Seat)) (f : ByteArray) (f_ : Int) (r : Int) (h : slices_IndexFunc_api_Seat_api_Seat n s_ f f_ = some r) : PCall Try.prog 32 [.sl (s_.map Seat.enc), .fn 33 [] [.fptr [.v (.string f)] 0, .fptr [.v (.int .i64 f_)] 0]] (fun x => x = .v (.int .i64 r)) := by
  unfold slices_IndexFunc_api_Seat_api_Seat at h
  obtain ⟨t1, gt1, h⟩ := bindE h
  rcases t1 with w2 | w2
  · skip
    have e := Option.some.inj h
    subst e
    exact okP ordB32 (Eq.mpr (slices_IndexFunc_api_Seat_api_Seat_p0 (PCall Try.prog) (SD Try.prog) (LoopD Try.prog) (CodeD Try.prog) s_ f f_ w2 _) (⟨len_map _ _, okL (slices_IndexFunc_api_Seat_api_Seat_L1_S s_ f f_) (slices_IndexFunc_api_Seat_api_Seat_L1_out s_ f f_) (slices_IndexFunc_api_Seat_api_Seat_L1_sim n s_ f f_) n _ (.inl w2) gt1, LeA.refl _⟩))
  · skip
    have e := Option.some.inj h
    subst e
    exact okP ordB32 (Eq.mpr (slices_IndexFunc_api_Seat_api_Seat_p1 (PCall Try.prog) (SD Try.prog) (LoopD Try.prog) (CodeD Try.prog) s_ f f_ w2 _) (⟨len_map _ _, okL (slices_IndexFunc_api_Seat_api_Seat_L1_S s_ f f_) (slices_IndexFunc_api_Seat_api_Seat_L1_out s_ f f_) (slices_IndexFunc_api_Seat_api_Seat_L1_sim n s_ f f_) n _ (.inr w2) gt1, LeA.refl _⟩))

def ord17 : List (Nat × List Nat) := []
theorem ordB17 : ordB (polF 17) ord17 (bodyOf Try.prog 17) = true := by kernel_rfl
theorem data_Find_p0 (l : (List Seat)) (name : ByteArray) (hart : Int) (y1 : Int) (K : AV → Prop) : opure (cx pc sc lp) cd ⟨ord17, [(1, ⟨[], [], [], [], [(11, .v (.int .i64 y1))], [], [], []⟩), (2, ⟨[], [], [], [(13, .v (.bool true))], [], [], [], []⟩)], [], [], []⟩ 17 [.sl (l.map Seat.enc), .v (.string name), .v (.int .i64 hart)] K
  = ((pc 32 [.sl (l.map Seat.enc), .fn 33 [] [.fptr [.v (.string name)] 0, .fptr [.v (.int .i64 hart)] 0]] (fun x => x = .v (.int .i64 y1))) ∧ (AV.v (.bool (decide (y1 < 0))) = AV.v (.bool true)) ∧ K (.tup [.agg [.v (.string ByteArray.empty), .v (.int .i64 0), .v (.int .i64 0), .v (.int .u64 0)], .v (.int .i64 6)])) := by kernel_rfl
theorem data_Find_p1 (l : (List Seat)) (name : ByteArray) (hart : Int) (y1 : Int) (x3 : Seat) (K : AV → Prop) : opure (cx pc sc lp) cd ⟨ord17, [(1, ⟨[], [], [], [], [(11, .v (.int .i64 y1))], [], [], []⟩), (2, ⟨[], [], [], [(13, .v (.bool false))], [], [], [], []⟩), (4, ⟨[], [], [(17, [.v (.string x3.Piece.Name), .v (.int .i64 x3.Piece.Size), .v (.int .i64 x3.Piece.Hart), .v (.int .u64 x3.Addr)])], [], [], [], [], []⟩)], [], [], []⟩ 17 [.sl (l.map Seat.enc), .v (.string name), .v (.int .i64 hart)] K
  = ((pc 32 [.sl (l.map Seat.enc), .fn 33 [] [.fptr [.v (.string name)] 0, .fptr [.v (.int .i64 hart)] 0]] (fun x => x = .v (.int .i64 y1))) ∧ (AV.v (.bool (decide (y1 < 0))) = AV.v (.bool false)) ∧ (at? (l.map Seat.enc) y1 = some [.v (.string x3.Piece.Name), .v (.int .i64 x3.Piece.Size), .v (.int .i64 x3.Piece.Hart), .v (.int .u64 x3.Addr)]) ∧ K (.tup [.agg [.v (.string x3.Piece.Name), .v (.int .i64 x3.Piece.Size), .v (.int .i64 x3.Piece.Hart), .v (.int .u64 x3.Addr)], .v (.int .i64 0)])) := by kernel_rfl
theorem data_Find_sim (n : Nat) (l : (List Seat)) (name : ByteArray) (hart : Int) (r : Seat × Int) (h : data_Find n l name hart = some r) : PCall Try.prog 17 [.sl (l.map Seat.enc), .v (.string name), .v (.int .i64 hart)] (fun x => x = .tup [.agg [.v (.string r.1.Piece.Name), .v (.int .i64 r.1.Piece.Size), .v (.int .i64 r.1.Piece.Hart), .v (.int .u64 r.1.Addr)], .v (.int .i64 r.2)]) := by
  unfold data_Find at h
  obtain ⟨y1, gy1, h⟩ := bindE h
  rcases bcase (decide (y1 < 0)) with h2 | h2
  · replace h := iteT h2 h
    have e := Option.some.inj h
    subst e
    exact okP ordB17 (Eq.mpr (data_Find_p0 (PCall Try.prog) (SD Try.prog) (LoopD Try.prog) (CodeD Try.prog) l name hart y1 _) (⟨(slices_IndexFunc_api_Seat_api_Seat_sim n l name hart y1 gy1), congrArg aBool h2, LeA.refl _⟩))
  · replace h := iteF h2 h
    obtain ⟨x3, gx3, h⟩ := bindE h
    have e := Option.some.inj h
    subst e
    exact okP ordB17 (Eq.mpr (data_Find_p1 (PCall Try.prog) (SD Try.prog) (LoopD Try.prog) (CodeD Try.prog) l name hart y1 x3 _) (⟨(slices_IndexFunc_api_Seat_api_Seat_sim n l name hart y1 gy1), congrArg aBool h2, at_map Seat.enc gx3, LeA.refl _⟩))

def ord20 : List (Nat × List Nat) := []
theorem ordB20 : ordB (polF 20) ord20 (bodyOf Try.prog 20) = true := by kernel_rfl
noncomputable def c_ref_Find_L1 : Code := sub (bodyOf Try.prog 20) [1, 0, 1, 0, 0]
theorem ordB_ref_Find_L1 : ordB (polF 20) ord20 c_ref_Find_L1 = true := by kernel_rfl
def ref_Find_L1_S (l : (List Seat)) (name : ByteArray) (hart : Int) (sa : Int) : St := mkS 38 [(0, .sl (l.map Seat.enc)), (1, .v (.string name)), (2, .v (.int .i64 hart)), (6, .ptr (.L 6) 0 0), (8, .v (.int .i64 sa))] [(6, [.v (.string ByteArray.empty), .v (.int .i64 0), .v (.int .i64 0), .v (.int .u64 0)])] [] 0
def ref_Find_L1_T0 (l : (List Seat)) (name : ByteArray) (hart : Int) (tt : Unit) : St := mkS 38 [(6, .ptr (.L 6) 0 0)] [(6, [.v (.string ByteArray.empty), .v (.int .i64 0), .v (.int .i64 0), .v (.int .u64 0)])] [] 0
def ref_Find_L1_T1 (l : (List Seat)) (name : ByteArray) (hart : Int) (tt : ByteArray × Int × Int × Int) : St := mkS 38 [(6, .ptr (.L 6) 0 0), (7, .v (.int .i64 0))] [(6, [.v (.string tt.1), .v (.int .i64 tt.2.1), .v (.int .i64 tt.2.2.1), .v (.int .u64 tt.2.2.2)])] [] 0
def ref_Find_L1_out (l : (List Seat)) (name : ByteArray) (hart : Int) (t0 : (Unit ⊕ (ByteArray × Int × Int × Int))) : Ex × St := match t0 with | .inl tt => (.ex 0, ref_Find_L1_T0 l name hart tt) | .inr tt => (.ret, ref_Find_L1_T1 l name hart tt)
theorem ref_Find_L1_p0 (l : (List Seat)) (name : ByteArray) (hart : Int) (sa : Int) (xa2 : Seat) (K : Ex → St → Prop) : oround (cx pc sc lp) cd ⟨ord20, [(2, ⟨[], [], [], [(11, .v (.int .i64 (l.length : Int))), (12, .v (.bool true))], [], [], [], []⟩), (4, ⟨[], [], [(17, [.v (.string xa2.Piece.Name), .v (.int .i64 xa2.Piece.Size), .v (.int .i64 xa2.Piece.Hart), .v (.int .u64 xa2.Addr)]), (26, [.v (.string xa2.Piece.Name), .v (.int .i64 xa2.Piece.Size), .v (.int .i64 xa2.Piece.Hart), .v (.int .u64 xa2.Addr)])], [(23, .v (.bool true)), (32, .v (.bool true))], [], [], [], []⟩), (5, ⟨[], [], [(35, [.v (.string xa2.Piece.Name), .v (.int .i64 xa2.Piece.Size), .v (.int .i64 xa2.Piece.Hart), .v (.int .u64 xa2.Addr)])], [], [], [], [], []⟩)], [], [], []⟩ (polF 20) [(1, ⟨[6, 7], [], 0, [], []⟩, ⟨[], [], []⟩)] c_ref_Find_L1 (ref_Find_L1_S l name hart sa) K
  = ((AV.v (.int .i64 (((l.map Seat.enc).length : Nat) : Int)) = AV.v (.int .i64 (l.length : Int))) ∧ (AV.v (.bool (decide (sa < (l.length : Int)))) = AV.v (.bool true)) ∧ (at? (l.map Seat.enc) sa = some [.v (.string xa2.Piece.Name), .v (.int .i64 xa2.Piece.Size), .v (.int .i64 xa2.Piece.Hart), .v (.int .u64 xa2.Addr)]) ∧ (AV.v (.bool (xa2.Piece.Name.toList == name.toList)) = AV.v (.bool true)) ∧ (at? (l.map Seat.enc) sa = some [.v (.string xa2.Piece.Name), .v (.int .i64 xa2.Piece.Size), .v (.int .i64 xa2.Piece.Hart), .v (.int .u64 xa2.Addr)]) ∧ (AV.v (.bool (xa2.Piece.Hart == hart)) = AV.v (.bool true)) ∧ (at? (l.map Seat.enc) sa = some [.v (.string xa2.Piece.Name), .v (.int .i64 xa2.Piece.Size), .v (.int .i64 xa2.Piece.Hart), .v (.int .u64 xa2.Addr)]) ∧ K .ret (ref_Find_L1_T1 l name hart (xa2.Piece.Name, xa2.Piece.Size, xa2.Piece.Hart, xa2.Addr))) := by kernel_rfl
theorem ref_Find_L1_p1 (l : (List Seat)) (name : ByteArray) (hart : Int) (sa : Int) (xa2 : Seat) (K : Ex → St → Prop) : oround (cx pc sc lp) cd ⟨ord20, [(2, ⟨[], [], [], [(11, .v (.int .i64 (l.length : Int))), (12, .v (.bool true))], [], [], [], []⟩), (4, ⟨[], [], [(17, [.v (.string xa2.Piece.Name), .v (.int .i64 xa2.Piece.Size), .v (.int .i64 xa2.Piece.Hart), .v (.int .u64 xa2.Addr)]), (26, [.v (.string xa2.Piece.Name), .v (.int .i64 xa2.Piece.Size), .v (.int .i64 xa2.Piece.Hart), .v (.int .u64 xa2.Addr)])], [(23, .v (.bool true)), (32, .v (.bool false))], [], [], [], []⟩)], [], [], []⟩ (polF 20) [(0, ⟨[0, 1, 2, 6, 8], [], 0, [], []⟩, ⟨[], [], []⟩)] c_ref_Find_L1 (ref_Find_L1_S l name hart sa) K
  = ((AV.v (.int .i64 (((l.map Seat.enc).length : Nat) : Int)) = AV.v (.int .i64 (l.length : Int))) ∧ (AV.v (.bool (decide (sa < (l.length : Int)))) = AV.v (.bool true)) ∧ (at? (l.map Seat.enc) sa = some [.v (.string xa2.Piece.Name), .v (.int .i64 xa2.Piece.Size), .v (.int .i64 xa2.Piece.Hart), .v (.int .u64 xa2.Addr)]) ∧ (AV.v (.bool (xa2.Piece.Name.toList == name.toList)) = AV.v (.bool true)) ∧ (at? (l.map Seat.enc) sa = some [.v (.string xa2.Piece.Name), .v (.int .i64 xa2.Piece.Size), .v (.int .i64 xa2.Piece.Hart), .v (.int .u64 xa2.Addr)]) ∧ (AV.v (.bool (xa2.Piece.Hart == hart)) = AV.v (.bool false)) ∧ K .nrm (ref_Find_L1_S l name hart (addW .i64 sa 1))) := by kernel_rfl
theorem ref_Find_L1_p2 (l : (List Seat)) (name : ByteArray) (hart : Int) (sa : Int) (xa2 : Seat) (K : Ex → St → Prop) : oround (cx pc sc lp) cd ⟨ord20, [(2, ⟨[], [], [], [(11, .v (.int .i64 (l.length : Int))), (12, .v (.bool true))], [], [], [], []⟩), (4, ⟨[], [], [(17, [.v (.string xa2.Piece.Name), .v (.int .i64 xa2.Piece.Size), .v (.int .i64 xa2.Piece.Hart), .v (.int .u64 xa2.Addr)])], [(23, .v (.bool false))], [], [], [], []⟩)], [], [], []⟩ (polF 20) [(0, ⟨[0, 1, 2, 6, 8], [], 0, [], []⟩, ⟨[], [], []⟩)] c_ref_Find_L1 (ref_Find_L1_S l name hart sa) K
  = ((AV.v (.int .i64 (((l.map Seat.enc).length : Nat) : Int)) = AV.v (.int .i64 (l.length : Int))) ∧ (AV.v (.bool (decide (sa < (l.length : Int)))) = AV.v (.bool true)) ∧ (at? (l.map Seat.enc) sa = some [.v (.string xa2.Piece.Name), .v (.int .i64 xa2.Piece.Size), .v (.int .i64 xa2.Piece.Hart), .v (.int .u64 xa2.Addr)]) ∧ (AV.v (.bool (xa2.Piece.Name.toList == name.toList)) = AV.v (.bool false)) ∧ K .nrm (ref_Find_L1_S l name hart (addW .i64 sa 1))) := by kernel_rfl
theorem ref_Find_L1_p3 (l : (List Seat)) (name : ByteArray) (hart : Int) (sa : Int) (K : Ex → St → Prop) : oround (cx pc sc lp) cd ⟨ord20, [(2, ⟨[], [], [], [(11, .v (.int .i64 (l.length : Int))), (12, .v (.bool false))], [], [], [], []⟩)], [], [], []⟩ (polF 20) [(2, ⟨[6], [], 0, [], []⟩, ⟨[], [], []⟩)] c_ref_Find_L1 (ref_Find_L1_S l name hart sa) K
  = ((AV.v (.int .i64 (((l.map Seat.enc).length : Nat) : Int)) = AV.v (.int .i64 (l.length : Int))) ∧ (AV.v (.bool (decide (sa < (l.length : Int)))) = AV.v (.bool false)) ∧ K (.ex 0) (ref_Find_L1_T0 l name hart ())) := by kernel_rfl
theorem ref_Find_L1_sim (n : Nat) (l : (List Seat)) (name : ByteArray) (hart : Int) : ∀ sa r, ref_Find_L1 n l name hart sa = some r → CodeD Try.prog c_ref_Find_L1 (ref_Find_L1_S l name hart sa) (rk (ref_Find_L1_S l name hart) (ref_Find_L1_out l name hart) r) := by
  intro sa r h
  unfold ref_Find_L1 at h
  rcases bcase (decide (sa < (l.length : Int))) with ha1 | ha1
  · replace h := iteT ha1 h
    obtain ⟨xa2, gxa2, h⟩ := bindE h
    rcases bcase (xa2.Piece.Name.toList == name.toList) with ha3 | ha3
    · replace h := iteT ha3 h
      rcases bcase (xa2.Piece.Hart == hart) with ha4 | ha4
      · replace h := iteT ha4 h
        have e := Option.some.inj h
        subst e
        exact okR ordB_ref_Find_L1 (Eq.mpr (ref_Find_L1_p0 (PCall Try.prog) (SD Try.prog) (LoopD Try.prog) (CodeD Try.prog) l name hart sa xa2 _) ⟨len_map _ _, congrArg aBool ha1, at_map Seat.enc gxa2, congrArg aBool ha3, at_map Seat.enc gxa2, congrArg aBool ha4, at_map Seat.enc gxa2, ⟨rfl, rfl⟩⟩) (rkE rfl neR)
      · replace h := iteF ha4 h
        have e := Option.some.inj h
        subst e
        exact okR ordB_ref_Find_L1 (Eq.mpr (ref_Find_L1_p1 (PCall Try.prog) (SD Try.prog) (LoopD Try.prog) (CodeD Try.prog) l name hart sa xa2 _) ⟨len_map _ _, congrArg aBool ha1, at_map Seat.enc gxa2, congrArg aBool ha3, at_map Seat.enc gxa2, congrArg aBool ha4, ⟨rfl, rfl⟩⟩) rkN
    · replace h := iteF ha3 h
      have e := Option.some.inj h
      subst e
      exact okR ordB_ref_Find_L1 (Eq.mpr (ref_Find_L1_p2 (PCall Try.prog) (SD Try.prog) (LoopD Try.prog) (CodeD Try.prog) l name hart sa xa2 _) ⟨len_map _ _, congrArg aBool ha1, at_map Seat.enc gxa2, congrArg aBool ha3, ⟨rfl, rfl⟩⟩) rkN
  · replace h := iteF ha1 h
    have e := Option.some.inj h
    subst e
    exact okR ordB_ref_Find_L1 (Eq.mpr (ref_Find_L1_p3 (PCall Try.prog) (SD Try.prog) (LoopD Try.prog) (CodeD Try.prog) l name hart sa _) ⟨len_map _ _, congrArg aBool ha1, ⟨rfl, rfl⟩⟩) (rkE rfl neE)

theorem ref_Find_p0 (l : (List Seat)) (name : ByteArray) (hart : Int) (w2 : Unit) (K : AV → Prop) : opure (cx pc sc lp) cd ⟨ord20, [], [], [(2, (⟨[0, 1, 2, 6, 8], [], 0, [], []⟩, ⟨[], [], []⟩, (.ex 0), ref_Find_L1_T0 l name hart w2))], []⟩ 20 [.sl (l.map Seat.enc), .v (.string name), .v (.int .i64 hart)] K
  = ((lp (polF 20) c_ref_Find_L1 (ref_Find_L1_S l name hart 0) (fun e' S' => e' = (.ex 0) ∧ S' = ref_Find_L1_T0 l name hart w2)) ∧ K (.tup [.agg [.v (.string ByteArray.empty), .v (.int .i64 0), .v (.int .i64 0), .v (.int .u64 0)], .v (.int .i64 6)])) := by kernel_rfl
theorem ref_Find_p1 (l : (List Seat)) (name : ByteArray) (hart : Int) (w2 : ByteArray × Int × Int × Int) (K : AV → Prop) : opure (cx pc sc lp) cd ⟨ord20, [], [], [(2, (⟨[0, 1, 2, 6, 8], [], 0, [], []⟩, ⟨[], [], []⟩, .ret, ref_Find_L1_T1 l name hart w2))], []⟩ 20 [.sl (l.map Seat.enc), .v (.string name), .v (.int .i64 hart)] K
  = ((lp (polF 20) c_ref_Find_L1 (ref_Find_L1_S l name hart 0) (fun e' S' => e' = .ret ∧ S' = ref_Find_L1_T1 l name hart w2)) ∧ K (.tup [.agg [.v (.string w2.1), .v (.int .i64 w2.2.1), .v (.int .i64 w2.2.2.1), .v (.int .u64 w2.2.2.2)], .v (.int .i64 0)])) := by kernel_rfl
theorem ref_Find_sim (n : Nat) (l : (List Seat)) (name : ByteArray) (hart : Int) (r : Seat × Int) (h : ref_Find n l name hart = some r) : PCall Try.prog 20 [.sl (l.map Seat.enc), .v (.string name), .v (.int .i64 hart)] (fun x => x = .tup [.agg [.v (.string r.1.Piece.Name), .v (.int .i64 r.1.Piece.Size), .v (.int .i64 r.1.Piece.Hart), .v (.int .u64 r.1.Addr)], .v (.int .i64 r.2)]) := by
  unfold ref_Find at h
  obtain ⟨t1, gt1, h⟩ := bindE h
  rcases t1 with w2 | w2
  · skip
    have e := Option.some.inj h
    subst e
    exact okP ordB20 (Eq.mpr (ref_Find_p0 (PCall Try.prog) (SD Try.prog) (LoopD Try.prog) (CodeD Try.prog) l name hart w2 _) (⟨okL (ref_Find_L1_S l name hart) (ref_Find_L1_out l name hart) (ref_Find_L1_sim n l name hart) n _ (.inl w2) gt1, LeA.refl _⟩))
  · skip
    have e := Option.some.inj h
    subst e
    exact okP ordB20 (Eq.mpr (ref_Find_p1 (PCall Try.prog) (SD Try.prog) (LoopD Try.prog) (CodeD Try.prog) l name hart w2 _) (⟨okL (ref_Find_L1_S l name hart) (ref_Find_L1_out l name hart) (ref_Find_L1_sim n l name hart) n _ (.inr w2) gt1, LeA.refl _⟩))

def ord16 : List (Nat × List Nat) := []
theorem ordB16 : ordB (polF 16) ord16 (bodyOf Try.prog 16) = true := by kernel_rfl
noncomputable def c_data_At_L1 : Code := sub (bodyOf Try.prog 16) [1, 0, 1, 0, 0]
theorem ordB_data_At_L1 : ordB (polF 16) ord16 c_data_At_L1 = true := by kernel_rfl
def data_At_L1_S (l : (List Seat)) (addr : Int) (sa : Int) : St := mkS 49 [(1, .v (.int .u64 addr)), (4, .ptr (.L 4) 0 0), (10, .sl (l.map Seat.enc)), (11, .v (.int .i64 (l.length : Int))), (12, .v (.int .i64 sa))] [(4, [.v (.string ByteArray.empty), .v (.int .i64 0), .v (.int .i64 0), .v (.int .u64 0)])] [] 0
def data_At_L1_T0 (l : (List Seat)) (addr : Int) (tt : Unit) : St := mkS 49 [(4, .ptr (.L 4) 0 0)] [(4, [.v (.string ByteArray.empty), .v (.int .i64 0), .v (.int .i64 0), .v (.int .u64 0)])] [] 0
def data_At_L1_T1 (l : (List Seat)) (addr : Int) (tt : ByteArray × Int × Int × Int × Int) : St := mkS 49 [(4, .ptr (.L 4) 0 0), (5, .v (.int .i64 tt.2.2.2.2)), (6, .v (.int .i64 0))] [(4, [.v (.string tt.1), .v (.int .i64 tt.2.1), .v (.int .i64 tt.2.2.1), .v (.int .u64 tt.2.2.2.1)])] [] 0
def data_At_L1_out (l : (List Seat)) (addr : Int) (t0 : (Unit ⊕ (ByteArray × Int × Int × Int × Int))) : Ex × St := match t0 with | .inl tt => (.ex 0, data_At_L1_T0 l addr tt) | .inr tt => (.ret, data_At_L1_T1 l addr tt)
theorem data_At_L1_p0 (l : (List Seat)) (addr : Int) (sa : Int) (xa2 : Seat) (K : Ex → St → Prop) : oround (cx pc sc lp) cd ⟨ord16, [(2, ⟨[], [], [], [(13, .v (.bool true))], [], [], [], []⟩), (3, ⟨[], [], [(14, [.v (.string xa2.Piece.Name), .v (.int .i64 xa2.Piece.Size), .v (.int .i64 xa2.Piece.Hart), .v (.int .u64 xa2.Addr)])], [], [], [], [], []⟩), (5, ⟨[], [], [], [(24, .v (.bool true)), (30, .v (.bool true)), (36, .v (.bool true)), (43, .v (.bool true))], [], [], [], []⟩)], [], [], []⟩ (polF 16) [(1, ⟨[4, 5, 6], [8], 0, [], []⟩, ⟨[], [], []⟩)] c_data_At_L1 (data_At_L1_S l addr sa) K
  = ((AV.v (.bool (decide (sa < (l.length : Int)))) = AV.v (.bool true)) ∧ (at? (l.map Seat.enc) sa = some [.v (.string xa2.Piece.Name), .v (.int .i64 xa2.Piece.Size), .v (.int .i64 xa2.Piece.Hart), .v (.int .u64 xa2.Addr)]) ∧ (AV.v (.bool ((remW .u64 addr 8) == 0)) = AV.v (.bool true)) ∧ (AV.v (.bool (decide (xa2.Piece.Size > 0))) = AV.v (.bool true)) ∧ (AV.v (.bool (decide (addr ≥ xa2.Addr))) = AV.v (.bool true)) ∧ (AV.v (.bool (decide ((quoW .u64 (subW .u64 addr xa2.Addr) 8) < (IntKind.wrap .u64 xa2.Piece.Size)))) = AV.v (.bool true)) ∧ K .ret (data_At_L1_T1 l addr (xa2.Piece.Name, xa2.Piece.Size, xa2.Piece.Hart, xa2.Addr, (IntKind.wrap .i64 (quoW .u64 (subW .u64 addr xa2.Addr) 8))))) := by kernel_rfl
theorem data_At_L1_p1 (l : (List Seat)) (addr : Int) (sa : Int) (xa2 : Seat) (K : Ex → St → Prop) : oround (cx pc sc lp) cd ⟨ord16, [(2, ⟨[], [], [], [(13, .v (.bool true))], [], [], [], []⟩), (3, ⟨[], [], [(14, [.v (.string xa2.Piece.Name), .v (.int .i64 xa2.Piece.Size), .v (.int .i64 xa2.Piece.Hart), .v (.int .u64 xa2.Addr)])], [], [], [], [], []⟩), (5, ⟨[], [], [], [(24, .v (.bool true)), (30, .v (.bool true)), (36, .v (.bool true)), (43, .v (.bool false))], [], [], [], []⟩)], [], [], []⟩ (polF 16) [(0, ⟨[1, 4, 10, 11, 12], [8], 0, [], []⟩, ⟨[], [], []⟩)] c_data_At_L1 (data_At_L1_S l addr sa) K
  = ((AV.v (.bool (decide (sa < (l.length : Int)))) = AV.v (.bool true)) ∧ (at? (l.map Seat.enc) sa = some [.v (.string xa2.Piece.Name), .v (.int .i64 xa2.Piece.Size), .v (.int .i64 xa2.Piece.Hart), .v (.int .u64 xa2.Addr)]) ∧ (AV.v (.bool ((remW .u64 addr 8) == 0)) = AV.v (.bool true)) ∧ (AV.v (.bool (decide (xa2.Piece.Size > 0))) = AV.v (.bool true)) ∧ (AV.v (.bool (decide (addr ≥ xa2.Addr))) = AV.v (.bool true)) ∧ (AV.v (.bool (decide ((quoW .u64 (subW .u64 addr xa2.Addr) 8) < (IntKind.wrap .u64 xa2.Piece.Size)))) = AV.v (.bool false)) ∧ K .nrm (data_At_L1_S l addr (addW .i64 sa 1))) := by kernel_rfl
theorem data_At_L1_p2 (l : (List Seat)) (addr : Int) (sa : Int) (xa2 : Seat) (K : Ex → St → Prop) : oround (cx pc sc lp) cd ⟨ord16, [(2, ⟨[], [], [], [(13, .v (.bool true))], [], [], [], []⟩), (3, ⟨[], [], [(14, [.v (.string xa2.Piece.Name), .v (.int .i64 xa2.Piece.Size), .v (.int .i64 xa2.Piece.Hart), .v (.int .u64 xa2.Addr)])], [], [], [], [], []⟩), (5, ⟨[], [], [], [(24, .v (.bool true)), (30, .v (.bool true)), (36, .v (.bool false))], [], [], [], []⟩)], [], [], []⟩ (polF 16) [(0, ⟨[1, 4, 10, 11, 12], [8], 0, [], []⟩, ⟨[], [], []⟩)] c_data_At_L1 (data_At_L1_S l addr sa) K
  = ((AV.v (.bool (decide (sa < (l.length : Int)))) = AV.v (.bool true)) ∧ (at? (l.map Seat.enc) sa = some [.v (.string xa2.Piece.Name), .v (.int .i64 xa2.Piece.Size), .v (.int .i64 xa2.Piece.Hart), .v (.int .u64 xa2.Addr)]) ∧ (AV.v (.bool ((remW .u64 addr 8) == 0)) = AV.v (.bool true)) ∧ (AV.v (.bool (decide (xa2.Piece.Size > 0))) = AV.v (.bool true)) ∧ (AV.v (.bool (decide (addr ≥ xa2.Addr))) = AV.v (.bool false)) ∧ K .nrm (data_At_L1_S l addr (addW .i64 sa 1))) := by kernel_rfl
theorem data_At_L1_p3 (l : (List Seat)) (addr : Int) (sa : Int) (xa2 : Seat) (K : Ex → St → Prop) : oround (cx pc sc lp) cd ⟨ord16, [(2, ⟨[], [], [], [(13, .v (.bool true))], [], [], [], []⟩), (3, ⟨[], [], [(14, [.v (.string xa2.Piece.Name), .v (.int .i64 xa2.Piece.Size), .v (.int .i64 xa2.Piece.Hart), .v (.int .u64 xa2.Addr)])], [], [], [], [], []⟩), (5, ⟨[], [], [], [(24, .v (.bool true)), (30, .v (.bool false))], [], [], [], []⟩)], [], [], []⟩ (polF 16) [(0, ⟨[1, 4, 10, 11, 12], [8], 0, [], []⟩, ⟨[], [], []⟩)] c_data_At_L1 (data_At_L1_S l addr sa) K
  = ((AV.v (.bool (decide (sa < (l.length : Int)))) = AV.v (.bool true)) ∧ (at? (l.map Seat.enc) sa = some [.v (.string xa2.Piece.Name), .v (.int .i64 xa2.Piece.Size), .v (.int .i64 xa2.Piece.Hart), .v (.int .u64 xa2.Addr)]) ∧ (AV.v (.bool ((remW .u64 addr 8) == 0)) = AV.v (.bool true)) ∧ (AV.v (.bool (decide (xa2.Piece.Size > 0))) = AV.v (.bool false)) ∧ K .nrm (data_At_L1_S l addr (addW .i64 sa 1))) := by kernel_rfl
theorem data_At_L1_p4 (l : (List Seat)) (addr : Int) (sa : Int) (xa2 : Seat) (K : Ex → St → Prop) : oround (cx pc sc lp) cd ⟨ord16, [(2, ⟨[], [], [], [(13, .v (.bool true))], [], [], [], []⟩), (3, ⟨[], [], [(14, [.v (.string xa2.Piece.Name), .v (.int .i64 xa2.Piece.Size), .v (.int .i64 xa2.Piece.Hart), .v (.int .u64 xa2.Addr)])], [], [], [], [], []⟩), (5, ⟨[], [], [], [(24, .v (.bool false))], [], [], [], []⟩)], [], [], []⟩ (polF 16) [(0, ⟨[1, 4, 10, 11, 12], [8], 0, [], []⟩, ⟨[], [], []⟩)] c_data_At_L1 (data_At_L1_S l addr sa) K
  = ((AV.v (.bool (decide (sa < (l.length : Int)))) = AV.v (.bool true)) ∧ (at? (l.map Seat.enc) sa = some [.v (.string xa2.Piece.Name), .v (.int .i64 xa2.Piece.Size), .v (.int .i64 xa2.Piece.Hart), .v (.int .u64 xa2.Addr)]) ∧ (AV.v (.bool ((remW .u64 addr 8) == 0)) = AV.v (.bool false)) ∧ K .nrm (data_At_L1_S l addr (addW .i64 sa 1))) := by kernel_rfl
theorem data_At_L1_p5 (l : (List Seat)) (addr : Int) (sa : Int) (K : Ex → St → Prop) : oround (cx pc sc lp) cd ⟨ord16, [(2, ⟨[], [], [], [(13, .v (.bool false))], [], [], [], []⟩)], [], [], []⟩ (polF 16) [(2, ⟨[4], [], 0, [], []⟩, ⟨[], [], []⟩)] c_data_At_L1 (data_At_L1_S l addr sa) K
  = ((AV.v (.bool (decide (sa < (l.length : Int)))) = AV.v (.bool false)) ∧ K (.ex 0) (data_At_L1_T0 l addr ())) := by kernel_rfl
theorem data_At_L1_sim (n : Nat) (l : (List Seat)) (addr : Int) : ∀ sa r, data_At_L1 n l addr sa = some r → CodeD Try.prog c_data_At_L1 (data_At_L1_S l addr sa) (rk (data_At_L1_S l addr) (data_At_L1_out l addr) r) := by
  intro sa r h
  unfold data_At_L1 at h
  rcases bcase (decide (sa < (l.length : Int))) with ha1 | ha1
  · replace h := iteT ha1 h
    obtain ⟨xa2, gxa2, h⟩ := bindE h
    rcases bcase ((remW .u64 addr 8) == 0) with ha3 | ha3
    · replace h := iteT ha3 h
      rcases bcase (decide (xa2.Piece.Size > 0)) with ha4 | ha4
      · replace h := iteT ha4 h
        rcases bcase (decide (addr ≥ xa2.Addr)) with ha5 | ha5
        · replace h := iteT ha5 h
          rcases bcase (decide ((quoW .u64 (subW .u64 addr xa2.Addr) 8) < (IntKind.wrap .u64 xa2.Piece.Size))) with ha6 | ha6
          · replace h := iteT ha6 h
            have e := Option.some.inj h
            subst e
            exact okR ordB_data_At_L1 (Eq.mpr (data_At_L1_p0 (PCall Try.prog) (SD Try.prog) (LoopD Try.prog) (CodeD Try.prog) l addr sa xa2 _) ⟨congrArg aBool ha1, at_map Seat.enc gxa2, congrArg aBool ha3, congrArg aBool ha4, congrArg aBool ha5, congrArg aBool ha6, ⟨rfl, rfl⟩⟩) (rkE rfl neR)
          · replace h := iteF ha6 h
            have e := Option.some.inj h
            subst e
            exact okR ordB_data_At_L1 (Eq.mpr (data_At_L1_p1 (PCall Try.prog) (SD Try.prog) (LoopD Try.prog) (CodeD Try.prog) l addr sa xa2 _) ⟨congrArg aBool ha1, at_map Seat.enc gxa2, congrArg aBool ha3, congrArg aBool ha4, congrArg aBool ha5, congrArg aBool ha6, ⟨rfl, rfl⟩⟩) rkN
        · replace h := iteF ha5 h
          have e := Option.some.inj h
          subst e
          exact okR ordB_data_At_L1 (Eq.mpr (data_At_L1_p2 (PCall Try.prog) (SD Try.prog) (LoopD Try.prog) (CodeD Try.prog) l addr sa xa2 _) ⟨congrArg aBool ha1, at_map Seat.enc gxa2, congrArg aBool ha3, congrArg aBool ha4, congrArg aBool ha5, ⟨rfl, rfl⟩⟩) rkN
      · replace h := iteF ha4 h
        have e := Option.some.inj h
        subst e
        exact okR ordB_data_At_L1 (Eq.mpr (data_At_L1_p3 (PCall Try.prog) (SD Try.prog) (LoopD Try.prog) (CodeD Try.prog) l addr sa xa2 _) ⟨congrArg aBool ha1, at_map Seat.enc gxa2, congrArg aBool ha3, congrArg aBool ha4, ⟨rfl, rfl⟩⟩) rkN
    · replace h := iteF ha3 h
      have e := Option.some.inj h
      subst e
      exact okR ordB_data_At_L1 (Eq.mpr (data_At_L1_p4 (PCall Try.prog) (SD Try.prog) (LoopD Try.prog) (CodeD Try.prog) l addr sa xa2 _) ⟨congrArg aBool ha1, at_map Seat.enc gxa2, congrArg aBool ha3, ⟨rfl, rfl⟩⟩) rkN
  · replace h := iteF ha1 h
    have e := Option.some.inj h
    subst e
    exact okR ordB_data_At_L1 (Eq.mpr (data_At_L1_p5 (PCall Try.prog) (SD Try.prog) (LoopD Try.prog) (CodeD Try.prog) l addr sa _) ⟨congrArg aBool ha1, ⟨rfl, rfl⟩⟩) (rkE rfl neE)

theorem data_At_p0 (l : (List Seat)) (addr : Int) (w2 : Unit) (K : AV → Prop) : opure (cx pc sc lp) cd ⟨ord16, [(1, ⟨[], [], [], [(11, .v (.int .i64 (l.length : Int)))], [], [], [], []⟩)], [], [(2, (⟨[1, 4, 10, 11, 12], [], 0, [], []⟩, ⟨[], [], []⟩, (.ex 0), data_At_L1_T0 l addr w2))], []⟩ 16 [.sl (l.map Seat.enc), .v (.int .u64 addr)] K
  = ((AV.v (.int .i64 (((l.map Seat.enc).length : Nat) : Int)) = AV.v (.int .i64 (l.length : Int))) ∧ (lp (polF 16) c_data_At_L1 (data_At_L1_S l addr 0) (fun e' S' => e' = (.ex 0) ∧ S' = data_At_L1_T0 l addr w2)) ∧ K (.tup [.agg [.v (.string ByteArray.empty), .v (.int .i64 0), .v (.int .i64 0), .v (.int .u64 0)], .v (.int .i64 0), .v (.int .i64 6)])) := by kernel_rfl
theorem data_At_p1 (l : (List Seat)) (addr : Int) (w2 : ByteArray × Int × Int × Int × Int) (K : AV → Prop) : opure (cx pc sc lp) cd ⟨ord16, [(1, ⟨[], [], [], [(11, .v (.int .i64 (l.length : Int)))], [], [], [], []⟩)], [], [(2, (⟨[1, 4, 10, 11, 12], [], 0, [], []⟩, ⟨[], [], []⟩, .ret, data_At_L1_T1 l addr w2))], []⟩ 16 [.sl (l.map Seat.enc), .v (.int .u64 addr)] K
  = ((AV.v (.int .i64 (((l.map Seat.enc).length : Nat) : Int)) = AV.v (.int .i64 (l.length : Int))) ∧ (lp (polF 16) c_data_At_L1 (data_At_L1_S l addr 0) (fun e' S' => e' = .ret ∧ S' = data_At_L1_T1 l addr w2)) ∧ K (.tup [.agg [.v (.string w2.1), .v (.int .i64 w2.2.1), .v (.int .i64 w2.2.2.1), .v (.int .u64 w2.2.2.2.1)], .v (.int .i64 w2.2.2.2.2), .v (.int .i64 0)])) := by kernel_rfl
theorem data_At_sim (n : Nat) (l : (List Seat)) (addr : Int) (r : Seat × Int × Int) (h : data_At n l addr = some r) : PCall Try.prog 16 [.sl (l.map Seat.enc), .v (.int .u64 addr)] (fun x => x = .tup [.agg [.v (.string r.1.Piece.Name), .v (.int .i64 r.1.Piece.Size), .v (.int .i64 r.1.Piece.Hart), .v (.int .u64 r.1.Addr)], .v (.int .i64 r.2.1), .v (.int .i64 r.2.2)]) := by
  unfold data_At at h
  obtain ⟨t1, gt1, h⟩ := bindE h
  rcases t1 with w2 | w2
  · skip
    have e := Option.some.inj h
    subst e
    exact okP ordB16 (Eq.mpr (data_At_p0 (PCall Try.prog) (SD Try.prog) (LoopD Try.prog) (CodeD Try.prog) l addr w2 _) (⟨len_map _ _, okL (data_At_L1_S l addr) (data_At_L1_out l addr) (data_At_L1_sim n l addr) n _ (.inl w2) gt1, LeA.refl _⟩))
  · skip
    have e := Option.some.inj h
    subst e
    exact okP ordB16 (Eq.mpr (data_At_p1 (PCall Try.prog) (SD Try.prog) (LoopD Try.prog) (CodeD Try.prog) l addr w2 _) (⟨len_map _ _, okL (data_At_L1_S l addr) (data_At_L1_out l addr) (data_At_L1_sim n l addr) n _ (.inr w2) gt1, LeA.refl _⟩))

def ord21 : List (Nat × List Nat) := [(4, [0, 1, 2, 3, 4, 5, 6, 7, 8, 9, 10, 11, 12, 13, 14, 15, 16, 17, 18, 19, 20, 21, 22, 23, 24, 25, 26, 27, 28, 29, 30, 31, 32, 33]), (5, [0, 1, 2, 3, 4, 5, 6, 7, 8, 9, 10, 11, 12, 13, 14, 15])]
theorem ordB21 : ordB (polF 21) ord21 (bodyOf Try.prog 21) = true := by kernel_rfl
noncomputable def c_ref_At_L1 : Code := sub (bodyOf Try.prog 21) [1, 0, 1, 0, 0]
theorem ordB_ref_At_L1 : ordB (polF 21) ord21 c_ref_At_L1 = true := by kernel_rfl
def ref_At_L1_S (l : (List Seat)) (a : Int) (sa : Int) : St := mkS 67 [(0, .sl (l.map Seat.enc)), (1, .v (.int .u64 a)), (4, .ptr (.L 4) 0 0), (7, .v (.int .i64 sa))] [(4, [.v (.string ByteArray.empty), .v (.int .i64 0), .v (.int .i64 0), .v (.int .u64 0)])] [] 0
def ref_At_L1_T0 (l : (List Seat)) (a : Int) (tt : Unit) : St := mkS 67 [(4, .ptr (.L 4) 0 0)] [(4, [.v (.string ByteArray.empty), .v (.int .i64 0), .v (.int .i64 0), .v (.int .u64 0)])] [] 0
def ref_At_L1_T1 (l : (List Seat)) (a : Int) (tt : ByteArray × Int × Int × Int × Int) : St := mkS 67 [(4, .ptr (.L 4) 0 0), (5, .v (.int .i64 tt.2.2.2.2)), (6, .v (.int .i64 0))] [(4, [.v (.string tt.1), .v (.int .i64 tt.2.1), .v (.int .i64 tt.2.2.1), .v (.int .u64 tt.2.2.2.1)])] [] 0
def ref_At_L1_out (l : (List Seat)) (a : Int) (t0 : (Unit ⊕ (ByteArray × Int × Int × Int × Int))) : Ex × St := match t0 with | .inl tt => (.ex 0, ref_At_L1_T0 l a tt) | .inr tt => (.ret, ref_At_L1_T1 l a tt)
theorem ref_At_L1_p0 (l : (List Seat)) (a : Int) (sa : Int) (xa3 : Seat) (K : Ex → St → Prop) : oround (cx pc sc lp) cd ⟨ord21, [(2, ⟨[], [], [], [(10, .v (.int .i64 (l.length : Int))), (12, .v (.bool true)), (16, .v (.bool true))], [], [], [], []⟩), (4, ⟨[], [], [(21, [.v (.string xa3.Piece.Name), .v (.int .i64 xa3.Piece.Size), .v (.int .i64 xa3.Piece.Hart), .v (.int .u64 xa3.Addr)]), (30, [.v (.string xa3.Piece.Name), .v (.int .i64 xa3.Piece.Size), .v (.int .i64 xa3.Piece.Hart), .v (.int .u64 xa3.Addr)]), (39, [.v (.string xa3.Piece.Name), .v (.int .i64 xa3.Piece.Size), .v (.int .i64 xa3.Piece.Hart), .v (.int .u64 xa3.Addr)]), (46, [.v (.string xa3.Piece.Name), .v (.int .i64 xa3.Piece.Size), .v (.int .i64 xa3.Piece.Hart), .v (.int .u64 xa3.Addr)])], [(26, .v (.bool true)), (35, .v (.bool true)), (52, .v (.bool true))], [], [], [], []⟩), (5, ⟨[], [], [(55, [.v (.string xa3.Piece.Name), .v (.int .i64 xa3.Piece.Size), .v (.int .i64 xa3.Piece.Hart), .v (.int .u64 xa3.Addr)]), (60, [.v (.string xa3.Piece.Name), .v (.int .i64 xa3.Piece.Size), .v (.int .i64 xa3.Piece.Hart), .v (.int .u64 xa3.Addr)])], [], [], [], [], []⟩)], [], [], []⟩ (polF 21) [(1, ⟨[4, 5, 6], [], 0, [], []⟩, ⟨[], [], []⟩)] c_ref_At_L1 (ref_At_L1_S l a sa) K
  = ((AV.v (.int .i64 (((l.map Seat.enc).length : Nat) : Int)) = AV.v (.int .i64 (l.length : Int))) ∧ (AV.v (.bool (decide (sa < (l.length : Int)))) = AV.v (.bool true)) ∧ (AV.v (.bool ((remW .u64 a 8) == 0)) = AV.v (.bool true)) ∧ (at? (l.map Seat.enc) sa = some [.v (.string xa3.Piece.Name), .v (.int .i64 xa3.Piece.Size), .v (.int .i64 xa3.Piece.Hart), .v (.int .u64 xa3.Addr)]) ∧ (AV.v (.bool (decide (xa3.Piece.Size > 0))) = AV.v (.bool true)) ∧ (at? (l.map Seat.enc) sa = some [.v (.string xa3.Piece.Name), .v (.int .i64 xa3.Piece.Size), .v (.int .i64 xa3.Piece.Hart), .v (.int .u64 xa3.Addr)]) ∧ (AV.v (.bool (decide (a ≥ xa3.Addr))) = AV.v (.bool true)) ∧ (at? (l.map Seat.enc) sa = some [.v (.string xa3.Piece.Name), .v (.int .i64 xa3.Piece.Size), .v (.int .i64 xa3.Piece.Hart), .v (.int .u64 xa3.Addr)]) ∧ (at? (l.map Seat.enc) sa = some [.v (.string xa3.Piece.Name), .v (.int .i64 xa3.Piece.Size), .v (.int .i64 xa3.Piece.Hart), .v (.int .u64 xa3.Addr)]) ∧ (AV.v (.bool (decide ((quoW .u64 (subW .u64 a xa3.Addr) 8) < (IntKind.wrap .u64 xa3.Piece.Size)))) = AV.v (.bool true)) ∧ (at? (l.map Seat.enc) sa = some [.v (.string xa3.Piece.Name), .v (.int .i64 xa3.Piece.Size), .v (.int .i64 xa3.Piece.Hart), .v (.int .u64 xa3.Addr)]) ∧ (at? (l.map Seat.enc) sa = some [.v (.string xa3.Piece.Name), .v (.int .i64 xa3.Piece.Size), .v (.int .i64 xa3.Piece.Hart), .v (.int .u64 xa3.Addr)]) ∧ K .ret (ref_At_L1_T1 l a (xa3.Piece.Name, xa3.Piece.Size, xa3.Piece.Hart, xa3.Addr, (IntKind.wrap .i64 (quoW .u64 (subW .u64 a xa3.Addr) 8))))) := by kernel_rfl
theorem ref_At_L1_p1 (l : (List Seat)) (a : Int) (sa : Int) (xa3 : Seat) (K : Ex → St → Prop) : oround (cx pc sc lp) cd ⟨ord21, [(2, ⟨[], [], [], [(10, .v (.int .i64 (l.length : Int))), (12, .v (.bool true)), (16, .v (.bool true))], [], [], [], []⟩), (4, ⟨[], [], [(21, [.v (.string xa3.Piece.Name), .v (.int .i64 xa3.Piece.Size), .v (.int .i64 xa3.Piece.Hart), .v (.int .u64 xa3.Addr)]), (30, [.v (.string xa3.Piece.Name), .v (.int .i64 xa3.Piece.Size), .v (.int .i64 xa3.Piece.Hart), .v (.int .u64 xa3.Addr)]), (39, [.v (.string xa3.Piece.Name), .v (.int .i64 xa3.Piece.Size), .v (.int .i64 xa3.Piece.Hart), .v (.int .u64 xa3.Addr)]), (46, [.v (.string xa3.Piece.Name), .v (.int .i64 xa3.Piece.Size), .v (.int .i64 xa3.Piece.Hart), .v (.int .u64 xa3.Addr)])], [(26, .v (.bool true)), (35, .v (.bool true)), (52, .v (.bool false))], [], [], [], []⟩)], [], [], []⟩ (polF 21) [(0, ⟨[0, 1, 4, 7], [], 0, [], []⟩, ⟨[], [], []⟩)] c_ref_At_L1 (ref_At_L1_S l a sa) K
  = ((AV.v (.int .i64 (((l.map Seat.enc).length : Nat) : Int)) = AV.v (.int .i64 (l.length : Int))) ∧ (AV.v (.bool (decide (sa < (l.length : Int)))) = AV.v (.bool true)) ∧ (AV.v (.bool ((remW .u64 a 8) == 0)) = AV.v (.bool true)) ∧ (at? (l.map Seat.enc) sa = some [.v (.string xa3.Piece.Name), .v (.int .i64 xa3.Piece.Size), .v (.int .i64 xa3.Piece.Hart), .v (.int .u64 xa3.Addr)]) ∧ (AV.v (.bool (decide (xa3.Piece.Size > 0))) = AV.v (.bool true)) ∧ (at? (l.map Seat.enc) sa = some [.v (.string xa3.Piece.Name), .v (.int .i64 xa3.Piece.Size), .v (.int .i64 xa3.Piece.Hart), .v (.int .u64 xa3.Addr)]) ∧ (AV.v (.bool (decide (a ≥ xa3.Addr))) = AV.v (.bool true)) ∧ (at? (l.map Seat.enc) sa = some [.v (.string xa3.Piece.Name), .v (.int .i64 xa3.Piece.Size), .v (.int .i64 xa3.Piece.Hart), .v (.int .u64 xa3.Addr)]) ∧ (at? (l.map Seat.enc) sa = some [.v (.string xa3.Piece.Name), .v (.int .i64 xa3.Piece.Size), .v (.int .i64 xa3.Piece.Hart), .v (.int .u64 xa3.Addr)]) ∧ (AV.v (.bool (decide ((quoW .u64 (subW .u64 a xa3.Addr) 8) < (IntKind.wrap .u64 xa3.Piece.Size)))) = AV.v (.bool false)) ∧ K .nrm (ref_At_L1_S l a (addW .i64 sa 1))) := by kernel_rfl
theorem ref_At_L1_p2 (l : (List Seat)) (a : Int) (sa : Int) (xa3 : Seat) (K : Ex → St → Prop) : oround (cx pc sc lp) cd ⟨ord21, [(2, ⟨[], [], [], [(10, .v (.int .i64 (l.length : Int))), (12, .v (.bool true)), (16, .v (.bool true))], [], [], [], []⟩), (4, ⟨[], [], [(21, [.v (.string xa3.Piece.Name), .v (.int .i64 xa3.Piece.Size), .v (.int .i64 xa3.Piece.Hart), .v (.int .u64 xa3.Addr)]), (30, [.v (.string xa3.Piece.Name), .v (.int .i64 xa3.Piece.Size), .v (.int .i64 xa3.Piece.Hart), .v (.int .u64 xa3.Addr)])], [(26, .v (.bool true)), (35, .v (.bool false))], [], [], [], []⟩)], [], [], []⟩ (polF 21) [(0, ⟨[0, 1, 4, 7], [], 0, [], []⟩, ⟨[], [], []⟩)] c_ref_At_L1 (ref_At_L1_S l a sa) K
  = ((AV.v (.int .i64 (((l.map Seat.enc).length : Nat) : Int)) = AV.v (.int .i64 (l.length : Int))) ∧ (AV.v (.bool (decide (sa < (l.length : Int)))) = AV.v (.bool true)) ∧ (AV.v (.bool ((remW .u64 a 8) == 0)) = AV.v (.bool true)) ∧ (at? (l.map Seat.enc) sa = some [.v (.string xa3.Piece.Name), .v (.int .i64 xa3.Piece.Size), .v (.int .i64 xa3.Piece.Hart), .v (.int .u64 xa3.Addr)]) ∧ (AV.v (.bool (decide (xa3.Piece.Size > 0))) = AV.v (.bool true)) ∧ (at? (l.map Seat.enc) sa = some [.v (.string xa3.Piece.Name), .v (.int .i64 xa3.Piece.Size), .v (.int .i64 xa3.Piece.Hart), .v (.int .u64 xa3.Addr)]) ∧ (AV.v (.bool (decide (a ≥ xa3.Addr))) = AV.v (.bool false)) ∧ K .nrm (ref_At_L1_S l a (addW .i64 sa 1))) := by kernel_rfl
theorem ref_At_L1_p3 (l : (List Seat)) (a : Int) (sa : Int) (xa3 : Seat) (K : Ex → St → Prop) : oround (cx pc sc lp) cd ⟨ord21, [(2, ⟨[], [], [], [(10, .v (.int .i64 (l.length : Int))), (12, .v (.bool true)), (16, .v (.bool true))], [], [], [], []⟩), (4, ⟨[], [], [(21, [.v (.string xa3.Piece.Name), .v (.int .i64 xa3.Piece.Size), .v (.int .i64 xa3.Piece.Hart), .v (.int .u64 xa3.Addr)])], [(26, .v (.bool false))], [], [], [], []⟩)], [], [], []⟩ (polF 21) [(0, ⟨[0, 1, 4, 7], [], 0, [], []⟩, ⟨[], [], []⟩)] c_ref_At_L1 (ref_At_L1_S l a sa) K
  = ((AV.v (.int .i64 (((l.map Seat.enc).length : Nat) : Int)) = AV.v (.int .i64 (l.length : Int))) ∧ (AV.v (.bool (decide (sa < (l.length : Int)))) = AV.v (.bool true)) ∧ (AV.v (.bool ((remW .u64 a 8) == 0)) = AV.v (.bool true)) ∧ (at? (l.map Seat.enc) sa = some [.v (.string xa3.Piece.Name), .v (.int .i64 xa3.Piece.Size), .v (.int .i64 xa3.Piece.Hart), .v (.int .u64 xa3.Addr)]) ∧ (AV.v (.bool (decide (xa3.Piece.Size > 0))) = AV.v (.bool false)) ∧ K .nrm (ref_At_L1_S l a (addW .i64 sa 1))) := by kernel_rfl
theorem ref_At_L1_p4 (l : (List Seat)) (a : Int) (sa : Int) (K : Ex → St → Prop) : oround (cx pc sc lp) cd ⟨ord21, [(2, ⟨[], [], [], [(10, .v (.int .i64 (l.length : Int))), (12, .v (.bool true)), (16, .v (.bool false))], [], [], [], []⟩)], [], [], []⟩ (polF 21) [(2, ⟨[4], [], 0, [], []⟩, ⟨[], [], []⟩)] c_ref_At_L1 (ref_At_L1_S l a sa) K
  = ((AV.v (.int .i64 (((l.map Seat.enc).length : Nat) : Int)) = AV.v (.int .i64 (l.length : Int))) ∧ (AV.v (.bool (decide (sa < (l.length : Int)))) = AV.v (.bool true)) ∧ (AV.v (.bool ((remW .u64 a 8) == 0)) = AV.v (.bool false)) ∧ K (.ex 0) (ref_At_L1_T0 l a ())) := by kernel_rfl
theorem ref_At_L1_p5 (l : (List Seat)) (a : Int) (sa : Int) (K : Ex → St → Prop) : oround (cx pc sc lp) cd ⟨ord21, [(2, ⟨[], [], [], [(10, .v (.int .i64 (l.length : Int))), (12, .v (.bool false))], [], [], [], []⟩)], [], [], []⟩ (polF 21) [(2, ⟨[4], [], 0, [], []⟩, ⟨[], [], []⟩)] c_ref_At_L1 (ref_At_L1_S l a sa) K
  = ((AV.v (.int .i64 (((l.map Seat.enc).length : Nat) : Int)) = AV.v (.int .i64 (l.length : Int))) ∧ (AV.v (.bool (decide (sa < (l.length : Int)))) = AV.v (.bool false)) ∧ K (.ex 0) (ref_At_L1_T0 l a ())) := by kernel_rfl
theorem ref_At_L1_sim (n : Nat) (l : (List Seat)) (a : Int) : ∀ sa r, ref_At_L1 n l a sa = some r → CodeD Try.prog c_ref_At_L1 (ref_At_L1_S l a sa) (rk (ref_At_L1_S l a) (ref_At_L1_out l a) r) := by
  intro sa r h
  unfold ref_At_L1 at h
  rcases bcase (decide (sa < (l.length : Int))) with ha1 | ha1
  · replace h := iteT ha1 h
    rcases bcase ((remW .u64 a 8) == 0) with ha2 | ha2
    · replace h := iteT ha2 h
      obtain ⟨xa3, gxa3, h⟩ := bindE h
      rcases bcase (decide (xa3.Piece.Size > 0)) with ha4 | ha4
      · replace h := iteT ha4 h
        rcases bcase (decide (a ≥ xa3.Addr)) with ha5 | ha5
        · replace h := iteT ha5 h
          rcases bcase (decide ((quoW .u64 (subW .u64 a xa3.Addr) 8) < (IntKind.wrap .u64 xa3.Piece.Size))) with ha6 | ha6
          · replace h := iteT ha6 h
            have e := Option.some.inj h
            subst e
            exact okR ordB_ref_At_L1 (Eq.mpr (ref_At_L1_p0 (PCall Try.prog) (SD Try.prog) (LoopD Try.prog) (CodeD Try.prog) l a sa xa3 _) ⟨len_map _ _, congrArg aBool ha1, congrArg aBool ha2, at_map Seat.enc gxa3, congrArg aBool ha4, at_map Seat.enc gxa3, congrArg aBool ha5, at_map Seat.enc gxa3, at_map Seat.enc gxa3, congrArg aBool ha6, at_map Seat.enc gxa3, at_map Seat.enc gxa3, ⟨rfl, rfl⟩⟩) (rkE rfl neR)
          · replace h := iteF ha6 h
            have e := Option.some.inj h
            subst e
            exact okR ordB_ref_At_L1 (Eq.mpr (ref_At_L1_p1 (PCall Try.prog) (SD Try.prog) (LoopD Try.prog) (CodeD Try.prog) l a sa xa3 _) ⟨len_map _ _, congrArg aBool ha1, congrArg aBool ha2, at_map Seat.enc gxa3, congrArg aBool ha4, at_map Seat.enc gxa3, congrArg aBool ha5, at_map Seat.enc gxa3, at_map Seat.enc gxa3, congrArg aBool ha6, ⟨rfl, rfl⟩⟩) rkN
        · replace h := iteF ha5 h
          have e := Option.some.inj h
          subst e
          exact okR ordB_ref_At_L1 (Eq.mpr (ref_At_L1_p2 (PCall Try.prog) (SD Try.prog) (LoopD Try.prog) (CodeD Try.prog) l a sa xa3 _) ⟨len_map _ _, congrArg aBool ha1, congrArg aBool ha2, at_map Seat.enc gxa3, congrArg aBool ha4, at_map Seat.enc gxa3, congrArg aBool ha5, ⟨rfl, rfl⟩⟩) rkN
      · replace h := iteF ha4 h
        have e := Option.some.inj h
        subst e
        exact okR ordB_ref_At_L1 (Eq.mpr (ref_At_L1_p3 (PCall Try.prog) (SD Try.prog) (LoopD Try.prog) (CodeD Try.prog) l a sa xa3 _) ⟨len_map _ _, congrArg aBool ha1, congrArg aBool ha2, at_map Seat.enc gxa3, congrArg aBool ha4, ⟨rfl, rfl⟩⟩) rkN
    · replace h := iteF ha2 h
      have e := Option.some.inj h
      subst e
      exact okR ordB_ref_At_L1 (Eq.mpr (ref_At_L1_p4 (PCall Try.prog) (SD Try.prog) (LoopD Try.prog) (CodeD Try.prog) l a sa _) ⟨len_map _ _, congrArg aBool ha1, congrArg aBool ha2, ⟨rfl, rfl⟩⟩) (rkE rfl neE)
  · replace h := iteF ha1 h
    have e := Option.some.inj h
    subst e
    exact okR ordB_ref_At_L1 (Eq.mpr (ref_At_L1_p5 (PCall Try.prog) (SD Try.prog) (LoopD Try.prog) (CodeD Try.prog) l a sa _) ⟨len_map _ _, congrArg aBool ha1, ⟨rfl, rfl⟩⟩) (rkE rfl neE)

theorem ref_At_p0 (l : (List Seat)) (a : Int) (w2 : Unit) (K : AV → Prop) : opure (cx pc sc lp) cd ⟨ord21, [], [], [(2, (⟨[0, 1, 4, 7], [], 0, [], []⟩, ⟨[], [], []⟩, (.ex 0), ref_At_L1_T0 l a w2))], []⟩ 21 [.sl (l.map Seat.enc), .v (.int .u64 a)] K
  = ((lp (polF 21) c_ref_At_L1 (ref_At_L1_S l a 0) (fun e' S' => e' = (.ex 0) ∧ S' = ref_At_L1_T0 l a w2)) ∧ K (.tup [.agg [.v (.string ByteArray.empty), .v (.int .i64 0), .v (.int .i64 0), .v (.int .u64 0)], .v (.int .i64 0), .v (.int .i64 6)])) := by kernel_rfl
theorem ref_At_p1 (l : (List Seat)) (a : Int) (w2 : ByteArray × Int × Int × Int × Int) (K : AV → Prop) : opure (cx pc sc lp) cd ⟨ord21, [], [], [(2, (⟨[0, 1, 4, 7], [], 0, [], []⟩, ⟨[], [], []⟩, .ret, ref_At_L1_T1 l a w2))], []⟩ 21 [.sl (l.map Seat.enc), .v (.int .u64 a)] K
  = ((lp (polF 21) c_ref_At_L1 (ref_At_L1_S l a 0) (fun e' S' => e' = .ret ∧ S' = ref_At_L1_T1 l a w2)) ∧ K (.tup [.agg [.v (.string w2.1), .v (.int .i64 w2.2.1), .v (.int .i64 w2.2.2.1), .v (.int .u64 w2.2.2.2.1)], .v (.int .i64 w2.2.2.2.2), .v (.int .i64 0)])) := by kernel_rfl
theorem ref_At_sim (n : Nat) (l : (List Seat)) (a : Int) (r : Seat × Int × Int) (h : ref_At n l a = some r) : PCall Try.prog 21 [.sl (l.map Seat.enc), .v (.int .u64 a)] (fun x => x = .tup [.agg [.v (.string r.1.Piece.Name), .v (.int .i64 r.1.Piece.Size), .v (.int .i64 r.1.Piece.Hart), .v (.int .u64 r.1.Addr)], .v (.int .i64 r.2.1), .v (.int .i64 r.2.2)]) := by
  unfold ref_At at h
  obtain ⟨t1, gt1, h⟩ := bindE h
  rcases t1 with w2 | w2
  · skip
    have e := Option.some.inj h
    subst e
    exact okP ordB21 (Eq.mpr (ref_At_p0 (PCall Try.prog) (SD Try.prog) (LoopD Try.prog) (CodeD Try.prog) l a w2 _) (⟨okL (ref_At_L1_S l a) (ref_At_L1_out l a) (ref_At_L1_sim n l a) n _ (.inl w2) gt1, LeA.refl _⟩))
  · skip
    have e := Option.some.inj h
    subst e
    exact okP ordB21 (Eq.mpr (ref_At_p1 (PCall Try.prog) (SD Try.prog) (LoopD Try.prog) (CodeD Try.prog) l a w2 _) (⟨okL (ref_At_L1_S l a) (ref_At_L1_out l a) (ref_At_L1_sim n l a) n _ (.inr w2) gt1, LeA.refl _⟩))

def ord22 : List (Nat × List Nat) := [(6, [0, 1, 2, 3, 4, 5, 6, 7, 8])]
theorem ordB22 : ordB (polF 22) ord22 (bodyOf Try.prog 22) = true := by kernel_rfl
noncomputable def c_kit_Same_Seat_L1 : Code := sub (bodyOf Try.prog 22) [1, 1, 0, 1, 0, 0]
theorem ordB_kit_Same_Seat_L1 : ordB (polF 22) ord22 c_kit_Same_Seat_L1 = true := by kernel_rfl
def kit_Same_Seat_L1_S (a : (List Seat)) (b : (List Seat)) (sa : Int) : St := mkS 26 [(0, .sl (a.map Seat.enc)), (1, .sl (b.map Seat.enc)), (5, .v (.int .i64 sa))] [] [] 0
def kit_Same_Seat_L1_T0 (a : (List Seat)) (b : (List Seat)) (tt : Unit) : St := mkS 26 [] [] [] 0
def kit_Same_Seat_L1_T1 (a : (List Seat)) (b : (List Seat)) (tt : Unit) : St := mkS 26 [(4, .v (.bool false))] [] [] 0
def kit_Same_Seat_L1_out (a : (List Seat)) (b : (List Seat)) (t0 : (Unit ⊕ Unit)) : Ex × St := match t0 with | .inl tt => (.ex 0, kit_Same_Seat_L1_T0 a b tt) | .inr tt => (.ret, kit_Same_Seat_L1_T1 a b tt)
theorem kit_Same_Seat_L1_p0 (a : (List Seat)) (b : (List Seat)) (sa : Int) (xa2 : Seat) (xa3 : Seat) (K : Ex → St → Prop) : oround (cx pc sc lp) cd ⟨ord22, [(4, ⟨[], [], [], [(13, .v (.int .i64 (a.length : Int))), (14, .v (.bool true))], [], [], [], []⟩), (6, ⟨[], [25], [(19, [.v (.string xa2.Piece.Name), .v (.int .i64 xa2.Piece.Size), .v (.int .i64 xa2.Piece.Hart), .v (.int .u64 xa2.Addr)]), (23, [.v (.string xa3.Piece.Name), .v (.int .i64 xa3.Piece.Size), .v (.int .i64 xa3.Piece.Hart), .v (.int .u64 xa3.Addr)])], [(25, .v (.bool true))], [], [], [], []⟩)], [], [], []⟩ (polF 22) [(1, ⟨[4], [], 0, [], []⟩, ⟨[], [], []⟩)] c_kit_Same_Seat_L1 (kit_Same_Seat_L1_S a b sa) K
  = ((AV.v (.int .i64 (((a.map Seat.enc).length : Nat) : Int)) = AV.v (.int .i64 (a.length : Int))) ∧ (AV.v (.bool (decide (sa < (a.length : Int)))) = AV.v (.bool true)) ∧ (at? (a.map Seat.enc) sa = some [.v (.string xa2.Piece.Name), .v (.int .i64 xa2.Piece.Size), .v (.int .i64 xa2.Piece.Hart), .v (.int .u64 xa2.Addr)]) ∧ (at? (b.map Seat.enc) sa = some [.v (.string xa3.Piece.Name), .v (.int .i64 xa3.Piece.Size), .v (.int .i64 xa3.Piece.Hart), .v (.int .u64 xa3.Addr)]) ∧ (aggEq Try.prog .neq 41 [(.string xa2.Piece.Name), (.int .i64 xa2.Piece.Size), (.int .i64 xa2.Piece.Hart), (.int .u64 xa2.Addr)] [(.string xa3.Piece.Name), (.int .i64 xa3.Piece.Size), (.int .i64 xa3.Piece.Hart), (.int .u64 xa3.Addr)] = some (.bool true)) ∧ (AV.v (.bool true) = AV.v (.bool true)) ∧ K .ret (kit_Same_Seat_L1_T1 a b ())) := by kernel_rfl
theorem kit_Same_Seat_L1_p1 (a : (List Seat)) (b : (List Seat)) (sa : Int) (xa2 : Seat) (xa3 : Seat) (K : Ex → St → Prop) : oround (cx pc sc lp) cd ⟨ord22, [(4, ⟨[], [], [], [(13, .v (.int .i64 (a.length : Int))), (14, .v (.bool true))], [], [], [], []⟩), (6, ⟨[], [25], [(19, [.v (.string xa2.Piece.Name), .v (.int .i64 xa2.Piece.Size), .v (.int .i64 xa2.Piece.Hart), .v (.int .u64 xa2.Addr)]), (23, [.v (.string xa3.Piece.Name), .v (.int .i64 xa3.Piece.Size), .v (.int .i64 xa3.Piece.Hart), .v (.int .u64 xa3.Addr)])], [(25, .v (.bool false))], [], [], [], []⟩)], [], [], []⟩ (polF 22) [(0, ⟨[0, 1, 5], [], 0, [], []⟩, ⟨[], [], []⟩)] c_kit_Same_Seat_L1 (kit_Same_Seat_L1_S a b sa) K
  = ((AV.v (.int .i64 (((a.map Seat.enc).length : Nat) : Int)) = AV.v (.int .i64 (a.length : Int))) ∧ (AV.v (.bool (decide (sa < (a.length : Int)))) = AV.v (.bool true)) ∧ (at? (a.map Seat.enc) sa = some [.v (.string xa2.Piece.Name), .v (.int .i64 xa2.Piece.Size), .v (.int .i64 xa2.Piece.Hart), .v (.int .u64 xa2.Addr)]) ∧ (at? (b.map Seat.enc) sa = some [.v (.string xa3.Piece.Name), .v (.int .i64 xa3.Piece.Size), .v (.int .i64 xa3.Piece.Hart), .v (.int .u64 xa3.Addr)]) ∧ (aggEq Try.prog .neq 41 [(.string xa2.Piece.Name), (.int .i64 xa2.Piece.Size), (.int .i64 xa2.Piece.Hart), (.int .u64 xa2.Addr)] [(.string xa3.Piece.Name), (.int .i64 xa3.Piece.Size), (.int .i64 xa3.Piece.Hart), (.int .u64 xa3.Addr)] = some (.bool false)) ∧ (AV.v (.bool false) = AV.v (.bool false)) ∧ K .nrm (kit_Same_Seat_L1_S a b (addW .i64 sa 1))) := by kernel_rfl
theorem kit_Same_Seat_L1_p2 (a : (List Seat)) (b : (List Seat)) (sa : Int) (K : Ex → St → Prop) : oround (cx pc sc lp) cd ⟨ord22, [(4, ⟨[], [], [], [(13, .v (.int .i64 (a.length : Int))), (14, .v (.bool false))], [], [], [], []⟩)], [], [], []⟩ (polF 22) [(2, ⟨[], [], 0, [], []⟩, ⟨[], [], []⟩)] c_kit_Same_Seat_L1 (kit_Same_Seat_L1_S a b sa) K
  = ((AV.v (.int .i64 (((a.map Seat.enc).length : Nat) : Int)) = AV.v (.int .i64 (a.length : Int))) ∧ (AV.v (.bool (decide (sa < (a.length : Int)))) = AV.v (.bool false)) ∧ K (.ex 0) (kit_Same_Seat_L1_T0 a b ())) := by kernel_rfl
theorem kit_Same_Seat_L1_sim (n : Nat) (a : (List Seat)) (b : (List Seat)) : ∀ sa r, kit_Same_Seat_L1 n a b sa = some r → CodeD Try.prog c_kit_Same_Seat_L1 (kit_Same_Seat_L1_S a b sa) (rk (kit_Same_Seat_L1_S a b) (kit_Same_Seat_L1_out a b) r) := by
  intro sa r h
  unfold kit_Same_Seat_L1 at h
  rcases bcase (decide (sa < (a.length : Int))) with ha1 | ha1
  · replace h := iteT ha1 h
    obtain ⟨xa2, gxa2, h⟩ := bindE h
    obtain ⟨xa3, gxa3, h⟩ := bindE h
    rcases bcase (!(Seat.beq xa2 xa3)) with ha4 | ha4
    · replace h := iteT ha4 h
      have e := Option.some.inj h
      subst e
      exact okR ordB_kit_Same_Seat_L1 (Eq.mpr (kit_Same_Seat_L1_p0 (PCall Try.prog) (SD Try.prog) (LoopD Try.prog) (CodeD Try.prog) a b sa xa2 xa3 _) ⟨len_map _ _, congrArg aBool ha1, at_map Seat.enc gxa2, at_map Seat.enc gxa3, (aggEq_Seat_neq xa2 xa3).trans (congrArg (fun b => some (Value.bool b)) ha4), rfl, ⟨rfl, rfl⟩⟩) (rkE rfl neR)
    · replace h := iteF ha4 h
      have e := Option.some.inj h
      subst e
      exact okR ordB_kit_Same_Seat_L1 (Eq.mpr (kit_Same_Seat_L1_p1 (PCall Try.prog) (SD Try.prog) (LoopD Try.prog) (CodeD Try.prog) a b sa xa2 xa3 _) ⟨len_map _ _, congrArg aBool ha1, at_map Seat.enc gxa2, at_map Seat.enc gxa3, (aggEq_Seat_neq xa2 xa3).trans (congrArg (fun b => some (Value.bool b)) ha4), rfl, ⟨rfl, rfl⟩⟩) rkN
  · replace h := iteF ha1 h
    have e := Option.some.inj h
    subst e
    exact okR ordB_kit_Same_Seat_L1 (Eq.mpr (kit_Same_Seat_L1_p2 (PCall Try.prog) (SD Try.prog) (LoopD Try.prog) (CodeD Try.prog) a b sa _) ⟨len_map _ _, congrArg aBool ha1, ⟨rfl, rfl⟩⟩) (rkE rfl neE)

theorem kit_Same_Seat_p0 (a : (List Seat)) (b : (List Seat)) (K : AV → Prop) : opure (cx pc sc lp) cd ⟨ord22, [(1, ⟨[], [], [], [(7, .v (.int .i64 (a.length : Int))), (9, .v (.int .i64 (b.length : Int))), (10, .v (.bool true))], [], [], [], []⟩)], [], [], []⟩ 22 [.sl (a.map Seat.enc), .sl (b.map Seat.enc)] K
  = ((AV.v (.int .i64 (((a.map Seat.enc).length : Nat) : Int)) = AV.v (.int .i64 (a.length : Int))) ∧ (AV.v (.int .i64 (((b.map Seat.enc).length : Nat) : Int)) = AV.v (.int .i64 (b.length : Int))) ∧ (AV.v (.bool ((a.length : Int) != (b.length : Int))) = AV.v (.bool true)) ∧ K (.v (.bool false))) := by kernel_rfl
theorem kit_Same_Seat_p1 (a : (List Seat)) (b : (List Seat)) (w3 : Unit) (K : AV → Prop) : opure (cx pc sc lp) cd ⟨ord22, [(1, ⟨[], [], [], [(7, .v (.int .i64 (a.length : Int))), (9, .v (.int .i64 (b.length : Int))), (10, .v (.bool false))], [], [], [], []⟩)], [], [(4, (⟨[0, 1, 5], [], 0, [], []⟩, ⟨[], [], []⟩, (.ex 0), kit_Same_Seat_L1_T0 a b w3))], []⟩ 22 [.sl (a.map Seat.enc), .sl (b.map Seat.enc)] K
  = ((AV.v (.int .i64 (((a.map Seat.enc).length : Nat) : Int)) = AV.v (.int .i64 (a.length : Int))) ∧ (AV.v (.int .i64 (((b.map Seat.enc).length : Nat) : Int)) = AV.v (.int .i64 (b.length : Int))) ∧ (AV.v (.bool ((a.length : Int) != (b.length : Int))) = AV.v (.bool false)) ∧ (lp (polF 22) c_kit_Same_Seat_L1 (kit_Same_Seat_L1_S a b 0) (fun e' S' => e' = (.ex 0) ∧ S' = kit_Same_Seat_L1_T0 a b w3)) ∧ K (.v (.bool true))) := by kernel_rfl
theorem kit_Same_Seat_p2 (a : (List Seat)) (b : (List Seat)) (w3 : Unit) (K : AV → Prop) : opure (cx pc sc lp) cd ⟨ord22, [(1, ⟨[], [], [], [(7, .v (.int .i64 (a.length : Int))), (9, .v (.int .i64 (b.length : Int))), (10, .v (.bool false))], [], [], [], []⟩)], [], [(4, (⟨[0, 1, 5], [], 0, [], []⟩, ⟨[], [], []⟩, .ret, kit_Same_Seat_L1_T1 a b w3))], []⟩ 22 [.sl (a.map Seat.enc), .sl (b.map Seat.enc)] K
  = ((AV.v (.int .i64 (((a.map Seat.enc).length : Nat) : Int)) = AV.v (.int .i64 (a.length : Int))) ∧ (AV.v (.int .i64 (((b.map Seat.enc).length : Nat) : Int)) = AV.v (.int .i64 (b.length : Int))) ∧ (AV.v (.bool ((a.length : Int) != (b.length : Int))) = AV.v (.bool false)) ∧ (lp (polF 22) c_kit_Same_Seat_L1 (kit_Same_Seat_L1_S a b 0) (fun e' S' => e' = .ret ∧ S' = kit_Same_Seat_L1_T1 a b w3)) ∧ K (.v (.bool false))) := by kernel_rfl
theorem kit_Same_Seat_sim (n : Nat) (a : (List Seat)) (b : (List Seat)) (r : Bool) (h : kit_Same_Seat n a b = some r) : PCall Try.prog 22 [.sl (a.map Seat.enc), .sl (b.map Seat.enc)] (fun x => x = .v (.bool r)) := by
  unfold kit_Same_Seat at h
  rcases bcase ((a.length : Int) != (b.length : Int)) with h1 | h1
  · replace h := iteT h1 h
    have e := Option.some.inj h
    subst e
    exact okP ordB22 (Eq.mpr (kit_Same_Seat_p0 (PCall Try.prog) (SD Try.prog) (LoopD Try.prog) (CodeD Try.prog) a b _) (⟨len_map _ _, len_map _ _, congrArg aBool h1, LeA.refl _⟩))
  · replace h := iteF h1 h
    obtain ⟨t2, gt2, h⟩ := bindE h
    rcases t2 with w3 | w3
    · skip
      have e := Option.some.inj h
      subst e
      exact okP ordB22 (Eq.mpr (kit_Same_Seat_p1 (PCall Try.prog) (SD Try.prog) (LoopD Try.prog) (CodeD Try.prog) a b w3 _) (⟨len_map _ _, len_map _ _, congrArg aBool h1, okL (kit_Same_Seat_L1_S a b) (kit_Same_Seat_L1_out a b) (kit_Same_Seat_L1_sim n a b) n _ (.inl w3) gt2, LeA.refl _⟩))
    · skip
      have e := Option.some.inj h
      subst e
      exact okP ordB22 (Eq.mpr (kit_Same_Seat_p2 (PCall Try.prog) (SD Try.prog) (LoopD Try.prog) (CodeD Try.prog) a b w3 _) (⟨len_map _ _, len_map _ _, congrArg aBool h1, okL (kit_Same_Seat_L1_S a b) (kit_Same_Seat_L1_out a b) (kit_Same_Seat_L1_sim n a b) n _ (.inr w3) gt2, LeA.refl _⟩))

def ord11 : List (Nat × List Nat) := []
theorem ordB11 : ordB (polF 11) ord11 (bodyOf Try.prog 11) = true := by kernel_rfl
noncomputable def c_data_Size_L1 : Code := sub (bodyOf Try.prog 11) [1, 1, 0, 1, 0, 0]
theorem ordB_data_Size_L1 : ordB (polF 11) ord11 c_data_Size_L1 = true := by kernel_rfl
def data_Size_L1_S (l : (List Piece)) (sa : Int × Int) : St := mkS 20 [(2, .v (.int .i64 sa.2)), (8, .sl (l.map Piece.enc)), (9, .v (.int .i64 (l.length : Int))), (10, .v (.int .i64 sa.1))] [] [] 0
def data_Size_L1_T0 (l : (List Piece)) (tt : Int) : St := mkS 20 [(2, .v (.int .i64 tt))] [] [] 0
def data_Size_L1_out (l : (List Piece)) (tt : Int) : Ex × St := (.ex 0, data_Size_L1_T0 l tt)
theorem data_Size_L1_p0 (l : (List Piece)) (sa : Int × Int) (xa2 : Piece) (K : Ex → St → Prop) : oround (cx pc sc lp) cd ⟨ord11, [(4, ⟨[], [], [], [(11, .v (.bool true))], [], [], [], []⟩), (5, ⟨[], [], [(12, [.v (.string xa2.Name), .v (.int .i64 xa2.Size), .v (.int .i64 xa2.Hart)])], [], [], [], [], []⟩)], [], [], []⟩ (polF 11) [(0, ⟨[2, 8, 9, 10], [4], 0, [], []⟩, ⟨[], [], []⟩)] c_data_Size_L1 (data_Size_L1_S l sa) K
  = ((AV.v (.bool (decide (sa.1 < (l.length : Int)))) = AV.v (.bool true)) ∧ (at? (l.map Piece.enc) sa.1 = some [.v (.string xa2.Name), .v (.int .i64 xa2.Size), .v (.int .i64 xa2.Hart)]) ∧ K .nrm (data_Size_L1_S l ((addW .i64 sa.1 1), (addW .i64 sa.2 xa2.Size)))) := by kernel_rfl
theorem data_Size_L1_p1 (l : (List Piece)) (sa : Int × Int) (K : Ex → St → Prop) : oround (cx pc sc lp) cd ⟨ord11, [(4, ⟨[], [], [], [(11, .v (.bool false))], [], [], [], []⟩)], [], [], []⟩ (polF 11) [(2, ⟨[2], [], 0, [], []⟩, ⟨[], [], []⟩)] c_data_Size_L1 (data_Size_L1_S l sa) K
  = ((AV.v (.bool (decide (sa.1 < (l.length : Int)))) = AV.v (.bool false)) ∧ K (.ex 0) (data_Size_L1_T0 l sa.2)) := by kernel_rfl
theorem data_Size_L1_sim (n : Nat) (l : (List Piece)) : ∀ sa r, data_Size_L1 n l sa = some r → CodeD Try.prog c_data_Size_L1 (data_Size_L1_S l sa) (rk (data_Size_L1_S l) (data_Size_L1_out l) r) := by
  intro sa r h
  unfold data_Size_L1 at h
  rcases bcase (decide (sa.1 < (l.length : Int))) with ha1 | ha1
  · replace h := iteT ha1 h
    obtain ⟨xa2, gxa2, h⟩ := bindE h
    have e := Option.some.inj h
    subst e
    exact okR ordB_data_Size_L1 (Eq.mpr (data_Size_L1_p0 (PCall Try.prog) (SD Try.prog) (LoopD Try.prog) (CodeD Try.prog) l sa xa2 _) ⟨congrArg aBool ha1, at_map Piece.enc gxa2, ⟨rfl, rfl⟩⟩) rkN
  · replace h := iteF ha1 h
    have e := Option.some.inj h
    subst e
    exact okR ordB_data_Size_L1 (Eq.mpr (data_Size_L1_p1 (PCall Try.prog) (SD Try.prog) (LoopD Try.prog) (CodeD Try.prog) l sa _) ⟨congrArg aBool ha1, ⟨rfl, rfl⟩⟩) (rkE rfl neE)

theorem data_Size_p0 (l : (List Piece)) (y1 : Int) (K : AV → Prop) : opure (cx pc sc lp) cd ⟨ord11, [(1, ⟨[], [], [], [(7, .v (.bool true))], [(6, .v (.int .i64 y1))], [], [], []⟩)], [], [], []⟩ 11 [.sl (l.map Piece.enc)] K
  = ((pc 9 [.sl (l.map Piece.enc)] (fun x => x = .v (.int .i64 y1))) ∧ (AV.v (.bool (y1 != 0)) = AV.v (.bool true)) ∧ K (.v (.int .i64 0))) := by kernel_rfl
theorem data_Size_p1 (l : (List Piece)) (y1 : Int) (t3 : Int) (K : AV → Prop) : opure (cx pc sc lp) cd ⟨ord11, [(1, ⟨[], [], [], [(7, .v (.bool false))], [(6, .v (.int .i64 y1))], [], [], []⟩), (3, ⟨[], [], [], [(9, .v (.int .i64 (l.length : Int)))], [], [], [], []⟩)], [], [(4, (⟨[2, 8, 9, 10], [], 0, [], []⟩, ⟨[], [], []⟩, (.ex 0), data_Size_L1_T0 l t3))], []⟩ 11 [.sl (l.map Piece.enc)] K
  = ((pc 9 [.sl (l.map Piece.enc)] (fun x => x = .v (.int .i64 y1))) ∧ (AV.v (.bool (y1 != 0)) = AV.v (.bool false)) ∧ (AV.v (.int .i64 (((l.map Piece.enc).length : Nat) : Int)) = AV.v (.int .i64 (l.length : Int))) ∧ (lp (polF 11) c_data_Size_L1 (data_Size_L1_S l (0, 0)) (fun e' S' => e' = (.ex 0) ∧ S' = data_Size_L1_T0 l t3)) ∧ K (.v (.int .i64 t3))) := by kernel_rfl
theorem data_Size_sim (n : Nat) (l : (List Piece)) (r : Int) (h : data_Size n l = some r) : PCall Try.prog 11 [.sl (l.map Piece.enc)] (fun x => x = .v (.int .i64 r)) := by
  unfold data_Size at h
  obtain ⟨y1, gy1, h⟩ := bindE h
  rcases bcase (y1 != 0) with h2 | h2
  · replace h := iteT h2 h
    have e := Option.some.inj h
    subst e
    exact okP ordB11 (Eq.mpr (data_Size_p0 (PCall Try.prog) (SD Try.prog) (LoopD Try.prog) (CodeD Try.prog) l y1 _) (⟨(data_Check_sim n l y1 gy1), congrArg aBool h2, LeA.refl _⟩))
  · replace h := iteF h2 h
    obtain ⟨t3, gt3, h⟩ := bindE h
    have e := Option.some.inj h
    subst e
    exact okP ordB11 (Eq.mpr (data_Size_p1 (PCall Try.prog) (SD Try.prog) (LoopD Try.prog) (CodeD Try.prog) l y1 t3 _) (⟨(data_Check_sim n l y1 gy1), congrArg aBool h2, len_map _ _, okL (data_Size_L1_S l) (data_Size_L1_out l) (data_Size_L1_sim n l) n _ t3 gt3, LeA.refl _⟩))

def ord24 : List (Nat × List Nat) := []
theorem ordB24 : ordB (polF 24) ord24 (bodyOf Try.prog 24) = true := by kernel_rfl
noncomputable def c_ref_Size_L1 : Code := sub (bodyOf Try.prog 24) [1, 1, 0, 1, 0, 0]
theorem ordB_ref_Size_L1 : ordB (polF 24) ord24 c_ref_Size_L1 = true := by kernel_rfl
def ref_Size_L1_S (l : (List Piece)) (sa : Int × Int) : St := mkS 24 [(0, .sl (l.map Piece.enc)), (3, .v (.int .i64 sa.1)), (4, .v (.int .i64 sa.2))] [] [] 0
def ref_Size_L1_T0 (l : (List Piece)) (tt : Int) : St := mkS 24 [(3, .v (.int .i64 tt))] [] [] 0
def ref_Size_L1_out (l : (List Piece)) (tt : Int) : Ex × St := (.ex 0, ref_Size_L1_T0 l tt)
theorem ref_Size_L1_p0 (l : (List Piece)) (sa : Int × Int) (ya2 : Int) (xa4 : Piece) (K : Ex → St → Prop) : oround (cx pc sc lp) cd ⟨ord24, [(3, ⟨[], [], [], [(7, .v (.int .i64 (l.length : Int))), (9, .v (.bool true)), (13, .v (.bool true))], [(11, .v (.int .i64 ya2))], [], [], []⟩), (5, ⟨[], [], [(19, [.v (.string xa4.Name), .v (.int .i64 xa4.Size), .v (.int .i64 xa4.Hart)])], [], [], [], [], []⟩)], [], [], []⟩ (polF 24) [(0, ⟨[0, 3, 4], [], 0, [], []⟩, ⟨[], [], []⟩)] c_ref_Size_L1 (ref_Size_L1_S l sa) K
  = ((AV.v (.int .i64 (((l.map Piece.enc).length : Nat) : Int)) = AV.v (.int .i64 (l.length : Int))) ∧ (AV.v (.bool (decide (sa.2 < (l.length : Int)))) = AV.v (.bool true)) ∧ (pc 23 [.sl (l.map Piece.enc)] (fun x => x = .v (.int .i64 ya2))) ∧ (AV.v (.bool (ya2 == 0)) = AV.v (.bool true)) ∧ (at? (l.map Piece.enc) sa.2 = some [.v (.string xa4.Name), .v (.int .i64 xa4.Size), .v (.int .i64 xa4.Hart)]) ∧ K .nrm (ref_Size_L1_S l ((addW .i64 sa.1 xa4.Size), (addW .i64 sa.2 1)))) := by kernel_rfl
theorem ref_Size_L1_p1 (l : (List Piece)) (sa : Int × Int) (ya2 : Int) (K : Ex → St → Prop) : oround (cx pc sc lp) cd ⟨ord24, [(3, ⟨[], [], [], [(7, .v (.int .i64 (l.length : Int))), (9, .v (.bool true)), (13, .v (.bool false))], [(11, .v (.int .i64 ya2))], [], [], []⟩)], [], [], []⟩ (polF 24) [(2, ⟨[3], [], 0, [], []⟩, ⟨[], [], []⟩)] c_ref_Size_L1 (ref_Size_L1_S l sa) K
  = ((AV.v (.int .i64 (((l.map Piece.enc).length : Nat) : Int)) = AV.v (.int .i64 (l.length : Int))) ∧ (AV.v (.bool (decide (sa.2 < (l.length : Int)))) = AV.v (.bool true)) ∧ (pc 23 [.sl (l.map Piece.enc)] (fun x => x = .v (.int .i64 ya2))) ∧ (AV.v (.bool (ya2 == 0)) = AV.v (.bool false)) ∧ K (.ex 0) (ref_Size_L1_T0 l sa.1)) := by kernel_rfl
theorem ref_Size_L1_p2 (l : (List Piece)) (sa : Int × Int) (K : Ex → St → Prop) : oround (cx pc sc lp) cd ⟨ord24, [(3, ⟨[], [], [], [(7, .v (.int .i64 (l.length : Int))), (9, .v (.bool false))], [], [], [], []⟩)], [], [], []⟩ (polF 24) [(2, ⟨[3], [], 0, [], []⟩, ⟨[], [], []⟩)] c_ref_Size_L1 (ref_Size_L1_S l sa) K
  = ((AV.v (.int .i64 (((l.map Piece.enc).length : Nat) : Int)) = AV.v (.int .i64 (l.length : Int))) ∧ (AV.v (.bool (decide (sa.2 < (l.length : Int)))) = AV.v (.bool false)) ∧ K (.ex 0) (ref_Size_L1_T0 l sa.1)) := by kernel_rfl
theorem ref_Size_L1_sim (n : Nat) (l : (List Piece)) : ∀ sa r, ref_Size_L1 n l sa = some r → CodeD Try.prog c_ref_Size_L1 (ref_Size_L1_S l sa) (rk (ref_Size_L1_S l) (ref_Size_L1_out l) r) := by
  intro sa r h
  unfold ref_Size_L1 at h
  rcases bcase (decide (sa.2 < (l.length : Int))) with ha1 | ha1
  · replace h := iteT ha1 h
    obtain ⟨ya2, gya2, h⟩ := bindE h
    rcases bcase (ya2 == 0) with ha3 | ha3
    · replace h := iteT ha3 h
      obtain ⟨xa4, gxa4, h⟩ := bindE h
      have e := Option.some.inj h
      subst e
      exact okR ordB_ref_Size_L1 (Eq.mpr (ref_Size_L1_p0 (PCall Try.prog) (SD Try.prog) (LoopD Try.prog) (CodeD Try.prog) l sa ya2 xa4 _) ⟨len_map _ _, congrArg aBool ha1, (ref_Check_sim n l ya2 gya2), congrArg aBool ha3, at_map Piece.enc gxa4, ⟨rfl, rfl⟩⟩) rkN
    · replace h := iteF ha3 h
      have e := Option.some.inj h
      subst e
      exact okR ordB_ref_Size_L1 (Eq.mpr (ref_Size_L1_p1 (PCall Try.prog) (SD Try.prog) (LoopD Try.prog) (CodeD Try.prog) l sa ya2 _) ⟨len_map _ _, congrArg aBool ha1, (ref_Check_sim n l ya2 gya2), congrArg aBool ha3, ⟨rfl, rfl⟩⟩) (rkE rfl neE)
  · replace h := iteF ha1 h
    have e := Option.some.inj h
    subst e
    exact okR ordB_ref_Size_L1 (Eq.mpr (ref_Size_L1_p2 (PCall Try.prog) (SD Try.prog) (LoopD Try.prog) (CodeD Try.prog) l sa _) ⟨len_map _ _, congrArg aBool ha1, ⟨rfl, rfl⟩⟩) (rkE rfl neE)

theorem ref_Size_p0 (l : (List Piece)) (t1 : Int) (K : AV → Prop) : opure (cx pc sc lp) cd ⟨ord24, [], [], [(3, (⟨[0, 3, 4], [], 0, [], []⟩, ⟨[], [], []⟩, (.ex 0), ref_Size_L1_T0 l t1))], []⟩ 24 [.sl (l.map Piece.enc)] K
  = ((lp (polF 24) c_ref_Size_L1 (ref_Size_L1_S l (0, 0)) (fun e' S' => e' = (.ex 0) ∧ S' = ref_Size_L1_T0 l t1)) ∧ K (.v (.int .i64 t1))) := by kernel_rfl
theorem ref_Size_sim (n : Nat) (l : (List Piece)) (r : Int) (h : ref_Size n l = some r) : PCall Try.prog 24 [.sl (l.map Piece.enc)] (fun x => x = .v (.int .i64 r)) := by
  unfold ref_Size at h
  obtain ⟨t1, gt1, h⟩ := bindE h
  have e := Option.some.inj h
  subst e
  exact okP ordB24 (Eq.mpr (ref_Size_p0 (PCall Try.prog) (SD Try.prog) (LoopD Try.prog) (CodeD Try.prog) l t1 _) (⟨okL (ref_Size_L1_S l) (ref_Size_L1_out l) (ref_Size_L1_sim n l) n _ t1 gt1, LeA.refl _⟩))

end
end Go.Proofs.Ytnjpjmeoednfcaa
