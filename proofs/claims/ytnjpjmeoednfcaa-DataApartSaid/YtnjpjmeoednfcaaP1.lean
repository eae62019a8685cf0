/- What the functions compute, they compute: printed by a program, path by path. No conditions. -/
import Derived.Test.YtnjpjmeoednfcaaP0
import Derived.KernelRfl
namespace Go.Proofs.Ytnjpjmeoednfcaa
open Go A
set_option linter.unusedVariables false
set_option maxRecDepth 100000
set_option maxHeartbeats 0
section
variable (pc : Nat → List AV → (AV → Prop) → Prop) (sc : Nat → List AV → List Ob → (AV → List Ob → Prop) → Prop) (lp : Pol → Code → St → (Ex → St → Prop) → Prop) (cd : CutP)

def stL : List Nat := [13, 15, 27, 28, 35, 37, 38, 39, 40]
noncomputable def cfgL : A.Cfg := { P := Try.prog, pure := fun f => !(hasN stL f), pol := fun f => { esc := (polF f).esc, ms := if f = 15 then [0, 1, 2, 3, 4, 5, 6, 7, 8, 9, 10] else [], bx := (polF f).bx, st := stL } }
set_option maxRecDepth 1000000 in
set_option maxHeartbeats 0 in
theorem lives_run : A.Gives cfgL 2000 7 [] (.v (.bool true)) = (AV.v (.bool true) = AV.v (.bool true)) := by kernel_rfl
theorem cfgL_mix : cfgL.P.follows .mixedOrders = true := by kernel_rfl
theorem law_lives_sim (n : Nat) (r : Bool) (h : law_lives n = some r) : PCall Try.prog 7 [] (fun x => x = .v (.bool r)) := by
  have e := Option.some.inj h
  subst e
  exact PCall.ofN (cfg := cfgL) (noNum_of names0) cfgL_mix (by rw [lives_run])
def ord8 : List (Nat × List Nat) := []
theorem ordB8 : ordB (polF 8) ord8 (bodyOf Try.prog 8) = true := by kernel_rfl
noncomputable def c_law_light_L1 : Code := sub (bodyOf Try.prog 8) [1, 0, 1, 0, 0]
theorem ordB_law_light_L1 : ordB (polF 8) ord8 c_law_light_L1 = true := by kernel_rfl
def law_light_L1_S (l : (List Piece)) (sa : Int) : St := mkS 24 [(0, .sl (l.map Piece.enc)), (3, .v (.int .i64 sa))] [] [] 0
def law_light_L1_T0 (l : (List Piece)) (tt : Unit) : St := mkS 24 [(0, .sl (l.map Piece.enc))] [] [] 0
def law_light_L1_T1 (l : (List Piece)) (tt : Unit) : St := mkS 24 [(2, .v (.bool false))] [] [] 0
def law_light_L1_out (l : (List Piece)) (t0 : (Unit ⊕ Unit)) : Ex × St := match t0 with | .inl tt => (.ex 0, law_light_L1_T0 l tt) | .inr tt => (.ret, law_light_L1_T1 l tt)
theorem law_light_L1_p0 (l : (List Piece)) (sa : Int) (xa3 : Piece) (K : Ex → St → Prop) : oround (cx pc sc lp) cd ⟨ord8, [(2, ⟨[], [], [], [(6, .v (.int .i64 (l.length : Int))), (8, .v (.bool true)), (11, .v (.bool true))], [], [], [], []⟩), (4, ⟨[], [], [(16, [.v (.string xa3.Name), .v (.int .i64 xa3.Size), .v (.int .i64 xa3.Hart)])], [(20, .v (.bool true))], [], [], [], []⟩)], [], [], []⟩ (polF 8) [(1, ⟨[2], [], 0, [], []⟩, ⟨[], [], []⟩)] c_law_light_L1 (law_light_L1_S l sa) K
  = ((AV.v (.int .i64 (((l.map Piece.enc).length : Nat) : Int)) = AV.v (.int .i64 (l.length : Int))) ∧ (AV.v (.bool (decide (sa < (l.length : Int)))) = AV.v (.bool true)) ∧ (AV.v (.bool (decide (sa ≤ 40))) = AV.v (.bool true)) ∧ (at? (l.map Piece.enc) sa = some [.v (.string xa3.Name), .v (.int .i64 xa3.Size), .v (.int .i64 xa3.Hart)]) ∧ (AV.v (.bool (decide ((xa3.Name.size : Int) > 100))) = AV.v (.bool true)) ∧ K .ret (law_light_L1_T1 l ())) := by kernel_rfl
theorem law_light_L1_p1 (l : (List Piece)) (sa : Int) (xa3 : Piece) (K : Ex → St → Prop) : oround (cx pc sc lp) cd ⟨ord8, [(2, ⟨[], [], [], [(6, .v (.int .i64 (l.length : Int))), (8, .v (.bool true)), (11, .v (.bool true))], [], [], [], []⟩), (4, ⟨[], [], [(16, [.v (.string xa3.Name), .v (.int .i64 xa3.Size), .v (.int .i64 xa3.Hart)])], [(20, .v (.bool false))], [], [], [], []⟩)], [], [], []⟩ (polF 8) [(0, ⟨[0, 3], [], 0, [], []⟩, ⟨[], [], []⟩)] c_law_light_L1 (law_light_L1_S l sa) K
  = ((AV.v (.int .i64 (((l.map Piece.enc).length : Nat) : Int)) = AV.v (.int .i64 (l.length : Int))) ∧ (AV.v (.bool (decide (sa < (l.length : Int)))) = AV.v (.bool true)) ∧ (AV.v (.bool (decide (sa ≤ 40))) = AV.v (.bool true)) ∧ (at? (l.map Piece.enc) sa = some [.v (.string xa3.Name), .v (.int .i64 xa3.Size), .v (.int .i64 xa3.Hart)]) ∧ (AV.v (.bool (decide ((xa3.Name.size : Int) > 100))) = AV.v (.bool false)) ∧ K .nrm (law_light_L1_S l (addW .i64 sa 1))) := by kernel_rfl
theorem law_light_L1_p2 (l : (List Piece)) (sa : Int) (K : Ex → St → Prop) : oround (cx pc sc lp) cd ⟨ord8, [(2, ⟨[], [], [], [(6, .v (.int .i64 (l.length : Int))), (8, .v (.bool true)), (11, .v (.bool false))], [], [], [], []⟩)], [], [], []⟩ (polF 8) [(2, ⟨[0], [], 0, [], []⟩, ⟨[], [], []⟩)] c_law_light_L1 (law_light_L1_S l sa) K
  = ((AV.v (.int .i64 (((l.map Piece.enc).length : Nat) : Int)) = AV.v (.int .i64 (l.length : Int))) ∧ (AV.v (.bool (decide (sa < (l.length : Int)))) = AV.v (.bool true)) ∧ (AV.v (.bool (decide (sa ≤ 40))) = AV.v (.bool false)) ∧ K (.ex 0) (law_light_L1_T0 l ())) := by kernel_rfl
theorem law_light_L1_p3 (l : (List Piece)) (sa : Int) (K : Ex → St → Prop) : oround (cx pc sc lp) cd ⟨ord8, [(2, ⟨[], [], [], [(6, .v (.int .i64 (l.length : Int))), (8, .v (.bool false))], [], [], [], []⟩)], [], [], []⟩ (polF 8) [(2, ⟨[0], [], 0, [], []⟩, ⟨[], [], []⟩)] c_law_light_L1 (law_light_L1_S l sa) K
  = ((AV.v (.int .i64 (((l.map Piece.enc).length : Nat) : Int)) = AV.v (.int .i64 (l.length : Int))) ∧ (AV.v (.bool (decide (sa < (l.length : Int)))) = AV.v (.bool false)) ∧ K (.ex 0) (law_light_L1_T0 l ())) := by kernel_rfl
theorem law_light_L1_sim (n : Nat) (l : (List Piece)) : ∀ sa r, law_light_L1 n l sa = some r → CodeD Try.prog c_law_light_L1 (law_light_L1_S l sa) (rk (law_light_L1_S l) (law_light_L1_out l) r) := by
  intro sa r h
  unfold law_light_L1 at h
  rcases bcase (decide (sa < (l.length : Int))) with ha1 | ha1
  · replace h := iteT ha1 h
    rcases bcase (decide (sa ≤ 40)) with ha2 | ha2
    · replace h := iteT ha2 h
      obtain ⟨xa3, gxa3, h⟩ := bindE h
      rcases bcase (decide ((xa3.Name.size : Int) > 100)) with ha4 | ha4
      · replace h := iteT ha4 h
        have e := Option.some.inj h
        subst e
        exact okR ordB_law_light_L1 (Eq.mpr (law_light_L1_p0 (PCall Try.prog) (SD Try.prog) (LoopD Try.prog) (CodeD Try.prog) l sa xa3 _) ⟨len_map _ _, congrArg aBool ha1, congrArg aBool ha2, at_map Piece.enc gxa3, congrArg aBool ha4, ⟨rfl, rfl⟩⟩) (rkE rfl neR)
      · replace h := iteF ha4 h
        have e := Option.some.inj h
        subst e
        exact okR ordB_law_light_L1 (Eq.mpr (law_light_L1_p1 (PCall Try.prog) (SD Try.prog) (LoopD Try.prog) (CodeD Try.prog) l sa xa3 _) ⟨len_map _ _, congrArg aBool ha1, congrArg aBool ha2, at_map Piece.enc gxa3, congrArg aBool ha4, ⟨rfl, rfl⟩⟩) rkN
    · replace h := iteF ha2 h
      have e := Option.some.inj h
      subst e
      exact okR ordB_law_light_L1 (Eq.mpr (law_light_L1_p2 (PCall Try.prog) (SD Try.prog) (LoopD Try.prog) (CodeD Try.prog) l sa _) ⟨len_map _ _, congrArg aBool ha1, congrArg aBool ha2, ⟨rfl, rfl⟩⟩) (rkE rfl neE)
  · replace h := iteF ha1 h
    have e := Option.some.inj h
    subst e
    exact okR ordB_law_light_L1 (Eq.mpr (law_light_L1_p3 (PCall Try.prog) (SD Try.prog) (LoopD Try.prog) (CodeD Try.prog) l sa _) ⟨len_map _ _, congrArg aBool ha1, ⟨rfl, rfl⟩⟩) (rkE rfl neE)

theorem law_light_p0 (l : (List Piece)) (w2 : Unit) (K : AV → Prop) : opure (cx pc sc lp) cd ⟨ord8, [(6, ⟨[], [], [], [(22, .v (.int .i64 (l.length : Int)))], [], [], [], []⟩)], [], [(2, (⟨[0, 3], [], 0, [], []⟩, ⟨[], [], []⟩, (.ex 0), law_light_L1_T0 l w2))], []⟩ 8 [.sl (l.map Piece.enc)] K
  = ((lp (polF 8) c_law_light_L1 (law_light_L1_S l 0) (fun e' S' => e' = (.ex 0) ∧ S' = law_light_L1_T0 l w2)) ∧ (AV.v (.int .i64 (((l.map Piece.enc).length : Nat) : Int)) = AV.v (.int .i64 (l.length : Int))) ∧ K (.v (.bool (decide ((l.length : Int) ≤ 40))))) := by kernel_rfl
theorem law_light_p1 (l : (List Piece)) (w2 : Unit) (K : AV → Prop) : opure (cx pc sc lp) cd ⟨ord8, [], [], [(2, (⟨[0, 3], [], 0, [], []⟩, ⟨[], [], []⟩, .ret, law_light_L1_T1 l w2))], []⟩ 8 [.sl (l.map Piece.enc)] K
  = ((lp (polF 8) c_law_light_L1 (law_light_L1_S l 0) (fun e' S' => e' = .ret ∧ S' = law_light_L1_T1 l w2)) ∧ K (.v (.bool false))) := by kernel_rfl
theorem law_light_sim (n : Nat) (l : (List Piece)) (r : Bool) (h : law_light n l = some r) : PCall Try.prog 8 [.sl (l.map Piece.enc)] (fun x => x = .v (.bool r)) := by
  unfold law_light at h
  obtain ⟨t1, gt1, h⟩ := bindE h
  rcases t1 with w2 | w2
  · skip
    have e := Option.some.inj h
    subst e
    exact okP ordB8 (Eq.mpr (law_light_p0 (PCall Try.prog) (SD Try.prog) (LoopD Try.prog) (CodeD Try.prog) l w2 _) (⟨okL (law_light_L1_S l) (law_light_L1_out l) (law_light_L1_sim n l) n _ (.inl w2) gt1, len_map _ _, LeA.refl _⟩))
  · skip
    have e := Option.some.inj h
    subst e
    exact okP ordB8 (Eq.mpr (law_light_p1 (PCall Try.prog) (SD Try.prog) (LoopD Try.prog) (CodeD Try.prog) l w2 _) (⟨okL (law_light_L1_S l) (law_light_L1_out l) (law_light_L1_sim n l) n _ (.inr w2) gt1, LeA.refl _⟩))

def ord25 : List (Nat × List Nat) := []
theorem ordB25 : ordB (polF 25) ord25 (bodyOf Try.prog 25) = true := by kernel_rfl
theorem data_piece_may_p0 (p : data_piece) (K : AV → Prop) : opure (cx pc sc lp) cd ⟨ord25, [(1, ⟨[], [], [], [(8, .v (.bool true)), (15, .v (.bool true)), (21, .v (.bool true)), (27, .v (.bool true)), (33, .v (.bool true))], [], [], [], []⟩)], [], [], []⟩ 25 [.agg [.v (.string p.Piece.Name), .v (.int .i64 p.Piece.Size), .v (.int .i64 p.Piece.Hart)]] K
  = ((AV.v (.bool (decide ((p.Piece.Name.size : Int) ≥ 1))) = AV.v (.bool true)) ∧ (AV.v (.bool (decide ((p.Piece.Name.size : Int) ≤ 32))) = AV.v (.bool true)) ∧ (AV.v (.bool (decide (p.Piece.Size ≥ 1))) = AV.v (.bool true)) ∧ (AV.v (.bool (decide (p.Piece.Size ≤ 65536))) = AV.v (.bool true)) ∧ (AV.v (.bool (decide (p.Piece.Hart ≥ (-1)))) = AV.v (.bool true)) ∧ K (.v (.bool (decide (p.Piece.Hart < 8))))) := by kernel_rfl
theorem data_piece_may_p1 (p : data_piece) (K : AV → Prop) : opure (cx pc sc lp) cd ⟨ord25, [(1, ⟨[], [], [], [(8, .v (.bool true)), (15, .v (.bool true)), (21, .v (.bool true)), (27, .v (.bool true)), (33, .v (.bool false))], [], [], [], []⟩)], [], [], []⟩ 25 [.agg [.v (.string p.Piece.Name), .v (.int .i64 p.Piece.Size), .v (.int .i64 p.Piece.Hart)]] K
  = ((AV.v (.bool (decide ((p.Piece.Name.size : Int) ≥ 1))) = AV.v (.bool true)) ∧ (AV.v (.bool (decide ((p.Piece.Name.size : Int) ≤ 32))) = AV.v (.bool true)) ∧ (AV.v (.bool (decide (p.Piece.Size ≥ 1))) = AV.v (.bool true)) ∧ (AV.v (.bool (decide (p.Piece.Size ≤ 65536))) = AV.v (.bool true)) ∧ (AV.v (.bool (decide (p.Piece.Hart ≥ (-1)))) = AV.v (.bool false)) ∧ K (.v (.bool false))) := by kernel_rfl
theorem data_piece_may_p2 (p : data_piece) (K : AV → Prop) : opure (cx pc sc lp) cd ⟨ord25, [(1, ⟨[], [], [], [(8, .v (.bool true)), (15, .v (.bool true)), (21, .v (.bool true)), (27, .v (.bool false))], [], [], [], []⟩)], [], [], []⟩ 25 [.agg [.v (.string p.Piece.Name), .v (.int .i64 p.Piece.Size), .v (.int .i64 p.Piece.Hart)]] K
  = ((AV.v (.bool (decide ((p.Piece.Name.size : Int) ≥ 1))) = AV.v (.bool true)) ∧ (AV.v (.bool (decide ((p.Piece.Name.size : Int) ≤ 32))) = AV.v (.bool true)) ∧ (AV.v (.bool (decide (p.Piece.Size ≥ 1))) = AV.v (.bool true)) ∧ (AV.v (.bool (decide (p.Piece.Size ≤ 65536))) = AV.v (.bool false)) ∧ K (.v (.bool false))) := by kernel_rfl
theorem data_piece_may_p3 (p : data_piece) (K : AV → Prop) : opure (cx pc sc lp) cd ⟨ord25, [(1, ⟨[], [], [], [(8, .v (.bool true)), (15, .v (.bool true)), (21, .v (.bool false))], [], [], [], []⟩)], [], [], []⟩ 25 [.agg [.v (.string p.Piece.Name), .v (.int .i64 p.Piece.Size), .v (.int .i64 p.Piece.Hart)]] K
  = ((AV.v (.bool (decide ((p.Piece.Name.size : Int) ≥ 1))) = AV.v (.bool true)) ∧ (AV.v (.bool (decide ((p.Piece.Name.size : Int) ≤ 32))) = AV.v (.bool true)) ∧ (AV.v (.bool (decide (p.Piece.Size ≥ 1))) = AV.v (.bool false)) ∧ K (.v (.bool false))) := by kernel_rfl
theorem data_piece_may_p4 (p : data_piece) (K : AV → Prop) : opure (cx pc sc lp) cd ⟨ord25, [(1, ⟨[], [], [], [(8, .v (.bool true)), (15, .v (.bool false))], [], [], [], []⟩)], [], [], []⟩ 25 [.agg [.v (.string p.Piece.Name), .v (.int .i64 p.Piece.Size), .v (.int .i64 p.Piece.Hart)]] K
  = ((AV.v (.bool (decide ((p.Piece.Name.size : Int) ≥ 1))) = AV.v (.bool true)) ∧ (AV.v (.bool (decide ((p.Piece.Name.size : Int) ≤ 32))) = AV.v (.bool false)) ∧ K (.v (.bool false))) := by kernel_rfl
theorem data_piece_may_p5 (p : data_piece) (K : AV → Prop) : opure (cx pc sc lp) cd ⟨ord25, [(1, ⟨[], [], [], [(8, .v (.bool false))], [], [], [], []⟩)], [], [], []⟩ 25 [.agg [.v (.string p.Piece.Name), .v (.int .i64 p.Piece.Size), .v (.int .i64 p.Piece.Hart)]] K
  = ((AV.v (.bool (decide ((p.Piece.Name.size : Int) ≥ 1))) = AV.v (.bool false)) ∧ K (.v (.bool false))) := by kernel_rfl
theorem data_piece_may_sim (n : Nat) (p : data_piece) (r : Bool) (h : data_piece_may n p = some r) : PCall Try.prog 25 [.agg [.v (.string p.Piece.Name), .v (.int .i64 p.Piece.Size), .v (.int .i64 p.Piece.Hart)]] (fun x => x = .v (.bool r)) := by
  unfold data_piece_may at h
  rcases bcase (decide ((p.Piece.Name.size : Int) ≥ 1)) with h1 | h1
  · replace h := iteT h1 h
    rcases bcase (decide ((p.Piece.Name.size : Int) ≤ 32)) with h2 | h2
    · replace h := iteT h2 h
      rcases bcase (decide (p.Piece.Size ≥ 1)) with h3 | h3
      · replace h := iteT h3 h
        rcases bcase (decide (p.Piece.Size ≤ 65536)) with h4 | h4
        · replace h := iteT h4 h
          rcases bcase (decide (p.Piece.Hart ≥ (-1))) with h5 | h5
          · replace h := iteT h5 h
            have e := Option.some.inj h
            subst e
            exact okP ordB25 (Eq.mpr (data_piece_may_p0 (PCall Try.prog) (SD Try.prog) (LoopD Try.prog) (CodeD Try.prog) p _) (⟨congrArg aBool h1, congrArg aBool h2, congrArg aBool h3, congrArg aBool h4, congrArg aBool h5, LeA.refl _⟩))
          · replace h := iteF h5 h
            have e := Option.some.inj h
            subst e
            exact okP ordB25 (Eq.mpr (data_piece_may_p1 (PCall Try.prog) (SD Try.prog) (LoopD Try.prog) (CodeD Try.prog) p _) (⟨congrArg aBool h1, congrArg aBool h2, congrArg aBool h3, congrArg aBool h4, congrArg aBool h5, LeA.refl _⟩))
        · replace h := iteF h4 h
          have e := Option.some.inj h
          subst e
          exact okP ordB25 (Eq.mpr (data_piece_may_p2 (PCall Try.prog) (SD Try.prog) (LoopD Try.prog) (CodeD Try.prog) p _) (⟨congrArg aBool h1, congrArg aBool h2, congrArg aBool h3, congrArg aBool h4, LeA.refl _⟩))
      · replace h := iteF h3 h
        have e := Option.some.inj h
        subst e
        exact okP ordB25 (Eq.mpr (data_piece_may_p3 (PCall Try.prog) (SD Try.prog) (LoopD Try.prog) (CodeD Try.prog) p _) (⟨congrArg aBool h1, congrArg aBool h2, congrArg aBool h3, LeA.refl _⟩))
    · replace h := iteF h2 h
      have e := Option.some.inj h
      subst e
      exact okP ordB25 (Eq.mpr (data_piece_may_p4 (PCall Try.prog) (SD Try.prog) (LoopD Try.prog) (CodeD Try.prog) p _) (⟨congrArg aBool h1, congrArg aBool h2, LeA.refl _⟩))
  · replace h := iteF h1 h
    have e := Option.some.inj h
    subst e
    exact okP ordB25 (Eq.mpr (data_piece_may_p5 (PCall Try.prog) (SD Try.prog) (LoopD Try.prog) (CodeD Try.prog) p _) (⟨congrArg aBool h1, LeA.refl _⟩))

def ord9 : List (Nat × List Nat) := []
theorem ordB9 : ordB (polF 9) ord9 (bodyOf Try.prog 9) = true := by kernel_rfl
noncomputable def c_data_Check_L1 : Code := sub (bodyOf Try.prog 9) [1, 1, 1, 0, 1, 0, 0]
theorem ordB_data_Check_L1 : ordB (polF 9) ord9 c_data_Check_L1 = true := by kernel_rfl
def data_Check_L1_S (l : (List Piece)) (sa : (List (data_key × Int)) × Int × Int) : St := mkS 44 [(3, .v (.int .i64 sa.2.2)), (4, .mp 0), (9, .sl (l.map Piece.enc)), (10, .v (.int .i64 (l.length : Int))), (11, .v (.int .i64 sa.2.1))] [] [.mapo true (sa.1.map (eKV (aAgg data_key.enc) (aInt .i64)))] 0
def data_Check_L1_T0 (l : (List Piece)) (tt : Unit) : St := mkS 44 [] [] [] 0
def data_Check_L1_T1 (l : (List Piece)) (tt : Int) : St := mkS 44 [(2, .v (.int .i64 tt))] [] [] 0
def data_Check_L1_out (l : (List Piece)) (t0 : (Unit ⊕ Int)) : Ex × St := match t0 with | .inl tt => (.ex 0, data_Check_L1_T0 l tt) | .inr tt => (.ret, data_Check_L1_T1 l tt)
theorem data_Check_L1_p0 (l : (List Piece)) (sa : (List (data_key × Int)) × Int × Int) (xa2 : Piece) (ya3 : Bool) (K : Ex → St → Prop) : oround (cx pc sc lp) cd ⟨ord9, [(4, ⟨[], [], [], [(12, .v (.bool true))], [], [], [], []⟩), (5, ⟨[], [], [(14, [.v (.string xa2.Name), .v (.int .i64 xa2.Size), .v (.int .i64 xa2.Hart)])], [], [], [], [], []⟩), (7, ⟨[], [], [], [(21, .v (.bool true))], [(24, .v (.bool ya3))], [], [], []⟩)], [], [], []⟩ (polF 9) [(1, ⟨[2], [7, 6], 0, [], []⟩, ⟨[], [], []⟩)] c_data_Check_L1 (data_Check_L1_S l sa) K
  = ((AV.v (.bool (decide (sa.2.1 < (l.length : Int)))) = AV.v (.bool true)) ∧ (at? (l.map Piece.enc) sa.2.1 = some [.v (.string xa2.Name), .v (.int .i64 xa2.Size), .v (.int .i64 xa2.Hart)]) ∧ (pc 25 [.agg [.v (.string xa2.Name), .v (.int .i64 xa2.Size), .v (.int .i64 xa2.Hart)]] (fun x => x = .v (.bool ya3))) ∧ (AV.v (.bool !ya3) = AV.v (.bool true)) ∧ K .ret (data_Check_L1_T1 l 2)) := by kernel_rfl
theorem data_Check_L1_p1 (l : (List Piece)) (sa : (List (data_key × Int)) × Int × Int) (xa2 : Piece) (ya3 : Bool) (K : Ex → St → Prop) : oround (cx pc sc lp) cd ⟨ord9, [(4, ⟨[], [], [], [(12, .v (.bool true))], [], [], [], []⟩), (5, ⟨[], [], [(14, [.v (.string xa2.Name), .v (.int .i64 xa2.Size), .v (.int .i64 xa2.Hart)])], [], [], [], [], []⟩), (7, ⟨[], [], [], [(21, .v (.bool false))], [(24, .v (.bool ya3))], [], [], []⟩), (9, ⟨[], [], [], [(26, .v (.bool true))], [(29, .v (.int .i64 ((mget data_key.beq sa.1 (data_key.mk xa2.Name xa2.Hart)).getD 0)))], [], [], []⟩)], [], [], []⟩ (polF 9) [(1, ⟨[2], [7, 6], 0, [], []⟩, ⟨[], [], []⟩)] c_data_Check_L1 (data_Check_L1_S l sa) K
  = ((AV.v (.bool (decide (sa.2.1 < (l.length : Int)))) = AV.v (.bool true)) ∧ (at? (l.map Piece.enc) sa.2.1 = some [.v (.string xa2.Name), .v (.int .i64 xa2.Size), .v (.int .i64 xa2.Hart)]) ∧ (pc 25 [.agg [.v (.string xa2.Name), .v (.int .i64 xa2.Size), .v (.int .i64 xa2.Hart)]] (fun x => x = .v (.bool ya3))) ∧ (AV.v (.bool !ya3) = AV.v (.bool false)) ∧ (∀ k' : AV → Prop, k' (.v (.int .i64 ((mget data_key.beq sa.1 (data_key.mk xa2.Name xa2.Hart)).getD 0))) → findK Try.prog 52 (.agg [.v (.string xa2.Name), .v (.int .i64 xa2.Hart)]) (sa.1.map (eKV (aAgg data_key.enc) (aInt .i64))) fun _ r => foundOk Try.prog 3 false (sa.1.map (eKV (aAgg data_key.enc) (aInt .i64))) r k') ∧ (AV.v (.bool (((mget data_key.beq sa.1 (data_key.mk xa2.Name xa2.Hart)).getD 0) != 0)) = AV.v (.bool true)) ∧ K .ret (data_Check_L1_T1 l 8)) := by kernel_rfl
theorem data_Check_L1_p2 (l : (List Piece)) (sa : (List (data_key × Int)) × Int × Int) (xa2 : Piece) (ya3 : Bool) (K : Ex → St → Prop) : oround (cx pc sc lp) cd ⟨ord9, [(4, ⟨[], [], [], [(12, .v (.bool true))], [], [], [], []⟩), (5, ⟨[], [], [(14, [.v (.string xa2.Name), .v (.int .i64 xa2.Size), .v (.int .i64 xa2.Hart)])], [], [], [], [], []⟩), (7, ⟨[], [], [], [(21, .v (.bool false))], [(24, .v (.bool ya3))], [], [], []⟩), (9, ⟨[], [], [], [(26, .v (.bool false))], [(29, .v (.int .i64 ((mget data_key.beq sa.1 (data_key.mk xa2.Name xa2.Hart)).getD 0)))], [], [], []⟩), (11, ⟨[], [], [], [], [], [], [], [(1000031, ((mput data_key.beq sa.1 (data_key.mk xa2.Name xa2.Hart) 1).map (eKV (aAgg data_key.enc) (aInt .i64))))]⟩), (13, ⟨[], [], [], [(39, .v (.bool true))], [], [], [], []⟩)], [], [], []⟩ (polF 9) [(1, ⟨[2], [7, 6], 0, [], []⟩, ⟨[], [], []⟩)] c_data_Check_L1 (data_Check_L1_S l sa) K
  = ((AV.v (.bool (decide (sa.2.1 < (l.length : Int)))) = AV.v (.bool true)) ∧ (at? (l.map Piece.enc) sa.2.1 = some [.v (.string xa2.Name), .v (.int .i64 xa2.Size), .v (.int .i64 xa2.Hart)]) ∧ (pc 25 [.agg [.v (.string xa2.Name), .v (.int .i64 xa2.Size), .v (.int .i64 xa2.Hart)]] (fun x => x = .v (.bool ya3))) ∧ (AV.v (.bool !ya3) = AV.v (.bool false)) ∧ (∀ k' : AV → Prop, k' (.v (.int .i64 ((mget data_key.beq sa.1 (data_key.mk xa2.Name xa2.Hart)).getD 0))) → findK Try.prog 52 (.agg [.v (.string xa2.Name), .v (.int .i64 xa2.Hart)]) (sa.1.map (eKV (aAgg data_key.enc) (aInt .i64))) fun _ r => foundOk Try.prog 3 false (sa.1.map (eKV (aAgg data_key.enc) (aInt .i64))) r k') ∧ (AV.v (.bool (((mget data_key.beq sa.1 (data_key.mk xa2.Name xa2.Hart)).getD 0) != 0)) = AV.v (.bool false)) ∧ (∀ K' : List (AV × AV) → Prop, K' ((mput data_key.beq sa.1 (data_key.mk xa2.Name xa2.Hart) 1).map (eKV (aAgg data_key.enc) (aInt .i64))) → findK Try.prog 52 (.agg [.v (.string xa2.Name), .v (.int .i64 xa2.Hart)]) (sa.1.map (eKV (aAgg data_key.enc) (aInt .i64))) fun kv r => Chk (ckOk Try.prog 52 kv) (match r with | some i => Chk (Instr.sameBits 10000 (((sa.1.map (eKV (aAgg data_key.enc) (aInt .i64)))[i]?.bind fun e => toK e.1).getD (.bool false)) kv) (K' ((sa.1.map (eKV (aAgg data_key.enc) (aInt .i64))).set i (.agg [.v (.string xa2.Name), .v (.int .i64 xa2.Hart)], .v (.int .i64 1)))) | none => K' ((sa.1.map (eKV (aAgg data_key.enc) (aInt .i64))) ++ [(.agg [.v (.string xa2.Name), .v (.int .i64 xa2.Hart)], .v (.int .i64 1))]))) ∧ (AV.v (.bool (decide (sa.2.1 ≥ 1024))) = AV.v (.bool true)) ∧ K .ret (data_Check_L1_T1 l 7)) := by kernel_rfl
theorem data_Check_L1_p3 (l : (List Piece)) (sa : (List (data_key × Int)) × Int × Int) (xa2 : Piece) (ya3 : Bool) (K : Ex → St → Prop) : oround (cx pc sc lp) cd ⟨ord9, [(4, ⟨[], [], [], [(12, .v (.bool true))], [], [], [], []⟩), (5, ⟨[], [], [(14, [.v (.string xa2.Name), .v (.int .i64 xa2.Size), .v (.int .i64 xa2.Hart)])], [], [], [], [], []⟩), (7, ⟨[], [], [], [(21, .v (.bool false))], [(24, .v (.bool ya3))], [], [], []⟩), (9, ⟨[], [], [], [(26, .v (.bool false))], [(29, .v (.int .i64 ((mget data_key.beq sa.1 (data_key.mk xa2.Name xa2.Hart)).getD 0)))], [], [], []⟩), (11, ⟨[], [], [], [], [], [], [], [(1000031, ((mput data_key.beq sa.1 (data_key.mk xa2.Name xa2.Hart) 1).map (eKV (aAgg data_key.enc) (aInt .i64))))]⟩), (13, ⟨[], [], [], [(39, .v (.bool false)), (42, .v (.bool true))], [], [], [], []⟩)], [], [], []⟩ (polF 9) [(1, ⟨[2], [7, 6], 0, [], []⟩, ⟨[], [], []⟩)] c_data_Check_L1 (data_Check_L1_S l sa) K
  = ((AV.v (.bool (decide (sa.2.1 < (l.length : Int)))) = AV.v (.bool true)) ∧ (at? (l.map Piece.enc) sa.2.1 = some [.v (.string xa2.Name), .v (.int .i64 xa2.Size), .v (.int .i64 xa2.Hart)]) ∧ (pc 25 [.agg [.v (.string xa2.Name), .v (.int .i64 xa2.Size), .v (.int .i64 xa2.Hart)]] (fun x => x = .v (.bool ya3))) ∧ (AV.v (.bool !ya3) = AV.v (.bool false)) ∧ (∀ k' : AV → Prop, k' (.v (.int .i64 ((mget data_key.beq sa.1 (data_key.mk xa2.Name xa2.Hart)).getD 0))) → findK Try.prog 52 (.agg [.v (.string xa2.Name), .v (.int .i64 xa2.Hart)]) (sa.1.map (eKV (aAgg data_key.enc) (aInt .i64))) fun _ r => foundOk Try.prog 3 false (sa.1.map (eKV (aAgg data_key.enc) (aInt .i64))) r k') ∧ (AV.v (.bool (((mget data_key.beq sa.1 (data_key.mk xa2.Name xa2.Hart)).getD 0) != 0)) = AV.v (.bool false)) ∧ (∀ K' : List (AV × AV) → Prop, K' ((mput data_key.beq sa.1 (data_key.mk xa2.Name xa2.Hart) 1).map (eKV (aAgg data_key.enc) (aInt .i64))) → findK Try.prog 52 (.agg [.v (.string xa2.Name), .v (.int .i64 xa2.Hart)]) (sa.1.map (eKV (aAgg data_key.enc) (aInt .i64))) fun kv r => Chk (ckOk Try.prog 52 kv) (match r with | some i => Chk (Instr.sameBits 10000 (((sa.1.map (eKV (aAgg data_key.enc) (aInt .i64)))[i]?.bind fun e => toK e.1).getD (.bool false)) kv) (K' ((sa.1.map (eKV (aAgg data_key.enc) (aInt .i64))).set i (.agg [.v (.string xa2.Name), .v (.int .i64 xa2.Hart)], .v (.int .i64 1)))) | none => K' ((sa.1.map (eKV (aAgg data_key.enc) (aInt .i64))) ++ [(.agg [.v (.string xa2.Name), .v (.int .i64 xa2.Hart)], .v (.int .i64 1))]))) ∧ (AV.v (.bool (decide (sa.2.1 ≥ 1024))) = AV.v (.bool false)) ∧ (AV.v (.bool (decide ((addW .i64 sa.2.2 xa2.Size) > 65536))) = AV.v (.bool true)) ∧ K .ret (data_Check_L1_T1 l 7)) := by kernel_rfl
theorem data_Check_L1_p4 (l : (List Piece)) (sa : (List (data_key × Int)) × Int × Int) (xa2 : Piece) (ya3 : Bool) (K : Ex → St → Prop) : oround (cx pc sc lp) cd ⟨ord9, [(4, ⟨[], [], [], [(12, .v (.bool true))], [], [], [], []⟩), (5, ⟨[], [], [(14, [.v (.string xa2.Name), .v (.int .i64 xa2.Size), .v (.int .i64 xa2.Hart)])], [], [], [], [], []⟩), (7, ⟨[], [], [], [(21, .v (.bool false))], [(24, .v (.bool ya3))], [], [], []⟩), (9, ⟨[], [], [], [(26, .v (.bool false))], [(29, .v (.int .i64 ((mget data_key.beq sa.1 (data_key.mk xa2.Name xa2.Hart)).getD 0)))], [], [], []⟩), (11, ⟨[], [], [], [], [], [], [], [(1000031, ((mput data_key.beq sa.1 (data_key.mk xa2.Name xa2.Hart) 1).map (eKV (aAgg data_key.enc) (aInt .i64))))]⟩), (13, ⟨[], [], [], [(39, .v (.bool false)), (42, .v (.bool false))], [], [], [], []⟩)], [], [], []⟩ (polF 9) [(0, ⟨[3, 4, 9, 10, 11], [7, 6], 1, [], []⟩, ⟨[], [], []⟩)] c_data_Check_L1 (data_Check_L1_S l sa) K
  = ((AV.v (.bool (decide (sa.2.1 < (l.length : Int)))) = AV.v (.bool true)) ∧ (at? (l.map Piece.enc) sa.2.1 = some [.v (.string xa2.Name), .v (.int .i64 xa2.Size), .v (.int .i64 xa2.Hart)]) ∧ (pc 25 [.agg [.v (.string xa2.Name), .v (.int .i64 xa2.Size), .v (.int .i64 xa2.Hart)]] (fun x => x = .v (.bool ya3))) ∧ (AV.v (.bool !ya3) = AV.v (.bool false)) ∧ (∀ k' : AV → Prop, k' (.v (.int .i64 ((mget data_key.beq sa.1 (data_key.mk xa2.Name xa2.Hart)).getD 0))) → findK Try.prog 52 (.agg [.v (.string xa2.Name), .v (.int .i64 xa2.Hart)]) (sa.1.map (eKV (aAgg data_key.enc) (aInt .i64))) fun _ r => foundOk Try.prog 3 false (sa.1.map (eKV (aAgg data_key.enc) (aInt .i64))) r k') ∧ (AV.v (.bool (((mget data_key.beq sa.1 (data_key.mk xa2.Name xa2.Hart)).getD 0) != 0)) = AV.v (.bool false)) ∧ (∀ K' : List (AV × AV) → Prop, K' ((mput data_key.beq sa.1 (data_key.mk xa2.Name xa2.Hart) 1).map (eKV (aAgg data_key.enc) (aInt .i64))) → findK Try.prog 52 (.agg [.v (.string xa2.Name), .v (.int .i64 xa2.Hart)]) (sa.1.map (eKV (aAgg data_key.enc) (aInt .i64))) fun kv r => Chk (ckOk Try.prog 52 kv) (match r with | some i => Chk (Instr.sameBits 10000 (((sa.1.map (eKV (aAgg data_key.enc) (aInt .i64)))[i]?.bind fun e => toK e.1).getD (.bool false)) kv) (K' ((sa.1.map (eKV (aAgg data_key.enc) (aInt .i64))).set i (.agg [.v (.string xa2.Name), .v (.int .i64 xa2.Hart)], .v (.int .i64 1)))) | none => K' ((sa.1.map (eKV (aAgg data_key.enc) (aInt .i64))) ++ [(.agg [.v (.string xa2.Name), .v (.int .i64 xa2.Hart)], .v (.int .i64 1))]))) ∧ (AV.v (.bool (decide (sa.2.1 ≥ 1024))) = AV.v (.bool false)) ∧ (AV.v (.bool (decide ((addW .i64 sa.2.2 xa2.Size) > 65536))) = AV.v (.bool false)) ∧ K .nrm (data_Check_L1_S l ((mput data_key.beq sa.1 (data_key.mk xa2.Name xa2.Hart) 1), (addW .i64 sa.2.1 1), (addW .i64 sa.2.2 xa2.Size)))) := by kernel_rfl
theorem data_Check_L1_p5 (l : (List Piece)) (sa : (List (data_key × Int)) × Int × Int) (K : Ex → St → Prop) : oround (cx pc sc lp) cd ⟨ord9, [(4, ⟨[], [], [], [(12, .v (.bool false))], [], [], [], []⟩)], [], [], []⟩ (polF 9) [(2, ⟨[], [], 0, [], []⟩, ⟨[], [], []⟩)] c_data_Check_L1 (data_Check_L1_S l sa) K
  = ((AV.v (.bool (decide (sa.2.1 < (l.length : Int)))) = AV.v (.bool false)) ∧ K (.ex 0) (data_Check_L1_T0 l ())) := by kernel_rfl
theorem data_Check_L1_sim (n : Nat) (l : (List Piece)) : ∀ sa r, data_Check_L1 n l sa = some r → CodeD Try.prog c_data_Check_L1 (data_Check_L1_S l sa) (rk (data_Check_L1_S l) (data_Check_L1_out l) r) := by
  intro sa r h
  unfold data_Check_L1 at h
  rcases bcase (decide (sa.2.1 < (l.length : Int))) with ha1 | ha1
  · replace h := iteT ha1 h
    obtain ⟨xa2, gxa2, h⟩ := bindE h
    obtain ⟨ya3, gya3, h⟩ := bindE h
    rcases bcase (!ya3) with ha4 | ha4
    · replace h := iteT ha4 h
      have e := Option.some.inj h
      subst e
      exact okR ordB_data_Check_L1 (Eq.mpr (data_Check_L1_p0 (PCall Try.prog) (SD Try.prog) (LoopD Try.prog) (CodeD Try.prog) l sa xa2 ya3 _) ⟨congrArg aBool ha1, at_map Piece.enc gxa2, (data_piece_may_sim n (data_piece.mk xa2) ya3 gya3), congrArg aBool ha4, ⟨rfl, rfl⟩⟩) (rkE rfl neR)
    · replace h := iteF ha4 h
      rcases bcase (((mget data_key.beq sa.1 (data_key.mk xa2.Name xa2.Hart)).getD 0) != 0) with ha5 | ha5
      · replace h := iteT ha5 h
        have e := Option.some.inj h
        subst e
        exact okR ordB_data_Check_L1 (Eq.mpr (data_Check_L1_p1 (PCall Try.prog) (SD Try.prog) (LoopD Try.prog) (CodeD Try.prog) l sa xa2 ya3 _) ⟨congrArg aBool ha1, at_map Piece.enc gxa2, (data_piece_may_sim n (data_piece.mk xa2) ya3 gya3), congrArg aBool ha4, mapGet_50 sa.1 (data_key.mk xa2.Name xa2.Hart), congrArg aBool ha5, ⟨rfl, rfl⟩⟩) (rkE rfl neR)
      · replace h := iteF ha5 h
        rcases bcase (decide (sa.2.1 ≥ 1024)) with ha6 | ha6
        · replace h := iteT ha6 h
          have e := Option.some.inj h
          subst e
          exact okR ordB_data_Check_L1 (Eq.mpr (data_Check_L1_p2 (PCall Try.prog) (SD Try.prog) (LoopD Try.prog) (CodeD Try.prog) l sa xa2 ya3 _) ⟨congrArg aBool ha1, at_map Piece.enc gxa2, (data_piece_may_sim n (data_piece.mk xa2) ya3 gya3), congrArg aBool ha4, mapGet_50 sa.1 (data_key.mk xa2.Name xa2.Hart), congrArg aBool ha5, mapPut_50 sa.1 (data_key.mk xa2.Name xa2.Hart) 1, congrArg aBool ha6, ⟨rfl, rfl⟩⟩) (rkE rfl neR)
        · replace h := iteF ha6 h
          rcases bcase (decide ((addW .i64 sa.2.2 xa2.Size) > 65536)) with ha7 | ha7
          · replace h := iteT ha7 h
            have e := Option.some.inj h
            subst e
            exact okR ordB_data_Check_L1 (Eq.mpr (data_Check_L1_p3 (PCall Try.prog) (SD Try.prog) (LoopD Try.prog) (CodeD Try.prog) l sa xa2 ya3 _) ⟨congrArg aBool ha1, at_map Piece.enc gxa2, (data_piece_may_sim n (data_piece.mk xa2) ya3 gya3), congrArg aBool ha4, mapGet_50 sa.1 (data_key.mk xa2.Name xa2.Hart), congrArg aBool ha5, mapPut_50 sa.1 (data_key.mk xa2.Name xa2.Hart) 1, congrArg aBool ha6, congrArg aBool ha7, ⟨rfl, rfl⟩⟩) (rkE rfl neR)
          · replace h := iteF ha7 h
            have e := Option.some.inj h
            subst e
            exact okR ordB_data_Check_L1 (Eq.mpr (data_Check_L1_p4 (PCall Try.prog) (SD Try.prog) (LoopD Try.prog) (CodeD Try.prog) l sa xa2 ya3 _) ⟨congrArg aBool ha1, at_map Piece.enc gxa2, (data_piece_may_sim n (data_piece.mk xa2) ya3 gya3), congrArg aBool ha4, mapGet_50 sa.1 (data_key.mk xa2.Name xa2.Hart), congrArg aBool ha5, mapPut_50 sa.1 (data_key.mk xa2.Name xa2.Hart) 1, congrArg aBool ha6, congrArg aBool ha7, ⟨rfl, rfl⟩⟩) rkN
  · replace h := iteF ha1 h
    have e := Option.some.inj h
    subst e
    exact okR ordB_data_Check_L1 (Eq.mpr (data_Check_L1_p5 (PCall Try.prog) (SD Try.prog) (LoopD Try.prog) (CodeD Try.prog) l sa _) ⟨congrArg aBool ha1, ⟨rfl, rfl⟩⟩) (rkE rfl neE)

theorem data_Check_p0 (l : (List Piece)) (w2 : Unit) (K : AV → Prop) : opure (cx pc sc lp) cd ⟨ord9, [(3, ⟨[], [], [], [(10, .v (.int .i64 (l.length : Int)))], [], [], [], []⟩)], [], [(4, (⟨[3, 4, 9, 10, 11], [], 1, [], []⟩, ⟨[], [], []⟩, (.ex 0), data_Check_L1_T0 l w2))], []⟩ 9 [.sl (l.map Piece.enc)] K
  = ((AV.v (.int .i64 (((l.map Piece.enc).length : Nat) : Int)) = AV.v (.int .i64 (l.length : Int))) ∧ (lp (polF 9) c_data_Check_L1 (data_Check_L1_S l (([] : (List (data_key × Int))), 0, 0)) (fun e' S' => e' = (.ex 0) ∧ S' = data_Check_L1_T0 l w2)) ∧ K (.v (.int .i64 0))) := by kernel_rfl
theorem data_Check_p1 (l : (List Piece)) (w2 : Int) (K : AV → Prop) : opure (cx pc sc lp) cd ⟨ord9, [(3, ⟨[], [], [], [(10, .v (.int .i64 (l.length : Int)))], [], [], [], []⟩)], [], [(4, (⟨[3, 4, 9, 10, 11], [], 1, [], []⟩, ⟨[], [], []⟩, .ret, data_Check_L1_T1 l w2))], []⟩ 9 [.sl (l.map Piece.enc)] K
  = ((AV.v (.int .i64 (((l.map Piece.enc).length : Nat) : Int)) = AV.v (.int .i64 (l.length : Int))) ∧ (lp (polF 9) c_data_Check_L1 (data_Check_L1_S l (([] : (List (data_key × Int))), 0, 0)) (fun e' S' => e' = .ret ∧ S' = data_Check_L1_T1 l w2)) ∧ K (.v (.int .i64 w2))) := by kernel_rfl
theorem data_Check_sim (n : Nat) (l : (List Piece)) (r : Int) (h : data_Check n l = some r) : PCall Try.prog 9 [.sl (l.map Piece.enc)] (fun x => x = .v (.int .i64 r)) := by
  unfold data_Check at h
  obtain ⟨t1, gt1, h⟩ := bindE h
  rcases t1 with w2 | w2
  · skip
    have e := Option.some.inj h
    subst e
    exact okP ordB9 (Eq.mpr (data_Check_p0 (PCall Try.prog) (SD Try.prog) (LoopD Try.prog) (CodeD Try.prog) l w2 _) (⟨len_map _ _, okL (data_Check_L1_S l) (data_Check_L1_out l) (data_Check_L1_sim n l) n _ (.inl w2) gt1, LeA.refl _⟩))
  · skip
    have e := Option.some.inj h
    subst e
    exact okP ordB9 (Eq.mpr (data_Check_p1 (PCall Try.prog) (SD Try.prog) (LoopD Try.prog) (CodeD Try.prog) l w2 _) (⟨len_map _ _, okL (data_Check_L1_S l) (data_Check_L1_out l) (data_Check_L1_sim n l) n _ (.inr w2) gt1, LeA.refl _⟩))

def ord13 : List (Nat × List Nat) := []
theorem ordB13 : ordB (polF 13) ord13 (bodyOf Try.prog 13) = true := by kernel_rfl
def kit_Own_Piece_S_R (l : (List Piece)) (y : Unit) : AV × List Ob := (.mf 0, [.arr true 3 (l.map Piece.enc)])
theorem kit_Own_Piece_S_p0 (l : (List Piece)) (K : AV → List Ob → Prop) : ostore (cx pc sc lp) cd ⟨ord13, [(1, ⟨[], [5], [], [], [], [], [], []⟩)], [], [], []⟩ 13 [.sl (l.map Piece.enc)] [] K
  = ((szOk 3 (l.map Piece.enc) = true) ∧ (okRows (l.map Piece.enc) = true) ∧ (Nat.ble ((l.map Piece.enc).length * 32) 140737488355328 = true) ∧ K (.mf 0) [.arr true 3 (l.map Piece.enc)]) := by kernel_rfl
theorem kit_Own_Piece_S_sim (n : Nat) (l : (List Piece)) (y : Unit) (h : kit_Own_Piece_S n l = some y) : SD Try.prog 13 [.sl (l.map Piece.enc)] [] (fun r' o' => r' = (kit_Own_Piece_S_R l y).1 ∧ o' = (kit_Own_Piece_S_R l y).2) := by
  unfold kit_Own_Piece_S at h
  obtain ⟨h1, h⟩ := grdE h
  have e := Option.some.inj h
  subst e
  exact okS ordB13 (Eq.mpr (kit_Own_Piece_S_p0 (PCall Try.prog) (SD Try.prog) (LoopD Try.prog) (CodeD Try.prog) l _) (⟨szOk_map _ _ (fun _ => rfl), okRows_map _ _ (fun _ => rfl), ble_map h1, ⟨rfl, rfl⟩⟩)) ⟨rfl, rfl⟩

def ord27 : List (Nat × List Nat) := []
theorem ordB27 : ordB (polF 27) ord27 (bodyOf Try.prog 27) = true := by kernel_rfl
def slices_Clone_api_Piece_api_Piece_S_R (s_ : Piece) (s__ : (List Piece)) (y : (List Piece)) : AV × List Ob := (.mf 0, [.arr true 3 (y.map Piece.enc)])
theorem slices_Clone_api_Piece_api_Piece_S_p0 (s_ : Piece) (s__ : (List Piece)) (K : AV → List Ob → Prop) : ostore (cx pc sc lp) cd ⟨ord27, [(3, ⟨[], [7], [], [], [], [], [], []⟩)], [], [], []⟩ 27 [.sl ((s_ :: s__).map Piece.enc)] [] K
  = ((szOk 3 ((s_ :: s__).map Piece.enc) = true) ∧ (okRows ((s_ :: s__).map Piece.enc) = true) ∧ (Nat.ble (((s_ :: s__).map Piece.enc).length * 32) 140737488355328 = true) ∧ K (.mf 0) [.arr true 3 ((s_ :: s__).map Piece.enc)]) := by kernel_rfl
theorem slices_Clone_api_Piece_api_Piece_S_sim (n : Nat) (s_ : Piece) (s__ : (List Piece)) (y : (List Piece)) (h : slices_Clone_api_Piece_api_Piece_S n s_ s__ = some y) : SD Try.prog 27 [.sl ((s_ :: s__).map Piece.enc)] [] (fun r' o' => r' = (slices_Clone_api_Piece_api_Piece_S_R s_ s__ y).1 ∧ o' = (slices_Clone_api_Piece_api_Piece_S_R s_ s__ y).2) := by
  unfold slices_Clone_api_Piece_api_Piece_S at h
  obtain ⟨h1, h⟩ := grdE h
  have e := Option.some.inj h
  subst e
  exact okS ordB27 (Eq.mpr (slices_Clone_api_Piece_api_Piece_S_p0 (PCall Try.prog) (SD Try.prog) (LoopD Try.prog) (CodeD Try.prog) s_ s__ _) (⟨szOk_map _ _ (fun _ => rfl), okRows_map _ _ (fun _ => rfl), ble_map h1, ⟨rfl, rfl⟩⟩)) ⟨rfl, rfl⟩

def ord31 : List (Nat × List Nat) := []
theorem ordB31 : ordB (polF 31) ord31 (bodyOf Try.prog 31) = true := by kernel_rfl
theorem data_piece_part_p0 (p : data_piece) (K : AV → Prop) : opure (cx pc sc lp) cd ⟨ord31, [], [], [], []⟩ 31 [.agg [.v (.string p.Piece.Name), .v (.int .i64 p.Piece.Size), .v (.int .i64 p.Piece.Hart)]] K
  = (K (.v (.int .i64 p.Piece.Hart))) := by kernel_rfl
theorem data_piece_part_sim (n : Nat) (p : data_piece) (r : Int) (h : data_piece_part n p = some r) : PCall Try.prog 31 [.agg [.v (.string p.Piece.Name), .v (.int .i64 p.Piece.Size), .v (.int .i64 p.Piece.Hart)]] (fun x => x = .v (.int .i64 r)) := by
  unfold data_piece_part at h
  have e := Option.some.inj h
  subst e
  exact okP ordB31 (Eq.mpr (data_piece_part_p0 (PCall Try.prog) (SD Try.prog) (LoopD Try.prog) (CodeD Try.prog) p _) (LeA.refl _))

def ord36 : List (Nat × List Nat) := []
theorem ordB36 : ordB (polF 36) ord36 (bodyOf Try.prog 36) = true := by kernel_rfl
theorem cmp_isNaN_int_p0 (x : Int) (K : AV → Prop) : opure (cx pc sc lp) cd ⟨ord36, [], [], [], []⟩ 36 [.v (.int .i64 x)] K
  = (K (.v (.bool (x != x)))) := by kernel_rfl
theorem cmp_isNaN_int_sim (n : Nat) (x : Int) (r : Bool) (h : cmp_isNaN_int n x = some r) : PCall Try.prog 36 [.v (.int .i64 x)] (fun x => x = .v (.bool r)) := by
  unfold cmp_isNaN_int at h
  have e := Option.some.inj h
  subst e
  exact okP ordB36 (Eq.mpr (cmp_isNaN_int_p0 (PCall Try.prog) (SD Try.prog) (LoopD Try.prog) (CodeD Try.prog) x _) (LeA.refl _))

def ord30 : List (Nat × List Nat) := []
theorem ordB30 : ordB (polF 30) ord30 (bodyOf Try.prog 30) = true := by kernel_rfl
theorem cmp_Compare_int_p0 (x : Int) (y : Int) (y1 : Bool) (y2 : Bool) (K : AV → Prop) : opure (cx pc sc lp) cd ⟨ord30, [(1, ⟨[], [], [], [], [(8, .v (.bool y1))], [], [], []⟩), (2, ⟨[], [], [], [], [(10, .v (.bool y2))], [], [], []⟩), (3, ⟨[], [], [], [(11, .v (.bool true))], [], [], [], []⟩), (4, ⟨[], [], [], [(12, .v (.bool true))], [], [], [], []⟩)], [], [], []⟩ 30 [.v (.int .i64 x), .v (.int .i64 y)] K
  = ((pc 36 [.v (.int .i64 x)] (fun x => x = .v (.bool y1))) ∧ (pc 36 [.v (.int .i64 y)] (fun x => x = .v (.bool y2))) ∧ (AV.v (.bool y1) = AV.v (.bool true)) ∧ (AV.v (.bool y2) = AV.v (.bool true)) ∧ K (.v (.int .i64 0))) := by kernel_rfl
theorem cmp_Compare_int_p1 (x : Int) (y : Int) (y1 : Bool) (y2 : Bool) (K : AV → Prop) : opure (cx pc sc lp) cd ⟨ord30, [(1, ⟨[], [], [], [], [(8, .v (.bool y1))], [], [], []⟩), (2, ⟨[], [], [], [], [(10, .v (.bool y2))], [], [], []⟩), (3, ⟨[], [], [], [(11, .v (.bool true))], [], [], [], []⟩), (4, ⟨[], [], [], [(12, .v (.bool false))], [], [], [], []⟩)], [], [], []⟩ 30 [.v (.int .i64 x), .v (.int .i64 y)] K
  = ((pc 36 [.v (.int .i64 x)] (fun x => x = .v (.bool y1))) ∧ (pc 36 [.v (.int .i64 y)] (fun x => x = .v (.bool y2))) ∧ (AV.v (.bool y1) = AV.v (.bool true)) ∧ (AV.v (.bool y2) = AV.v (.bool false)) ∧ K (.v (.int .i64 (-1)))) := by kernel_rfl
theorem cmp_Compare_int_p2 (x : Int) (y : Int) (y1 : Bool) (y2 : Bool) (K : AV → Prop) : opure (cx pc sc lp) cd ⟨ord30, [(1, ⟨[], [], [], [], [(8, .v (.bool y1))], [], [], []⟩), (2, ⟨[], [], [], [], [(10, .v (.bool y2))], [], [], []⟩), (3, ⟨[], [], [], [(11, .v (.bool false))], [], [], [], []⟩), (7, ⟨[], [], [], [(13, .v (.bool true))], [], [], [], []⟩)], [], [], []⟩ 30 [.v (.int .i64 x), .v (.int .i64 y)] K
  = ((pc 36 [.v (.int .i64 x)] (fun x => x = .v (.bool y1))) ∧ (pc 36 [.v (.int .i64 y)] (fun x => x = .v (.bool y2))) ∧ (AV.v (.bool y1) = AV.v (.bool false)) ∧ (AV.v (.bool y2) = AV.v (.bool true)) ∧ K (.v (.int .i64 1))) := by kernel_rfl
theorem cmp_Compare_int_p3 (x : Int) (y : Int) (y1 : Bool) (y2 : Bool) (K : AV → Prop) : opure (cx pc sc lp) cd ⟨ord30, [(1, ⟨[], [], [], [], [(8, .v (.bool y1))], [], [], []⟩), (2, ⟨[], [], [], [], [(10, .v (.bool y2))], [], [], []⟩), (3, ⟨[], [], [], [(11, .v (.bool false))], [], [], [], []⟩), (7, ⟨[], [], [], [(13, .v (.bool false))], [], [], [], []⟩), (9, ⟨[], [], [], [(16, .v (.bool true))], [], [], [], []⟩)], [], [], []⟩ 30 [.v (.int .i64 x), .v (.int .i64 y)] K
  = ((pc 36 [.v (.int .i64 x)] (fun x => x = .v (.bool y1))) ∧ (pc 36 [.v (.int .i64 y)] (fun x => x = .v (.bool y2))) ∧ (AV.v (.bool y1) = AV.v (.bool false)) ∧ (AV.v (.bool y2) = AV.v (.bool false)) ∧ (AV.v (.bool (decide (x < y))) = AV.v (.bool true)) ∧ K (.v (.int .i64 (-1)))) := by kernel_rfl
theorem cmp_Compare_int_p4 (x : Int) (y : Int) (y1 : Bool) (y2 : Bool) (K : AV → Prop) : opure (cx pc sc lp) cd ⟨ord30, [(1, ⟨[], [], [], [], [(8, .v (.bool y1))], [], [], []⟩), (2, ⟨[], [], [], [], [(10, .v (.bool y2))], [], [], []⟩), (3, ⟨[], [], [], [(11, .v (.bool false))], [], [], [], []⟩), (7, ⟨[], [], [], [(13, .v (.bool false))], [], [], [], []⟩), (9, ⟨[], [], [], [(16, .v (.bool false))], [], [], [], []⟩), (11, ⟨[], [], [], [(19, .v (.bool true))], [], [], [], []⟩)], [], [], []⟩ 30 [.v (.int .i64 x), .v (.int .i64 y)] K
  = ((pc 36 [.v (.int .i64 x)] (fun x => x = .v (.bool y1))) ∧ (pc 36 [.v (.int .i64 y)] (fun x => x = .v (.bool y2))) ∧ (AV.v (.bool y1) = AV.v (.bool false)) ∧ (AV.v (.bool y2) = AV.v (.bool false)) ∧ (AV.v (.bool (decide (x < y))) = AV.v (.bool false)) ∧ (AV.v (.bool (decide (x > y))) = AV.v (.bool true)) ∧ K (.v (.int .i64 1))) := by kernel_rfl
theorem cmp_Compare_int_p5 (x : Int) (y : Int) (y1 : Bool) (y2 : Bool) (K : AV → Prop) : opure (cx pc sc lp) cd ⟨ord30, [(1, ⟨[], [], [], [], [(8, .v (.bool y1))], [], [], []⟩), (2, ⟨[], [], [], [], [(10, .v (.bool y2))], [], [], []⟩), (3, ⟨[], [], [], [(11, .v (.bool false))], [], [], [], []⟩), (7, ⟨[], [], [], [(13, .v (.bool false))], [], [], [], []⟩), (9, ⟨[], [], [], [(16, .v (.bool false))], [], [], [], []⟩), (11, ⟨[], [], [], [(19, .v (.bool false))], [], [], [], []⟩)], [], [], []⟩ 30 [.v (.int .i64 x), .v (.int .i64 y)] K
  = ((pc 36 [.v (.int .i64 x)] (fun x => x = .v (.bool y1))) ∧ (pc 36 [.v (.int .i64 y)] (fun x => x = .v (.bool y2))) ∧ (AV.v (.bool y1) = AV.v (.bool false)) ∧ (AV.v (.bool y2) = AV.v (.bool false)) ∧ (AV.v (.bool (decide (x < y))) = AV.v (.bool false)) ∧ (AV.v (.bool (decide (x > y))) = AV.v (.bool false)) ∧ K (.v (.int .i64 0))) := by kernel_rfl
theorem cmp_Compare_int_sim (n : Nat) (x : Int) (y : Int) (r : Int) (h : cmp_Compare_int n x y = some r) : PCall Try.prog 30 [.v (.int .i64 x), .v (.int .i64 y)] (fun x => x = .v (.int .i64 r)) := by
  unfold cmp_Compare_int at h
  obtain ⟨y1, gy1, h⟩ := bindE h
  obtain ⟨y2, gy2, h⟩ := bindE h
  rcases bcase y1 with h3 | h3
  · replace h := iteT h3 h
    rcases bcase y2 with h4 | h4
    · replace h := iteT h4 h
      have e := Option.some.inj h
      subst e
      exact okP ordB30 (Eq.mpr (cmp_Compare_int_p0 (PCall Try.prog) (SD Try.prog) (LoopD Try.prog) (CodeD Try.prog) x y y1 y2 _) (⟨(cmp_isNaN_int_sim n x y1 gy1), (cmp_isNaN_int_sim n y y2 gy2), congrArg aBool h3, congrArg aBool h4, LeA.refl _⟩))
    · replace h := iteF h4 h
      have e := Option.some.inj h
      subst e
      exact okP ordB30 (Eq.mpr (cmp_Compare_int_p1 (PCall Try.prog) (SD Try.prog) (LoopD Try.prog) (CodeD Try.prog) x y y1 y2 _) (⟨(cmp_isNaN_int_sim n x y1 gy1), (cmp_isNaN_int_sim n y y2 gy2), congrArg aBool h3, congrArg aBool h4, LeA.refl _⟩))
  · replace h := iteF h3 h
    rcases bcase y2 with h4 | h4
    · replace h := iteT h4 h
      have e := Option.some.inj h
      subst e
      exact okP ordB30 (Eq.mpr (cmp_Compare_int_p2 (PCall Try.prog) (SD Try.prog) (LoopD Try.prog) (CodeD Try.prog) x y y1 y2 _) (⟨(cmp_isNaN_int_sim n x y1 gy1), (cmp_isNaN_int_sim n y y2 gy2), congrArg aBool h3, congrArg aBool h4, LeA.refl _⟩))
    · replace h := iteF h4 h
      rcases bcase (decide (x < y)) with h5 | h5
      · replace h := iteT h5 h
        have e := Option.some.inj h
        subst e
        exact okP ordB30 (Eq.mpr (cmp_Compare_int_p3 (PCall Try.prog) (SD Try.prog) (LoopD Try.prog) (CodeD Try.prog) x y y1 y2 _) (⟨(cmp_isNaN_int_sim n x y1 gy1), (cmp_isNaN_int_sim n y y2 gy2), congrArg aBool h3, congrArg aBool h4, congrArg aBool h5, LeA.refl _⟩))
      · replace h := iteF h5 h
        rcases bcase (decide (x > y)) with h6 | h6
        · replace h := iteT h6 h
          have e := Option.some.inj h
          subst e
          exact okP ordB30 (Eq.mpr (cmp_Compare_int_p4 (PCall Try.prog) (SD Try.prog) (LoopD Try.prog) (CodeD Try.prog) x y y1 y2 _) (⟨(cmp_isNaN_int_sim n x y1 gy1), (cmp_isNaN_int_sim n y y2 gy2), congrArg aBool h3, congrArg aBool h4, congrArg aBool h5, congrArg aBool h6, LeA.refl _⟩))
        · replace h := iteF h6 h
          have e := Option.some.inj h
          subst e
          exact okP ordB30 (Eq.mpr (cmp_Compare_int_p5 (PCall Try.prog) (SD Try.prog) (LoopD Try.prog) (CodeD Try.prog) x y y1 y2 _) (⟨(cmp_isNaN_int_sim n x y1 gy1), (cmp_isNaN_int_sim n y y2 gy2), congrArg aBool h3, congrArg aBool h4, congrArg aBool h5, congrArg aBool h6, LeA.refl _⟩))

def ord29 : List (Nat × List Nat) := [(1, [0, 1, 2, 3, 4, 5, 6, 7])]
theorem ordB29 : ordB (polF 29) ord29 (bodyOf Try.prog 29) = true := by kernel_rfl
theorem data_Lay_1_p0 (a : Piece) (b : Piece) (y1 : Int) (y2 : Int) (y3 : Int) (K : AV → Prop) : opure (cx pc sc lp) cd ⟨ord29, [(1, ⟨[], [], [], [], [(7, .v (.int .i64 y1)), (10, .v (.int .i64 y2)), (11, .v (.int .i64 y3))], [], [], []⟩)], [], [], []⟩ 29 [.agg [.v (.string a.Name), .v (.int .i64 a.Size), .v (.int .i64 a.Hart)], .agg [.v (.string b.Name), .v (.int .i64 b.Size), .v (.int .i64 b.Hart)]] K
  = ((pc 31 [.agg [.v (.string a.Name), .v (.int .i64 a.Size), .v (.int .i64 a.Hart)]] (fun x => x = .v (.int .i64 y1))) ∧ (pc 31 [.agg [.v (.string b.Name), .v (.int .i64 b.Size), .v (.int .i64 b.Hart)]] (fun x => x = .v (.int .i64 y2))) ∧ (pc 30 [.v (.int .i64 y1), .v (.int .i64 y2)] (fun x => x = .v (.int .i64 y3))) ∧ K (.v (.int .i64 y3))) := by kernel_rfl
theorem data_Lay_1_sim (n : Nat) (a : Piece) (b : Piece) (r : Int) (h : data_Lay_1 n a b = some r) : PCall Try.prog 29 [.agg [.v (.string a.Name), .v (.int .i64 a.Size), .v (.int .i64 a.Hart)], .agg [.v (.string b.Name), .v (.int .i64 b.Size), .v (.int .i64 b.Hart)]] (fun x => x = .v (.int .i64 r)) := by
  unfold data_Lay_1 at h
  obtain ⟨y1, gy1, h⟩ := bindE h
  obtain ⟨y2, gy2, h⟩ := bindE h
  obtain ⟨y3, gy3, h⟩ := bindE h
  have e := Option.some.inj h
  subst e
  exact okP ordB29 (Eq.mpr (data_Lay_1_p0 (PCall Try.prog) (SD Try.prog) (LoopD Try.prog) (CodeD Try.prog) a b y1 y2 y3 _) (⟨(data_piece_part_sim n (data_piece.mk a) y1 gy1), (data_piece_part_sim n (data_piece.mk b) y2 gy2), (cmp_Compare_int_sim n y1 y2 y3 gy3), LeA.refl _⟩))

def ord37 : List (Nat × List Nat) := [(4, [0, 1, 2, 3, 4, 5, 6, 7, 8, 9, 10, 11, 12, 13, 14, 15, 16]), (6, [0, 1, 2, 3, 4, 5, 6, 7, 8, 9, 10, 11, 12, 13, 14, 15, 16, 17])]
theorem ordB37 : ordB (polF 37) ord37 (bodyOf Try.prog 37) = true := by kernel_rfl
noncomputable def c_slices_insertionSortCmpFunc_Piece_S_L1 : Code := sub (bodyOf Try.prog 37) [1, 0, 0]
noncomputable def c_slices_insertionSortCmpFunc_Piece_S_L2 : Code := sub c_slices_insertionSortCmpFunc_Piece_S_L1 [1, 0, 0, 1, 0, 0]
theorem ordB_slices_insertionSortCmpFunc_Piece_S_L2 : ordB (polF 37) ord37 c_slices_insertionSortCmpFunc_Piece_S_L2 = true := by kernel_rfl
def slices_insertionSortCmpFunc_Piece_S_L2_S (a : Int) (b : Int) (sb : (List Piece) × Int × Int) : St := mkS 53 [(0, .mf 0), (1, .v (.int .i64 a)), (2, .v (.int .i64 b)), (3, .fn 29 [] []), (8, .v (.int .i64 sb.2.1)), (9, .v (.int .i64 sb.2.2))] [] [.arr true 3 (sb.1.map Piece.enc)] 1
def slices_insertionSortCmpFunc_Piece_S_L2_T0 (a : Int) (b : Int) (tt : (List Piece) × Int) : St := mkS 53 [(0, .mf 0), (1, .v (.int .i64 a)), (2, .v (.int .i64 b)), (3, .fn 29 [] []), (8, .v (.int .i64 tt.2))] [] [.arr true 3 (tt.1.map Piece.enc)] 1
def slices_insertionSortCmpFunc_Piece_S_L2_out (a : Int) (b : Int) (tt : ((List Piece) × Int)) : Ex × St := (.ex 2, slices_insertionSortCmpFunc_Piece_S_L2_T0 a b tt)
theorem slices_insertionSortCmpFunc_Piece_S_L2_p0 (a : Int) (b : Int) (sb : (List Piece) × Int × Int) (xb2 : Piece) (xb3 : Piece) (yb4 : Int) (xb6 : Piece) (K : Ex → St → Prop) : oround (cx pc sc lp) cd ⟨ord37, [(4, ⟨[], [], [(25, [.v (.string xb2.Name), .v (.int .i64 xb2.Size), .v (.int .i64 xb2.Hart)]), (26, [.v (.string xb2.Name), .v (.int .i64 xb2.Size), .v (.int .i64 xb2.Hart)]), (30, [.v (.string xb3.Name), .v (.int .i64 xb3.Size), .v (.int .i64 xb3.Hart)]), (31, [.v (.string xb3.Name), .v (.int .i64 xb3.Size), .v (.int .i64 xb3.Hart)])], [(21, .v (.bool true)), (34, .v (.bool true))], [(32, .v (.int .i64 yb4))], [], [], []⟩), (6, ⟨[], [], [(45, [.v (.string xb3.Name), .v (.int .i64 xb3.Size), .v (.int .i64 xb3.Hart)]), (46, [.v (.string xb3.Name), .v (.int .i64 xb3.Size), .v (.int .i64 xb3.Hart)]), (49, [.v (.string xb2.Name), .v (.int .i64 xb2.Size), .v (.int .i64 xb2.Hart)]), (50, [.v (.string xb2.Name), .v (.int .i64 xb2.Size), .v (.int .i64 xb2.Hart)]), (51, [.v (.string xb2.Name), .v (.int .i64 xb2.Size), .v (.int .i64 xb2.Hart)]), (52, [.v (.string xb6.Name), .v (.int .i64 xb6.Size), .v (.int .i64 xb6.Hart)]), (1000051, [.v (.string xb2.Name), .v (.int .i64 xb2.Size), .v (.int .i64 xb2.Hart)]), (1000052, [.v (.string xb6.Name), .v (.int .i64 xb6.Size), .v (.int .i64 xb6.Hart)])], [], [], [], [(1000051, (0, (sb.1.set (sb.2.2).toNat xb3).map Piece.enc)), (1000052, (0, ((sb.1.set (sb.2.2).toNat xb3).set ((subW .i64 sb.2.2 1)).toNat xb2).map Piece.enc))], []⟩)], [], [], []⟩ (polF 37) [(0, ⟨[0, 1, 2, 3, 8, 9], [], 1, [], []⟩, ⟨[], [], []⟩)] c_slices_insertionSortCmpFunc_Piece_S_L2 (slices_insertionSortCmpFunc_Piece_S_L2_S a b sb) K
  = ((AV.v (.bool (decide (sb.2.2 > a))) = AV.v (.bool true)) ∧ (at? (sb.1.map Piece.enc) sb.2.2 = some [.v (.string xb2.Name), .v (.int .i64 xb2.Size), .v (.int .i64 xb2.Hart)]) ∧ ((sb.1.map Piece.enc)[(sb.2.2).toNat]? = some [.v (.string xb2.Name), .v (.int .i64 xb2.Size), .v (.int .i64 xb2.Hart)]) ∧ (at? (sb.1.map Piece.enc) (subW .i64 sb.2.2 1) = some [.v (.string xb3.Name), .v (.int .i64 xb3.Size), .v (.int .i64 xb3.Hart)]) ∧ ((sb.1.map Piece.enc)[((subW .i64 sb.2.2 1)).toNat]? = some [.v (.string xb3.Name), .v (.int .i64 xb3.Size), .v (.int .i64 xb3.Hart)]) ∧ (pc 29 [.agg [.v (.string xb2.Name), .v (.int .i64 xb2.Size), .v (.int .i64 xb2.Hart)], .agg [.v (.string xb3.Name), .v (.int .i64 xb3.Size), .v (.int .i64 xb3.Hart)]] (fun x => x = .v (.int .i64 yb4))) ∧ (AV.v (.bool (decide (yb4 < 0))) = AV.v (.bool true)) ∧ (at? (sb.1.map Piece.enc) (subW .i64 sb.2.2 1) = some [.v (.string xb3.Name), .v (.int .i64 xb3.Size), .v (.int .i64 xb3.Hart)]) ∧ ((sb.1.map Piece.enc)[((subW .i64 sb.2.2 1)).toNat]? = some [.v (.string xb3.Name), .v (.int .i64 xb3.Size), .v (.int .i64 xb3.Hart)]) ∧ (at? (sb.1.map Piece.enc) sb.2.2 = some [.v (.string xb2.Name), .v (.int .i64 xb2.Size), .v (.int .i64 xb2.Hart)]) ∧ ((sb.1.map Piece.enc)[(sb.2.2).toNat]? = some [.v (.string xb2.Name), .v (.int .i64 xb2.Size), .v (.int .i64 xb2.Hart)]) ∧ (at? (sb.1.map Piece.enc) sb.2.2 = some [.v (.string xb2.Name), .v (.int .i64 xb2.Size), .v (.int .i64 xb2.Hart)]) ∧ ((sb.1.map Piece.enc)[(sb.2.2).toNat]? = some [.v (.string xb2.Name), .v (.int .i64 xb2.Size), .v (.int .i64 xb2.Hart)]) ∧ ((sb.1.map Piece.enc).set (sb.2.2).toNat [.v (.string xb3.Name), .v (.int .i64 xb3.Size), .v (.int .i64 xb3.Hart)] = (sb.1.set (sb.2.2).toNat xb3).map Piece.enc) ∧ (at? ((sb.1.set (sb.2.2).toNat xb3).map Piece.enc) (subW .i64 sb.2.2 1) = some [.v (.string xb6.Name), .v (.int .i64 xb6.Size), .v (.int .i64 xb6.Hart)]) ∧ (((sb.1.set (sb.2.2).toNat xb3).map Piece.enc)[((subW .i64 sb.2.2 1)).toNat]? = some [.v (.string xb6.Name), .v (.int .i64 xb6.Size), .v (.int .i64 xb6.Hart)]) ∧ (((sb.1.set (sb.2.2).toNat xb3).map Piece.enc).set ((subW .i64 sb.2.2 1)).toNat [.v (.string xb2.Name), .v (.int .i64 xb2.Size), .v (.int .i64 xb2.Hart)] = ((sb.1.set (sb.2.2).toNat xb3).set ((subW .i64 sb.2.2 1)).toNat xb2).map Piece.enc) ∧ K .nrm (slices_insertionSortCmpFunc_Piece_S_L2_S a b (((sb.1.set (sb.2.2).toNat xb3).set ((subW .i64 sb.2.2 1)).toNat xb2), sb.2.1, (subW .i64 sb.2.2 1)))) := by kernel_rfl
theorem slices_insertionSortCmpFunc_Piece_S_L2_p1 (a : Int) (b : Int) (sb : (List Piece) × Int × Int) (xb2 : Piece) (xb3 : Piece) (yb4 : Int) (K : Ex → St → Prop) : oround (cx pc sc lp) cd ⟨ord37, [(4, ⟨[], [], [(25, [.v (.string xb2.Name), .v (.int .i64 xb2.Size), .v (.int .i64 xb2.Hart)]), (26, [.v (.string xb2.Name), .v (.int .i64 xb2.Size), .v (.int .i64 xb2.Hart)]), (30, [.v (.string xb3.Name), .v (.int .i64 xb3.Size), .v (.int .i64 xb3.Hart)]), (31, [.v (.string xb3.Name), .v (.int .i64 xb3.Size), .v (.int .i64 xb3.Hart)])], [(21, .v (.bool true)), (34, .v (.bool false))], [(32, .v (.int .i64 yb4))], [], [], []⟩)], [], [], []⟩ (polF 37) [(4, ⟨[0, 1, 2, 3, 8], [], 1, [], []⟩, ⟨[], [], []⟩)] c_slices_insertionSortCmpFunc_Piece_S_L2 (slices_insertionSortCmpFunc_Piece_S_L2_S a b sb) K
  = ((AV.v (.bool (decide (sb.2.2 > a))) = AV.v (.bool true)) ∧ (at? (sb.1.map Piece.enc) sb.2.2 = some [.v (.string xb2.Name), .v (.int .i64 xb2.Size), .v (.int .i64 xb2.Hart)]) ∧ ((sb.1.map Piece.enc)[(sb.2.2).toNat]? = some [.v (.string xb2.Name), .v (.int .i64 xb2.Size), .v (.int .i64 xb2.Hart)]) ∧ (at? (sb.1.map Piece.enc) (subW .i64 sb.2.2 1) = some [.v (.string xb3.Name), .v (.int .i64 xb3.Size), .v (.int .i64 xb3.Hart)]) ∧ ((sb.1.map Piece.enc)[((subW .i64 sb.2.2 1)).toNat]? = some [.v (.string xb3.Name), .v (.int .i64 xb3.Size), .v (.int .i64 xb3.Hart)]) ∧ (pc 29 [.agg [.v (.string xb2.Name), .v (.int .i64 xb2.Size), .v (.int .i64 xb2.Hart)], .agg [.v (.string xb3.Name), .v (.int .i64 xb3.Size), .v (.int .i64 xb3.Hart)]] (fun x => x = .v (.int .i64 yb4))) ∧ (AV.v (.bool (decide (yb4 < 0))) = AV.v (.bool false)) ∧ K (.ex 2) (slices_insertionSortCmpFunc_Piece_S_L2_T0 a b (sb.1, sb.2.1))) := by kernel_rfl
theorem slices_insertionSortCmpFunc_Piece_S_L2_p2 (a : Int) (b : Int) (sb : (List Piece) × Int × Int) (K : Ex → St → Prop) : oround (cx pc sc lp) cd ⟨ord37, [(4, ⟨[], [], [], [(21, .v (.bool false))], [], [], [], []⟩)], [], [], []⟩ (polF 37) [(4, ⟨[0, 1, 2, 3, 8], [], 1, [], []⟩, ⟨[], [], []⟩)] c_slices_insertionSortCmpFunc_Piece_S_L2 (slices_insertionSortCmpFunc_Piece_S_L2_S a b sb) K
  = ((AV.v (.bool (decide (sb.2.2 > a))) = AV.v (.bool false)) ∧ K (.ex 2) (slices_insertionSortCmpFunc_Piece_S_L2_T0 a b (sb.1, sb.2.1))) := by kernel_rfl
theorem slices_insertionSortCmpFunc_Piece_S_L2_sim (n : Nat) (a : Int) (b : Int) : ∀ sb r, slices_insertionSortCmpFunc_Piece_S_L2 n a b sb = some r → CodeD Try.prog c_slices_insertionSortCmpFunc_Piece_S_L2 (slices_insertionSortCmpFunc_Piece_S_L2_S a b sb) (rk (slices_insertionSortCmpFunc_Piece_S_L2_S a b) (slices_insertionSortCmpFunc_Piece_S_L2_out a b) r) := by
  intro sb r h
  unfold slices_insertionSortCmpFunc_Piece_S_L2 at h
  rcases bcase (decide (sb.2.2 > a)) with hb1 | hb1
  · replace h := iteT hb1 h
    obtain ⟨xb2, gxb2, h⟩ := bindE h
    obtain ⟨xb3, gxb3, h⟩ := bindE h
    obtain ⟨yb4, gyb4, h⟩ := bindE h
    rcases bcase (decide (yb4 < 0)) with hb5 | hb5
    · replace h := iteT hb5 h
      obtain ⟨xb6, gxb6, h⟩ := bindE h
      have e := Option.some.inj h
      subst e
      exact okR ordB_slices_insertionSortCmpFunc_Piece_S_L2 (Eq.mpr (slices_insertionSortCmpFunc_Piece_S_L2_p0 (PCall Try.prog) (SD Try.prog) (LoopD Try.prog) (CodeD Try.prog) a b sb xb2 xb3 yb4 xb6 _) ⟨congrArg aBool hb1, at_map Piece.enc gxb2, at_map' Piece.enc gxb2, at_map Piece.enc gxb3, at_map' Piece.enc gxb3, (data_Lay_1_sim n xb2 xb3 yb4 gyb4), congrArg aBool hb5, at_map Piece.enc gxb3, at_map' Piece.enc gxb3, at_map Piece.enc gxb2, at_map' Piece.enc gxb2, at_map Piece.enc gxb2, at_map' Piece.enc gxb2, set_map Piece.enc sb.1 ((sb.2.2).toNat) xb3, at_map Piece.enc gxb6, at_map' Piece.enc gxb6, set_map Piece.enc (sb.1.set (sb.2.2).toNat xb3) (((subW .i64 sb.2.2 1)).toNat) xb2, ⟨rfl, rfl⟩⟩) rkN
    · replace h := iteF hb5 h
      have e := Option.some.inj h
      subst e
      exact okR ordB_slices_insertionSortCmpFunc_Piece_S_L2 (Eq.mpr (slices_insertionSortCmpFunc_Piece_S_L2_p1 (PCall Try.prog) (SD Try.prog) (LoopD Try.prog) (CodeD Try.prog) a b sb xb2 xb3 yb4 _) ⟨congrArg aBool hb1, at_map Piece.enc gxb2, at_map' Piece.enc gxb2, at_map Piece.enc gxb3, at_map' Piece.enc gxb3, (data_Lay_1_sim n xb2 xb3 yb4 gyb4), congrArg aBool hb5, ⟨rfl, rfl⟩⟩) (rkE rfl neE)
  · replace h := iteF hb1 h
    have e := Option.some.inj h
    subst e
    exact okR ordB_slices_insertionSortCmpFunc_Piece_S_L2 (Eq.mpr (slices_insertionSortCmpFunc_Piece_S_L2_p2 (PCall Try.prog) (SD Try.prog) (LoopD Try.prog) (CodeD Try.prog) a b sb _) ⟨congrArg aBool hb1, ⟨rfl, rfl⟩⟩) (rkE rfl neE)

theorem ordB_slices_insertionSortCmpFunc_Piece_S_L1 : ordB (polF 37) ord37 c_slices_insertionSortCmpFunc_Piece_S_L1 = true := by kernel_rfl
def slices_insertionSortCmpFunc_Piece_S_L1_S (a : Int) (b : Int) (sa : (List Piece) × Int) : St := mkS 53 [(0, .mf 0), (1, .v (.int .i64 a)), (2, .v (.int .i64 b)), (3, .fn 29 [] []), (8, .v (.int .i64 sa.2))] [] [.arr true 3 (sa.1.map Piece.enc)] 1
def slices_insertionSortCmpFunc_Piece_S_L1_T0 (a : Int) (b : Int) (tt : (List Piece)) : St := mkS 53 [] [] [.arr true 3 (tt.map Piece.enc)] 1
def slices_insertionSortCmpFunc_Piece_S_L1_out (a : Int) (b : Int) (tt : ((List Piece))) : Ex × St := (.ex 0, slices_insertionSortCmpFunc_Piece_S_L1_T0 a b tt)
theorem slices_insertionSortCmpFunc_Piece_S_L1_p0 (a : Int) (b : Int) (sa : (List Piece) × Int) (ta2 : ((List Piece) × Int)) (K : Ex → St → Prop) : oround (cx pc sc lp) cd ⟨ord37, [(1, ⟨[], [], [], [(14, .v (.bool true))], [], [], [], []⟩)], [], [(4, (⟨[0, 1, 2, 3, 8, 9], [], 1, [], []⟩, ⟨[], [], []⟩, (.ex 2), slices_insertionSortCmpFunc_Piece_S_L2_T0 a b ta2))], []⟩ (polF 37) [(0, ⟨[0, 1, 2, 3, 8], [], 1, [], []⟩, ⟨[], [], []⟩)] c_slices_insertionSortCmpFunc_Piece_S_L1 (slices_insertionSortCmpFunc_Piece_S_L1_S a b sa) K
  = ((AV.v (.bool (decide (sa.2 < b))) = AV.v (.bool true)) ∧ (lp (polF 37) c_slices_insertionSortCmpFunc_Piece_S_L2 (slices_insertionSortCmpFunc_Piece_S_L2_S a b (sa.1, sa.2, sa.2)) (fun e' S' => e' = (.ex 2) ∧ S' = slices_insertionSortCmpFunc_Piece_S_L2_T0 a b ta2)) ∧ K .nrm (slices_insertionSortCmpFunc_Piece_S_L1_S a b (ta2.1, (addW .i64 ta2.2 1)))) := by kernel_rfl
theorem slices_insertionSortCmpFunc_Piece_S_L1_p1 (a : Int) (b : Int) (sa : (List Piece) × Int) (K : Ex → St → Prop) : oround (cx pc sc lp) cd ⟨ord37, [(1, ⟨[], [], [], [(14, .v (.bool false))], [], [], [], []⟩)], [], [], []⟩ (polF 37) [(2, ⟨[], [], 1, [], []⟩, ⟨[], [], []⟩)] c_slices_insertionSortCmpFunc_Piece_S_L1 (slices_insertionSortCmpFunc_Piece_S_L1_S a b sa) K
  = ((AV.v (.bool (decide (sa.2 < b))) = AV.v (.bool false)) ∧ K (.ex 0) (slices_insertionSortCmpFunc_Piece_S_L1_T0 a b sa.1)) := by kernel_rfl
theorem slices_insertionSortCmpFunc_Piece_S_L1_sim (n : Nat) (a : Int) (b : Int) : ∀ sa r, slices_insertionSortCmpFunc_Piece_S_L1 n a b sa = some r → CodeD Try.prog c_slices_insertionSortCmpFunc_Piece_S_L1 (slices_insertionSortCmpFunc_Piece_S_L1_S a b sa) (rk (slices_insertionSortCmpFunc_Piece_S_L1_S a b) (slices_insertionSortCmpFunc_Piece_S_L1_out a b) r) := by
  intro sa r h
  unfold slices_insertionSortCmpFunc_Piece_S_L1 at h
  rcases bcase (decide (sa.2 < b)) with ha1 | ha1
  · replace h := iteT ha1 h
    obtain ⟨ta2, gta2, h⟩ := bindE h
    have e := Option.some.inj h
    subst e
    exact okR ordB_slices_insertionSortCmpFunc_Piece_S_L1 (Eq.mpr (slices_insertionSortCmpFunc_Piece_S_L1_p0 (PCall Try.prog) (SD Try.prog) (LoopD Try.prog) (CodeD Try.prog) a b sa ta2 _) ⟨congrArg aBool ha1, okL (slices_insertionSortCmpFunc_Piece_S_L2_S a b) (slices_insertionSortCmpFunc_Piece_S_L2_out a b) (slices_insertionSortCmpFunc_Piece_S_L2_sim n a b) n _ ta2 gta2, ⟨rfl, rfl⟩⟩) rkN
  · replace h := iteF ha1 h
    have e := Option.some.inj h
    subst e
    exact okR ordB_slices_insertionSortCmpFunc_Piece_S_L1 (Eq.mpr (slices_insertionSortCmpFunc_Piece_S_L1_p1 (PCall Try.prog) (SD Try.prog) (LoopD Try.prog) (CodeD Try.prog) a b sa _) ⟨congrArg aBool ha1, ⟨rfl, rfl⟩⟩) (rkE rfl neE)

def slices_insertionSortCmpFunc_Piece_S_R (a : Int) (b : Int) (ob : (List Piece)) (y : (List Piece)) : AV × List Ob := (.tup [], [.arr true 3 (y.map Piece.enc)])
theorem slices_insertionSortCmpFunc_Piece_S_p0 (a : Int) (b : Int) (ob : (List Piece)) (t1 : ((List Piece))) (K : AV → List Ob → Prop) : ostore (cx pc sc lp) cd ⟨ord37, [], [], [(1, (⟨[0, 1, 2, 3, 8], [], 1, [], []⟩, ⟨[], [], []⟩, (.ex 0), slices_insertionSortCmpFunc_Piece_S_L1_T0 a b t1))], []⟩ 37 [.mf 0, .v (.int .i64 a), .v (.int .i64 b), .fn 29 [] []] [.arr true 3 (ob.map Piece.enc)] K
  = ((lp (polF 37) c_slices_insertionSortCmpFunc_Piece_S_L1 (slices_insertionSortCmpFunc_Piece_S_L1_S a b (ob, (addW .i64 a 1))) (fun e' S' => e' = (.ex 0) ∧ S' = slices_insertionSortCmpFunc_Piece_S_L1_T0 a b t1)) ∧ K (.tup []) [.arr true 3 (t1.map Piece.enc)]) := by kernel_rfl
theorem slices_insertionSortCmpFunc_Piece_S_sim (n : Nat) (a : Int) (b : Int) (ob : (List Piece)) (y : (List Piece)) (h : slices_insertionSortCmpFunc_Piece_S n a b ob = some y) : SD Try.prog 37 [.mf 0, .v (.int .i64 a), .v (.int .i64 b), .fn 29 [] []] [.arr true 3 (ob.map Piece.enc)] (fun r' o' => r' = (slices_insertionSortCmpFunc_Piece_S_R a b ob y).1 ∧ o' = (slices_insertionSortCmpFunc_Piece_S_R a b ob y).2) := by
  unfold slices_insertionSortCmpFunc_Piece_S at h
  obtain ⟨t1, gt1, h⟩ := bindE h
  have e := Option.some.inj h
  subst e
  exact okS ordB37 (Eq.mpr (slices_insertionSortCmpFunc_Piece_S_p0 (PCall Try.prog) (SD Try.prog) (LoopD Try.prog) (CodeD Try.prog) a b ob t1 _) (⟨okL (slices_insertionSortCmpFunc_Piece_S_L1_S a b) (slices_insertionSortCmpFunc_Piece_S_L1_out a b) (slices_insertionSortCmpFunc_Piece_S_L1_sim n a b) n _ t1 gt1, ⟨rfl, rfl⟩⟩)) ⟨rfl, rfl⟩

def ord40 : List (Nat × List Nat) := [(3, [0, 1, 2, 3, 4, 5, 6, 7, 8, 9, 10, 11, 12, 13, 14, 15, 16, 17, 18, 19, 20, 21, 22, 23])]
theorem ordB40 : ordB (polF 40) ord40 (bodyOf Try.prog 40) = true := by kernel_rfl
noncomputable def c_slices_swapRangeCmpFunc_Piece_S_L1 : Code := sub (bodyOf Try.prog 40) [1, 0, 0]
theorem ordB_slices_swapRangeCmpFunc_Piece_S_L1 : ordB (polF 40) ord40 c_slices_swapRangeCmpFunc_Piece_S_L1 = true := by kernel_rfl
def slices_swapRangeCmpFunc_Piece_S_L1_S (a : Int) (b : Int) (n_ : Int) (sa : (List Piece) × Int) : St := mkS 38 [(0, .mf 0), (1, .v (.int .i64 a)), (2, .v (.int .i64 b)), (3, .v (.int .i64 n_)), (10, .v (.int .i64 sa.2))] [] [.arr true 3 (sa.1.map Piece.enc)] 1
def slices_swapRangeCmpFunc_Piece_S_L1_T0 (a : Int) (b : Int) (n_ : Int) (tt : (List Piece)) : St := mkS 38 [] [] [.arr true 3 (tt.map Piece.enc)] 1
def slices_swapRangeCmpFunc_Piece_S_L1_out (a : Int) (b : Int) (n_ : Int) (tt : ((List Piece))) : Ex × St := (.ex 0, slices_swapRangeCmpFunc_Piece_S_L1_T0 a b n_ tt)
theorem slices_swapRangeCmpFunc_Piece_S_L1_p0 (a : Int) (b : Int) (n_ : Int) (sa : (List Piece) × Int) (xa2 : Piece) (xa3 : Piece) (xa4 : Piece) (K : Ex → St → Prop) : oround (cx pc sc lp) cd ⟨ord40, [(1, ⟨[], [], [], [(13, .v (.bool true))], [], [], [], []⟩), (3, ⟨[], [], [(28, [.v (.string xa2.Name), .v (.int .i64 xa2.Size), .v (.int .i64 xa2.Hart)]), (29, [.v (.string xa2.Name), .v (.int .i64 xa2.Size), .v (.int .i64 xa2.Hart)]), (34, [.v (.string xa3.Name), .v (.int .i64 xa3.Size), .v (.int .i64 xa3.Hart)]), (35, [.v (.string xa3.Name), .v (.int .i64 xa3.Size), .v (.int .i64 xa3.Hart)]), (36, [.v (.string xa3.Name), .v (.int .i64 xa3.Size), .v (.int .i64 xa3.Hart)]), (37, [.v (.string xa4.Name), .v (.int .i64 xa4.Size), .v (.int .i64 xa4.Hart)]), (1000036, [.v (.string xa3.Name), .v (.int .i64 xa3.Size), .v (.int .i64 xa3.Hart)]), (1000037, [.v (.string xa4.Name), .v (.int .i64 xa4.Size), .v (.int .i64 xa4.Hart)])], [], [], [], [(1000036, (0, (sa.1.set ((addW .i64 a sa.2)).toNat xa2).map Piece.enc)), (1000037, (0, ((sa.1.set ((addW .i64 a sa.2)).toNat xa2).set ((addW .i64 b sa.2)).toNat xa3).map Piece.enc))], []⟩)], [], [], []⟩ (polF 40) [(0, ⟨[0, 1, 2, 3, 10], [], 1, [], []⟩, ⟨[], [], []⟩)] c_slices_swapRangeCmpFunc_Piece_S_L1 (slices_swapRangeCmpFunc_Piece_S_L1_S a b n_ sa) K
  = ((AV.v (.bool (decide (sa.2 < n_))) = AV.v (.bool true)) ∧ (at? (sa.1.map Piece.enc) (addW .i64 b sa.2) = some [.v (.string xa2.Name), .v (.int .i64 xa2.Size), .v (.int .i64 xa2.Hart)]) ∧ ((sa.1.map Piece.enc)[((addW .i64 b sa.2)).toNat]? = some [.v (.string xa2.Name), .v (.int .i64 xa2.Size), .v (.int .i64 xa2.Hart)]) ∧ (at? (sa.1.map Piece.enc) (addW .i64 a sa.2) = some [.v (.string xa3.Name), .v (.int .i64 xa3.Size), .v (.int .i64 xa3.Hart)]) ∧ ((sa.1.map Piece.enc)[((addW .i64 a sa.2)).toNat]? = some [.v (.string xa3.Name), .v (.int .i64 xa3.Size), .v (.int .i64 xa3.Hart)]) ∧ (at? (sa.1.map Piece.enc) (addW .i64 a sa.2) = some [.v (.string xa3.Name), .v (.int .i64 xa3.Size), .v (.int .i64 xa3.Hart)]) ∧ ((sa.1.map Piece.enc)[((addW .i64 a sa.2)).toNat]? = some [.v (.string xa3.Name), .v (.int .i64 xa3.Size), .v (.int .i64 xa3.Hart)]) ∧ ((sa.1.map Piece.enc).set ((addW .i64 a sa.2)).toNat [.v (.string xa2.Name), .v (.int .i64 xa2.Size), .v (.int .i64 xa2.Hart)] = (sa.1.set ((addW .i64 a sa.2)).toNat xa2).map Piece.enc) ∧ (at? ((sa.1.set ((addW .i64 a sa.2)).toNat xa2).map Piece.enc) (addW .i64 b sa.2) = some [.v (.string xa4.Name), .v (.int .i64 xa4.Size), .v (.int .i64 xa4.Hart)]) ∧ (((sa.1.set ((addW .i64 a sa.2)).toNat xa2).map Piece.enc)[((addW .i64 b sa.2)).toNat]? = some [.v (.string xa4.Name), .v (.int .i64 xa4.Size), .v (.int .i64 xa4.Hart)]) ∧ (((sa.1.set ((addW .i64 a sa.2)).toNat xa2).map Piece.enc).set ((addW .i64 b sa.2)).toNat [.v (.string xa3.Name), .v (.int .i64 xa3.Size), .v (.int .i64 xa3.Hart)] = ((sa.1.set ((addW .i64 a sa.2)).toNat xa2).set ((addW .i64 b sa.2)).toNat xa3).map Piece.enc) ∧ K .nrm (slices_swapRangeCmpFunc_Piece_S_L1_S a b n_ (((sa.1.set ((addW .i64 a sa.2)).toNat xa2).set ((addW .i64 b sa.2)).toNat xa3), (addW .i64 sa.2 1)))) := by kernel_rfl
theorem slices_swapRangeCmpFunc_Piece_S_L1_p1 (a : Int) (b : Int) (n_ : Int) (sa : (List Piece) × Int) (K : Ex → St → Prop) : oround (cx pc sc lp) cd ⟨ord40, [(1, ⟨[], [], [], [(13, .v (.bool false))], [], [], [], []⟩)], [], [], []⟩ (polF 40) [(2, ⟨[], [], 1, [], []⟩, ⟨[], [], []⟩)] c_slices_swapRangeCmpFunc_Piece_S_L1 (slices_swapRangeCmpFunc_Piece_S_L1_S a b n_ sa) K
  = ((AV.v (.bool (decide (sa.2 < n_))) = AV.v (.bool false)) ∧ K (.ex 0) (slices_swapRangeCmpFunc_Piece_S_L1_T0 a b n_ sa.1)) := by kernel_rfl
theorem slices_swapRangeCmpFunc_Piece_S_L1_sim (n : Nat) (a : Int) (b : Int) (n_ : Int) : ∀ sa r, slices_swapRangeCmpFunc_Piece_S_L1 n a b n_ sa = some r → CodeD Try.prog c_slices_swapRangeCmpFunc_Piece_S_L1 (slices_swapRangeCmpFunc_Piece_S_L1_S a b n_ sa) (rk (slices_swapRangeCmpFunc_Piece_S_L1_S a b n_) (slices_swapRangeCmpFunc_Piece_S_L1_out a b n_) r) := by
  intro sa r h
  unfold slices_swapRangeCmpFunc_Piece_S_L1 at h
  rcases bcase (decide (sa.2 < n_)) with ha1 | ha1
  · replace h := iteT ha1 h
    obtain ⟨xa2, gxa2, h⟩ := bindE h
    obtain ⟨xa3, gxa3, h⟩ := bindE h
    obtain ⟨xa4, gxa4, h⟩ := bindE h
    have e := Option.some.inj h
    subst e
    exact okR ordB_slices_swapRangeCmpFunc_Piece_S_L1 (Eq.mpr (slices_swapRangeCmpFunc_Piece_S_L1_p0 (PCall Try.prog) (SD Try.prog) (LoopD Try.prog) (CodeD Try.prog) a b n_ sa xa2 xa3 xa4 _) ⟨congrArg aBool ha1, at_map Piece.enc gxa2, at_map' Piece.enc gxa2, at_map Piece.enc gxa3, at_map' Piece.enc gxa3, at_map Piece.enc gxa3, at_map' Piece.enc gxa3, set_map Piece.enc sa.1 (((addW .i64 a sa.2)).toNat) xa2, at_map Piece.enc gxa4, at_map' Piece.enc gxa4, set_map Piece.enc (sa.1.set ((addW .i64 a sa.2)).toNat xa2) (((addW .i64 b sa.2)).toNat) xa3, ⟨rfl, rfl⟩⟩) rkN
  · replace h := iteF ha1 h
    have e := Option.some.inj h
    subst e
    exact okR ordB_slices_swapRangeCmpFunc_Piece_S_L1 (Eq.mpr (slices_swapRangeCmpFunc_Piece_S_L1_p1 (PCall Try.prog) (SD Try.prog) (LoopD Try.prog) (CodeD Try.prog) a b n_ sa _) ⟨congrArg aBool ha1, ⟨rfl, rfl⟩⟩) (rkE rfl neE)

def slices_swapRangeCmpFunc_Piece_S_R (a : Int) (b : Int) (n_ : Int) (ob : (List Piece)) (y : (List Piece)) : AV × List Ob := (.tup [], [.arr true 3 (y.map Piece.enc)])
theorem slices_swapRangeCmpFunc_Piece_S_p0 (a : Int) (b : Int) (n_ : Int) (ob : (List Piece)) (t1 : ((List Piece))) (K : AV → List Ob → Prop) : ostore (cx pc sc lp) cd ⟨ord40, [], [], [(1, (⟨[0, 1, 2, 3, 10], [], 1, [], []⟩, ⟨[], [], []⟩, (.ex 0), slices_swapRangeCmpFunc_Piece_S_L1_T0 a b n_ t1))], []⟩ 40 [.mf 0, .v (.int .i64 a), .v (.int .i64 b), .v (.int .i64 n_), .fn 29 [] []] [.arr true 3 (ob.map Piece.enc)] K
  = ((lp (polF 40) c_slices_swapRangeCmpFunc_Piece_S_L1 (slices_swapRangeCmpFunc_Piece_S_L1_S a b n_ (ob, 0)) (fun e' S' => e' = (.ex 0) ∧ S' = slices_swapRangeCmpFunc_Piece_S_L1_T0 a b n_ t1)) ∧ K (.tup []) [.arr true 3 (t1.map Piece.enc)]) := by kernel_rfl
theorem slices_swapRangeCmpFunc_Piece_S_sim (n : Nat) (a : Int) (b : Int) (n_ : Int) (ob : (List Piece)) (y : (List Piece)) (h : slices_swapRangeCmpFunc_Piece_S n a b n_ ob = some y) : SD Try.prog 40 [.mf 0, .v (.int .i64 a), .v (.int .i64 b), .v (.int .i64 n_), .fn 29 [] []] [.arr true 3 (ob.map Piece.enc)] (fun r' o' => r' = (slices_swapRangeCmpFunc_Piece_S_R a b n_ ob y).1 ∧ o' = (slices_swapRangeCmpFunc_Piece_S_R a b n_ ob y).2) := by
  unfold slices_swapRangeCmpFunc_Piece_S at h
  obtain ⟨t1, gt1, h⟩ := bindE h
  have e := Option.some.inj h
  subst e
  exact okS ordB40 (Eq.mpr (slices_swapRangeCmpFunc_Piece_S_p0 (PCall Try.prog) (SD Try.prog) (LoopD Try.prog) (CodeD Try.prog) a b n_ ob t1 _) (⟨okL (slices_swapRangeCmpFunc_Piece_S_L1_S a b n_) (slices_swapRangeCmpFunc_Piece_S_L1_out a b n_) (slices_swapRangeCmpFunc_Piece_S_L1_sim n a b n_) n _ t1 gt1, ⟨rfl, rfl⟩⟩)) ⟨rfl, rfl⟩

def ord39 : List (Nat × List Nat) := []
theorem ordB39 : ordB (polF 39) ord39 (bodyOf Try.prog 39) = true := by kernel_rfl
noncomputable def c_slices_rotateCmpFunc_Piece_S_L1 : Code := sub (bodyOf Try.prog 39) [1, 1, 0, 0, 0]
theorem ordB_slices_rotateCmpFunc_Piece_S_L1 : ordB (polF 39) ord39 c_slices_rotateCmpFunc_Piece_S_L1 = true := by kernel_rfl
def slices_rotateCmpFunc_Piece_S_L1_S (m : Int) (sa : (List Piece) × Int × Int) : St := mkS 58 [(0, .mf 0), (2, .v (.int .i64 m)), (4, .fn 29 [] []), (10, .v (.int .i64 sa.2.1)), (11, .v (.int .i64 sa.2.2))] [] [.arr true 3 (sa.1.map Piece.enc)] 1
def slices_rotateCmpFunc_Piece_S_L1_T0 (m : Int) (tt : (List Piece) × Int) : St := mkS 58 [(0, .mf 0), (2, .v (.int .i64 m)), (4, .fn 29 [] []), (10, .v (.int .i64 tt.2))] [] [.arr true 3 (tt.1.map Piece.enc)] 1
def slices_rotateCmpFunc_Piece_S_L1_out (m : Int) (tt : ((List Piece) × Int)) : Ex × St := (.ex 0, slices_rotateCmpFunc_Piece_S_L1_T0 m tt)
theorem slices_rotateCmpFunc_Piece_S_L1_p0 (m : Int) (sa : (List Piece) × Int × Int) (ya3 : (List Piece)) (K : Ex → St → Prop) : oround (cx pc sc lp) cd ⟨ord39, [(2, ⟨[], [], [], [(20, .v (.bool true))], [], [], [], []⟩), (3, ⟨[], [], [], [(23, .v (.bool true))], [], [], [], []⟩), (4, ⟨[], [], [], [], [], [(31, (.tup [], [.arr true 3 (ya3.map Piece.enc)]))], [], []⟩)], [], [], []⟩ (polF 39) [(0, ⟨[0, 2, 4, 10, 11], [], 1, [], []⟩, ⟨[], [], []⟩)] c_slices_rotateCmpFunc_Piece_S_L1 (slices_rotateCmpFunc_Piece_S_L1_S m sa) K
  = ((AV.v (.bool (sa.2.1 != sa.2.2)) = AV.v (.bool true)) ∧ (AV.v (.bool (decide (sa.2.1 > sa.2.2))) = AV.v (.bool true)) ∧ (sc 40 [.mf 0, .v (.int .i64 (subW .i64 m sa.2.1)), .v (.int .i64 m), .v (.int .i64 sa.2.2), .fn 29 [] []] [.arr true 3 (sa.1.map Piece.enc)] (fun r' o' => r' = .tup [] ∧ o' = [.arr true 3 (ya3.map Piece.enc)])) ∧ K .nrm (slices_rotateCmpFunc_Piece_S_L1_S m (ya3, (subW .i64 sa.2.1 sa.2.2), sa.2.2))) := by kernel_rfl
theorem slices_rotateCmpFunc_Piece_S_L1_p1 (m : Int) (sa : (List Piece) × Int × Int) (ya3 : (List Piece)) (K : Ex → St → Prop) : oround (cx pc sc lp) cd ⟨ord39, [(2, ⟨[], [], [], [(20, .v (.bool true))], [], [], [], []⟩), (3, ⟨[], [], [], [(23, .v (.bool false))], [], [], [], []⟩), (6, ⟨[], [], [], [], [], [(46, (.tup [], [.arr true 3 (ya3.map Piece.enc)]))], [], []⟩)], [], [], []⟩ (polF 39) [(0, ⟨[0, 2, 4, 10, 11], [], 1, [], []⟩, ⟨[], [], []⟩)] c_slices_rotateCmpFunc_Piece_S_L1 (slices_rotateCmpFunc_Piece_S_L1_S m sa) K
  = ((AV.v (.bool (sa.2.1 != sa.2.2)) = AV.v (.bool true)) ∧ (AV.v (.bool (decide (sa.2.1 > sa.2.2))) = AV.v (.bool false)) ∧ (sc 40 [.mf 0, .v (.int .i64 (subW .i64 m sa.2.1)), .v (.int .i64 (subW .i64 (addW .i64 m sa.2.2) sa.2.1)), .v (.int .i64 sa.2.1), .fn 29 [] []] [.arr true 3 (sa.1.map Piece.enc)] (fun r' o' => r' = .tup [] ∧ o' = [.arr true 3 (ya3.map Piece.enc)])) ∧ K .nrm (slices_rotateCmpFunc_Piece_S_L1_S m (ya3, sa.2.1, (subW .i64 sa.2.2 sa.2.1)))) := by kernel_rfl
theorem slices_rotateCmpFunc_Piece_S_L1_p2 (m : Int) (sa : (List Piece) × Int × Int) (K : Ex → St → Prop) : oround (cx pc sc lp) cd ⟨ord39, [(2, ⟨[], [], [], [(20, .v (.bool false))], [], [], [], []⟩)], [], [], []⟩ (polF 39) [(2, ⟨[0, 2, 4, 10], [], 1, [], []⟩, ⟨[], [], []⟩)] c_slices_rotateCmpFunc_Piece_S_L1 (slices_rotateCmpFunc_Piece_S_L1_S m sa) K
  = ((AV.v (.bool (sa.2.1 != sa.2.2)) = AV.v (.bool false)) ∧ K (.ex 0) (slices_rotateCmpFunc_Piece_S_L1_T0 m (sa.1, sa.2.1))) := by kernel_rfl
theorem slices_rotateCmpFunc_Piece_S_L1_sim (n : Nat) (m : Int) : ∀ sa r, slices_rotateCmpFunc_Piece_S_L1 n m sa = some r → CodeD Try.prog c_slices_rotateCmpFunc_Piece_S_L1 (slices_rotateCmpFunc_Piece_S_L1_S m sa) (rk (slices_rotateCmpFunc_Piece_S_L1_S m) (slices_rotateCmpFunc_Piece_S_L1_out m) r) := by
  intro sa r h
  unfold slices_rotateCmpFunc_Piece_S_L1 at h
  rcases bcase (sa.2.1 != sa.2.2) with ha1 | ha1
  · replace h := iteT ha1 h
    rcases bcase (decide (sa.2.1 > sa.2.2)) with ha2 | ha2
    · replace h := iteT ha2 h
      obtain ⟨ya3, gya3, h⟩ := bindE h
      have e := Option.some.inj h
      subst e
      exact okR ordB_slices_rotateCmpFunc_Piece_S_L1 (Eq.mpr (slices_rotateCmpFunc_Piece_S_L1_p0 (PCall Try.prog) (SD Try.prog) (LoopD Try.prog) (CodeD Try.prog) m sa ya3 _) ⟨congrArg aBool ha1, congrArg aBool ha2, slices_swapRangeCmpFunc_Piece_S_sim n (subW .i64 m sa.2.1) m sa.2.2 sa.1 ya3 gya3, ⟨rfl, rfl⟩⟩) rkN
    · replace h := iteF ha2 h
      obtain ⟨ya3, gya3, h⟩ := bindE h
      have e := Option.some.inj h
      subst e
      exact okR ordB_slices_rotateCmpFunc_Piece_S_L1 (Eq.mpr (slices_rotateCmpFunc_Piece_S_L1_p1 (PCall Try.prog) (SD Try.prog) (LoopD Try.prog) (CodeD Try.prog) m sa ya3 _) ⟨congrArg aBool ha1, congrArg aBool ha2, slices_swapRangeCmpFunc_Piece_S_sim n (subW .i64 m sa.2.1) (subW .i64 (addW .i64 m sa.2.2) sa.2.1) sa.2.1 sa.1 ya3 gya3, ⟨rfl, rfl⟩⟩) rkN
  · replace h := iteF ha1 h
    have e := Option.some.inj h
    subst e
    exact okR ordB_slices_rotateCmpFunc_Piece_S_L1 (Eq.mpr (slices_rotateCmpFunc_Piece_S_L1_p2 (PCall Try.prog) (SD Try.prog) (LoopD Try.prog) (CodeD Try.prog) m sa _) ⟨congrArg aBool ha1, ⟨rfl, rfl⟩⟩) (rkE rfl neE)

def slices_rotateCmpFunc_Piece_S_R (a : Int) (m : Int) (b : Int) (ob : (List Piece)) (y : (List Piece)) : AV × List Ob := (.tup [], [.arr true 3 (y.map Piece.enc)])
theorem slices_rotateCmpFunc_Piece_S_p0 (a : Int) (m : Int) (b : Int) (ob : (List Piece)) (t1 : ((List Piece) × Int)) (y2 : (List Piece)) (K : AV → List Ob → Prop) : ostore (cx pc sc lp) cd ⟨ord39, [(8, ⟨[], [], [], [], [], [(57, (.tup [], [.arr true 3 (y2.map Piece.enc)]))], [], []⟩)], [], [(2, (⟨[0, 2, 4, 10, 11], [], 1, [], []⟩, ⟨[], [], []⟩, (.ex 0), slices_rotateCmpFunc_Piece_S_L1_T0 m t1))], []⟩ 39 [.mf 0, .v (.int .i64 a), .v (.int .i64 m), .v (.int .i64 b), .fn 29 [] []] [.arr true 3 (ob.map Piece.enc)] K
  = ((lp (polF 39) c_slices_rotateCmpFunc_Piece_S_L1 (slices_rotateCmpFunc_Piece_S_L1_S m (ob, (subW .i64 m a), (subW .i64 b m))) (fun e' S' => e' = (.ex 0) ∧ S' = slices_rotateCmpFunc_Piece_S_L1_T0 m t1)) ∧ (sc 40 [.mf 0, .v (.int .i64 (subW .i64 m t1.2)), .v (.int .i64 m), .v (.int .i64 t1.2), .fn 29 [] []] [.arr true 3 (t1.1.map Piece.enc)] (fun r' o' => r' = .tup [] ∧ o' = [.arr true 3 (y2.map Piece.enc)])) ∧ K (.tup []) [.arr true 3 (y2.map Piece.enc)]) := by kernel_rfl
theorem slices_rotateCmpFunc_Piece_S_sim (n : Nat) (a : Int) (m : Int) (b : Int) (ob : (List Piece)) (y : (List Piece)) (h : slices_rotateCmpFunc_Piece_S n a m b ob = some y) : SD Try.prog 39 [.mf 0, .v (.int .i64 a), .v (.int .i64 m), .v (.int .i64 b), .fn 29 [] []] [.arr true 3 (ob.map Piece.enc)] (fun r' o' => r' = (slices_rotateCmpFunc_Piece_S_R a m b ob y).1 ∧ o' = (slices_rotateCmpFunc_Piece_S_R a m b ob y).2) := by
  unfold slices_rotateCmpFunc_Piece_S at h
  obtain ⟨t1, gt1, h⟩ := bindE h
  obtain ⟨y2, gy2, h⟩ := bindE h
  have e := Option.some.inj h
  subst e
  exact okS ordB39 (Eq.mpr (slices_rotateCmpFunc_Piece_S_p0 (PCall Try.prog) (SD Try.prog) (LoopD Try.prog) (CodeD Try.prog) a m b ob t1 y2 _) (⟨okL (slices_rotateCmpFunc_Piece_S_L1_S m) (slices_rotateCmpFunc_Piece_S_L1_out m) (slices_rotateCmpFunc_Piece_S_L1_sim n m) n _ t1 gt1, slices_swapRangeCmpFunc_Piece_S_sim n (subW .i64 m t1.2) m t1.2 t1.1 y2 gy2, ⟨rfl, rfl⟩⟩)) ⟨rfl, rfl⟩

end
end Go.Proofs.Ytnjpjmeoednfcaa
