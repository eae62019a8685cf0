/- What the functions compute, they compute: printed by a program, path by path. No conditions. -/
import Derived.Test.YtnjpjmeoednfcaaP0
import Derived.KernelRfl
namespace Go.Proofs.Ytnjpjmeoednfcaa
open Go A
set_option linter.unusedVariables false
set_option maxRecDepth 100000
section
variable (pc : Nat → List AV → (AV → Prop) → Prop) (sc : Nat → List AV → List Ob → (AV → List Ob → Prop) → Prop) (lp : Pol → Code → St → (Ex → St → Prop) → Prop)

def stL : List Nat := [13, 15, 27, 28, 35, 37, 38, 39, 40]
noncomputable def cfgL : A.Cfg := { P := Try.prog, pure := fun f => !(hasN stL f), pol := fun f => { esc := (polF f).esc, ms := if f = 15 then [0, 1, 2, 3, 4, 5, 6, 7, 8, 9, 10] else [], bx := (polF f).bx, st := stL } }
set_option maxRecDepth 1000000 in
set_option maxHeartbeats 0 in
theorem lives_run : A.Gives cfgL 2000 7 [] (.v (.bool true)) = (AV.v (.bool true) = AV.v (.bool true)) := by kernel_rfl
theorem cfgL_mix : cfgL.P.follows .mixedOrders = true := by kernel_rfl
theorem law_lives_sim (n : Nat) (r : Bool) (h : law_lives n = some r) : PCall Try.prog 7 [] (fun x => x = .v (.bool r)) := by
  have e := Option.some.inj h
  subst e
  exact PCall.ofN (cfg := cfgL) (noNum_of names0) cfgL_mix (by rw [lives_run])
def ord8 : List (Nat × List Nat) := []
theorem ordB8 : ordB (polF 8) ord8 (bodyOf Try.prog 8) = true := by kernel_rfl
noncomputable def c_law_light_L1 : Code := sub (bodyOf Try.prog 8) [1, 0, 1, 0, 0]
theorem ordB_law_light_L1 : ordB (polF 8) ord8 c_law_light_L1 = true := by kernel_rfl
def law_light_L1_S (l : (List Piece)) (sa : Int) : St := mkS 24 [(0, .sl (l.map Piece.enc)), (3, .v (.int .i64 sa))] [] [] 0
def law_light_L1_T0 (l : (List Piece)) (tt : Unit) : St := mkS 24 [(0, .sl (l.map Piece.enc))] [] [] 0
def law_light_L1_T1 (l : (List Piece)) (tt : Unit) : St := mkS 24 [(2, .v (.bool false))] [] [] 0
def law_light_L1_out (l : (List Piece)) (t0 : (Unit ⊕ Unit)) : Ex × St := match t0 with | .inl tt => (.ex 0, law_light_L1_T0 l tt) | .inr tt => (.ret, law_light_L1_T1 l tt)
theorem law_light_L1_p0 (l : (List Piece)) (sa : Int) (xa3 : Piece) (K : Ex → St → Prop) : oround (cx pc sc lp) ⟨ord8, [], [(16, [.v (.string xa3.Name), .v (.int .i64 xa3.Size), .v (.int .i64 xa3.Hart)])], [(6, .v (.int .i64 (l.length : Int))), (8, .v (.bool true)), (11, .v (.bool true)), (20, .v (.bool true))], [], [], [], [], []⟩ (polF 8) [(1, ⟨[2], [], 0, [], []⟩, ⟨[], [], []⟩)] c_law_light_L1 (law_light_L1_S l sa) K
  = ((AV.v (.int .i64 (((l.map Piece.enc).length : Nat) : Int)) = AV.v (.int .i64 (l.length : Int))) ∧ (AV.v (.bool (decide (sa < (l.length : Int)))) = AV.v (.bool true)) ∧ (AV.v (.bool (decide (sa ≤ 40))) = AV.v (.bool true)) ∧ (at? (l.map Piece.enc) sa = some [.v (.string xa3.Name), .v (.int .i64 xa3.Size), .v (.int .i64 xa3.Hart)]) ∧ (AV.v (.bool (decide ((xa3.Name.size : Int) > 100))) = AV.v (.bool true)) ∧ K .ret (law_light_L1_T1 l ())) := by kernel_rfl
theorem law_light_L1_p1 (l : (List Piece)) (sa : Int) (xa3 : Piece) (K : Ex → St → Prop) : oround (cx pc sc lp) ⟨ord8, [], [(16, [.v (.string xa3.Name), .v (.int .i64 xa3.Size), .v (.int .i64 xa3.Hart)])], [(6, .v (.int .i64 (l.length : Int))), (8, .v (.bool true)), (11, .v (.bool true)), (20, .v (.bool false))], [], [], [], [], []⟩ (polF 8) [(0, ⟨[0, 3], [], 0, [], []⟩, ⟨[], [], []⟩)] c_law_light_L1 (law_light_L1_S l sa) K
  = ((AV.v (.int .i64 (((l.map Piece.enc).length : Nat) : Int)) = AV.v (.int .i64 (l.length : Int))) ∧ (AV.v (.bool (decide (sa < (l.length : Int)))) = AV.v (.bool true)) ∧ (AV.v (.bool (decide (sa ≤ 40))) = AV.v (.bool true)) ∧ (at? (l.map Piece.enc) sa = some [.v (.string xa3.Name), .v (.int .i64 xa3.Size), .v (.int .i64 xa3.Hart)]) ∧ (AV.v (.bool (decide ((xa3.Name.size : Int) > 100))) = AV.v (.bool false)) ∧ K .nrm (law_light_L1_S l (addW .i64 sa 1))) := by kernel_rfl
theorem law_light_L1_p2 (l : (List Piece)) (sa : Int) (K : Ex → St → Prop) : oround (cx pc sc lp) ⟨ord8, [], [], [(6, .v (.int .i64 (l.length : Int))), (8, .v (.bool true)), (11, .v (.bool false))], [], [], [], [], []⟩ (polF 8) [(2, ⟨[0], [], 0, [], []⟩, ⟨[], [], []⟩)] c_law_light_L1 (law_light_L1_S l sa) K
  = ((AV.v (.int .i64 (((l.map Piece.enc).length : Nat) : Int)) = AV.v (.int .i64 (l.length : Int))) ∧ (AV.v (.bool (decide (sa < (l.length : Int)))) = AV.v (.bool true)) ∧ (AV.v (.bool (decide (sa ≤ 40))) = AV.v (.bool false)) ∧ K (.ex 0) (law_light_L1_T0 l ())) := by kernel_rfl
theorem law_light_L1_p3 (l : (List Piece)) (sa : Int) (K : Ex → St → Prop) : oround (cx pc sc lp) ⟨ord8, [], [], [(6, .v (.int .i64 (l.length : Int))), (8, .v (.bool false))], [], [], [], [], []⟩ (polF 8) [(2, ⟨[0], [], 0, [], []⟩, ⟨[], [], []⟩)] c_law_light_L1 (law_light_L1_S l sa) K
  = ((AV.v (.int .i64 (((l.map Piece.enc).length : Nat) : Int)) = AV.v (.int .i64 (l.length : Int))) ∧ (AV.v (.bool (decide (sa < (l.length : Int)))) = AV.v (.bool false)) ∧ K (.ex 0) (law_light_L1_T0 l ())) := by kernel_rfl
theorem law_light_L1_sim (n : Nat) (l : (List Piece)) : ∀ sa r, law_light_L1 n l sa = some r → RoundD cfg (polF 8) c_law_light_L1 (law_light_L1_S l sa) (rk (law_light_L1_S l) (law_light_L1_out l) r) := by
  intro sa r h
  unfold law_light_L1 at h
  rcases bcase (decide (sa < (l.length : Int))) with ha1 | ha1
  · replace h := iteT ha1 h
    rcases bcase (decide (sa ≤ 40)) with ha2 | ha2
    · replace h := iteT ha2 h
      obtain ⟨xa3, gxa3, h⟩ := bindE h
      rcases bcase (decide ((xa3.Name.size : Int) > 100)) with ha4 | ha4
      · replace h := iteT ha4 h
        have e := Option.some.inj h
        subst e
        exact okR ordB_law_light_L1 (Eq.mpr (law_light_L1_p0 (PCall Try.prog) (SD Try.prog) (LoopD Try.prog) l sa xa3 _) ⟨len_map _ _, congrArg aBool ha1, congrArg aBool ha2, at_map Piece.enc gxa3, congrArg aBool ha4, (rkE rfl neR)⟩)
      · replace h := iteF ha4 h
        have e := Option.some.inj h
        subst e
        exact okR ordB_law_light_L1 (Eq.mpr (law_light_L1_p1 (PCall Try.prog) (SD Try.prog) (LoopD Try.prog) l sa xa3 _) ⟨len_map _ _, congrArg aBool ha1, congrArg aBool ha2, at_map Piece.enc gxa3, congrArg aBool ha4, rkN⟩)
    · replace h := iteF ha2 h
      have e := Option.some.inj h
      subst e
      exact okR ordB_law_light_L1 (Eq.mpr (law_light_L1_p2 (PCall Try.prog) (SD Try.prog) (LoopD Try.prog) l sa _) ⟨len_map _ _, congrArg aBool ha1, congrArg aBool ha2, (rkE rfl neE)⟩)
  · replace h := iteF ha1 h
    have e := Option.some.inj h
    subst e
    exact okR ordB_law_light_L1 (Eq.mpr (law_light_L1_p3 (PCall Try.prog) (SD Try.prog) (LoopD Try.prog) l sa _) ⟨len_map _ _, congrArg aBool ha1, (rkE rfl neE)⟩)

theorem law_light_p0 (l : (List Piece)) (w2 : Unit) (K : AV → Prop) : opure (cx pc sc lp) ⟨ord8, [], [], [(22, .v (.int .i64 (l.length : Int)))], [], [], [], [], [(2, (⟨[0, 3], [], 0, [], []⟩, ⟨[], [], []⟩, (.ex 0), law_light_L1_T0 l w2))]⟩ 8 [.sl (l.map Piece.enc)] K
  = ((lp (polF 8) c_law_light_L1 (law_light_L1_S l 0) (fun e' S' => e' = (.ex 0) ∧ S' = law_light_L1_T0 l w2)) ∧ (AV.v (.int .i64 (((l.map Piece.enc).length : Nat) : Int)) = AV.v (.int .i64 (l.length : Int))) ∧ K (.v (.bool (decide ((l.length : Int) ≤ 40))))) := by kernel_rfl
theorem law_light_p1 (l : (List Piece)) (w2 : Unit) (K : AV → Prop) : opure (cx pc sc lp) ⟨ord8, [], [], [], [], [], [], [], [(2, (⟨[0, 3], [], 0, [], []⟩, ⟨[], [], []⟩, .ret, law_light_L1_T1 l w2))]⟩ 8 [.sl (l.map Piece.enc)] K
  = ((lp (polF 8) c_law_light_L1 (law_light_L1_S l 0) (fun e' S' => e' = .ret ∧ S' = law_light_L1_T1 l w2)) ∧ K (.v (.bool false))) := by kernel_rfl
theorem law_light_sim (n : Nat) (l : (List Piece)) (r : Bool) (h : law_light n l = some r) : PCall Try.prog 8 [.sl (l.map Piece.enc)] (fun x => x = .v (.bool r)) := by
  unfold law_light at h
  obtain ⟨t1, gt1, h⟩ := bindE h
  rcases t1 with w2 | w2
  · skip
    have e := Option.some.inj h
    subst e
    exact okP ordB8 (Eq.mpr (law_light_p0 (PCall Try.prog) (SD Try.prog) (LoopD Try.prog) l w2 _) (⟨okL (law_light_L1_S l) (law_light_L1_out l) (law_light_L1_sim n l) n _ (.inl w2) gt1, len_map _ _, LeA.refl _⟩))
  · skip
    have e := Option.some.inj h
    subst e
    exact okP ordB8 (Eq.mpr (law_light_p1 (PCall Try.prog) (SD Try.prog) (LoopD Try.prog) l w2 _) (⟨okL (law_light_L1_S l) (law_light_L1_out l) (law_light_L1_sim n l) n _ (.inr w2) gt1, LeA.refl _⟩))

def ord25 : List (Nat × List Nat) := []
theorem ordB25 : ordB (polF 25) ord25 (bodyOf Try.prog 25) = true := by kernel_rfl
theorem data_piece_may_p0 (p : data_piece) (K : AV → Prop) : opure (cx pc sc lp) ⟨ord25, [], [], [(8, .v (.bool true)), (15, .v (.bool true)), (21, .v (.bool true)), (27, .v (.bool true)), (33, .v (.bool true))], [], [], [], [], []⟩ 25 [.agg [.v (.string p.Piece.Name), .v (.int .i64 p.Piece.Size), .v (.int .i64 p.Piece.Hart)]] K
  = ((AV.v (.bool (decide ((p.Piece.Name.size : Int) ≥ 1))) = AV.v (.bool true)) ∧ (AV.v (.bool (decide ((p.Piece.Name.size : Int) ≤ 32))) = AV.v (.bool true)) ∧ (AV.v (.bool (decide (p.Piece.Size ≥ 1))) = AV.v (.bool true)) ∧ (AV.v (.bool (decide (p.Piece.Size ≤ 65536))) = AV.v (.bool true)) ∧ (AV.v (.bool (decide (p.Piece.Hart ≥ (-1)))) = AV.v (.bool true)) ∧ K (.v (.bool (decide (p.Piece.Hart < 8))))) := by kernel_rfl
theorem data_piece_may_p1 (p : data_piece) (K : AV → Prop) : opure (cx pc sc lp) ⟨ord25, [], [], [(8, .v (.bool true)), (15, .v (.bool true)), (21, .v (.bool true)), (27, .v (.bool true)), (33, .v (.bool false))], [], [], [], [], []⟩ 25 [.agg [.v (.string p.Piece.Name), .v (.int .i64 p.Piece.Size), .v (.int .i64 p.Piece.Hart)]] K
  = ((AV.v (.bool (decide ((p.Piece.Name.size : Int) ≥ 1))) = AV.v (.bool true)) ∧ (AV.v (.bool (decide ((p.Piece.Name.size : Int) ≤ 32))) = AV.v (.bool true)) ∧ (AV.v (.bool (decide (p.Piece.Size ≥ 1))) = AV.v (.bool true)) ∧ (AV.v (.bool (decide (p.Piece.Size ≤ 65536))) = AV.v (.bool true)) ∧ (AV.v (.bool (decide (p.Piece.Hart ≥ (-1)))) = AV.v (.bool false)) ∧ K (.v (.bool false))) := by kernel_rfl
theorem data_piece_may_p2 (p : data_piece) (K : AV → Prop) : opure (cx pc sc lp) ⟨ord25, [], [], [(8, .v (.bool true)), (15, .v (.bool true)), (21, .v (.bool true)), (27, .v (.bool false))], [], [], [], [], []⟩ 25 [.agg [.v (.string p.Piece.Name), .v (.int .i64 p.Piece.Size), .v (.int .i64 p.Piece.Hart)]] K
  = ((AV.v (.bool (decide ((p.Piece.Name.size : Int) ≥ 1))) = AV.v (.bool true)) ∧ (AV.v (.bool (decide ((p.Piece.Name.size : Int) ≤ 32))) = AV.v (.bool true)) ∧ (AV.v (.bool (decide (p.Piece.Size ≥ 1))) = AV.v (.bool true)) ∧ (AV.v (.bool (decide (p.Piece.Size ≤ 65536))) = AV.v (.bool false)) ∧ K (.v (.bool false))) := by kernel_rfl
theorem data_piece_may_p3 (p : data_piece) (K : AV → Prop) : opure (cx pc sc lp) ⟨ord25, [], [], [(8, .v (.bool true)), (15, .v (.bool true)), (21, .v (.bool false))], [], [], [], [], []⟩ 25 [.agg [.v (.string p.Piece.Name), .v (.int .i64 p.Piece.Size), .v (.int .i64 p.Piece.Hart)]] K
  = ((AV.v (.bool (decide ((p.Piece.Name.size : Int) ≥ 1))) = AV.v (.bool true)) ∧ (AV.v (.bool (decide ((p.Piece.Name.size : Int) ≤ 32))) = AV.v (.bool true)) ∧ (AV.v (.bool (decide (p.Piece.Size ≥ 1))) = AV.v (.bool false)) ∧ K (.v (.bool false))) := by kernel_rfl
theorem data_piece_may_p4 (p : data_piece) (K : AV → Prop) : opure (cx pc sc lp) ⟨ord25, [], [], [(8, .v (.bool true)), (15, .v (.bool false))], [], [], [], [], []⟩ 25 [.agg [.v (.string p.Piece.Name), .v (.int .i64 p.Piece.Size), .v (.int .i64 p.Piece.Hart)]] K
  = ((AV.v (.bool (decide ((p.Piece.Name.size : Int) ≥ 1))) = AV.v (.bool true)) ∧ (AV.v (.bool (decide ((p.Piece.Name.size : Int) ≤ 32))) = AV.v (.bool false)) ∧ K (.v (.bool false))) := by kernel_rfl
theorem data_piece_may_p5 (p : data_piece) (K : AV → Prop) : opure (cx pc sc lp) ⟨ord25, [], [], [(8, .v (.bool false))], [], [], [], [], []⟩ 25 [.agg [.v (.string p.Piece.Name), .v (.int .i64 p.Piece.Size), .v (.int .i64 p.Piece.Hart)]] K
  = ((AV.v (.bool (decide ((p.Piece.Name.size : Int) ≥ 1))) = AV.v (.bool false)) ∧ K (.v (.bool false))) := by kernel_rfl
theorem data_piece_may_sim (n : Nat) (p : data_piece) (r : Bool) (h : data_piece_may n p = some r) : PCall Try.prog 25 [.agg [.v (.string p.Piece.Name), .v (.int .i64 p.Piece.Size), .v (.int .i64 p.Piece.Hart)]] (fun x => x = .v (.bool r)) := by
  unfold data_piece_may at h
  rcases bcase (decide ((p.Piece.Name.size : Int) ≥ 1)) with h1 | h1
  · replace h := iteT h1 h
    rcases bcase (decide ((p.Piece.Name.size : Int) ≤ 32)) with h2 | h2
    · replace h := iteT h2 h
      rcases bcase (decide (p.Piece.Size ≥ 1)) with h3 | h3
      · replace h := iteT h3 h
        rcases bcase (decide (p.Piece.Size ≤ 65536)) with h4 | h4
        · replace h := iteT h4 h
          rcases bcase (decide (p.Piece.Hart ≥ (-1))) with h5 | h5
          · replace h := iteT h5 h
            have e := Option.some.inj h
            subst e
            exact okP ordB25 (Eq.mpr (data_piece_may_p0 (PCall Try.prog) (SD Try.prog) (LoopD Try.prog) p _) (⟨congrArg aBool h1, congrArg aBool h2, congrArg aBool h3, congrArg aBool h4, congrArg aBool h5, LeA.refl _⟩))
          · replace h := iteF h5 h
            have e := Option.some.inj h
            subst e
            exact okP ordB25 (Eq.mpr (data_piece_may_p1 (PCall Try.prog) (SD Try.prog) (LoopD Try.prog) p _) (⟨congrArg aBool h1, congrArg aBool h2, congrArg aBool h3, congrArg aBool h4, congrArg aBool h5, LeA.refl _⟩))
        · replace h := iteF h4 h
          have e := Option.some.inj h
          subst e
          exact okP ordB25 (Eq.mpr (data_piece_may_p2 (PCall Try.prog) (SD Try.prog) (LoopD Try.prog) p _) (⟨congrArg aBool h1, congrArg aBool h2, congrArg aBool h3, congrArg aBool h4, LeA.refl _⟩))
      · replace h := iteF h3 h
        have e := Option.some.inj h
        subst e
        exact okP ordB25 (Eq.mpr (data_piece_may_p3 (PCall Try.prog) (SD Try.prog) (LoopD Try.prog) p _) (⟨congrArg aBool h1, congrArg aBool h2, congrArg aBool h3, LeA.refl _⟩))
    · replace h := iteF h2 h
      have e := Option.some.inj h
      subst e
      exact okP ordB25 (Eq.mpr (data_piece_may_p4 (PCall Try.prog) (SD Try.prog) (LoopD Try.prog) p _) (⟨congrArg aBool h1, congrArg aBool h2, LeA.refl _⟩))
  · replace h := iteF h1 h
    have e := Option.some.inj h
    subst e
    exact okP ordB25 (Eq.mpr (data_piece_may_p5 (PCall Try.prog) (SD Try.prog) (LoopD Try.prog) p _) (⟨congrArg aBool h1, LeA.refl _⟩))

def ord9 : List (Nat × List Nat) := []
theorem ordB9 : ordB (polF 9) ord9 (bodyOf Try.prog 9) = true := by kernel_rfl
noncomputable def c_data_Check_L1 : Code := sub (bodyOf Try.prog 9) [1, 1, 1, 0, 1, 0, 0]
theorem ordB_data_Check_L1 : ordB (polF 9) ord9 c_data_Check_L1 = true := by kernel_rfl
def data_Check_L1_S (l : (List Piece)) (sa : (List (data_key × Int)) × Int × Int) : St := mkS 44 [(3, .v (.int .i64 sa.2.2)), (4, .mp 0), (9, .sl (l.map Piece.enc)), (10, .v (.int .i64 (l.length : Int))), (11, .v (.int .i64 sa.2.1))] [] [.mapo true (sa.1.map (eKV (aAgg data_key.enc) (aInt .i64)))] 0
def data_Check_L1_T0 (l : (List Piece)) (tt : Unit) : St := mkS 44 [] [] [] 0
def data_Check_L1_T1 (l : (List Piece)) (tt : Int) : St := mkS 44 [(2, .v (.int .i64 tt))] [] [] 0
def data_Check_L1_out (l : (List Piece)) (t0 : (Unit ⊕ Int)) : Ex × St := match t0 with | .inl tt => (.ex 0, data_Check_L1_T0 l tt) | .inr tt => (.ret, data_Check_L1_T1 l tt)
theorem data_Check_L1_p0 (l : (List Piece)) (sa : (List (data_key × Int)) × Int × Int) (xa2 : Piece) (ya3 : Bool) (K : Ex → St → Prop) : oround (cx pc sc lp) ⟨ord9, [], [(14, [.v (.string xa2.Name), .v (.int .i64 xa2.Size), .v (.int .i64 xa2.Hart)])], [(12, .v (.bool true)), (21, .v (.bool true))], [(24, .v (.bool ya3))], [], [], [], []⟩ (polF 9) [(1, ⟨[2], [7, 6], 0, [], []⟩, ⟨[], [], []⟩)] c_data_Check_L1 (data_Check_L1_S l sa) K
  = ((AV.v (.bool (decide (sa.2.1 < (l.length : Int)))) = AV.v (.bool true)) ∧ (at? (l.map Piece.enc) sa.2.1 = some [.v (.string xa2.Name), .v (.int .i64 xa2.Size), .v (.int .i64 xa2.Hart)]) ∧ (pc 25 [.agg [.v (.string xa2.Name), .v (.int .i64 xa2.Size), .v (.int .i64 xa2.Hart)]] (fun x => x = .v (.bool ya3))) ∧ (AV.v (.bool !ya3) = AV.v (.bool true)) ∧ K .ret (data_Check_L1_T1 l 2)) := by kernel_rfl
theorem data_Check_L1_p1 (l : (List Piece)) (sa : (List (data_key × Int)) × Int × Int) (xa2 : Piece) (ya3 : Bool) (K : Ex → St → Prop) : oround (cx pc sc lp) ⟨ord9, [], [(14, [.v (.string xa2.Name), .v (.int .i64 xa2.Size), .v (.int .i64 xa2.Hart)])], [(12, .v (.bool true)), (21, .v (.bool false)), (26, .v (.bool true))], [(24, .v (.bool ya3)), (29, .v (.int .i64 ((mget data_key.beq sa.1 (data_key.mk xa2.Name xa2.Hart)).getD 0)))], [], [], [], []⟩ (polF 9) [(1, ⟨[2], [7, 6], 0, [], []⟩, ⟨[], [], []⟩)] c_data_Check_L1 (data_Check_L1_S l sa) K
  = ((AV.v (.bool (decide (sa.2.1 < (l.length : Int)))) = AV.v (.bool true)) ∧ (at? (l.map Piece.enc) sa.2.1 = some [.v (.string xa2.Name), .v (.int .i64 xa2.Size), .v (.int .i64 xa2.Hart)]) ∧ (pc 25 [.agg [.v (.string xa2.Name), .v (.int .i64 xa2.Size), .v (.int .i64 xa2.Hart)]] (fun x => x = .v (.bool ya3))) ∧ (AV.v (.bool !ya3) = AV.v (.bool false)) ∧ (∀ k' : AV → Prop, k' (.v (.int .i64 ((mget data_key.beq sa.1 (data_key.mk xa2.Name xa2.Hart)).getD 0))) → findK Try.prog 52 (.agg [.v (.string xa2.Name), .v (.int .i64 xa2.Hart)]) (sa.1.map (eKV (aAgg data_key.enc) (aInt .i64))) fun _ r => foundOk Try.prog 3 false (sa.1.map (eKV (aAgg data_key.enc) (aInt .i64))) r k') ∧ (AV.v (.bool (((mget data_key.beq sa.1 (data_key.mk xa2.Name xa2.Hart)).getD 0) != 0)) = AV.v (.bool true)) ∧ K .ret (data_Check_L1_T1 l 8)) := by kernel_rfl
theorem data_Check_L1_p2 (l : (List Piece)) (sa : (List (data_key × Int)) × Int × Int) (xa2 : Piece) (ya3 : Bool) (K : Ex → St → Prop) : oround (cx pc sc lp) ⟨ord9, [], [(14, [.v (.string xa2.Name), .v (.int .i64 xa2.Size), .v (.int .i64 xa2.Hart)])], [(12, .v (.bool true)), (21, .v (.bool false)), (26, .v (.bool false)), (39, .v (.bool true))], [(24, .v (.bool ya3)), (29, .v (.int .i64 ((mget data_key.beq sa.1 (data_key.mk xa2.Name xa2.Hart)).getD 0)))], [], [], [(31, ((mput data_key.beq sa.1 (data_key.mk xa2.Name xa2.Hart) 1).map (eKV (aAgg data_key.enc) (aInt .i64))))], []⟩ (polF 9) [(1, ⟨[2], [7, 6], 0, [], []⟩, ⟨[], [], []⟩)] c_data_Check_L1 (data_Check_L1_S l sa) K
  = ((AV.v (.bool (decide (sa.2.1 < (l.length : Int)))) = AV.v (.bool true)) ∧ (at? (l.map Piece.enc) sa.2.1 = some [.v (.string xa2.Name), .v (.int .i64 xa2.Size), .v (.int .i64 xa2.Hart)]) ∧ (pc 25 [.agg [.v (.string xa2.Name), .v (.int .i64 xa2.Size), .v (.int .i64 xa2.Hart)]] (fun x => x = .v (.bool ya3))) ∧ (AV.v (.bool !ya3) = AV.v (.bool false)) ∧ (∀ k' : AV → Prop, k' (.v (.int .i64 ((mget data_key.beq sa.1 (data_key.mk xa2.Name xa2.Hart)).getD 0))) → findK Try.prog 52 (.agg [.v (.string xa2.Name), .v (.int .i64 xa2.Hart)]) (sa.1.map (eKV (aAgg data_key.enc) (aInt .i64))) fun _ r => foundOk Try.prog 3 false (sa.1.map (eKV (aAgg data_key.enc) (aInt .i64))) r k') ∧ (AV.v (.bool (((mget data_key.beq sa.1 (data_key.mk xa2.Name xa2.Hart)).getD 0) != 0)) = AV.v (.bool false)) ∧ (∀ K' : List (AV × AV) → Prop, K' ((mput data_key.beq sa.1 (data_key.mk xa2.Name xa2.Hart) 1).map (eKV (aAgg data_key.enc) (aInt .i64))) → findK Try.prog 52 (.agg [.v (.string xa2.Name), .v (.int .i64 xa2.Hart)]) (sa.1.map (eKV (aAgg data_key.enc) (aInt .i64))) fun kv r => Chk (ckOk Try.prog 52 kv) (match r with | some i => Chk (Instr.sameBits 10000 (((sa.1.map (eKV (aAgg data_key.enc) (aInt .i64)))[i]?.bind fun e => toK e.1).getD (.bool false)) kv) (K' ((sa.1.map (eKV (aAgg data_key.enc) (aInt .i64))).set i (.agg [.v (.string xa2.Name), .v (.int .i64 xa2.Hart)], .v (.int .i64 1)))) | none => K' ((sa.1.map (eKV (aAgg data_key.enc) (aInt .i64))) ++ [(.agg [.v (.string xa2.Name), .v (.int .i64 xa2.Hart)], .v (.int .i64 1))]))) ∧ (AV.v (.bool (decide (sa.2.1 ≥ 1024))) = AV.v (.bool true)) ∧ K .ret (data_Check_L1_T1 l 7)) := by kernel_rfl
theorem data_Check_L1_p3 (l : (List Piece)) (sa : (List (data_key × Int)) × Int × Int) (xa2 : Piece) (ya3 : Bool) (K : Ex → St → Prop) : oround (cx pc sc lp) ⟨ord9, [], [(14, [.v (.string xa2.Name), .v (.int .i64 xa2.Size), .v (.int .i64 xa2.Hart)])], [(12, .v (.bool true)), (21, .v (.bool false)), (26, .v (.bool false)), (39, .v (.bool false)), (42, .v (.bool true))], [(24, .v (.bool ya3)), (29, .v (.int .i64 ((mget data_key.beq sa.1 (data_key.mk xa2.Name xa2.Hart)).getD 0)))], [], [], [(31, ((mput data_key.beq sa.1 (data_key.mk xa2.Name xa2.Hart) 1).map (eKV (aAgg data_key.enc) (aInt .i64))))], []⟩ (polF 9) [(1, ⟨[2], [7, 6], 0, [], []⟩, ⟨[], [], []⟩)] c_data_Check_L1 (data_Check_L1_S l sa) K
  = ((AV.v (.bool (decide (sa.2.1 < (l.length : Int)))) = AV.v (.bool true)) ∧ (at? (l.map Piece.enc) sa.2.1 = some [.v (.string xa2.Name), .v (.int .i64 xa2.Size), .v (.int .i64 xa2.Hart)]) ∧ (pc 25 [.agg [.v (.string xa2.Name), .v (.int .i64 xa2.Size), .v (.int .i64 xa2.Hart)]] (fun x => x = .v (.bool ya3))) ∧ (AV.v (.bool !ya3) = AV.v (.bool false)) ∧ (∀ k' : AV → Prop, k' (.v (.int .i64 ((mget data_key.beq sa.1 (data_key.mk xa2.Name xa2.Hart)).getD 0))) → findK Try.prog 52 (.agg [.v (.string xa2.Name), .v (.int .i64 xa2.Hart)]) (sa.1.map (eKV (aAgg data_key.enc) (aInt .i64))) fun _ r => foundOk Try.prog 3 false (sa.1.map (eKV (aAgg data_key.enc) (aInt .i64))) r k') ∧ (AV.v (.bool (((mget data_key.beq sa.1 (data_key.mk xa2.Name xa2.Hart)).getD 0) != 0)) = AV.v (.bool false)) ∧ (∀ K' : List (AV × AV) → Prop, K' ((mput data_key.beq sa.1 (data_key.mk xa2.Name xa2.Hart) 1).map (eKV (aAgg data_key.enc) (aInt .i64))) → findK Try.prog 52 (.agg [.v (.string xa2.Name), .v (.int .i64 xa2.Hart)]) (sa.1.map (eKV (aAgg data_key.enc) (aInt .i64))) fun kv r => Chk (ckOk Try.prog 52 kv) (match r with | some i => Chk (Instr.sameBits 10000 (((sa.1.map (eKV (aAgg data_key.enc) (aInt .i64)))[i]?.bind fun e => toK e.1).getD (.bool false)) kv) (K' ((sa.1.map (eKV (aAgg data_key.enc) (aInt .i64))).set i (.agg [.v (.string xa2.Name), .v (.int .i64 xa2.Hart)], .v (.int .i64 1)))) | none => K' ((sa.1.map (eKV (aAgg data_key.enc) (aInt .i64))) ++ [(.agg [.v (.string xa2.Name), .v (.int .i64 xa2.Hart)], .v (.int .i64 1))]))) ∧ (AV.v (.bool (decide (sa.2.1 ≥ 1024))) = AV.v (.bool false)) ∧ (AV.v (.bool (decide ((addW .i64 sa.2.2 xa2.Size) > 65536))) = AV.v (.bool true)) ∧ K .ret (data_Check_L1_T1 l 7)) := by kernel_rfl
theorem data_Check_L1_p4 (l : (List Piece)) (sa : (List (data_key × Int)) × Int × Int) (xa2 : Piece) (ya3 : Bool) (K : Ex → St → Prop) : oround (cx pc sc lp) ⟨ord9, [], [(14, [.v (.string xa2.Name), .v (.int .i64 xa2.Size), .v (.int .i64 xa2.Hart)])], [(12, .v (.bool true)), (21, .v (.bool false)), (26, .v (.bool false)), (39, .v (.bool false)), (42, .v (.bool false))], [(24, .v (.bool ya3)), (29, .v (.int .i64 ((mget data_key.beq sa.1 (data_key.mk xa2.Name xa2.Hart)).getD 0)))], [], [], [(31, ((mput data_key.beq sa.1 (data_key.mk xa2.Name xa2.Hart) 1).map (eKV (aAgg data_key.enc) (aInt .i64))))], []⟩ (polF 9) [(0, ⟨[3, 4, 9, 10, 11], [7, 6], 1, [], []⟩, ⟨[], [], []⟩)] c_data_Check_L1 (data_Check_L1_S l sa) K
  = ((AV.v (.bool (decide (sa.2.1 < (l.length : Int)))) = AV.v (.bool true)) ∧ (at? (l.map Piece.enc) sa.2.1 = some [.v (.string xa2.Name), .v (.int .i64 xa2.Size), .v (.int .i64 xa2.Hart)]) ∧ (pc 25 [.agg [.v (.string xa2.Name), .v (.int .i64 xa2.Size), .v (.int .i64 xa2.Hart)]] (fun x => x = .v (.bool ya3))) ∧ (AV.v (.bool !ya3) = AV.v (.bool false)) ∧ (∀ k' : AV → Prop, k' (.v (.int .i64 ((mget data_key.beq sa.1 (data_key.mk xa2.Name xa2.Hart)).getD 0))) → findK Try.prog 52 (.agg [.v (.string xa2.Name), .v (.int .i64 xa2.Hart)]) (sa.1.map (eKV (aAgg data_key.enc) (aInt .i64))) fun _ r => foundOk Try.prog 3 false (sa.1.map (eKV (aAgg data_key.enc) (aInt .i64))) r k') ∧ (AV.v (.bool (((mget data_key.beq sa.1 (data_key.mk xa2.Name xa2.Hart)).getD 0) != 0)) = AV.v (.bool false)) ∧ (∀ K' : List (AV × AV) → Prop, K' ((mput data_key.beq sa.1 (data_key.mk xa2.Name xa2.Hart) 1).map (eKV (aAgg data_key.enc) (aInt .i64))) → findK Try.prog 52 (.agg [.v (.string xa2.Name), .v (.int .i64 xa2.Hart)]) (sa.1.map (eKV (aAgg data_key.enc) (aInt .i64))) fun kv r => Chk (ckOk Try.prog 52 kv) (match r with | some i => Chk (Instr.sameBits 10000 (((sa.1.map (eKV (aAgg data_key.enc) (aInt .i64)))[i]?.bind fun e => toK e.1).getD (.bool false)) kv) (K' ((sa.1.map (eKV (aAgg data_key.enc) (aInt .i64))).set i (.agg [.v (.string xa2.Name), .v (.int .i64 xa2.Hart)], .v (.int .i64 1)))) | none => K' ((sa.1.map (eKV (aAgg data_key.enc) (aInt .i64))) ++ [(.agg [.v (.string xa2.Name), .v (.int .i64 xa2.Hart)], .v (.int .i64 1))]))) ∧ (AV.v (.bool (decide (sa.2.1 ≥ 1024))) = AV.v (.bool false)) ∧ (AV.v (.bool (decide ((addW .i64 sa.2.2 xa2.Size) > 65536))) = AV.v (.bool false)) ∧ K .nrm (data_Check_L1_S l ((mput data_key.beq sa.1 (data_key.mk xa2.Name xa2.Hart) 1), (addW .i64 sa.2.1 1), (addW .i64 sa.2.2 xa2.Size)))) := by kernel_rfl
theorem data_Check_L1_p5 (l : (List Piece)) (sa : (List (data_key × Int)) × Int × Int) (K : Ex → St → Prop) : oround (cx pc sc lp) ⟨ord9, [], [], [(12, .v (.bool false))], [], [], [], [], []⟩ (polF 9) [(2, ⟨[], [], 0, [], []⟩, ⟨[], [], []⟩)] c_data_Check_L1 (data_Check_L1_S l sa) K
  = ((AV.v (.bool (decide (sa.2.1 < (l.length : Int)))) = AV.v (.bool false)) ∧ K (.ex 0) (data_Check_L1_T0 l ())) := by kernel_rfl
theorem data_Check_L1_sim (n : Nat) (l : (List Piece)) : ∀ sa r, data_Check_L1 n l sa = some r → RoundD cfg (polF 9) c_data_Check_L1 (data_Check_L1_S l sa) (rk (data_Check_L1_S l) (data_Check_L1_out l) r) := by
  intro sa r h
  unfold data_Check_L1 at h
  rcases bcase (decide (sa.2.1 < (l.length : Int))) with ha1 | ha1
  · replace h := iteT ha1 h
    obtain ⟨xa2, gxa2, h⟩ := bindE h
    obtain ⟨ya3, gya3, h⟩ := bindE h
    rcases bcase (!ya3) with ha4 | ha4
    · replace h := iteT ha4 h
      have e := Option.some.inj h
      subst e
      exact okR ordB_data_Check_L1 (Eq.mpr (data_Check_L1_p0 (PCall Try.prog) (SD Try.prog) (LoopD Try.prog) l sa xa2 ya3 _) ⟨congrArg aBool ha1, at_map Piece.enc gxa2, (data_piece_may_sim n (data_piece.mk xa2) ya3 gya3), congrArg aBool ha4, (rkE rfl neR)⟩)
    · replace h := iteF ha4 h
      rcases bcase (((mget data_key.beq sa.1 (data_key.mk xa2.Name xa2.Hart)).getD 0) != 0) with ha5 | ha5
      · replace h := iteT ha5 h
        have e := Option.some.inj h
        subst e
        exact okR ordB_data_Check_L1 (Eq.mpr (data_Check_L1_p1 (PCall Try.prog) (SD Try.prog) (LoopD Try.prog) l sa xa2 ya3 _) ⟨congrArg aBool ha1, at_map Piece.enc gxa2, (data_piece_may_sim n (data_piece.mk xa2) ya3 gya3), congrArg aBool ha4, mapGet_50 sa.1 (data_key.mk xa2.Name xa2.Hart), congrArg aBool ha5, (rkE rfl neR)⟩)
      · replace h := iteF ha5 h
        rcases bcase (decide (sa.2.1 ≥ 1024)) with ha6 | ha6
        · replace h := iteT ha6 h
          have e := Option.some.inj h
          subst e
          exact okR ordB_data_Check_L1 (Eq.mpr (data_Check_L1_p2 (PCall Try.prog) (SD Try.prog) (LoopD Try.prog) l sa xa2 ya3 _) ⟨congrArg aBool ha1, at_map Piece.enc gxa2, (data_piece_may_sim n (data_piece.mk xa2) ya3 gya3), congrArg aBool ha4, mapGet_50 sa.1 (data_key.mk xa2.Name xa2.Hart), congrArg aBool ha5, mapPut_50 sa.1 (data_key.mk xa2.Name xa2.Hart) 1, congrArg aBool ha6, (rkE rfl neR)⟩)
        · replace h := iteF ha6 h
          rcases bcase (decide ((addW .i64 sa.2.2 xa2.Size) > 65536)) with ha7 | ha7
          · replace h := iteT ha7 h
            have e := Option.some.inj h
            subst e
            exact okR ordB_data_Check_L1 (Eq.mpr (data_Check_L1_p3 (PCall Try.prog) (SD Try.prog) (LoopD Try.prog) l sa xa2 ya3 _) ⟨congrArg aBool ha1, at_map Piece.enc gxa2, (data_piece_may_sim n (data_piece.mk xa2) ya3 gya3), congrArg aBool ha4, mapGet_50 sa.1 (data_key.mk xa2.Name xa2.Hart), congrArg aBool ha5, mapPut_50 sa.1 (data_key.mk xa2.Name xa2.Hart) 1, congrArg aBool ha6, congrArg aBool ha7, (rkE rfl neR)⟩)
          · replace h := iteF ha7 h
            have e := Option.some.inj h
            subst e
            exact okR ordB_data_Check_L1 (Eq.mpr (data_Check_L1_p4 (PCall Try.prog) (SD Try.prog) (LoopD Try.prog) l sa xa2 ya3 _) ⟨congrArg aBool ha1, at_map Piece.enc gxa2, (data_piece_may_sim n (data_piece.mk xa2) ya3 gya3), congrArg aBool ha4, mapGet_50 sa.1 (data_key.mk xa2.Name xa2.Hart), congrArg aBool ha5, mapPut_50 sa.1 (data_key.mk xa2.Name xa2.Hart) 1, congrArg aBool ha6, congrArg aBool ha7, rkN⟩)
  · replace h := iteF ha1 h
    have e := Option.some.inj h
    subst e
    exact okR ordB_data_Check_L1 (Eq.mpr (data_Check_L1_p5 (PCall Try.prog) (SD Try.prog) (LoopD Try.prog) l sa _) ⟨congrArg aBool ha1, (rkE rfl neE)⟩)

theorem data_Check_p0 (l : (List Piece)) (w2 : Unit) (K : AV → Prop) : opure (cx pc sc lp) ⟨ord9, [], [], [(10, .v (.int .i64 (l.length : Int)))], [], [], [], [], [(4, (⟨[3, 4, 9, 10, 11], [], 1, [], []⟩, ⟨[], [], []⟩, (.ex 0), data_Check_L1_T0 l w2))]⟩ 9 [.sl (l.map Piece.enc)] K
  = ((AV.v (.int .i64 (((l.map Piece.enc).length : Nat) : Int)) = AV.v (.int .i64 (l.length : Int))) ∧ (lp (polF 9) c_data_Check_L1 (data_Check_L1_S l (([] : (List (data_key × Int))), 0, 0)) (fun e' S' => e' = (.ex 0) ∧ S' = data_Check_L1_T0 l w2)) ∧ K (.v (.int .i64 0))) := by kernel_rfl
theorem data_Check_p1 (l : (List Piece)) (w2 : Int) (K : AV → Prop) : opure (cx pc sc lp) ⟨ord9, [], [], [(10, .v (.int .i64 (l.length : Int)))], [], [], [], [], [(4, (⟨[3, 4, 9, 10, 11], [], 1, [], []⟩, ⟨[], [], []⟩, .ret, data_Check_L1_T1 l w2))]⟩ 9 [.sl (l.map Piece.enc)] K
  = ((AV.v (.int .i64 (((l.map Piece.enc).length : Nat) : Int)) = AV.v (.int .i64 (l.length : Int))) ∧ (lp (polF 9) c_data_Check_L1 (data_Check_L1_S l (([] : (List (data_key × Int))), 0, 0)) (fun e' S' => e' = .ret ∧ S' = data_Check_L1_T1 l w2)) ∧ K (.v (.int .i64 w2))) := by kernel_rfl
theorem data_Check_sim (n : Nat) (l : (List Piece)) (r : Int) (h : data_Check n l = some r) : PCall Try.prog 9 [.sl (l.map Piece.enc)] (fun x => x = .v (.int .i64 r)) := by
  unfold data_Check at h
  obtain ⟨t1, gt1, h⟩ := bindE h
  rcases t1 with w2 | w2
  · skip
    have e := Option.some.inj h
    subst e
    exact okP ordB9 (Eq.mpr (data_Check_p0 (PCall Try.prog) (SD Try.prog) (LoopD Try.prog) l w2 _) (⟨len_map _ _, okL (data_Check_L1_S l) (data_Check_L1_out l) (data_Check_L1_sim n l) n _ (.inl w2) gt1, LeA.refl _⟩))
  · skip
    have e := Option.some.inj h
    subst e
    exact okP ordB9 (Eq.mpr (data_Check_p1 (PCall Try.prog) (SD Try.prog) (LoopD Try.prog) l w2 _) (⟨len_map _ _, okL (data_Check_L1_S l) (data_Check_L1_out l) (data_Check_L1_sim n l) n _ (.inr w2) gt1, LeA.refl _⟩))

def ord26 : List (Nat × List Nat) := []
theorem ordB26 : ordB (polF 26) ord26 (bodyOf Try.prog 26) = true := by kernel_rfl
theorem data_piece_bytes_p0 (p : data_piece) (K : AV → Prop) : opure (cx pc sc lp) ⟨ord26, [], [], [], [], [], [], [], []⟩ 26 [.agg [.v (.string p.Piece.Name), .v (.int .i64 p.Piece.Size), .v (.int .i64 p.Piece.Hart)]] K
  = (K (.v (.int .u64 (mulW .u64 8 (IntKind.wrap .u64 p.Piece.Size))))) := by kernel_rfl
theorem data_piece_bytes_sim (n : Nat) (p : data_piece) (r : Int) (h : data_piece_bytes n p = some r) : PCall Try.prog 26 [.agg [.v (.string p.Piece.Name), .v (.int .i64 p.Piece.Size), .v (.int .i64 p.Piece.Hart)]] (fun x => x = .v (.int .u64 r)) := by
  unfold data_piece_bytes at h
  have e := Option.some.inj h
  subst e
  exact okP ordB26 (Eq.mpr (data_piece_bytes_p0 (PCall Try.prog) (SD Try.prog) (LoopD Try.prog) p _) (LeA.refl _))

def ord10 : List (Nat × List Nat) := []
theorem ordB10 : ordB (polF 10) ord10 (bodyOf Try.prog 10) = true := by kernel_rfl
noncomputable def c_data_Part_L1 : Code := sub (bodyOf Try.prog 10) [1, 1, 1, 1, 0, 1, 0, 0]
theorem ordB_data_Part_L1 : ordB (polF 10) ord10 c_data_Part_L1 = true := by kernel_rfl
def data_Part_L1_S (l : (List Piece)) (hart : Int) (sa : Int × Int × Int) : St := mkS 48 [(1, .v (.int .i64 hart)), (4, .v (.int .u64 sa.2.1)), (5, .v (.int .u64 sa.2.2)), (21, .sl (l.map Piece.enc)), (22, .v (.int .i64 (l.length : Int))), (23, .v (.int .i64 sa.1))] [] [] 0
def data_Part_L1_T0 (l : (List Piece)) (hart : Int) (tt : Int × Int) : St := mkS 48 [(4, .v (.int .u64 tt.1)), (5, .v (.int .u64 tt.2))] [] [] 0
def data_Part_L1_out (l : (List Piece)) (hart : Int) (tt : (Int × Int)) : Ex × St := (.ex 0, data_Part_L1_T0 l hart tt)
theorem data_Part_L1_p0 (l : (List Piece)) (hart : Int) (sa : Int × Int × Int) (xa2 : Piece) (ya4 : Int) (ya6 : Int) (K : Ex → St → Prop) : oround (cx pc sc lp) ⟨ord10, [], [(25, [.v (.string xa2.Name), .v (.int .i64 xa2.Size), .v (.int .i64 xa2.Hart)])], [(24, .v (.bool true)), (30, .v (.bool true)), (39, .v (.bool true))], [(34, .v (.int .u64 ya4)), (43, .v (.int .u64 ya6))], [], [], [], []⟩ (polF 10) [(0, ⟨[1, 4, 5, 21, 22, 23], [9], 0, [], []⟩, ⟨[], [], []⟩)] c_data_Part_L1 (data_Part_L1_S l hart sa) K
  = ((AV.v (.bool (decide (sa.1 < (l.length : Int)))) = AV.v (.bool true)) ∧ (at? (l.map Piece.enc) sa.1 = some [.v (.string xa2.Name), .v (.int .i64 xa2.Size), .v (.int .i64 xa2.Hart)]) ∧ (AV.v (.bool (decide (xa2.Hart < hart))) = AV.v (.bool true)) ∧ (pc 26 [.agg [.v (.string xa2.Name), .v (.int .i64 xa2.Size), .v (.int .i64 xa2.Hart)]] (fun x => x = .v (.int .u64 ya4))) ∧ (AV.v (.bool (decide (xa2.Hart ≤ hart))) = AV.v (.bool true)) ∧ (pc 26 [.agg [.v (.string xa2.Name), .v (.int .i64 xa2.Size), .v (.int .i64 xa2.Hart)]] (fun x => x = .v (.int .u64 ya6))) ∧ K .nrm (data_Part_L1_S l hart ((addW .i64 sa.1 1), (addW .u64 sa.2.1 ya4), (addW .u64 sa.2.2 ya6)))) := by kernel_rfl
theorem data_Part_L1_p1 (l : (List Piece)) (hart : Int) (sa : Int × Int × Int) (xa2 : Piece) (ya4 : Int) (K : Ex → St → Prop) : oround (cx pc sc lp) ⟨ord10, [], [(25, [.v (.string xa2.Name), .v (.int .i64 xa2.Size), .v (.int .i64 xa2.Hart)])], [(24, .v (.bool true)), (30, .v (.bool true)), (39, .v (.bool false))], [(34, .v (.int .u64 ya4))], [], [], [], []⟩ (polF 10) [(0, ⟨[1, 4, 5, 21, 22, 23], [9], 0, [], []⟩, ⟨[], [], []⟩)] c_data_Part_L1 (data_Part_L1_S l hart sa) K
  = ((AV.v (.bool (decide (sa.1 < (l.length : Int)))) = AV.v (.bool true)) ∧ (at? (l.map Piece.enc) sa.1 = some [.v (.string xa2.Name), .v (.int .i64 xa2.Size), .v (.int .i64 xa2.Hart)]) ∧ (AV.v (.bool (decide (xa2.Hart < hart))) = AV.v (.bool true)) ∧ (pc 26 [.agg [.v (.string xa2.Name), .v (.int .i64 xa2.Size), .v (.int .i64 xa2.Hart)]] (fun x => x = .v (.int .u64 ya4))) ∧ (AV.v (.bool (decide (xa2.Hart ≤ hart))) = AV.v (.bool false)) ∧ K .nrm (data_Part_L1_S l hart ((addW .i64 sa.1 1), (addW .u64 sa.2.1 ya4), sa.2.2))) := by kernel_rfl
theorem data_Part_L1_p2 (l : (List Piece)) (hart : Int) (sa : Int × Int × Int) (xa2 : Piece) (ya5 : Int) (K : Ex → St → Prop) : oround (cx pc sc lp) ⟨ord10, [], [(25, [.v (.string xa2.Name), .v (.int .i64 xa2.Size), .v (.int .i64 xa2.Hart)])], [(24, .v (.bool true)), (30, .v (.bool false)), (39, .v (.bool true))], [(43, .v (.int .u64 ya5))], [], [], [], []⟩ (polF 10) [(0, ⟨[1, 4, 5, 21, 22, 23], [9], 0, [], []⟩, ⟨[], [], []⟩)] c_data_Part_L1 (data_Part_L1_S l hart sa) K
  = ((AV.v (.bool (decide (sa.1 < (l.length : Int)))) = AV.v (.bool true)) ∧ (at? (l.map Piece.enc) sa.1 = some [.v (.string xa2.Name), .v (.int .i64 xa2.Size), .v (.int .i64 xa2.Hart)]) ∧ (AV.v (.bool (decide (xa2.Hart < hart))) = AV.v (.bool false)) ∧ (AV.v (.bool (decide (xa2.Hart ≤ hart))) = AV.v (.bool true)) ∧ (pc 26 [.agg [.v (.string xa2.Name), .v (.int .i64 xa2.Size), .v (.int .i64 xa2.Hart)]] (fun x => x = .v (.int .u64 ya5))) ∧ K .nrm (data_Part_L1_S l hart ((addW .i64 sa.1 1), sa.2.1, (addW .u64 sa.2.2 ya5)))) := by kernel_rfl
theorem data_Part_L1_p3 (l : (List Piece)) (hart : Int) (sa : Int × Int × Int) (xa2 : Piece) (K : Ex → St → Prop) : oround (cx pc sc lp) ⟨ord10, [], [(25, [.v (.string xa2.Name), .v (.int .i64 xa2.Size), .v (.int .i64 xa2.Hart)])], [(24, .v (.bool true)), (30, .v (.bool false)), (39, .v (.bool false))], [], [], [], [], []⟩ (polF 10) [(0, ⟨[1, 4, 5, 21, 22, 23], [9], 0, [], []⟩, ⟨[], [], []⟩)] c_data_Part_L1 (data_Part_L1_S l hart sa) K
  = ((AV.v (.bool (decide (sa.1 < (l.length : Int)))) = AV.v (.bool true)) ∧ (at? (l.map Piece.enc) sa.1 = some [.v (.string xa2.Name), .v (.int .i64 xa2.Size), .v (.int .i64 xa2.Hart)]) ∧ (AV.v (.bool (decide (xa2.Hart < hart))) = AV.v (.bool false)) ∧ (AV.v (.bool (decide (xa2.Hart ≤ hart))) = AV.v (.bool false)) ∧ K .nrm (data_Part_L1_S l hart ((addW .i64 sa.1 1), sa.2.1, sa.2.2))) := by kernel_rfl
theorem data_Part_L1_p4 (l : (List Piece)) (hart : Int) (sa : Int × Int × Int) (K : Ex → St → Prop) : oround (cx pc sc lp) ⟨ord10, [], [], [(24, .v (.bool false))], [], [], [], [], []⟩ (polF 10) [(2, ⟨[4, 5], [], 0, [], []⟩, ⟨[], [], []⟩)] c_data_Part_L1 (data_Part_L1_S l hart sa) K
  = ((AV.v (.bool (decide (sa.1 < (l.length : Int)))) = AV.v (.bool false)) ∧ K (.ex 0) (data_Part_L1_T0 l hart (sa.2.1, sa.2.2))) := by kernel_rfl
theorem data_Part_L1_sim (n : Nat) (l : (List Piece)) (hart : Int) : ∀ sa r, data_Part_L1 n l hart sa = some r → RoundD cfg (polF 10) c_data_Part_L1 (data_Part_L1_S l hart sa) (rk (data_Part_L1_S l hart) (data_Part_L1_out l hart) r) := by
  intro sa r h
  unfold data_Part_L1 at h
  rcases bcase (decide (sa.1 < (l.length : Int))) with ha1 | ha1
  · replace h := iteT ha1 h
    obtain ⟨xa2, gxa2, h⟩ := bindE h
    rcases bcase (decide (xa2.Hart < hart)) with ha3 | ha3
    · replace h := iteT ha3 h
      obtain ⟨ya4, gya4, h⟩ := bindE h
      rcases bcase (decide (xa2.Hart ≤ hart)) with ha5 | ha5
      · replace h := iteT ha5 h
        obtain ⟨ya6, gya6, h⟩ := bindE h
        have e := Option.some.inj h
        subst e
        exact okR ordB_data_Part_L1 (Eq.mpr (data_Part_L1_p0 (PCall Try.prog) (SD Try.prog) (LoopD Try.prog) l hart sa xa2 ya4 ya6 _) ⟨congrArg aBool ha1, at_map Piece.enc gxa2, congrArg aBool ha3, (data_piece_bytes_sim n (data_piece.mk xa2) ya4 gya4), congrArg aBool ha5, (data_piece_bytes_sim n (data_piece.mk xa2) ya6 gya6), rkN⟩)
      · replace h := iteF ha5 h
        have e := Option.some.inj h
        subst e
        exact okR ordB_data_Part_L1 (Eq.mpr (data_Part_L1_p1 (PCall Try.prog) (SD Try.prog) (LoopD Try.prog) l hart sa xa2 ya4 _) ⟨congrArg aBool ha1, at_map Piece.enc gxa2, congrArg aBool ha3, (data_piece_bytes_sim n (data_piece.mk xa2) ya4 gya4), congrArg aBool ha5, rkN⟩)
    · replace h := iteF ha3 h
      rcases bcase (decide (xa2.Hart ≤ hart)) with ha4 | ha4
      · replace h := iteT ha4 h
        obtain ⟨ya5, gya5, h⟩ := bindE h
        have e := Option.some.inj h
        subst e
        exact okR ordB_data_Part_L1 (Eq.mpr (data_Part_L1_p2 (PCall Try.prog) (SD Try.prog) (LoopD Try.prog) l hart sa xa2 ya5 _) ⟨congrArg aBool ha1, at_map Piece.enc gxa2, congrArg aBool ha3, congrArg aBool ha4, (data_piece_bytes_sim n (data_piece.mk xa2) ya5 gya5), rkN⟩)
      · replace h := iteF ha4 h
        have e := Option.some.inj h
        subst e
        exact okR ordB_data_Part_L1 (Eq.mpr (data_Part_L1_p3 (PCall Try.prog) (SD Try.prog) (LoopD Try.prog) l hart sa xa2 _) ⟨congrArg aBool ha1, at_map Piece.enc gxa2, congrArg aBool ha3, congrArg aBool ha4, rkN⟩)
  · replace h := iteF ha1 h
    have e := Option.some.inj h
    subst e
    exact okR ordB_data_Part_L1 (Eq.mpr (data_Part_L1_p4 (PCall Try.prog) (SD Try.prog) (LoopD Try.prog) l hart sa _) ⟨congrArg aBool ha1, (rkE rfl neE)⟩)

theorem data_Part_p0 (l : (List Piece)) (hart : Int) (y1 : Int) (K : AV → Prop) : opure (cx pc sc lp) ⟨ord10, [], [], [(13, .v (.bool true))], [(11, .v (.int .i64 y1))], [], [], [], []⟩ 10 [.sl (l.map Piece.enc), .v (.int .i64 hart)] K
  = ((pc 9 [.sl (l.map Piece.enc)] (fun x => x = .v (.int .i64 y1))) ∧ (AV.v (.bool (y1 != 0)) = AV.v (.bool true)) ∧ K (.tup [.v (.int .u64 0), .v (.int .u64 0), .v (.int .i64 y1)])) := by kernel_rfl
theorem data_Part_p1 (l : (List Piece)) (hart : Int) (y1 : Int) (K : AV → Prop) : opure (cx pc sc lp) ⟨ord10, [], [], [(13, .v (.bool false)), (17, .v (.bool true))], [(11, .v (.int .i64 y1))], [], [], [], []⟩ 10 [.sl (l.map Piece.enc), .v (.int .i64 hart)] K
  = ((pc 9 [.sl (l.map Piece.enc)] (fun x => x = .v (.int .i64 y1))) ∧ (AV.v (.bool (y1 != 0)) = AV.v (.bool false)) ∧ (AV.v (.bool (decide (hart < (-1)))) = AV.v (.bool true)) ∧ K (.tup [.v (.int .u64 0), .v (.int .u64 0), .v (.int .i64 2)])) := by kernel_rfl
theorem data_Part_p2 (l : (List Piece)) (hart : Int) (y1 : Int) (K : AV → Prop) : opure (cx pc sc lp) ⟨ord10, [], [], [(13, .v (.bool false)), (17, .v (.bool false)), (20, .v (.bool true))], [(11, .v (.int .i64 y1))], [], [], [], []⟩ 10 [.sl (l.map Piece.enc), .v (.int .i64 hart)] K
  = ((pc 9 [.sl (l.map Piece.enc)] (fun x => x = .v (.int .i64 y1))) ∧ (AV.v (.bool (y1 != 0)) = AV.v (.bool false)) ∧ (AV.v (.bool (decide (hart < (-1)))) = AV.v (.bool false)) ∧ (AV.v (.bool (decide (hart ≥ 8))) = AV.v (.bool true)) ∧ K (.tup [.v (.int .u64 0), .v (.int .u64 0), .v (.int .i64 2)])) := by kernel_rfl
theorem data_Part_p3 (l : (List Piece)) (hart : Int) (y1 : Int) (t5 : (Int × Int)) (K : AV → Prop) : opure (cx pc sc lp) ⟨ord10, [], [], [(13, .v (.bool false)), (17, .v (.bool false)), (20, .v (.bool false)), (22, .v (.int .i64 (l.length : Int)))], [(11, .v (.int .i64 y1))], [], [], [], [(8, (⟨[1, 4, 5, 21, 22, 23], [], 0, [], []⟩, ⟨[], [], []⟩, (.ex 0), data_Part_L1_T0 l hart t5))]⟩ 10 [.sl (l.map Piece.enc), .v (.int .i64 hart)] K
  = ((pc 9 [.sl (l.map Piece.enc)] (fun x => x = .v (.int .i64 y1))) ∧ (AV.v (.bool (y1 != 0)) = AV.v (.bool false)) ∧ (AV.v (.bool (decide (hart < (-1)))) = AV.v (.bool false)) ∧ (AV.v (.bool (decide (hart ≥ 8))) = AV.v (.bool false)) ∧ (AV.v (.int .i64 (((l.map Piece.enc).length : Nat) : Int)) = AV.v (.int .i64 (l.length : Int))) ∧ (lp (polF 10) c_data_Part_L1 (data_Part_L1_S l hart (0, 1048576, 1048576)) (fun e' S' => e' = (.ex 0) ∧ S' = data_Part_L1_T0 l hart t5)) ∧ K (.tup [.v (.int .u64 t5.1), .v (.int .u64 t5.2), .v (.int .i64 0)])) := by kernel_rfl
theorem data_Part_sim (n : Nat) (l : (List Piece)) (hart : Int) (r : Int × Int × Int) (h : data_Part n l hart = some r) : PCall Try.prog 10 [.sl (l.map Piece.enc), .v (.int .i64 hart)] (fun x => x = .tup [.v (.int .u64 r.1), .v (.int .u64 r.2.1), .v (.int .i64 r.2.2)]) := by
  unfold data_Part at h
  obtain ⟨y1, gy1, h⟩ := bindE h
  rcases bcase (y1 != 0) with h2 | h2
  · replace h := iteT h2 h
    have e := Option.some.inj h
    subst e
    exact okP ordB10 (Eq.mpr (data_Part_p0 (PCall Try.prog) (SD Try.prog) (LoopD Try.prog) l hart y1 _) (⟨(data_Check_sim n l y1 gy1), congrArg aBool h2, LeA.refl _⟩))
  · replace h := iteF h2 h
    rcases bcase (decide (hart < (-1))) with h3 | h3
    · replace h := iteT h3 h
      have e := Option.some.inj h
      subst e
      exact okP ordB10 (Eq.mpr (data_Part_p1 (PCall Try.prog) (SD Try.prog) (LoopD Try.prog) l hart y1 _) (⟨(data_Check_sim n l y1 gy1), congrArg aBool h2, congrArg aBool h3, LeA.refl _⟩))
    · replace h := iteF h3 h
      rcases bcase (decide (hart ≥ 8)) with h4 | h4
      · replace h := iteT h4 h
        have e := Option.some.inj h
        subst e
        exact okP ordB10 (Eq.mpr (data_Part_p2 (PCall Try.prog) (SD Try.prog) (LoopD Try.prog) l hart y1 _) (⟨(data_Check_sim n l y1 gy1), congrArg aBool h2, congrArg aBool h3, congrArg aBool h4, LeA.refl _⟩))
      · replace h := iteF h4 h
        obtain ⟨t5, gt5, h⟩ := bindE h
        have e := Option.some.inj h
        subst e
        exact okP ordB10 (Eq.mpr (data_Part_p3 (PCall Try.prog) (SD Try.prog) (LoopD Try.prog) l hart y1 t5 _) (⟨(data_Check_sim n l y1 gy1), congrArg aBool h2, congrArg aBool h3, congrArg aBool h4, len_map _ _, okL (data_Part_L1_S l hart) (data_Part_L1_out l hart) (data_Part_L1_sim n l hart) n _ t5 gt5, LeA.refl _⟩))

def ord11 : List (Nat × List Nat) := []
theorem ordB11 : ordB (polF 11) ord11 (bodyOf Try.prog 11) = true := by kernel_rfl
noncomputable def c_data_Size_L1 : Code := sub (bodyOf Try.prog 11) [1, 1, 0, 1, 0, 0]
theorem ordB_data_Size_L1 : ordB (polF 11) ord11 c_data_Size_L1 = true := by kernel_rfl
def data_Size_L1_S (l : (List Piece)) (sa : Int × Int) : St := mkS 20 [(2, .v (.int .i64 sa.2)), (8, .sl (l.map Piece.enc)), (9, .v (.int .i64 (l.length : Int))), (10, .v (.int .i64 sa.1))] [] [] 0
def data_Size_L1_T0 (l : (List Piece)) (tt : Int) : St := mkS 20 [(2, .v (.int .i64 tt))] [] [] 0
def data_Size_L1_out (l : (List Piece)) (tt : Int) : Ex × St := (.ex 0, data_Size_L1_T0 l tt)
theorem data_Size_L1_p0 (l : (List Piece)) (sa : Int × Int) (xa2 : Piece) (K : Ex → St → Prop) : oround (cx pc sc lp) ⟨ord11, [], [(12, [.v (.string xa2.Name), .v (.int .i64 xa2.Size), .v (.int .i64 xa2.Hart)])], [(11, .v (.bool true))], [], [], [], [], []⟩ (polF 11) [(0, ⟨[2, 8, 9, 10], [4], 0, [], []⟩, ⟨[], [], []⟩)] c_data_Size_L1 (data_Size_L1_S l sa) K
  = ((AV.v (.bool (decide (sa.1 < (l.length : Int)))) = AV.v (.bool true)) ∧ (at? (l.map Piece.enc) sa.1 = some [.v (.string xa2.Name), .v (.int .i64 xa2.Size), .v (.int .i64 xa2.Hart)]) ∧ K .nrm (data_Size_L1_S l ((addW .i64 sa.1 1), (addW .i64 sa.2 xa2.Size)))) := by kernel_rfl
theorem data_Size_L1_p1 (l : (List Piece)) (sa : Int × Int) (K : Ex → St → Prop) : oround (cx pc sc lp) ⟨ord11, [], [], [(11, .v (.bool false))], [], [], [], [], []⟩ (polF 11) [(2, ⟨[2], [], 0, [], []⟩, ⟨[], [], []⟩)] c_data_Size_L1 (data_Size_L1_S l sa) K
  = ((AV.v (.bool (decide (sa.1 < (l.length : Int)))) = AV.v (.bool false)) ∧ K (.ex 0) (data_Size_L1_T0 l sa.2)) := by kernel_rfl
theorem data_Size_L1_sim (n : Nat) (l : (List Piece)) : ∀ sa r, data_Size_L1 n l sa = some r → RoundD cfg (polF 11) c_data_Size_L1 (data_Size_L1_S l sa) (rk (data_Size_L1_S l) (data_Size_L1_out l) r) := by
  intro sa r h
  unfold data_Size_L1 at h
  rcases bcase (decide (sa.1 < (l.length : Int))) with ha1 | ha1
  · replace h := iteT ha1 h
    obtain ⟨xa2, gxa2, h⟩ := bindE h
    have e := Option.some.inj h
    subst e
    exact okR ordB_data_Size_L1 (Eq.mpr (data_Size_L1_p0 (PCall Try.prog) (SD Try.prog) (LoopD Try.prog) l sa xa2 _) ⟨congrArg aBool ha1, at_map Piece.enc gxa2, rkN⟩)
  · replace h := iteF ha1 h
    have e := Option.some.inj h
    subst e
    exact okR ordB_data_Size_L1 (Eq.mpr (data_Size_L1_p1 (PCall Try.prog) (SD Try.prog) (LoopD Try.prog) l sa _) ⟨congrArg aBool ha1, (rkE rfl neE)⟩)

theorem data_Size_p0 (l : (List Piece)) (y1 : Int) (K : AV → Prop) : opure (cx pc sc lp) ⟨ord11, [], [], [(7, .v (.bool true))], [(6, .v (.int .i64 y1))], [], [], [], []⟩ 11 [.sl (l.map Piece.enc)] K
  = ((pc 9 [.sl (l.map Piece.enc)] (fun x => x = .v (.int .i64 y1))) ∧ (AV.v (.bool (y1 != 0)) = AV.v (.bool true)) ∧ K (.v (.int .i64 0))) := by kernel_rfl
theorem data_Size_p1 (l : (List Piece)) (y1 : Int) (t3 : Int) (K : AV → Prop) : opure (cx pc sc lp) ⟨ord11, [], [], [(7, .v (.bool false)), (9, .v (.int .i64 (l.length : Int)))], [(6, .v (.int .i64 y1))], [], [], [], [(4, (⟨[2, 8, 9, 10], [], 0, [], []⟩, ⟨[], [], []⟩, (.ex 0), data_Size_L1_T0 l t3))]⟩ 11 [.sl (l.map Piece.enc)] K
  = ((pc 9 [.sl (l.map Piece.enc)] (fun x => x = .v (.int .i64 y1))) ∧ (AV.v (.bool (y1 != 0)) = AV.v (.bool false)) ∧ (AV.v (.int .i64 (((l.map Piece.enc).length : Nat) : Int)) = AV.v (.int .i64 (l.length : Int))) ∧ (lp (polF 11) c_data_Size_L1 (data_Size_L1_S l (0, 0)) (fun e' S' => e' = (.ex 0) ∧ S' = data_Size_L1_T0 l t3)) ∧ K (.v (.int .i64 t3))) := by kernel_rfl
theorem data_Size_sim (n : Nat) (l : (List Piece)) (r : Int) (h : data_Size n l = some r) : PCall Try.prog 11 [.sl (l.map Piece.enc)] (fun x => x = .v (.int .i64 r)) := by
  unfold data_Size at h
  obtain ⟨y1, gy1, h⟩ := bindE h
  rcases bcase (y1 != 0) with h2 | h2
  · replace h := iteT h2 h
    have e := Option.some.inj h
    subst e
    exact okP ordB11 (Eq.mpr (data_Size_p0 (PCall Try.prog) (SD Try.prog) (LoopD Try.prog) l y1 _) (⟨(data_Check_sim n l y1 gy1), congrArg aBool h2, LeA.refl _⟩))
  · replace h := iteF h2 h
    obtain ⟨t3, gt3, h⟩ := bindE h
    have e := Option.some.inj h
    subst e
    exact okP ordB11 (Eq.mpr (data_Size_p1 (PCall Try.prog) (SD Try.prog) (LoopD Try.prog) l y1 t3 _) (⟨(data_Check_sim n l y1 gy1), congrArg aBool h2, len_map _ _, okL (data_Size_L1_S l) (data_Size_L1_out l) (data_Size_L1_sim n l) n _ t3 gt3, LeA.refl _⟩))

def ord12 : List (Nat × List Nat) := []
theorem ordB12 : ordB (polF 12) ord12 (bodyOf Try.prog 12) = true := by kernel_rfl
theorem kit_Pick_p0 (n_ : Int) (m : Int) (K : AV → Prop) : opure (cx pc sc lp) ⟨ord12, [], [], [(7, .v (.bool true))], [], [], [], [], []⟩ 12 [.v (.int .i64 n_), .v (.int .i64 m)] K
  = ((AV.v (.bool (decide (m < 1))) = AV.v (.bool true)) ∧ K (.v (.int .i64 0))) := by kernel_rfl
theorem kit_Pick_p1 (n_ : Int) (m : Int) (K : AV → Prop) : opure (cx pc sc lp) ⟨ord12, [10], [], [(7, .v (.bool false)), (12, .v (.bool true))], [], [], [], [], []⟩ 12 [.v (.int .i64 n_), .v (.int .i64 m)] K
  = ((AV.v (.bool (decide (m < 1))) = AV.v (.bool false)) ∧ ((decide (IntKind.i64 = IntKind.i64) && !(m == 0)) = true) ∧ (AV.v (.bool (decide ((remW .i64 n_ m) < 0))) = AV.v (.bool true)) ∧ K (.v (.int .i64 (addW .i64 (remW .i64 n_ m) m)))) := by kernel_rfl
theorem kit_Pick_p2 (n_ : Int) (m : Int) (K : AV → Prop) : opure (cx pc sc lp) ⟨ord12, [10], [], [(7, .v (.bool false)), (12, .v (.bool false))], [], [], [], [], []⟩ 12 [.v (.int .i64 n_), .v (.int .i64 m)] K
  = ((AV.v (.bool (decide (m < 1))) = AV.v (.bool false)) ∧ ((decide (IntKind.i64 = IntKind.i64) && !(m == 0)) = true) ∧ (AV.v (.bool (decide ((remW .i64 n_ m) < 0))) = AV.v (.bool false)) ∧ K (.v (.int .i64 (remW .i64 n_ m)))) := by kernel_rfl
theorem kit_Pick_sim (n : Nat) (n_ : Int) (m : Int) (r : Int) (h : kit_Pick n n_ m = some r) : PCall Try.prog 12 [.v (.int .i64 n_), .v (.int .i64 m)] (fun x => x = .v (.int .i64 r)) := by
  unfold kit_Pick at h
  rcases bcase (decide (m < 1)) with h1 | h1
  · replace h := iteT h1 h
    have e := Option.some.inj h
    subst e
    exact okP ordB12 (Eq.mpr (kit_Pick_p0 (PCall Try.prog) (SD Try.prog) (LoopD Try.prog) n_ m _) (⟨congrArg aBool h1, LeA.refl _⟩))
  · replace h := iteF h1 h
    obtain ⟨h2, h⟩ := grdE h
    rcases bcase (decide ((remW .i64 n_ m) < 0)) with h3 | h3
    · replace h := iteT h3 h
      have e := Option.some.inj h
      subst e
      exact okP ordB12 (Eq.mpr (kit_Pick_p1 (PCall Try.prog) (SD Try.prog) (LoopD Try.prog) n_ m _) (⟨congrArg aBool h1, h2, congrArg aBool h3, LeA.refl _⟩))
    · replace h := iteF h3 h
      have e := Option.some.inj h
      subst e
      exact okP ordB12 (Eq.mpr (kit_Pick_p2 (PCall Try.prog) (SD Try.prog) (LoopD Try.prog) n_ m _) (⟨congrArg aBool h1, h2, congrArg aBool h3, LeA.refl _⟩))

def ord13 : List (Nat × List Nat) := []
theorem ordB13 : ordB (polF 13) ord13 (bodyOf Try.prog 13) = true := by kernel_rfl
def kit_Own_Piece_S_R (l : (List Piece)) (y : Unit) : AV × List Ob := (.mf 0, [.arr true 3 (l.map Piece.enc)])
theorem kit_Own_Piece_S_p0 (l : (List Piece)) (K : AV → List Ob → Prop) : ostore (cx pc sc lp) ⟨ord13, [5], [], [], [], [], [], [], []⟩ 13 [.sl (l.map Piece.enc)] [] K
  = ((szOk 3 (l.map Piece.enc) = true) ∧ (okRows (l.map Piece.enc) = true) ∧ (Nat.ble ((l.map Piece.enc).length * 32) 140737488355328 = true) ∧ K (.mf 0) [.arr true 3 (l.map Piece.enc)]) := by kernel_rfl
theorem kit_Own_Piece_S_sim (n : Nat) (l : (List Piece)) (y : Unit) (h : kit_Own_Piece_S n l = some y) : SD Try.prog 13 [.sl (l.map Piece.enc)] [] (fun r' o' => r' = (kit_Own_Piece_S_R l y).1 ∧ o' = (kit_Own_Piece_S_R l y).2) := by
  unfold kit_Own_Piece_S at h
  obtain ⟨h1, h⟩ := grdE h
  have e := Option.some.inj h
  subst e
  exact okS ordB13 (Eq.mpr (kit_Own_Piece_S_p0 (PCall Try.prog) (SD Try.prog) (LoopD Try.prog) l _) (⟨szOk_map _ _ (fun _ => rfl), okRows_map _ _ (fun _ => rfl), ble_map h1, ⟨rfl, rfl⟩⟩))

def ord3 : List (Nat × List Nat) := []
theorem ordB3 : ordB (polF 3) ord3 (bodyOf Try.prog 3) = true := by kernel_rfl
noncomputable def c_law_DataParts_L1 : Code := sub (bodyOf Try.prog 3) [1, 1, 1, 1, 0, 1, 0, 0]
noncomputable def c_law_DataParts_L2 : Code := sub (bodyOf Try.prog 3) [1, 1, 1, 1, 1, 1, 1, 1, 1, 0, 1, 0, 0]
theorem ordB_law_DataParts_L1 : ordB (polF 3) ord3 c_law_DataParts_L1 = true := by kernel_rfl
def law_DataParts_L1_S (l : (List Piece)) (a : Int) (a_ : Int) (sa : Int × Int) : St := mkS 148 [(0, .sl (l.map Piece.enc)), (1, .v (.int .i64 a)), (2, .v (.int .i64 a_)), (7, .v (.int .u64 sa.1)), (8, .v (.int .i64 sa.2))] [] [] 0
def law_DataParts_L1_T0 (l : (List Piece)) (a : Int) (a_ : Int) (tt : Int) : St := mkS 148 [(0, .sl (l.map Piece.enc)), (1, .v (.int .i64 a)), (2, .v (.int .i64 a_)), (7, .v (.int .u64 tt))] [] [] 0
def law_DataParts_L1_T1 (l : (List Piece)) (a : Int) (a_ : Int) (tt : Unit) : St := mkS 148 [(6, .v (.bool false))] [] [] 0
def law_DataParts_L1_out (l : (List Piece)) (a : Int) (a_ : Int) (t0 : (Int ⊕ Unit)) : Ex × St := match t0 with | .inl tt => (.ex 0, law_DataParts_L1_T0 l a a_ tt) | .inr tt => (.ret, law_DataParts_L1_T1 l a a_ tt)
theorem law_DataParts_L1_p0 (l : (List Piece)) (a : Int) (a_ : Int) (sa : Int × Int) (ya2 : Int × Int × Int) (K : Ex → St → Prop) : oround (cx pc sc lp) ⟨ord3, [], [], [(32, .v (.bool true)), (44, .v (.bool true))], [(38, .tup [.v (.int .u64 ya2.1), .v (.int .u64 ya2.2.1), .v (.int .i64 ya2.2.2)])], [], [], [], []⟩ (polF 3) [(1, ⟨[6], [], 0, [], []⟩, ⟨[], [], []⟩)] c_law_DataParts_L1 (law_DataParts_L1_S l a a_ sa) K
  = ((AV.v (.bool (decide (sa.2 < 8))) = AV.v (.bool true)) ∧ (pc 10 [.sl (l.map Piece.enc), .v (.int .i64 sa.2)] (fun x => x = .tup [.v (.int .u64 ya2.1), .v (.int .u64 ya2.2.1), .v (.int .i64 ya2.2.2)])) ∧ (AV.v (.bool (ya2.2.2 != 0)) = AV.v (.bool true)) ∧ K .ret (law_DataParts_L1_T1 l a a_ ())) := by kernel_rfl
theorem law_DataParts_L1_p1 (l : (List Piece)) (a : Int) (a_ : Int) (sa : Int × Int) (ya2 : Int × Int × Int) (K : Ex → St → Prop) : oround (cx pc sc lp) ⟨ord3, [], [], [(32, .v (.bool true)), (44, .v (.bool false)), (49, .v (.bool true))], [(38, .tup [.v (.int .u64 ya2.1), .v (.int .u64 ya2.2.1), .v (.int .i64 ya2.2.2)])], [], [], [], []⟩ (polF 3) [(1, ⟨[6], [], 0, [], []⟩, ⟨[], [], []⟩)] c_law_DataParts_L1 (law_DataParts_L1_S l a a_ sa) K
  = ((AV.v (.bool (decide (sa.2 < 8))) = AV.v (.bool true)) ∧ (pc 10 [.sl (l.map Piece.enc), .v (.int .i64 sa.2)] (fun x => x = .tup [.v (.int .u64 ya2.1), .v (.int .u64 ya2.2.1), .v (.int .i64 ya2.2.2)])) ∧ (AV.v (.bool (ya2.2.2 != 0)) = AV.v (.bool false)) ∧ (AV.v (.bool (ya2.1 != sa.1)) = AV.v (.bool true)) ∧ K .ret (law_DataParts_L1_T1 l a a_ ())) := by kernel_rfl
theorem law_DataParts_L1_p2 (l : (List Piece)) (a : Int) (a_ : Int) (sa : Int × Int) (ya2 : Int × Int × Int) (K : Ex → St → Prop) : oround (cx pc sc lp) ⟨ord3, [], [], [(32, .v (.bool true)), (44, .v (.bool false)), (49, .v (.bool false)), (53, .v (.bool true))], [(38, .tup [.v (.int .u64 ya2.1), .v (.int .u64 ya2.2.1), .v (.int .i64 ya2.2.2)])], [], [], [], []⟩ (polF 3) [(1, ⟨[6], [], 0, [], []⟩, ⟨[], [], []⟩)] c_law_DataParts_L1 (law_DataParts_L1_S l a a_ sa) K
  = ((AV.v (.bool (decide (sa.2 < 8))) = AV.v (.bool true)) ∧ (pc 10 [.sl (l.map Piece.enc), .v (.int .i64 sa.2)] (fun x => x = .tup [.v (.int .u64 ya2.1), .v (.int .u64 ya2.2.1), .v (.int .i64 ya2.2.2)])) ∧ (AV.v (.bool (ya2.2.2 != 0)) = AV.v (.bool false)) ∧ (AV.v (.bool (ya2.1 != sa.1)) = AV.v (.bool false)) ∧ (AV.v (.bool (decide (ya2.2.1 < ya2.1))) = AV.v (.bool true)) ∧ K .ret (law_DataParts_L1_T1 l a a_ ())) := by kernel_rfl
theorem law_DataParts_L1_p3 (l : (List Piece)) (a : Int) (a_ : Int) (sa : Int × Int) (ya2 : Int × Int × Int) (K : Ex → St → Prop) : oround (cx pc sc lp) ⟨ord3, [], [], [(32, .v (.bool true)), (44, .v (.bool false)), (49, .v (.bool false)), (53, .v (.bool false))], [(38, .tup [.v (.int .u64 ya2.1), .v (.int .u64 ya2.2.1), .v (.int .i64 ya2.2.2)])], [], [], [], []⟩ (polF 3) [(0, ⟨[0, 1, 2, 7, 8], [], 0, [], []⟩, ⟨[], [], []⟩)] c_law_DataParts_L1 (law_DataParts_L1_S l a a_ sa) K
  = ((AV.v (.bool (decide (sa.2 < 8))) = AV.v (.bool true)) ∧ (pc 10 [.sl (l.map Piece.enc), .v (.int .i64 sa.2)] (fun x => x = .tup [.v (.int .u64 ya2.1), .v (.int .u64 ya2.2.1), .v (.int .i64 ya2.2.2)])) ∧ (AV.v (.bool (ya2.2.2 != 0)) = AV.v (.bool false)) ∧ (AV.v (.bool (ya2.1 != sa.1)) = AV.v (.bool false)) ∧ (AV.v (.bool (decide (ya2.2.1 < ya2.1))) = AV.v (.bool false)) ∧ K .nrm (law_DataParts_L1_S l a a_ (ya2.2.1, (addW .i64 sa.2 1)))) := by kernel_rfl
theorem law_DataParts_L1_p4 (l : (List Piece)) (a : Int) (a_ : Int) (sa : Int × Int) (K : Ex → St → Prop) : oround (cx pc sc lp) ⟨ord3, [], [], [(32, .v (.bool false))], [], [], [], [], []⟩ (polF 3) [(2, ⟨[0, 1, 2, 7], [], 0, [], []⟩, ⟨[], [], []⟩)] c_law_DataParts_L1 (law_DataParts_L1_S l a a_ sa) K
  = ((AV.v (.bool (decide (sa.2 < 8))) = AV.v (.bool false)) ∧ K (.ex 0) (law_DataParts_L1_T0 l a a_ sa.1)) := by kernel_rfl
theorem law_DataParts_L1_sim (n : Nat) (l : (List Piece)) (a : Int) (a_ : Int) : ∀ sa r, law_DataParts_L1 n l a a_ sa = some r → RoundD cfg (polF 3) c_law_DataParts_L1 (law_DataParts_L1_S l a a_ sa) (rk (law_DataParts_L1_S l a a_) (law_DataParts_L1_out l a a_) r) := by
  intro sa r h
  unfold law_DataParts_L1 at h
  rcases bcase (decide (sa.2 < 8)) with ha1 | ha1
  · replace h := iteT ha1 h
    obtain ⟨ya2, gya2, h⟩ := bindE h
    rcases bcase (ya2.2.2 != 0) with ha3 | ha3
    · replace h := iteT ha3 h
      have e := Option.some.inj h
      subst e
      exact okR ordB_law_DataParts_L1 (Eq.mpr (law_DataParts_L1_p0 (PCall Try.prog) (SD Try.prog) (LoopD Try.prog) l a a_ sa ya2 _) ⟨congrArg aBool ha1, (data_Part_sim n l sa.2 ya2 gya2), congrArg aBool ha3, (rkE rfl neR)⟩)
    · replace h := iteF ha3 h
      rcases bcase (ya2.1 != sa.1) with ha4 | ha4
      · replace h := iteT ha4 h
        have e := Option.some.inj h
        subst e
        exact okR ordB_law_DataParts_L1 (Eq.mpr (law_DataParts_L1_p1 (PCall Try.prog) (SD Try.prog) (LoopD Try.prog) l a a_ sa ya2 _) ⟨congrArg aBool ha1, (data_Part_sim n l sa.2 ya2 gya2), congrArg aBool ha3, congrArg aBool ha4, (rkE rfl neR)⟩)
      · replace h := iteF ha4 h
        rcases bcase (decide (ya2.2.1 < ya2.1)) with ha5 | ha5
        · replace h := iteT ha5 h
          have e := Option.some.inj h
          subst e
          exact okR ordB_law_DataParts_L1 (Eq.mpr (law_DataParts_L1_p2 (PCall Try.prog) (SD Try.prog) (LoopD Try.prog) l a a_ sa ya2 _) ⟨congrArg aBool ha1, (data_Part_sim n l sa.2 ya2 gya2), congrArg aBool ha3, congrArg aBool ha4, congrArg aBool ha5, (rkE rfl neR)⟩)
        · replace h := iteF ha5 h
          have e := Option.some.inj h
          subst e
          exact okR ordB_law_DataParts_L1 (Eq.mpr (law_DataParts_L1_p3 (PCall Try.prog) (SD Try.prog) (LoopD Try.prog) l a a_ sa ya2 _) ⟨congrArg aBool ha1, (data_Part_sim n l sa.2 ya2 gya2), congrArg aBool ha3, congrArg aBool ha4, congrArg aBool ha5, rkN⟩)
  · replace h := iteF ha1 h
    have e := Option.some.inj h
    subst e
    exact okR ordB_law_DataParts_L1 (Eq.mpr (law_DataParts_L1_p4 (PCall Try.prog) (SD Try.prog) (LoopD Try.prog) l a a_ sa _) ⟨congrArg aBool ha1, (rkE rfl neE)⟩)

theorem ordB_law_DataParts_L2 : ordB (polF 3) ord3 c_law_DataParts_L2 = true := by kernel_rfl
def law_DataParts_L2_S (l : (List Piece)) (y11 : Int) (y12 : Int) (sa : Int) : St := mkS 148 [(0, .sl (l.map Piece.enc)), (1, .v (.int .i64 (subW .i64 y11 1))), (2, .v (.int .i64 (addW .i64 1 y12))), (12, .mf 0), (13, .v (.int .i64 sa))] [] [.arr true 3 ((l ++ ([(Piece.mk (ByteArray.mk #[111, 110, 101, 32, 109, 111, 114, 101, 32, 116, 104, 97, 116, 32, 104, 97, 115, 32, 110, 111, 32, 111, 116, 104, 101, 114, 32, 110, 97, 109, 101]) (addW .i64 1 y12) (subW .i64 y11 1))] : List Piece)).map Piece.enc)] 0
def law_DataParts_L2_T0 (l : (List Piece)) (y11 : Int) (y12 : Int) (tt : Unit) : St := mkS 148 [] [] [] 0
def law_DataParts_L2_T1 (l : (List Piece)) (y11 : Int) (y12 : Int) (tt : Unit) : St := mkS 148 [(6, .v (.bool false))] [] [] 0
def law_DataParts_L2_out (l : (List Piece)) (y11 : Int) (y12 : Int) (t0 : (Unit ⊕ Unit)) : Ex × St := match t0 with | .inl tt => (.ex 2, law_DataParts_L2_T0 l y11 y12 tt) | .inr tt => (.ret, law_DataParts_L2_T1 l y11 y12 tt)
theorem law_DataParts_L2_p0 (l : (List Piece)) (y11 : Int) (y12 : Int) (sa : Int) (ya2 : Int × Int × Int) (ya3 : Int × Int × Int) (K : Ex → St → Prop) : oround (cx pc sc lp) ⟨ord3, [], [], [(79, .v (.bool true)), (102, .v (.bool true)), (106, .v (.bool true))], [(85, .tup [.v (.int .u64 ya2.1), .v (.int .u64 ya2.2.1), .v (.int .i64 ya2.2.2)]), (92, .tup [.v (.int .u64 ya3.1), .v (.int .u64 ya3.2.1), .v (.int .i64 ya3.2.2)])], [], [], [], []⟩ (polF 3) [(1, ⟨[6], [], 0, [], []⟩, ⟨[], [], []⟩)] c_law_DataParts_L2 (law_DataParts_L2_S l y11 y12 sa) K
  = ((AV.v (.bool (decide (sa < 8))) = AV.v (.bool true)) ∧ (pc 10 [.sl (l.map Piece.enc), .v (.int .i64 sa)] (fun x => x = .tup [.v (.int .u64 ya2.1), .v (.int .u64 ya2.2.1), .v (.int .i64 ya2.2.2)])) ∧ (pc 10 [.sl ((l ++ ([(Piece.mk (ByteArray.mk #[111, 110, 101, 32, 109, 111, 114, 101, 32, 116, 104, 97, 116, 32, 104, 97, 115, 32, 110, 111, 32, 111, 116, 104, 101, 114, 32, 110, 97, 109, 101]) (addW .i64 1 y12) (subW .i64 y11 1))] : List Piece)).map Piece.enc), .v (.int .i64 sa)] (fun x => x = .tup [.v (.int .u64 ya3.1), .v (.int .u64 ya3.2.1), .v (.int .i64 ya3.2.2)])) ∧ (AV.v (.bool (decide (sa < (subW .i64 y11 1)))) = AV.v (.bool true)) ∧ (AV.v (.bool (ya2.1 != ya3.1)) = AV.v (.bool true)) ∧ K .ret (law_DataParts_L2_T1 l y11 y12 ())) := by kernel_rfl
theorem law_DataParts_L2_p1 (l : (List Piece)) (y11 : Int) (y12 : Int) (sa : Int) (ya2 : Int × Int × Int) (ya3 : Int × Int × Int) (K : Ex → St → Prop) : oround (cx pc sc lp) ⟨ord3, [], [], [(79, .v (.bool true)), (102, .v (.bool true)), (106, .v (.bool false)), (112, .v (.bool true))], [(85, .tup [.v (.int .u64 ya2.1), .v (.int .u64 ya2.2.1), .v (.int .i64 ya2.2.2)]), (92, .tup [.v (.int .u64 ya3.1), .v (.int .u64 ya3.2.1), .v (.int .i64 ya3.2.2)])], [], [], [], []⟩ (polF 3) [(1, ⟨[6], [], 0, [], []⟩, ⟨[], [], []⟩)] c_law_DataParts_L2 (law_DataParts_L2_S l y11 y12 sa) K
  = ((AV.v (.bool (decide (sa < 8))) = AV.v (.bool true)) ∧ (pc 10 [.sl (l.map Piece.enc), .v (.int .i64 sa)] (fun x => x = .tup [.v (.int .u64 ya2.1), .v (.int .u64 ya2.2.1), .v (.int .i64 ya2.2.2)])) ∧ (pc 10 [.sl ((l ++ ([(Piece.mk (ByteArray.mk #[111, 110, 101, 32, 109, 111, 114, 101, 32, 116, 104, 97, 116, 32, 104, 97, 115, 32, 110, 111, 32, 111, 116, 104, 101, 114, 32, 110, 97, 109, 101]) (addW .i64 1 y12) (subW .i64 y11 1))] : List Piece)).map Piece.enc), .v (.int .i64 sa)] (fun x => x = .tup [.v (.int .u64 ya3.1), .v (.int .u64 ya3.2.1), .v (.int .i64 ya3.2.2)])) ∧ (AV.v (.bool (decide (sa < (subW .i64 y11 1)))) = AV.v (.bool true)) ∧ (AV.v (.bool (ya2.1 != ya3.1)) = AV.v (.bool false)) ∧ (AV.v (.bool (ya2.2.1 != ya3.2.1)) = AV.v (.bool true)) ∧ K .ret (law_DataParts_L2_T1 l y11 y12 ())) := by kernel_rfl
theorem law_DataParts_L2_p2 (l : (List Piece)) (y11 : Int) (y12 : Int) (sa : Int) (ya2 : Int × Int × Int) (ya3 : Int × Int × Int) (K : Ex → St → Prop) : oround (cx pc sc lp) ⟨ord3, [], [], [(79, .v (.bool true)), (102, .v (.bool true)), (106, .v (.bool false)), (112, .v (.bool false)), (116, .v (.bool true)), (120, .v (.bool true))], [(85, .tup [.v (.int .u64 ya2.1), .v (.int .u64 ya2.2.1), .v (.int .i64 ya2.2.2)]), (92, .tup [.v (.int .u64 ya3.1), .v (.int .u64 ya3.2.1), .v (.int .i64 ya3.2.2)])], [], [], [], []⟩ (polF 3) [(1, ⟨[6], [], 0, [], []⟩, ⟨[], [], []⟩)] c_law_DataParts_L2 (law_DataParts_L2_S l y11 y12 sa) K
  = ((AV.v (.bool (decide (sa < 8))) = AV.v (.bool true)) ∧ (pc 10 [.sl (l.map Piece.enc), .v (.int .i64 sa)] (fun x => x = .tup [.v (.int .u64 ya2.1), .v (.int .u64 ya2.2.1), .v (.int .i64 ya2.2.2)])) ∧ (pc 10 [.sl ((l ++ ([(Piece.mk (ByteArray.mk #[111, 110, 101, 32, 109, 111, 114, 101, 32, 116, 104, 97, 116, 32, 104, 97, 115, 32, 110, 111, 32, 111, 116, 104, 101, 114, 32, 110, 97, 109, 101]) (addW .i64 1 y12) (subW .i64 y11 1))] : List Piece)).map Piece.enc), .v (.int .i64 sa)] (fun x => x = .tup [.v (.int .u64 ya3.1), .v (.int .u64 ya3.2.1), .v (.int .i64 ya3.2.2)])) ∧ (AV.v (.bool (decide (sa < (subW .i64 y11 1)))) = AV.v (.bool true)) ∧ (AV.v (.bool (ya2.1 != ya3.1)) = AV.v (.bool false)) ∧ (AV.v (.bool (ya2.2.1 != ya3.2.1)) = AV.v (.bool false)) ∧ (AV.v (.bool (sa == (subW .i64 y11 1))) = AV.v (.bool true)) ∧ (AV.v (.bool (ya2.1 != ya3.1)) = AV.v (.bool true)) ∧ K .ret (law_DataParts_L2_T1 l y11 y12 ())) := by kernel_rfl
theorem law_DataParts_L2_p3 (l : (List Piece)) (y11 : Int) (y12 : Int) (sa : Int) (ya2 : Int × Int × Int) (ya3 : Int × Int × Int) (K : Ex → St → Prop) : oround (cx pc sc lp) ⟨ord3, [], [], [(79, .v (.bool true)), (102, .v (.bool true)), (106, .v (.bool false)), (112, .v (.bool false)), (116, .v (.bool true)), (120, .v (.bool false)), (129, .v (.bool true))], [(85, .tup [.v (.int .u64 ya2.1), .v (.int .u64 ya2.2.1), .v (.int .i64 ya2.2.2)]), (92, .tup [.v (.int .u64 ya3.1), .v (.int .u64 ya3.2.1), .v (.int .i64 ya3.2.2)])], [], [], [], []⟩ (polF 3) [(1, ⟨[6], [], 0, [], []⟩, ⟨[], [], []⟩)] c_law_DataParts_L2 (law_DataParts_L2_S l y11 y12 sa) K
  = ((AV.v (.bool (decide (sa < 8))) = AV.v (.bool true)) ∧ (pc 10 [.sl (l.map Piece.enc), .v (.int .i64 sa)] (fun x => x = .tup [.v (.int .u64 ya2.1), .v (.int .u64 ya2.2.1), .v (.int .i64 ya2.2.2)])) ∧ (pc 10 [.sl ((l ++ ([(Piece.mk (ByteArray.mk #[111, 110, 101, 32, 109, 111, 114, 101, 32, 116, 104, 97, 116, 32, 104, 97, 115, 32, 110, 111, 32, 111, 116, 104, 101, 114, 32, 110, 97, 109, 101]) (addW .i64 1 y12) (subW .i64 y11 1))] : List Piece)).map Piece.enc), .v (.int .i64 sa)] (fun x => x = .tup [.v (.int .u64 ya3.1), .v (.int .u64 ya3.2.1), .v (.int .i64 ya3.2.2)])) ∧ (AV.v (.bool (decide (sa < (subW .i64 y11 1)))) = AV.v (.bool true)) ∧ (AV.v (.bool (ya2.1 != ya3.1)) = AV.v (.bool false)) ∧ (AV.v (.bool (ya2.2.1 != ya3.2.1)) = AV.v (.bool false)) ∧ (AV.v (.bool (sa == (subW .i64 y11 1))) = AV.v (.bool true)) ∧ (AV.v (.bool (ya2.1 != ya3.1)) = AV.v (.bool false)) ∧ (AV.v (.bool ((addW .u64 ya2.2.1 (mulW .u64 8 (IntKind.wrap .u64 (addW .i64 1 y12)))) != ya3.2.1)) = AV.v (.bool true)) ∧ K .ret (law_DataParts_L2_T1 l y11 y12 ())) := by kernel_rfl
theorem law_DataParts_L2_p4 (l : (List Piece)) (y11 : Int) (y12 : Int) (sa : Int) (ya2 : Int × Int × Int) (ya3 : Int × Int × Int) (K : Ex → St → Prop) : oround (cx pc sc lp) ⟨ord3, [], [], [(79, .v (.bool true)), (102, .v (.bool true)), (106, .v (.bool false)), (112, .v (.bool false)), (116, .v (.bool true)), (120, .v (.bool false)), (129, .v (.bool false)), (133, .v (.bool true)), (139, .v (.bool true))], [(85, .tup [.v (.int .u64 ya2.1), .v (.int .u64 ya2.2.1), .v (.int .i64 ya2.2.2)]), (92, .tup [.v (.int .u64 ya3.1), .v (.int .u64 ya3.2.1), .v (.int .i64 ya3.2.2)])], [], [], [], []⟩ (polF 3) [(1, ⟨[6], [], 0, [], []⟩, ⟨[], [], []⟩)] c_law_DataParts_L2 (law_DataParts_L2_S l y11 y12 sa) K
  = ((AV.v (.bool (decide (sa < 8))) = AV.v (.bool true)) ∧ (pc 10 [.sl (l.map Piece.enc), .v (.int .i64 sa)] (fun x => x = .tup [.v (.int .u64 ya2.1), .v (.int .u64 ya2.2.1), .v (.int .i64 ya2.2.2)])) ∧ (pc 10 [.sl ((l ++ ([(Piece.mk (ByteArray.mk #[111, 110, 101, 32, 109, 111, 114, 101, 32, 116, 104, 97, 116, 32, 104, 97, 115, 32, 110, 111, 32, 111, 116, 104, 101, 114, 32, 110, 97, 109, 101]) (addW .i64 1 y12) (subW .i64 y11 1))] : List Piece)).map Piece.enc), .v (.int .i64 sa)] (fun x => x = .tup [.v (.int .u64 ya3.1), .v (.int .u64 ya3.2.1), .v (.int .i64 ya3.2.2)])) ∧ (AV.v (.bool (decide (sa < (subW .i64 y11 1)))) = AV.v (.bool true)) ∧ (AV.v (.bool (ya2.1 != ya3.1)) = AV.v (.bool false)) ∧ (AV.v (.bool (ya2.2.1 != ya3.2.1)) = AV.v (.bool false)) ∧ (AV.v (.bool (sa == (subW .i64 y11 1))) = AV.v (.bool true)) ∧ (AV.v (.bool (ya2.1 != ya3.1)) = AV.v (.bool false)) ∧ (AV.v (.bool ((addW .u64 ya2.2.1 (mulW .u64 8 (IntKind.wrap .u64 (addW .i64 1 y12)))) != ya3.2.1)) = AV.v (.bool false)) ∧ (AV.v (.bool (decide (sa > (subW .i64 y11 1)))) = AV.v (.bool true)) ∧ (AV.v (.bool ((addW .u64 ya2.1 (mulW .u64 8 (IntKind.wrap .u64 (addW .i64 1 y12)))) != ya3.1)) = AV.v (.bool true)) ∧ K .ret (law_DataParts_L2_T1 l y11 y12 ())) := by kernel_rfl
theorem law_DataParts_L2_p5 (l : (List Piece)) (y11 : Int) (y12 : Int) (sa : Int) (ya2 : Int × Int × Int) (ya3 : Int × Int × Int) (K : Ex → St → Prop) : oround (cx pc sc lp) ⟨ord3, [], [], [(79, .v (.bool true)), (102, .v (.bool true)), (106, .v (.bool false)), (112, .v (.bool false)), (116, .v (.bool true)), (120, .v (.bool false)), (129, .v (.bool false)), (133, .v (.bool true)), (139, .v (.bool false)), (147, .v (.bool true))], [(85, .tup [.v (.int .u64 ya2.1), .v (.int .u64 ya2.2.1), .v (.int .i64 ya2.2.2)]), (92, .tup [.v (.int .u64 ya3.1), .v (.int .u64 ya3.2.1), .v (.int .i64 ya3.2.2)])], [], [], [], []⟩ (polF 3) [(1, ⟨[6], [], 0, [], []⟩, ⟨[], [], []⟩)] c_law_DataParts_L2 (law_DataParts_L2_S l y11 y12 sa) K
  = ((AV.v (.bool (decide (sa < 8))) = AV.v (.bool true)) ∧ (pc 10 [.sl (l.map Piece.enc), .v (.int .i64 sa)] (fun x => x = .tup [.v (.int .u64 ya2.1), .v (.int .u64 ya2.2.1), .v (.int .i64 ya2.2.2)])) ∧ (pc 10 [.sl ((l ++ ([(Piece.mk (ByteArray.mk #[111, 110, 101, 32, 109, 111, 114, 101, 32, 116, 104, 97, 116, 32, 104, 97, 115, 32, 110, 111, 32, 111, 116, 104, 101, 114, 32, 110, 97, 109, 101]) (addW .i64 1 y12) (subW .i64 y11 1))] : List Piece)).map Piece.enc), .v (.int .i64 sa)] (fun x => x = .tup [.v (.int .u64 ya3.1), .v (.int .u64 ya3.2.1), .v (.int .i64 ya3.2.2)])) ∧ (AV.v (.bool (decide (sa < (subW .i64 y11 1)))) = AV.v (.bool true)) ∧ (AV.v (.bool (ya2.1 != ya3.1)) = AV.v (.bool false)) ∧ (AV.v (.bool (ya2.2.1 != ya3.2.1)) = AV.v (.bool false)) ∧ (AV.v (.bool (sa == (subW .i64 y11 1))) = AV.v (.bool true)) ∧ (AV.v (.bool (ya2.1 != ya3.1)) = AV.v (.bool false)) ∧ (AV.v (.bool ((addW .u64 ya2.2.1 (mulW .u64 8 (IntKind.wrap .u64 (addW .i64 1 y12)))) != ya3.2.1)) = AV.v (.bool false)) ∧ (AV.v (.bool (decide (sa > (subW .i64 y11 1)))) = AV.v (.bool true)) ∧ (AV.v (.bool ((addW .u64 ya2.1 (mulW .u64 8 (IntKind.wrap .u64 (addW .i64 1 y12)))) != ya3.1)) = AV.v (.bool false)) ∧ (AV.v (.bool ((addW .u64 ya2.2.1 (mulW .u64 8 (IntKind.wrap .u64 (addW .i64 1 y12)))) != ya3.2.1)) = AV.v (.bool true)) ∧ K .ret (law_DataParts_L2_T1 l y11 y12 ())) := by kernel_rfl
theorem law_DataParts_L2_p6 (l : (List Piece)) (y11 : Int) (y12 : Int) (sa : Int) (ya2 : Int × Int × Int) (ya3 : Int × Int × Int) (K : Ex → St → Prop) : oround (cx pc sc lp) ⟨ord3, [], [], [(79, .v (.bool true)), (102, .v (.bool true)), (106, .v (.bool false)), (112, .v (.bool false)), (116, .v (.bool true)), (120, .v (.bool false)), (129, .v (.bool false)), (133, .v (.bool true)), (139, .v (.bool false)), (147, .v (.bool false))], [(85, .tup [.v (.int .u64 ya2.1), .v (.int .u64 ya2.2.1), .v (.int .i64 ya2.2.2)]), (92, .tup [.v (.int .u64 ya3.1), .v (.int .u64 ya3.2.1), .v (.int .i64 ya3.2.2)])], [], [], [], []⟩ (polF 3) [(0, ⟨[0, 1, 2, 12, 13], [], 1, [], []⟩, ⟨[], [], []⟩)] c_law_DataParts_L2 (law_DataParts_L2_S l y11 y12 sa) K
  = ((AV.v (.bool (decide (sa < 8))) = AV.v (.bool true)) ∧ (pc 10 [.sl (l.map Piece.enc), .v (.int .i64 sa)] (fun x => x = .tup [.v (.int .u64 ya2.1), .v (.int .u64 ya2.2.1), .v (.int .i64 ya2.2.2)])) ∧ (pc 10 [.sl ((l ++ ([(Piece.mk (ByteArray.mk #[111, 110, 101, 32, 109, 111, 114, 101, 32, 116, 104, 97, 116, 32, 104, 97, 115, 32, 110, 111, 32, 111, 116, 104, 101, 114, 32, 110, 97, 109, 101]) (addW .i64 1 y12) (subW .i64 y11 1))] : List Piece)).map Piece.enc), .v (.int .i64 sa)] (fun x => x = .tup [.v (.int .u64 ya3.1), .v (.int .u64 ya3.2.1), .v (.int .i64 ya3.2.2)])) ∧ (AV.v (.bool (decide (sa < (subW .i64 y11 1)))) = AV.v (.bool true)) ∧ (AV.v (.bool (ya2.1 != ya3.1)) = AV.v (.bool false)) ∧ (AV.v (.bool (ya2.2.1 != ya3.2.1)) = AV.v (.bool false)) ∧ (AV.v (.bool (sa == (subW .i64 y11 1))) = AV.v (.bool true)) ∧ (AV.v (.bool (ya2.1 != ya3.1)) = AV.v (.bool false)) ∧ (AV.v (.bool ((addW .u64 ya2.2.1 (mulW .u64 8 (IntKind.wrap .u64 (addW .i64 1 y12)))) != ya3.2.1)) = AV.v (.bool false)) ∧ (AV.v (.bool (decide (sa > (subW .i64 y11 1)))) = AV.v (.bool true)) ∧ (AV.v (.bool ((addW .u64 ya2.1 (mulW .u64 8 (IntKind.wrap .u64 (addW .i64 1 y12)))) != ya3.1)) = AV.v (.bool false)) ∧ (AV.v (.bool ((addW .u64 ya2.2.1 (mulW .u64 8 (IntKind.wrap .u64 (addW .i64 1 y12)))) != ya3.2.1)) = AV.v (.bool false)) ∧ K .nrm (law_DataParts_L2_S l y11 y12 (addW .i64 sa 1))) := by kernel_rfl
theorem law_DataParts_L2_p7 (l : (List Piece)) (y11 : Int) (y12 : Int) (sa : Int) (ya2 : Int × Int × Int) (ya3 : Int × Int × Int) (K : Ex → St → Prop) : oround (cx pc sc lp) ⟨ord3, [], [], [(79, .v (.bool true)), (102, .v (.bool true)), (106, .v (.bool false)), (112, .v (.bool false)), (116, .v (.bool true)), (120, .v (.bool false)), (129, .v (.bool false)), (133, .v (.bool false))], [(85, .tup [.v (.int .u64 ya2.1), .v (.int .u64 ya2.2.1), .v (.int .i64 ya2.2.2)]), (92, .tup [.v (.int .u64 ya3.1), .v (.int .u64 ya3.2.1), .v (.int .i64 ya3.2.2)])], [], [], [], []⟩ (polF 3) [(0, ⟨[0, 1, 2, 12, 13], [], 1, [], []⟩, ⟨[], [], []⟩)] c_law_DataParts_L2 (law_DataParts_L2_S l y11 y12 sa) K
  = ((AV.v (.bool (decide (sa < 8))) = AV.v (.bool true)) ∧ (pc 10 [.sl (l.map Piece.enc), .v (.int .i64 sa)] (fun x => x = .tup [.v (.int .u64 ya2.1), .v (.int .u64 ya2.2.1), .v (.int .i64 ya2.2.2)])) ∧ (pc 10 [.sl ((l ++ ([(Piece.mk (ByteArray.mk #[111, 110, 101, 32, 109, 111, 114, 101, 32, 116, 104, 97, 116, 32, 104, 97, 115, 32, 110, 111, 32, 111, 116, 104, 101, 114, 32, 110, 97, 109, 101]) (addW .i64 1 y12) (subW .i64 y11 1))] : List Piece)).map Piece.enc), .v (.int .i64 sa)] (fun x => x = .tup [.v (.int .u64 ya3.1), .v (.int .u64 ya3.2.1), .v (.int .i64 ya3.2.2)])) ∧ (AV.v (.bool (decide (sa < (subW .i64 y11 1)))) = AV.v (.bool true)) ∧ (AV.v (.bool (ya2.1 != ya3.1)) = AV.v (.bool false)) ∧ (AV.v (.bool (ya2.2.1 != ya3.2.1)) = AV.v (.bool false)) ∧ (AV.v (.bool (sa == (subW .i64 y11 1))) = AV.v (.bool true)) ∧ (AV.v (.bool (ya2.1 != ya3.1)) = AV.v (.bool false)) ∧ (AV.v (.bool ((addW .u64 ya2.2.1 (mulW .u64 8 (IntKind.wrap .u64 (addW .i64 1 y12)))) != ya3.2.1)) = AV.v (.bool false)) ∧ (AV.v (.bool (decide (sa > (subW .i64 y11 1)))) = AV.v (.bool false)) ∧ K .nrm (law_DataParts_L2_S l y11 y12 (addW .i64 sa 1))) := by kernel_rfl
theorem law_DataParts_L2_p8 (l : (List Piece)) (y11 : Int) (y12 : Int) (sa : Int) (ya2 : Int × Int × Int) (ya3 : Int × Int × Int) (K : Ex → St → Prop) : oround (cx pc sc lp) ⟨ord3, [], [], [(79, .v (.bool true)), (102, .v (.bool true)), (106, .v (.bool false)), (112, .v (.bool false)), (116, .v (.bool false)), (133, .v (.bool true)), (139, .v (.bool true))], [(85, .tup [.v (.int .u64 ya2.1), .v (.int .u64 ya2.2.1), .v (.int .i64 ya2.2.2)]), (92, .tup [.v (.int .u64 ya3.1), .v (.int .u64 ya3.2.1), .v (.int .i64 ya3.2.2)])], [], [], [], []⟩ (polF 3) [(1, ⟨[6], [], 0, [], []⟩, ⟨[], [], []⟩)] c_law_DataParts_L2 (law_DataParts_L2_S l y11 y12 sa) K
  = ((AV.v (.bool (decide (sa < 8))) = AV.v (.bool true)) ∧ (pc 10 [.sl (l.map Piece.enc), .v (.int .i64 sa)] (fun x => x = .tup [.v (.int .u64 ya2.1), .v (.int .u64 ya2.2.1), .v (.int .i64 ya2.2.2)])) ∧ (pc 10 [.sl ((l ++ ([(Piece.mk (ByteArray.mk #[111, 110, 101, 32, 109, 111, 114, 101, 32, 116, 104, 97, 116, 32, 104, 97, 115, 32, 110, 111, 32, 111, 116, 104, 101, 114, 32, 110, 97, 109, 101]) (addW .i64 1 y12) (subW .i64 y11 1))] : List Piece)).map Piece.enc), .v (.int .i64 sa)] (fun x => x = .tup [.v (.int .u64 ya3.1), .v (.int .u64 ya3.2.1), .v (.int .i64 ya3.2.2)])) ∧ (AV.v (.bool (decide (sa < (subW .i64 y11 1)))) = AV.v (.bool true)) ∧ (AV.v (.bool (ya2.1 != ya3.1)) = AV.v (.bool false)) ∧ (AV.v (.bool (ya2.2.1 != ya3.2.1)) = AV.v (.bool false)) ∧ (AV.v (.bool (sa == (subW .i64 y11 1))) = AV.v (.bool false)) ∧ (AV.v (.bool (decide (sa > (subW .i64 y11 1)))) = AV.v (.bool true)) ∧ (AV.v (.bool ((addW .u64 ya2.1 (mulW .u64 8 (IntKind.wrap .u64 (addW .i64 1 y12)))) != ya3.1)) = AV.v (.bool true)) ∧ K .ret (law_DataParts_L2_T1 l y11 y12 ())) := by kernel_rfl
theorem law_DataParts_L2_p9 (l : (List Piece)) (y11 : Int) (y12 : Int) (sa : Int) (ya2 : Int × Int × Int) (ya3 : Int × Int × Int) (K : Ex → St → Prop) : oround (cx pc sc lp) ⟨ord3, [], [], [(79, .v (.bool true)), (102, .v (.bool true)), (106, .v (.bool false)), (112, .v (.bool false)), (116, .v (.bool false)), (133, .v (.bool true)), (139, .v (.bool false)), (147, .v (.bool true))], [(85, .tup [.v (.int .u64 ya2.1), .v (.int .u64 ya2.2.1), .v (.int .i64 ya2.2.2)]), (92, .tup [.v (.int .u64 ya3.1), .v (.int .u64 ya3.2.1), .v (.int .i64 ya3.2.2)])], [], [], [], []⟩ (polF 3) [(1, ⟨[6], [], 0, [], []⟩, ⟨[], [], []⟩)] c_law_DataParts_L2 (law_DataParts_L2_S l y11 y12 sa) K
  = ((AV.v (.bool (decide (sa < 8))) = AV.v (.bool true)) ∧ (pc 10 [.sl (l.map Piece.enc), .v (.int .i64 sa)] (fun x => x = .tup [.v (.int .u64 ya2.1), .v (.int .u64 ya2.2.1), .v (.int .i64 ya2.2.2)])) ∧ (pc 10 [.sl ((l ++ ([(Piece.mk (ByteArray.mk #[111, 110, 101, 32, 109, 111, 114, 101, 32, 116, 104, 97, 116, 32, 104, 97, 115, 32, 110, 111, 32, 111, 116, 104, 101, 114, 32, 110, 97, 109, 101]) (addW .i64 1 y12) (subW .i64 y11 1))] : List Piece)).map Piece.enc), .v (.int .i64 sa)] (fun x => x = .tup [.v (.int .u64 ya3.1), .v (.int .u64 ya3.2.1), .v (.int .i64 ya3.2.2)])) ∧ (AV.v (.bool (decide (sa < (subW .i64 y11 1)))) = AV.v (.bool true)) ∧ (AV.v (.bool (ya2.1 != ya3.1)) = AV.v (.bool false)) ∧ (AV.v (.bool (ya2.2.1 != ya3.2.1)) = AV.v (.bool false)) ∧ (AV.v (.bool (sa == (subW .i64 y11 1))) = AV.v (.bool false)) ∧ (AV.v (.bool (decide (sa > (subW .i64 y11 1)))) = AV.v (.bool true)) ∧ (AV.v (.bool ((addW .u64 ya2.1 (mulW .u64 8 (IntKind.wrap .u64 (addW .i64 1 y12)))) != ya3.1)) = AV.v (.bool false)) ∧ (AV.v (.bool ((addW .u64 ya2.2.1 (mulW .u64 8 (IntKind.wrap .u64 (addW .i64 1 y12)))) != ya3.2.1)) = AV.v (.bool true)) ∧ K .ret (law_DataParts_L2_T1 l y11 y12 ())) := by kernel_rfl
theorem law_DataParts_L2_p10 (l : (List Piece)) (y11 : Int) (y12 : Int) (sa : Int) (ya2 : Int × Int × Int) (ya3 : Int × Int × Int) (K : Ex → St → Prop) : oround (cx pc sc lp) ⟨ord3, [], [], [(79, .v (.bool true)), (102, .v (.bool true)), (106, .v (.bool false)), (112, .v (.bool false)), (116, .v (.bool false)), (133, .v (.bool true)), (139, .v (.bool false)), (147, .v (.bool false))], [(85, .tup [.v (.int .u64 ya2.1), .v (.int .u64 ya2.2.1), .v (.int .i64 ya2.2.2)]), (92, .tup [.v (.int .u64 ya3.1), .v (.int .u64 ya3.2.1), .v (.int .i64 ya3.2.2)])], [], [], [], []⟩ (polF 3) [(0, ⟨[0, 1, 2, 12, 13], [], 1, [], []⟩, ⟨[], [], []⟩)] c_law_DataParts_L2 (law_DataParts_L2_S l y11 y12 sa) K
  = ((AV.v (.bool (decide (sa < 8))) = AV.v (.bool true)) ∧ (pc 10 [.sl (l.map Piece.enc), .v (.int .i64 sa)] (fun x => x = .tup [.v (.int .u64 ya2.1), .v (.int .u64 ya2.2.1), .v (.int .i64 ya2.2.2)])) ∧ (pc 10 [.sl ((l ++ ([(Piece.mk (ByteArray.mk #[111, 110, 101, 32, 109, 111, 114, 101, 32, 116, 104, 97, 116, 32, 104, 97, 115, 32, 110, 111, 32, 111, 116, 104, 101, 114, 32, 110, 97, 109, 101]) (addW .i64 1 y12) (subW .i64 y11 1))] : List Piece)).map Piece.enc), .v (.int .i64 sa)] (fun x => x = .tup [.v (.int .u64 ya3.1), .v (.int .u64 ya3.2.1), .v (.int .i64 ya3.2.2)])) ∧ (AV.v (.bool (decide (sa < (subW .i64 y11 1)))) = AV.v (.bool true)) ∧ (AV.v (.bool (ya2.1 != ya3.1)) = AV.v (.bool false)) ∧ (AV.v (.bool (ya2.2.1 != ya3.2.1)) = AV.v (.bool false)) ∧ (AV.v (.bool (sa == (subW .i64 y11 1))) = AV.v (.bool false)) ∧ (AV.v (.bool (decide (sa > (subW .i64 y11 1)))) = AV.v (.bool true)) ∧ (AV.v (.bool ((addW .u64 ya2.1 (mulW .u64 8 (IntKind.wrap .u64 (addW .i64 1 y12)))) != ya3.1)) = AV.v (.bool false)) ∧ (AV.v (.bool ((addW .u64 ya2.2.1 (mulW .u64 8 (IntKind.wrap .u64 (addW .i64 1 y12)))) != ya3.2.1)) = AV.v (.bool false)) ∧ K .nrm (law_DataParts_L2_S l y11 y12 (addW .i64 sa 1))) := by kernel_rfl
theorem law_DataParts_L2_p11 (l : (List Piece)) (y11 : Int) (y12 : Int) (sa : Int) (ya2 : Int × Int × Int) (ya3 : Int × Int × Int) (K : Ex → St → Prop) : oround (cx pc sc lp) ⟨ord3, [], [], [(79, .v (.bool true)), (102, .v (.bool true)), (106, .v (.bool false)), (112, .v (.bool false)), (116, .v (.bool false)), (133, .v (.bool false))], [(85, .tup [.v (.int .u64 ya2.1), .v (.int .u64 ya2.2.1), .v (.int .i64 ya2.2.2)]), (92, .tup [.v (.int .u64 ya3.1), .v (.int .u64 ya3.2.1), .v (.int .i64 ya3.2.2)])], [], [], [], []⟩ (polF 3) [(0, ⟨[0, 1, 2, 12, 13], [], 1, [], []⟩, ⟨[], [], []⟩)] c_law_DataParts_L2 (law_DataParts_L2_S l y11 y12 sa) K
  = ((AV.v (.bool (decide (sa < 8))) = AV.v (.bool true)) ∧ (pc 10 [.sl (l.map Piece.enc), .v (.int .i64 sa)] (fun x => x = .tup [.v (.int .u64 ya2.1), .v (.int .u64 ya2.2.1), .v (.int .i64 ya2.2.2)])) ∧ (pc 10 [.sl ((l ++ ([(Piece.mk (ByteArray.mk #[111, 110, 101, 32, 109, 111, 114, 101, 32, 116, 104, 97, 116, 32, 104, 97, 115, 32, 110, 111, 32, 111, 116, 104, 101, 114, 32, 110, 97, 109, 101]) (addW .i64 1 y12) (subW .i64 y11 1))] : List Piece)).map Piece.enc), .v (.int .i64 sa)] (fun x => x = .tup [.v (.int .u64 ya3.1), .v (.int .u64 ya3.2.1), .v (.int .i64 ya3.2.2)])) ∧ (AV.v (.bool (decide (sa < (subW .i64 y11 1)))) = AV.v (.bool true)) ∧ (AV.v (.bool (ya2.1 != ya3.1)) = AV.v (.bool false)) ∧ (AV.v (.bool (ya2.2.1 != ya3.2.1)) = AV.v (.bool false)) ∧ (AV.v (.bool (sa == (subW .i64 y11 1))) = AV.v (.bool false)) ∧ (AV.v (.bool (decide (sa > (subW .i64 y11 1)))) = AV.v (.bool false)) ∧ K .nrm (law_DataParts_L2_S l y11 y12 (addW .i64 sa 1))) := by kernel_rfl
theorem law_DataParts_L2_p12 (l : (List Piece)) (y11 : Int) (y12 : Int) (sa : Int) (ya2 : Int × Int × Int) (ya3 : Int × Int × Int) (K : Ex → St → Prop) : oround (cx pc sc lp) ⟨ord3, [], [], [(79, .v (.bool true)), (102, .v (.bool false)), (116, .v (.bool true)), (120, .v (.bool true))], [(85, .tup [.v (.int .u64 ya2.1), .v (.int .u64 ya2.2.1), .v (.int .i64 ya2.2.2)]), (92, .tup [.v (.int .u64 ya3.1), .v (.int .u64 ya3.2.1), .v (.int .i64 ya3.2.2)])], [], [], [], []⟩ (polF 3) [(1, ⟨[6], [], 0, [], []⟩, ⟨[], [], []⟩)] c_law_DataParts_L2 (law_DataParts_L2_S l y11 y12 sa) K
  = ((AV.v (.bool (decide (sa < 8))) = AV.v (.bool true)) ∧ (pc 10 [.sl (l.map Piece.enc), .v (.int .i64 sa)] (fun x => x = .tup [.v (.int .u64 ya2.1), .v (.int .u64 ya2.2.1), .v (.int .i64 ya2.2.2)])) ∧ (pc 10 [.sl ((l ++ ([(Piece.mk (ByteArray.mk #[111, 110, 101, 32, 109, 111, 114, 101, 32, 116, 104, 97, 116, 32, 104, 97, 115, 32, 110, 111, 32, 111, 116, 104, 101, 114, 32, 110, 97, 109, 101]) (addW .i64 1 y12) (subW .i64 y11 1))] : List Piece)).map Piece.enc), .v (.int .i64 sa)] (fun x => x = .tup [.v (.int .u64 ya3.1), .v (.int .u64 ya3.2.1), .v (.int .i64 ya3.2.2)])) ∧ (AV.v (.bool (decide (sa < (subW .i64 y11 1)))) = AV.v (.bool false)) ∧ (AV.v (.bool (sa == (subW .i64 y11 1))) = AV.v (.bool true)) ∧ (AV.v (.bool (ya2.1 != ya3.1)) = AV.v (.bool true)) ∧ K .ret (law_DataParts_L2_T1 l y11 y12 ())) := by kernel_rfl
theorem law_DataParts_L2_p13 (l : (List Piece)) (y11 : Int) (y12 : Int) (sa : Int) (ya2 : Int × Int × Int) (ya3 : Int × Int × Int) (K : Ex → St → Prop) : oround (cx pc sc lp) ⟨ord3, [], [], [(79, .v (.bool true)), (102, .v (.bool false)), (116, .v (.bool true)), (120, .v (.bool false)), (129, .v (.bool true))], [(85, .tup [.v (.int .u64 ya2.1), .v (.int .u64 ya2.2.1), .v (.int .i64 ya2.2.2)]), (92, .tup [.v (.int .u64 ya3.1), .v (.int .u64 ya3.2.1), .v (.int .i64 ya3.2.2)])], [], [], [], []⟩ (polF 3) [(1, ⟨[6], [], 0, [], []⟩, ⟨[], [], []⟩)] c_law_DataParts_L2 (law_DataParts_L2_S l y11 y12 sa) K
  = ((AV.v (.bool (decide (sa < 8))) = AV.v (.bool true)) ∧ (pc 10 [.sl (l.map Piece.enc), .v (.int .i64 sa)] (fun x => x = .tup [.v (.int .u64 ya2.1), .v (.int .u64 ya2.2.1), .v (.int .i64 ya2.2.2)])) ∧ (pc 10 [.sl ((l ++ ([(Piece.mk (ByteArray.mk #[111, 110, 101, 32, 109, 111, 114, 101, 32, 116, 104, 97, 116, 32, 104, 97, 115, 32, 110, 111, 32, 111, 116, 104, 101, 114, 32, 110, 97, 109, 101]) (addW .i64 1 y12) (subW .i64 y11 1))] : List Piece)).map Piece.enc), .v (.int .i64 sa)] (fun x => x = .tup [.v (.int .u64 ya3.1), .v (.int .u64 ya3.2.1), .v (.int .i64 ya3.2.2)])) ∧ (AV.v (.bool (decide (sa < (subW .i64 y11 1)))) = AV.v (.bool false)) ∧ (AV.v (.bool (sa == (subW .i64 y11 1))) = AV.v (.bool true)) ∧ (AV.v (.bool (ya2.1 != ya3.1)) = AV.v (.bool false)) ∧ (AV.v (.bool ((addW .u64 ya2.2.1 (mulW .u64 8 (IntKind.wrap .u64 (addW .i64 1 y12)))) != ya3.2.1)) = AV.v (.bool true)) ∧ K .ret (law_DataParts_L2_T1 l y11 y12 ())) := by kernel_rfl
theorem law_DataParts_L2_p14 (l : (List Piece)) (y11 : Int) (y12 : Int) (sa : Int) (ya2 : Int × Int × Int) (ya3 : Int × Int × Int) (K : Ex → St → Prop) : oround (cx pc sc lp) ⟨ord3, [], [], [(79, .v (.bool true)), (102, .v (.bool false)), (116, .v (.bool true)), (120, .v (.bool false)), (129, .v (.bool false)), (133, .v (.bool true)), (139, .v (.bool true))], [(85, .tup [.v (.int .u64 ya2.1), .v (.int .u64 ya2.2.1), .v (.int .i64 ya2.2.2)]), (92, .tup [.v (.int .u64 ya3.1), .v (.int .u64 ya3.2.1), .v (.int .i64 ya3.2.2)])], [], [], [], []⟩ (polF 3) [(1, ⟨[6], [], 0, [], []⟩, ⟨[], [], []⟩)] c_law_DataParts_L2 (law_DataParts_L2_S l y11 y12 sa) K
  = ((AV.v (.bool (decide (sa < 8))) = AV.v (.bool true)) ∧ (pc 10 [.sl (l.map Piece.enc), .v (.int .i64 sa)] (fun x => x = .tup [.v (.int .u64 ya2.1), .v (.int .u64 ya2.2.1), .v (.int .i64 ya2.2.2)])) ∧ (pc 10 [.sl ((l ++ ([(Piece.mk (ByteArray.mk #[111, 110, 101, 32, 109, 111, 114, 101, 32, 116, 104, 97, 116, 32, 104, 97, 115, 32, 110, 111, 32, 111, 116, 104, 101, 114, 32, 110, 97, 109, 101]) (addW .i64 1 y12) (subW .i64 y11 1))] : List Piece)).map Piece.enc), .v (.int .i64 sa)] (fun x => x = .tup [.v (.int .u64 ya3.1), .v (.int .u64 ya3.2.1), .v (.int .i64 ya3.2.2)])) ∧ (AV.v (.bool (decide (sa < (subW .i64 y11 1)))) = AV.v (.bool false)) ∧ (AV.v (.bool (sa == (subW .i64 y11 1))) = AV.v (.bool true)) ∧ (AV.v (.bool (ya2.1 != ya3.1)) = AV.v (.bool false)) ∧ (AV.v (.bool ((addW .u64 ya2.2.1 (mulW .u64 8 (IntKind.wrap .u64 (addW .i64 1 y12)))) != ya3.2.1)) = AV.v (.bool false)) ∧ (AV.v (.bool (decide (sa > (subW .i64 y11 1)))) = AV.v (.bool true)) ∧ (AV.v (.bool ((addW .u64 ya2.1 (mulW .u64 8 (IntKind.wrap .u64 (addW .i64 1 y12)))) != ya3.1)) = AV.v (.bool true)) ∧ K .ret (law_DataParts_L2_T1 l y11 y12 ())) := by kernel_rfl
theorem law_DataParts_L2_p15 (l : (List Piece)) (y11 : Int) (y12 : Int) (sa : Int) (ya2 : Int × Int × Int) (ya3 : Int × Int × Int) (K : Ex → St → Prop) : oround (cx pc sc lp) ⟨ord3, [], [], [(79, .v (.bool true)), (102, .v (.bool false)), (116, .v (.bool true)), (120, .v (.bool false)), (129, .v (.bool false)), (133, .v (.bool true)), (139, .v (.bool false)), (147, .v (.bool true))], [(85, .tup [.v (.int .u64 ya2.1), .v (.int .u64 ya2.2.1), .v (.int .i64 ya2.2.2)]), (92, .tup [.v (.int .u64 ya3.1), .v (.int .u64 ya3.2.1), .v (.int .i64 ya3.2.2)])], [], [], [], []⟩ (polF 3) [(1, ⟨[6], [], 0, [], []⟩, ⟨[], [], []⟩)] c_law_DataParts_L2 (law_DataParts_L2_S l y11 y12 sa) K
  = ((AV.v (.bool (decide (sa < 8))) = AV.v (.bool true)) ∧ (pc 10 [.sl (l.map Piece.enc), .v (.int .i64 sa)] (fun x => x = .tup [.v (.int .u64 ya2.1), .v (.int .u64 ya2.2.1), .v (.int .i64 ya2.2.2)])) ∧ (pc 10 [.sl ((l ++ ([(Piece.mk (ByteArray.mk #[111, 110, 101, 32, 109, 111, 114, 101, 32, 116, 104, 97, 116, 32, 104, 97, 115, 32, 110, 111, 32, 111, 116, 104, 101, 114, 32, 110, 97, 109, 101]) (addW .i64 1 y12) (subW .i64 y11 1))] : List Piece)).map Piece.enc), .v (.int .i64 sa)] (fun x => x = .tup [.v (.int .u64 ya3.1), .v (.int .u64 ya3.2.1), .v (.int .i64 ya3.2.2)])) ∧ (AV.v (.bool (decide (sa < (subW .i64 y11 1)))) = AV.v (.bool false)) ∧ (AV.v (.bool (sa == (subW .i64 y11 1))) = AV.v (.bool true)) ∧ (AV.v (.bool (ya2.1 != ya3.1)) = AV.v (.bool false)) ∧ (AV.v (.bool ((addW .u64 ya2.2.1 (mulW .u64 8 (IntKind.wrap .u64 (addW .i64 1 y12)))) != ya3.2.1)) = AV.v (.bool false)) ∧ (AV.v (.bool (decide (sa > (subW .i64 y11 1)))) = AV.v (.bool true)) ∧ (AV.v (.bool ((addW .u64 ya2.1 (mulW .u64 8 (IntKind.wrap .u64 (addW .i64 1 y12)))) != ya3.1)) = AV.v (.bool false)) ∧ (AV.v (.bool ((addW .u64 ya2.2.1 (mulW .u64 8 (IntKind.wrap .u64 (addW .i64 1 y12)))) != ya3.2.1)) = AV.v (.bool true)) ∧ K .ret (law_DataParts_L2_T1 l y11 y12 ())) := by kernel_rfl
theorem law_DataParts_L2_p16 (l : (List Piece)) (y11 : Int) (y12 : Int) (sa : Int) (ya2 : Int × Int × Int) (ya3 : Int × Int × Int) (K : Ex → St → Prop) : oround (cx pc sc lp) ⟨ord3, [], [], [(79, .v (.bool true)), (102, .v (.bool false)), (116, .v (.bool true)), (120, .v (.bool false)), (129, .v (.bool false)), (133, .v (.bool true)), (139, .v (.bool false)), (147, .v (.bool false))], [(85, .tup [.v (.int .u64 ya2.1), .v (.int .u64 ya2.2.1), .v (.int .i64 ya2.2.2)]), (92, .tup [.v (.int .u64 ya3.1), .v (.int .u64 ya3.2.1), .v (.int .i64 ya3.2.2)])], [], [], [], []⟩ (polF 3) [(0, ⟨[0, 1, 2, 12, 13], [], 1, [], []⟩, ⟨[], [], []⟩)] c_law_DataParts_L2 (law_DataParts_L2_S l y11 y12 sa) K
  = ((AV.v (.bool (decide (sa < 8))) = AV.v (.bool true)) ∧ (pc 10 [.sl (l.map Piece.enc), .v (.int .i64 sa)] (fun x => x = .tup [.v (.int .u64 ya2.1), .v (.int .u64 ya2.2.1), .v (.int .i64 ya2.2.2)])) ∧ (pc 10 [.sl ((l ++ ([(Piece.mk (ByteArray.mk #[111, 110, 101, 32, 109, 111, 114, 101, 32, 116, 104, 97, 116, 32, 104, 97, 115, 32, 110, 111, 32, 111, 116, 104, 101, 114, 32, 110, 97, 109, 101]) (addW .i64 1 y12) (subW .i64 y11 1))] : List Piece)).map Piece.enc), .v (.int .i64 sa)] (fun x => x = .tup [.v (.int .u64 ya3.1), .v (.int .u64 ya3.2.1), .v (.int .i64 ya3.2.2)])) ∧ (AV.v (.bool (decide (sa < (subW .i64 y11 1)))) = AV.v (.bool false)) ∧ (AV.v (.bool (sa == (subW .i64 y11 1))) = AV.v (.bool true)) ∧ (AV.v (.bool (ya2.1 != ya3.1)) = AV.v (.bool false)) ∧ (AV.v (.bool ((addW .u64 ya2.2.1 (mulW .u64 8 (IntKind.wrap .u64 (addW .i64 1 y12)))) != ya3.2.1)) = AV.v (.bool false)) ∧ (AV.v (.bool (decide (sa > (subW .i64 y11 1)))) = AV.v (.bool true)) ∧ (AV.v (.bool ((addW .u64 ya2.1 (mulW .u64 8 (IntKind.wrap .u64 (addW .i64 1 y12)))) != ya3.1)) = AV.v (.bool false)) ∧ (AV.v (.bool ((addW .u64 ya2.2.1 (mulW .u64 8 (IntKind.wrap .u64 (addW .i64 1 y12)))) != ya3.2.1)) = AV.v (.bool false)) ∧ K .nrm (law_DataParts_L2_S l y11 y12 (addW .i64 sa 1))) := by kernel_rfl
theorem law_DataParts_L2_p17 (l : (List Piece)) (y11 : Int) (y12 : Int) (sa : Int) (ya2 : Int × Int × Int) (ya3 : Int × Int × Int) (K : Ex → St → Prop) : oround (cx pc sc lp) ⟨ord3, [], [], [(79, .v (.bool true)), (102, .v (.bool false)), (116, .v (.bool true)), (120, .v (.bool false)), (129, .v (.bool false)), (133, .v (.bool false))], [(85, .tup [.v (.int .u64 ya2.1), .v (.int .u64 ya2.2.1), .v (.int .i64 ya2.2.2)]), (92, .tup [.v (.int .u64 ya3.1), .v (.int .u64 ya3.2.1), .v (.int .i64 ya3.2.2)])], [], [], [], []⟩ (polF 3) [(0, ⟨[0, 1, 2, 12, 13], [], 1, [], []⟩, ⟨[], [], []⟩)] c_law_DataParts_L2 (law_DataParts_L2_S l y11 y12 sa) K
  = ((AV.v (.bool (decide (sa < 8))) = AV.v (.bool true)) ∧ (pc 10 [.sl (l.map Piece.enc), .v (.int .i64 sa)] (fun x => x = .tup [.v (.int .u64 ya2.1), .v (.int .u64 ya2.2.1), .v (.int .i64 ya2.2.2)])) ∧ (pc 10 [.sl ((l ++ ([(Piece.mk (ByteArray.mk #[111, 110, 101, 32, 109, 111, 114, 101, 32, 116, 104, 97, 116, 32, 104, 97, 115, 32, 110, 111, 32, 111, 116, 104, 101, 114, 32, 110, 97, 109, 101]) (addW .i64 1 y12) (subW .i64 y11 1))] : List Piece)).map Piece.enc), .v (.int .i64 sa)] (fun x => x = .tup [.v (.int .u64 ya3.1), .v (.int .u64 ya3.2.1), .v (.int .i64 ya3.2.2)])) ∧ (AV.v (.bool (decide (sa < (subW .i64 y11 1)))) = AV.v (.bool false)) ∧ (AV.v (.bool (sa == (subW .i64 y11 1))) = AV.v (.bool true)) ∧ (AV.v (.bool (ya2.1 != ya3.1)) = AV.v (.bool false)) ∧ (AV.v (.bool ((addW .u64 ya2.2.1 (mulW .u64 8 (IntKind.wrap .u64 (addW .i64 1 y12)))) != ya3.2.1)) = AV.v (.bool false)) ∧ (AV.v (.bool (decide (sa > (subW .i64 y11 1)))) = AV.v (.bool false)) ∧ K .nrm (law_DataParts_L2_S l y11 y12 (addW .i64 sa 1))) := by kernel_rfl
theorem law_DataParts_L2_p18 (l : (List Piece)) (y11 : Int) (y12 : Int) (sa : Int) (ya2 : Int × Int × Int) (ya3 : Int × Int × Int) (K : Ex → St → Prop) : oround (cx pc sc lp) ⟨ord3, [], [], [(79, .v (.bool true)), (102, .v (.bool false)), (116, .v (.bool false)), (133, .v (.bool true)), (139, .v (.bool true))], [(85, .tup [.v (.int .u64 ya2.1), .v (.int .u64 ya2.2.1), .v (.int .i64 ya2.2.2)]), (92, .tup [.v (.int .u64 ya3.1), .v (.int .u64 ya3.2.1), .v (.int .i64 ya3.2.2)])], [], [], [], []⟩ (polF 3) [(1, ⟨[6], [], 0, [], []⟩, ⟨[], [], []⟩)] c_law_DataParts_L2 (law_DataParts_L2_S l y11 y12 sa) K
  = ((AV.v (.bool (decide (sa < 8))) = AV.v (.bool true)) ∧ (pc 10 [.sl (l.map Piece.enc), .v (.int .i64 sa)] (fun x => x = .tup [.v (.int .u64 ya2.1), .v (.int .u64 ya2.2.1), .v (.int .i64 ya2.2.2)])) ∧ (pc 10 [.sl ((l ++ ([(Piece.mk (ByteArray.mk #[111, 110, 101, 32, 109, 111, 114, 101, 32, 116, 104, 97, 116, 32, 104, 97, 115, 32, 110, 111, 32, 111, 116, 104, 101, 114, 32, 110, 97, 109, 101]) (addW .i64 1 y12) (subW .i64 y11 1))] : List Piece)).map Piece.enc), .v (.int .i64 sa)] (fun x => x = .tup [.v (.int .u64 ya3.1), .v (.int .u64 ya3.2.1), .v (.int .i64 ya3.2.2)])) ∧ (AV.v (.bool (decide (sa < (subW .i64 y11 1)))) = AV.v (.bool false)) ∧ (AV.v (.bool (sa == (subW .i64 y11 1))) = AV.v (.bool false)) ∧ (AV.v (.bool (decide (sa > (subW .i64 y11 1)))) = AV.v (.bool true)) ∧ (AV.v (.bool ((addW .u64 ya2.1 (mulW .u64 8 (IntKind.wrap .u64 (addW .i64 1 y12)))) != ya3.1)) = AV.v (.bool true)) ∧ K .ret (law_DataParts_L2_T1 l y11 y12 ())) := by kernel_rfl
theorem law_DataParts_L2_p19 (l : (List Piece)) (y11 : Int) (y12 : Int) (sa : Int) (ya2 : Int × Int × Int) (ya3 : Int × Int × Int) (K : Ex → St → Prop) : oround (cx pc sc lp) ⟨ord3, [], [], [(79, .v (.bool true)), (102, .v (.bool false)), (116, .v (.bool false)), (133, .v (.bool true)), (139, .v (.bool false)), (147, .v (.bool true))], [(85, .tup [.v (.int .u64 ya2.1), .v (.int .u64 ya2.2.1), .v (.int .i64 ya2.2.2)]), (92, .tup [.v (.int .u64 ya3.1), .v (.int .u64 ya3.2.1), .v (.int .i64 ya3.2.2)])], [], [], [], []⟩ (polF 3) [(1, ⟨[6], [], 0, [], []⟩, ⟨[], [], []⟩)] c_law_DataParts_L2 (law_DataParts_L2_S l y11 y12 sa) K
  = ((AV.v (.bool (decide (sa < 8))) = AV.v (.bool true)) ∧ (pc 10 [.sl (l.map Piece.enc), .v (.int .i64 sa)] (fun x => x = .tup [.v (.int .u64 ya2.1), .v (.int .u64 ya2.2.1), .v (.int .i64 ya2.2.2)])) ∧ (pc 10 [.sl ((l ++ ([(Piece.mk (ByteArray.mk #[111, 110, 101, 32, 109, 111, 114, 101, 32, 116, 104, 97, 116, 32, 104, 97, 115, 32, 110, 111, 32, 111, 116, 104, 101, 114, 32, 110, 97, 109, 101]) (addW .i64 1 y12) (subW .i64 y11 1))] : List Piece)).map Piece.enc), .v (.int .i64 sa)] (fun x => x = .tup [.v (.int .u64 ya3.1), .v (.int .u64 ya3.2.1), .v (.int .i64 ya3.2.2)])) ∧ (AV.v (.bool (decide (sa < (subW .i64 y11 1)))) = AV.v (.bool false)) ∧ (AV.v (.bool (sa == (subW .i64 y11 1))) = AV.v (.bool false)) ∧ (AV.v (.bool (decide (sa > (subW .i64 y11 1)))) = AV.v (.bool true)) ∧ (AV.v (.bool ((addW .u64 ya2.1 (mulW .u64 8 (IntKind.wrap .u64 (addW .i64 1 y12)))) != ya3.1)) = AV.v (.bool false)) ∧ (AV.v (.bool ((addW .u64 ya2.2.1 (mulW .u64 8 (IntKind.wrap .u64 (addW .i64 1 y12)))) != ya3.2.1)) = AV.v (.bool true)) ∧ K .ret (law_DataParts_L2_T1 l y11 y12 ())) := by kernel_rfl
theorem law_DataParts_L2_p20 (l : (List Piece)) (y11 : Int) (y12 : Int) (sa : Int) (ya2 : Int × Int × Int) (ya3 : Int × Int × Int) (K : Ex → St → Prop) : oround (cx pc sc lp) ⟨ord3, [], [], [(79, .v (.bool true)), (102, .v (.bool false)), (116, .v (.bool false)), (133, .v (.bool true)), (139, .v (.bool false)), (147, .v (.bool false))], [(85, .tup [.v (.int .u64 ya2.1), .v (.int .u64 ya2.2.1), .v (.int .i64 ya2.2.2)]), (92, .tup [.v (.int .u64 ya3.1), .v (.int .u64 ya3.2.1), .v (.int .i64 ya3.2.2)])], [], [], [], []⟩ (polF 3) [(0, ⟨[0, 1, 2, 12, 13], [], 1, [], []⟩, ⟨[], [], []⟩)] c_law_DataParts_L2 (law_DataParts_L2_S l y11 y12 sa) K
  = ((AV.v (.bool (decide (sa < 8))) = AV.v (.bool true)) ∧ (pc 10 [.sl (l.map Piece.enc), .v (.int .i64 sa)] (fun x => x = .tup [.v (.int .u64 ya2.1), .v (.int .u64 ya2.2.1), .v (.int .i64 ya2.2.2)])) ∧ (pc 10 [.sl ((l ++ ([(Piece.mk (ByteArray.mk #[111, 110, 101, 32, 109, 111, 114, 101, 32, 116, 104, 97, 116, 32, 104, 97, 115, 32, 110, 111, 32, 111, 116, 104, 101, 114, 32, 110, 97, 109, 101]) (addW .i64 1 y12) (subW .i64 y11 1))] : List Piece)).map Piece.enc), .v (.int .i64 sa)] (fun x => x = .tup [.v (.int .u64 ya3.1), .v (.int .u64 ya3.2.1), .v (.int .i64 ya3.2.2)])) ∧ (AV.v (.bool (decide (sa < (subW .i64 y11 1)))) = AV.v (.bool false)) ∧ (AV.v (.bool (sa == (subW .i64 y11 1))) = AV.v (.bool false)) ∧ (AV.v (.bool (decide (sa > (subW .i64 y11 1)))) = AV.v (.bool true)) ∧ (AV.v (.bool ((addW .u64 ya2.1 (mulW .u64 8 (IntKind.wrap .u64 (addW .i64 1 y12)))) != ya3.1)) = AV.v (.bool false)) ∧ (AV.v (.bool ((addW .u64 ya2.2.1 (mulW .u64 8 (IntKind.wrap .u64 (addW .i64 1 y12)))) != ya3.2.1)) = AV.v (.bool false)) ∧ K .nrm (law_DataParts_L2_S l y11 y12 (addW .i64 sa 1))) := by kernel_rfl
theorem law_DataParts_L2_p21 (l : (List Piece)) (y11 : Int) (y12 : Int) (sa : Int) (ya2 : Int × Int × Int) (ya3 : Int × Int × Int) (K : Ex → St → Prop) : oround (cx pc sc lp) ⟨ord3, [], [], [(79, .v (.bool true)), (102, .v (.bool false)), (116, .v (.bool false)), (133, .v (.bool false))], [(85, .tup [.v (.int .u64 ya2.1), .v (.int .u64 ya2.2.1), .v (.int .i64 ya2.2.2)]), (92, .tup [.v (.int .u64 ya3.1), .v (.int .u64 ya3.2.1), .v (.int .i64 ya3.2.2)])], [], [], [], []⟩ (polF 3) [(0, ⟨[0, 1, 2, 12, 13], [], 1, [], []⟩, ⟨[], [], []⟩)] c_law_DataParts_L2 (law_DataParts_L2_S l y11 y12 sa) K
  = ((AV.v (.bool (decide (sa < 8))) = AV.v (.bool true)) ∧ (pc 10 [.sl (l.map Piece.enc), .v (.int .i64 sa)] (fun x => x = .tup [.v (.int .u64 ya2.1), .v (.int .u64 ya2.2.1), .v (.int .i64 ya2.2.2)])) ∧ (pc 10 [.sl ((l ++ ([(Piece.mk (ByteArray.mk #[111, 110, 101, 32, 109, 111, 114, 101, 32, 116, 104, 97, 116, 32, 104, 97, 115, 32, 110, 111, 32, 111, 116, 104, 101, 114, 32, 110, 97, 109, 101]) (addW .i64 1 y12) (subW .i64 y11 1))] : List Piece)).map Piece.enc), .v (.int .i64 sa)] (fun x => x = .tup [.v (.int .u64 ya3.1), .v (.int .u64 ya3.2.1), .v (.int .i64 ya3.2.2)])) ∧ (AV.v (.bool (decide (sa < (subW .i64 y11 1)))) = AV.v (.bool false)) ∧ (AV.v (.bool (sa == (subW .i64 y11 1))) = AV.v (.bool false)) ∧ (AV.v (.bool (decide (sa > (subW .i64 y11 1)))) = AV.v (.bool false)) ∧ K .nrm (law_DataParts_L2_S l y11 y12 (addW .i64 sa 1))) := by kernel_rfl
theorem law_DataParts_L2_p22 (l : (List Piece)) (y11 : Int) (y12 : Int) (sa : Int) (K : Ex → St → Prop) : oround (cx pc sc lp) ⟨ord3, [], [], [(79, .v (.bool false))], [], [], [], [], []⟩ (polF 3) [(4, ⟨[], [], 0, [], []⟩, ⟨[], [], []⟩)] c_law_DataParts_L2 (law_DataParts_L2_S l y11 y12 sa) K
  = ((AV.v (.bool (decide (sa < 8))) = AV.v (.bool false)) ∧ K (.ex 2) (law_DataParts_L2_T0 l y11 y12 ())) := by kernel_rfl
theorem law_DataParts_L2_sim (n : Nat) (l : (List Piece)) (y11 : Int) (y12 : Int) : ∀ sa r, law_DataParts_L2 n l y11 y12 sa = some r → RoundD cfg (polF 3) c_law_DataParts_L2 (law_DataParts_L2_S l y11 y12 sa) (rk (law_DataParts_L2_S l y11 y12) (law_DataParts_L2_out l y11 y12) r) := by
  intro sa r h
  unfold law_DataParts_L2 at h
  rcases bcase (decide (sa < 8)) with ha1 | ha1
  · replace h := iteT ha1 h
    obtain ⟨ya2, gya2, h⟩ := bindE h
    obtain ⟨ya3, gya3, h⟩ := bindE h
    rcases bcase (decide (sa < (subW .i64 y11 1))) with ha4 | ha4
    · replace h := iteT ha4 h
      rcases bcase (ya2.1 != ya3.1) with ha5 | ha5
      · replace h := iteT ha5 h
        have e := Option.some.inj h
        subst e
        exact okR ordB_law_DataParts_L2 (Eq.mpr (law_DataParts_L2_p0 (PCall Try.prog) (SD Try.prog) (LoopD Try.prog) l y11 y12 sa ya2 ya3 _) ⟨congrArg aBool ha1, (data_Part_sim n l sa ya2 gya2), (data_Part_sim n (l ++ ([(Piece.mk (ByteArray.mk #[111, 110, 101, 32, 109, 111, 114, 101, 32, 116, 104, 97, 116, 32, 104, 97, 115, 32, 110, 111, 32, 111, 116, 104, 101, 114, 32, 110, 97, 109, 101]) (addW .i64 1 y12) (subW .i64 y11 1))] : List Piece)) sa ya3 gya3), congrArg aBool ha4, congrArg aBool ha5, (rkE rfl neR)⟩)
      · replace h := iteF ha5 h
        rcases bcase (ya2.2.1 != ya3.2.1) with ha6 | ha6
        · replace h := iteT ha6 h
          have e := Option.some.inj h
          subst e
          exact okR ordB_law_DataParts_L2 (Eq.mpr (law_DataParts_L2_p1 (PCall Try.prog) (SD Try.prog) (LoopD Try.prog) l y11 y12 sa ya2 ya3 _) ⟨congrArg aBool ha1, (data_Part_sim n l sa ya2 gya2), (data_Part_sim n (l ++ ([(Piece.mk (ByteArray.mk #[111, 110, 101, 32, 109, 111, 114, 101, 32, 116, 104, 97, 116, 32, 104, 97, 115, 32, 110, 111, 32, 111, 116, 104, 101, 114, 32, 110, 97, 109, 101]) (addW .i64 1 y12) (subW .i64 y11 1))] : List Piece)) sa ya3 gya3), congrArg aBool ha4, congrArg aBool ha5, congrArg aBool ha6, (rkE rfl neR)⟩)
        · replace h := iteF ha6 h
          rcases bcase (sa == (subW .i64 y11 1)) with ha7 | ha7
          · replace h := iteT ha7 h
            rcases bcase (ya2.1 != ya3.1) with ha8 | ha8
            · replace h := iteT ha8 h
              have e := Option.some.inj h
              subst e
              exact okR ordB_law_DataParts_L2 (Eq.mpr (law_DataParts_L2_p2 (PCall Try.prog) (SD Try.prog) (LoopD Try.prog) l y11 y12 sa ya2 ya3 _) ⟨congrArg aBool ha1, (data_Part_sim n l sa ya2 gya2), (data_Part_sim n (l ++ ([(Piece.mk (ByteArray.mk #[111, 110, 101, 32, 109, 111, 114, 101, 32, 116, 104, 97, 116, 32, 104, 97, 115, 32, 110, 111, 32, 111, 116, 104, 101, 114, 32, 110, 97, 109, 101]) (addW .i64 1 y12) (subW .i64 y11 1))] : List Piece)) sa ya3 gya3), congrArg aBool ha4, congrArg aBool ha5, congrArg aBool ha6, congrArg aBool ha7, congrArg aBool ha8, (rkE rfl neR)⟩)
            · replace h := iteF ha8 h
              rcases bcase ((addW .u64 ya2.2.1 (mulW .u64 8 (IntKind.wrap .u64 (addW .i64 1 y12)))) != ya3.2.1) with ha9 | ha9
              · replace h := iteT ha9 h
                have e := Option.some.inj h
                subst e
                exact okR ordB_law_DataParts_L2 (Eq.mpr (law_DataParts_L2_p3 (PCall Try.prog) (SD Try.prog) (LoopD Try.prog) l y11 y12 sa ya2 ya3 _) ⟨congrArg aBool ha1, (data_Part_sim n l sa ya2 gya2), (data_Part_sim n (l ++ ([(Piece.mk (ByteArray.mk #[111, 110, 101, 32, 109, 111, 114, 101, 32, 116, 104, 97, 116, 32, 104, 97, 115, 32, 110, 111, 32, 111, 116, 104, 101, 114, 32, 110, 97, 109, 101]) (addW .i64 1 y12) (subW .i64 y11 1))] : List Piece)) sa ya3 gya3), congrArg aBool ha4, congrArg aBool ha5, congrArg aBool ha6, congrArg aBool ha7, congrArg aBool ha8, congrArg aBool ha9, (rkE rfl neR)⟩)
              · replace h := iteF ha9 h
                rcases bcase (decide (sa > (subW .i64 y11 1))) with ha10 | ha10
                · replace h := iteT ha10 h
                  rcases bcase ((addW .u64 ya2.1 (mulW .u64 8 (IntKind.wrap .u64 (addW .i64 1 y12)))) != ya3.1) with ha11 | ha11
                  · replace h := iteT ha11 h
                    have e := Option.some.inj h
                    subst e
                    exact okR ordB_law_DataParts_L2 (Eq.mpr (law_DataParts_L2_p4 (PCall Try.prog) (SD Try.prog) (LoopD Try.prog) l y11 y12 sa ya2 ya3 _) ⟨congrArg aBool ha1, (data_Part_sim n l sa ya2 gya2), (data_Part_sim n (l ++ ([(Piece.mk (ByteArray.mk #[111, 110, 101, 32, 109, 111, 114, 101, 32, 116, 104, 97, 116, 32, 104, 97, 115, 32, 110, 111, 32, 111, 116, 104, 101, 114, 32, 110, 97, 109, 101]) (addW .i64 1 y12) (subW .i64 y11 1))] : List Piece)) sa ya3 gya3), congrArg aBool ha4, congrArg aBool ha5, congrArg aBool ha6, congrArg aBool ha7, congrArg aBool ha8, congrArg aBool ha9, congrArg aBool ha10, congrArg aBool ha11, (rkE rfl neR)⟩)
                  · replace h := iteF ha11 h
                    rcases bcase ((addW .u64 ya2.2.1 (mulW .u64 8 (IntKind.wrap .u64 (addW .i64 1 y12)))) != ya3.2.1) with ha12 | ha12
                    · replace h := iteT ha12 h
                      have e := Option.some.inj h
                      subst e
                      exact okR ordB_law_DataParts_L2 (Eq.mpr (law_DataParts_L2_p5 (PCall Try.prog) (SD Try.prog) (LoopD Try.prog) l y11 y12 sa ya2 ya3 _) ⟨congrArg aBool ha1, (data_Part_sim n l sa ya2 gya2), (data_Part_sim n (l ++ ([(Piece.mk (ByteArray.mk #[111, 110, 101, 32, 109, 111, 114, 101, 32, 116, 104, 97, 116, 32, 104, 97, 115, 32, 110, 111, 32, 111, 116, 104, 101, 114, 32, 110, 97, 109, 101]) (addW .i64 1 y12) (subW .i64 y11 1))] : List Piece)) sa ya3 gya3), congrArg aBool ha4, congrArg aBool ha5, congrArg aBool ha6, congrArg aBool ha7, congrArg aBool ha8, congrArg aBool ha9, congrArg aBool ha10, congrArg aBool ha11, congrArg aBool ha12, (rkE rfl neR)⟩)
                    · replace h := iteF ha12 h
                      have e := Option.some.inj h
                      subst e
                      exact okR ordB_law_DataParts_L2 (Eq.mpr (law_DataParts_L2_p6 (PCall Try.prog) (SD Try.prog) (LoopD Try.prog) l y11 y12 sa ya2 ya3 _) ⟨congrArg aBool ha1, (data_Part_sim n l sa ya2 gya2), (data_Part_sim n (l ++ ([(Piece.mk (ByteArray.mk #[111, 110, 101, 32, 109, 111, 114, 101, 32, 116, 104, 97, 116, 32, 104, 97, 115, 32, 110, 111, 32, 111, 116, 104, 101, 114, 32, 110, 97, 109, 101]) (addW .i64 1 y12) (subW .i64 y11 1))] : List Piece)) sa ya3 gya3), congrArg aBool ha4, congrArg aBool ha5, congrArg aBool ha6, congrArg aBool ha7, congrArg aBool ha8, congrArg aBool ha9, congrArg aBool ha10, congrArg aBool ha11, congrArg aBool ha12, rkN⟩)
                · replace h := iteF ha10 h
                  have e := Option.some.inj h
                  subst e
                  exact okR ordB_law_DataParts_L2 (Eq.mpr (law_DataParts_L2_p7 (PCall Try.prog) (SD Try.prog) (LoopD Try.prog) l y11 y12 sa ya2 ya3 _) ⟨congrArg aBool ha1, (data_Part_sim n l sa ya2 gya2), (data_Part_sim n (l ++ ([(Piece.mk (ByteArray.mk #[111, 110, 101, 32, 109, 111, 114, 101, 32, 116, 104, 97, 116, 32, 104, 97, 115, 32, 110, 111, 32, 111, 116, 104, 101, 114, 32, 110, 97, 109, 101]) (addW .i64 1 y12) (subW .i64 y11 1))] : List Piece)) sa ya3 gya3), congrArg aBool ha4, congrArg aBool ha5, congrArg aBool ha6, congrArg aBool ha7, congrArg aBool ha8, congrArg aBool ha9, congrArg aBool ha10, rkN⟩)
          · replace h := iteF ha7 h
            rcases bcase (decide (sa > (subW .i64 y11 1))) with ha8 | ha8
            · replace h := iteT ha8 h
              rcases bcase ((addW .u64 ya2.1 (mulW .u64 8 (IntKind.wrap .u64 (addW .i64 1 y12)))) != ya3.1) with ha9 | ha9
              · replace h := iteT ha9 h
                have e := Option.some.inj h
                subst e
                exact okR ordB_law_DataParts_L2 (Eq.mpr (law_DataParts_L2_p8 (PCall Try.prog) (SD Try.prog) (LoopD Try.prog) l y11 y12 sa ya2 ya3 _) ⟨congrArg aBool ha1, (data_Part_sim n l sa ya2 gya2), (data_Part_sim n (l ++ ([(Piece.mk (ByteArray.mk #[111, 110, 101, 32, 109, 111, 114, 101, 32, 116, 104, 97, 116, 32, 104, 97, 115, 32, 110, 111, 32, 111, 116, 104, 101, 114, 32, 110, 97, 109, 101]) (addW .i64 1 y12) (subW .i64 y11 1))] : List Piece)) sa ya3 gya3), congrArg aBool ha4, congrArg aBool ha5, congrArg aBool ha6, congrArg aBool ha7, congrArg aBool ha8, congrArg aBool ha9, (rkE rfl neR)⟩)
              · replace h := iteF ha9 h
                rcases bcase ((addW .u64 ya2.2.1 (mulW .u64 8 (IntKind.wrap .u64 (addW .i64 1 y12)))) != ya3.2.1) with ha10 | ha10
                · replace h := iteT ha10 h
                  have e := Option.some.inj h
                  subst e
                  exact okR ordB_law_DataParts_L2 (Eq.mpr (law_DataParts_L2_p9 (PCall Try.prog) (SD Try.prog) (LoopD Try.prog) l y11 y12 sa ya2 ya3 _) ⟨congrArg aBool ha1, (data_Part_sim n l sa ya2 gya2), (data_Part_sim n (l ++ ([(Piece.mk (ByteArray.mk #[111, 110, 101, 32, 109, 111, 114, 101, 32, 116, 104, 97, 116, 32, 104, 97, 115, 32, 110, 111, 32, 111, 116, 104, 101, 114, 32, 110, 97, 109, 101]) (addW .i64 1 y12) (subW .i64 y11 1))] : List Piece)) sa ya3 gya3), congrArg aBool ha4, congrArg aBool ha5, congrArg aBool ha6, congrArg aBool ha7, congrArg aBool ha8, congrArg aBool ha9, congrArg aBool ha10, (rkE rfl neR)⟩)
                · replace h := iteF ha10 h
                  have e := Option.some.inj h
                  subst e
                  exact okR ordB_law_DataParts_L2 (Eq.mpr (law_DataParts_L2_p10 (PCall Try.prog) (SD Try.prog) (LoopD Try.prog) l y11 y12 sa ya2 ya3 _) ⟨congrArg aBool ha1, (data_Part_sim n l sa ya2 gya2), (data_Part_sim n (l ++ ([(Piece.mk (ByteArray.mk #[111, 110, 101, 32, 109, 111, 114, 101, 32, 116, 104, 97, 116, 32, 104, 97, 115, 32, 110, 111, 32, 111, 116, 104, 101, 114, 32, 110, 97, 109, 101]) (addW .i64 1 y12) (subW .i64 y11 1))] : List Piece)) sa ya3 gya3), congrArg aBool ha4, congrArg aBool ha5, congrArg aBool ha6, congrArg aBool ha7, congrArg aBool ha8, congrArg aBool ha9, congrArg aBool ha10, rkN⟩)
            · replace h := iteF ha8 h
              have e := Option.some.inj h
              subst e
              exact okR ordB_law_DataParts_L2 (Eq.mpr (law_DataParts_L2_p11 (PCall Try.prog) (SD Try.prog) (LoopD Try.prog) l y11 y12 sa ya2 ya3 _) ⟨congrArg aBool ha1, (data_Part_sim n l sa ya2 gya2), (data_Part_sim n (l ++ ([(Piece.mk (ByteArray.mk #[111, 110, 101, 32, 109, 111, 114, 101, 32, 116, 104, 97, 116, 32, 104, 97, 115, 32, 110, 111, 32, 111, 116, 104, 101, 114, 32, 110, 97, 109, 101]) (addW .i64 1 y12) (subW .i64 y11 1))] : List Piece)) sa ya3 gya3), congrArg aBool ha4, congrArg aBool ha5, congrArg aBool ha6, congrArg aBool ha7, congrArg aBool ha8, rkN⟩)
    · replace h := iteF ha4 h
      rcases bcase (sa == (subW .i64 y11 1)) with ha5 | ha5
      · replace h := iteT ha5 h
        rcases bcase (ya2.1 != ya3.1) with ha6 | ha6
        · replace h := iteT ha6 h
          have e := Option.some.inj h
          subst e
          exact okR ordB_law_DataParts_L2 (Eq.mpr (law_DataParts_L2_p12 (PCall Try.prog) (SD Try.prog) (LoopD Try.prog) l y11 y12 sa ya2 ya3 _) ⟨congrArg aBool ha1, (data_Part_sim n l sa ya2 gya2), (data_Part_sim n (l ++ ([(Piece.mk (ByteArray.mk #[111, 110, 101, 32, 109, 111, 114, 101, 32, 116, 104, 97, 116, 32, 104, 97, 115, 32, 110, 111, 32, 111, 116, 104, 101, 114, 32, 110, 97, 109, 101]) (addW .i64 1 y12) (subW .i64 y11 1))] : List Piece)) sa ya3 gya3), congrArg aBool ha4, congrArg aBool ha5, congrArg aBool ha6, (rkE rfl neR)⟩)
        · replace h := iteF ha6 h
          rcases bcase ((addW .u64 ya2.2.1 (mulW .u64 8 (IntKind.wrap .u64 (addW .i64 1 y12)))) != ya3.2.1) with ha7 | ha7
          · replace h := iteT ha7 h
            have e := Option.some.inj h
            subst e
            exact okR ordB_law_DataParts_L2 (Eq.mpr (law_DataParts_L2_p13 (PCall Try.prog) (SD Try.prog) (LoopD Try.prog) l y11 y12 sa ya2 ya3 _) ⟨congrArg aBool ha1, (data_Part_sim n l sa ya2 gya2), (data_Part_sim n (l ++ ([(Piece.mk (ByteArray.mk #[111, 110, 101, 32, 109, 111, 114, 101, 32, 116, 104, 97, 116, 32, 104, 97, 115, 32, 110, 111, 32, 111, 116, 104, 101, 114, 32, 110, 97, 109, 101]) (addW .i64 1 y12) (subW .i64 y11 1))] : List Piece)) sa ya3 gya3), congrArg aBool ha4, congrArg aBool ha5, congrArg aBool ha6, congrArg aBool ha7, (rkE rfl neR)⟩)
          · replace h := iteF ha7 h
            rcases bcase (decide (sa > (subW .i64 y11 1))) with ha8 | ha8
            · replace h := iteT ha8 h
              rcases bcase ((addW .u64 ya2.1 (mulW .u64 8 (IntKind.wrap .u64 (addW .i64 1 y12)))) != ya3.1) with ha9 | ha9
              · replace h := iteT ha9 h
                have e := Option.some.inj h
                subst e
                exact okR ordB_law_DataParts_L2 (Eq.mpr (law_DataParts_L2_p14 (PCall Try.prog) (SD Try.prog) (LoopD Try.prog) l y11 y12 sa ya2 ya3 _) ⟨congrArg aBool ha1, (data_Part_sim n l sa ya2 gya2), (data_Part_sim n (l ++ ([(Piece.mk (ByteArray.mk #[111, 110, 101, 32, 109, 111, 114, 101, 32, 116, 104, 97, 116, 32, 104, 97, 115, 32, 110, 111, 32, 111, 116, 104, 101, 114, 32, 110, 97, 109, 101]) (addW .i64 1 y12) (subW .i64 y11 1))] : List Piece)) sa ya3 gya3), congrArg aBool ha4, congrArg aBool ha5, congrArg aBool ha6, congrArg aBool ha7, congrArg aBool ha8, congrArg aBool ha9, (rkE rfl neR)⟩)
              · replace h := iteF ha9 h
                rcases bcase ((addW .u64 ya2.2.1 (mulW .u64 8 (IntKind.wrap .u64 (addW .i64 1 y12)))) != ya3.2.1) with ha10 | ha10
                · replace h := iteT ha10 h
                  have e := Option.some.inj h
                  subst e
                  exact okR ordB_law_DataParts_L2 (Eq.mpr (law_DataParts_L2_p15 (PCall Try.prog) (SD Try.prog) (LoopD Try.prog) l y11 y12 sa ya2 ya3 _) ⟨congrArg aBool ha1, (data_Part_sim n l sa ya2 gya2), (data_Part_sim n (l ++ ([(Piece.mk (ByteArray.mk #[111, 110, 101, 32, 109, 111, 114, 101, 32, 116, 104, 97, 116, 32, 104, 97, 115, 32, 110, 111, 32, 111, 116, 104, 101, 114, 32, 110, 97, 109, 101]) (addW .i64 1 y12) (subW .i64 y11 1))] : List Piece)) sa ya3 gya3), congrArg aBool ha4, congrArg aBool ha5, congrArg aBool ha6, congrArg aBool ha7, congrArg aBool ha8, congrArg aBool ha9, congrArg aBool ha10, (rkE rfl neR)⟩)
                · replace h := iteF ha10 h
                  have e := Option.some.inj h
                  subst e
                  exact okR ordB_law_DataParts_L2 (Eq.mpr (law_DataParts_L2_p16 (PCall Try.prog) (SD Try.prog) (LoopD Try.prog) l y11 y12 sa ya2 ya3 _) ⟨congrArg aBool ha1, (data_Part_sim n l sa ya2 gya2), (data_Part_sim n (l ++ ([(Piece.mk (ByteArray.mk #[111, 110, 101, 32, 109, 111, 114, 101, 32, 116, 104, 97, 116, 32, 104, 97, 115, 32, 110, 111, 32, 111, 116, 104, 101, 114, 32, 110, 97, 109, 101]) (addW .i64 1 y12) (subW .i64 y11 1))] : List Piece)) sa ya3 gya3), congrArg aBool ha4, congrArg aBool ha5, congrArg aBool ha6, congrArg aBool ha7, congrArg aBool ha8, congrArg aBool ha9, congrArg aBool ha10, rkN⟩)
            · replace h := iteF ha8 h
              have e := Option.some.inj h
              subst e
              exact okR ordB_law_DataParts_L2 (Eq.mpr (law_DataParts_L2_p17 (PCall Try.prog) (SD Try.prog) (LoopD Try.prog) l y11 y12 sa ya2 ya3 _) ⟨congrArg aBool ha1, (data_Part_sim n l sa ya2 gya2), (data_Part_sim n (l ++ ([(Piece.mk (ByteArray.mk #[111, 110, 101, 32, 109, 111, 114, 101, 32, 116, 104, 97, 116, 32, 104, 97, 115, 32, 110, 111, 32, 111, 116, 104, 101, 114, 32, 110, 97, 109, 101]) (addW .i64 1 y12) (subW .i64 y11 1))] : List Piece)) sa ya3 gya3), congrArg aBool ha4, congrArg aBool ha5, congrArg aBool ha6, congrArg aBool ha7, congrArg aBool ha8, rkN⟩)
      · replace h := iteF ha5 h
        rcases bcase (decide (sa > (subW .i64 y11 1))) with ha6 | ha6
        · replace h := iteT ha6 h
          rcases bcase ((addW .u64 ya2.1 (mulW .u64 8 (IntKind.wrap .u64 (addW .i64 1 y12)))) != ya3.1) with ha7 | ha7
          · replace h := iteT ha7 h
            have e := Option.some.inj h
            subst e
            exact okR ordB_law_DataParts_L2 (Eq.mpr (law_DataParts_L2_p18 (PCall Try.prog) (SD Try.prog) (LoopD Try.prog) l y11 y12 sa ya2 ya3 _) ⟨congrArg aBool ha1, (data_Part_sim n l sa ya2 gya2), (data_Part_sim n (l ++ ([(Piece.mk (ByteArray.mk #[111, 110, 101, 32, 109, 111, 114, 101, 32, 116, 104, 97, 116, 32, 104, 97, 115, 32, 110, 111, 32, 111, 116, 104, 101, 114, 32, 110, 97, 109, 101]) (addW .i64 1 y12) (subW .i64 y11 1))] : List Piece)) sa ya3 gya3), congrArg aBool ha4, congrArg aBool ha5, congrArg aBool ha6, congrArg aBool ha7, (rkE rfl neR)⟩)
          · replace h := iteF ha7 h
            rcases bcase ((addW .u64 ya2.2.1 (mulW .u64 8 (IntKind.wrap .u64 (addW .i64 1 y12)))) != ya3.2.1) with ha8 | ha8
            · replace h := iteT ha8 h
              have e := Option.some.inj h
              subst e
              exact okR ordB_law_DataParts_L2 (Eq.mpr (law_DataParts_L2_p19 (PCall Try.prog) (SD Try.prog) (LoopD Try.prog) l y11 y12 sa ya2 ya3 _) ⟨congrArg aBool ha1, (data_Part_sim n l sa ya2 gya2), (data_Part_sim n (l ++ ([(Piece.mk (ByteArray.mk #[111, 110, 101, 32, 109, 111, 114, 101, 32, 116, 104, 97, 116, 32, 104, 97, 115, 32, 110, 111, 32, 111, 116, 104, 101, 114, 32, 110, 97, 109, 101]) (addW .i64 1 y12) (subW .i64 y11 1))] : List Piece)) sa ya3 gya3), congrArg aBool ha4, congrArg aBool ha5, congrArg aBool ha6, congrArg aBool ha7, congrArg aBool ha8, (rkE rfl neR)⟩)
            · replace h := iteF ha8 h
              have e := Option.some.inj h
              subst e
              exact okR ordB_law_DataParts_L2 (Eq.mpr (law_DataParts_L2_p20 (PCall Try.prog) (SD Try.prog) (LoopD Try.prog) l y11 y12 sa ya2 ya3 _) ⟨congrArg aBool ha1, (data_Part_sim n l sa ya2 gya2), (data_Part_sim n (l ++ ([(Piece.mk (ByteArray.mk #[111, 110, 101, 32, 109, 111, 114, 101, 32, 116, 104, 97, 116, 32, 104, 97, 115, 32, 110, 111, 32, 111, 116, 104, 101, 114, 32, 110, 97, 109, 101]) (addW .i64 1 y12) (subW .i64 y11 1))] : List Piece)) sa ya3 gya3), congrArg aBool ha4, congrArg aBool ha5, congrArg aBool ha6, congrArg aBool ha7, congrArg aBool ha8, rkN⟩)
        · replace h := iteF ha6 h
          have e := Option.some.inj h
          subst e
          exact okR ordB_law_DataParts_L2 (Eq.mpr (law_DataParts_L2_p21 (PCall Try.prog) (SD Try.prog) (LoopD Try.prog) l y11 y12 sa ya2 ya3 _) ⟨congrArg aBool ha1, (data_Part_sim n l sa ya2 gya2), (data_Part_sim n (l ++ ([(Piece.mk (ByteArray.mk #[111, 110, 101, 32, 109, 111, 114, 101, 32, 116, 104, 97, 116, 32, 104, 97, 115, 32, 110, 111, 32, 111, 116, 104, 101, 114, 32, 110, 97, 109, 101]) (addW .i64 1 y12) (subW .i64 y11 1))] : List Piece)) sa ya3 gya3), congrArg aBool ha4, congrArg aBool ha5, congrArg aBool ha6, rkN⟩)
  · replace h := iteF ha1 h
    have e := Option.some.inj h
    subst e
    exact okR ordB_law_DataParts_L2 (Eq.mpr (law_DataParts_L2_p22 (PCall Try.prog) (SD Try.prog) (LoopD Try.prog) l y11 y12 sa _) ⟨congrArg aBool ha1, (rkE rfl neE)⟩)

theorem law_DataParts_p0 (l : (List Piece)) (a : Int) (a_ : Int) (y1 : Bool) (K : AV → Prop) : opure (cx pc sc lp) ⟨ord3, [], [], [(22, .v (.bool true))], [(21, .v (.bool y1))], [], [], [], []⟩ 3 [.sl (l.map Piece.enc), .v (.int .i64 a), .v (.int .i64 a_)] K
  = ((pc 7 [] (fun x => x = .v (.bool y1))) ∧ (AV.v (.bool !y1) = AV.v (.bool true)) ∧ K (.v (.bool false))) := by kernel_rfl
theorem law_DataParts_p1 (l : (List Piece)) (a : Int) (a_ : Int) (y1 : Bool) (y3 : Bool) (K : AV → Prop) : opure (cx pc sc lp) ⟨ord3, [], [], [(22, .v (.bool false)), (26, .v (.bool true))], [(21, .v (.bool y1)), (24, .v (.bool y3))], [], [], [], []⟩ 3 [.sl (l.map Piece.enc), .v (.int .i64 a), .v (.int .i64 a_)] K
  = ((pc 7 [] (fun x => x = .v (.bool y1))) ∧ (AV.v (.bool !y1) = AV.v (.bool false)) ∧ (pc 8 [.sl (l.map Piece.enc)] (fun x => x = .v (.bool y3))) ∧ (AV.v (.bool !y3) = AV.v (.bool true)) ∧ K (.v (.bool true))) := by kernel_rfl
theorem law_DataParts_p2 (l : (List Piece)) (a : Int) (a_ : Int) (y1 : Bool) (y3 : Bool) (y5 : Int) (K : AV → Prop) : opure (cx pc sc lp) ⟨ord3, [], [], [(22, .v (.bool false)), (26, .v (.bool false)), (30, .v (.bool true))], [(21, .v (.bool y1)), (24, .v (.bool y3)), (28, .v (.int .i64 y5))], [], [], [], []⟩ 3 [.sl (l.map Piece.enc), .v (.int .i64 a), .v (.int .i64 a_)] K
  = ((pc 7 [] (fun x => x = .v (.bool y1))) ∧ (AV.v (.bool !y1) = AV.v (.bool false)) ∧ (pc 8 [.sl (l.map Piece.enc)] (fun x => x = .v (.bool y3))) ∧ (AV.v (.bool !y3) = AV.v (.bool false)) ∧ (pc 9 [.sl (l.map Piece.enc)] (fun x => x = .v (.int .i64 y5))) ∧ (AV.v (.bool (y5 != 0)) = AV.v (.bool true)) ∧ K (.v (.bool true))) := by kernel_rfl
theorem law_DataParts_p3 (l : (List Piece)) (a : Int) (a_ : Int) (y1 : Bool) (y3 : Bool) (y5 : Int) (w8 : Int) (y9 : Int) (K : AV → Prop) : opure (cx pc sc lp) ⟨ord3, [], [], [(22, .v (.bool false)), (26, .v (.bool false)), (30, .v (.bool false)), (61, .v (.bool true))], [(21, .v (.bool y1)), (24, .v (.bool y3)), (28, .v (.int .i64 y5)), (57, .v (.int .i64 y9))], [], [], [], [(7, (⟨[0, 1, 2, 7, 8], [], 0, [], []⟩, ⟨[], [], []⟩, (.ex 0), law_DataParts_L1_T0 l a a_ w8))]⟩ 3 [.sl (l.map Piece.enc), .v (.int .i64 a), .v (.int .i64 a_)] K
  = ((pc 7 [] (fun x => x = .v (.bool y1))) ∧ (AV.v (.bool !y1) = AV.v (.bool false)) ∧ (pc 8 [.sl (l.map Piece.enc)] (fun x => x = .v (.bool y3))) ∧ (AV.v (.bool !y3) = AV.v (.bool false)) ∧ (pc 9 [.sl (l.map Piece.enc)] (fun x => x = .v (.int .i64 y5))) ∧ (AV.v (.bool (y5 != 0)) = AV.v (.bool false)) ∧ (lp (polF 3) c_law_DataParts_L1 (law_DataParts_L1_S l a a_ (1048576, (-1))) (fun e' S' => e' = (.ex 0) ∧ S' = law_DataParts_L1_T0 l a a_ w8)) ∧ (pc 11 [.sl (l.map Piece.enc)] (fun x => x = .v (.int .i64 y9))) ∧ (AV.v (.bool (w8 != (addW .u64 1048576 (mulW .u64 8 (IntKind.wrap .u64 y9))))) = AV.v (.bool true)) ∧ K (.v (.bool false))) := by kernel_rfl
theorem law_DataParts_p4 (l : (List Piece)) (a : Int) (a_ : Int) (y1 : Bool) (y3 : Bool) (y5 : Int) (w8 : Int) (y9 : Int) (y11 : Int) (y12 : Int) (y15 : Int) (K : AV → Prop) : opure (cx pc sc lp) ⟨ord3, [74], [], [(22, .v (.bool false)), (26, .v (.bool false)), (30, .v (.bool false)), (61, .v (.bool false)), (77, .v (.bool true))], [(21, .v (.bool y1)), (24, .v (.bool y3)), (28, .v (.int .i64 y5)), (57, .v (.int .i64 y9)), (63, .v (.int .i64 y11)), (66, .v (.int .i64 y12)), (76, .v (.int .i64 y15))], [(69, (.mf 0, [.arr true 3 (l.map Piece.enc)]))], [(74, (0, (l ++ ([(Piece.mk (ByteArray.mk #[111, 110, 101, 32, 109, 111, 114, 101, 32, 116, 104, 97, 116, 32, 104, 97, 115, 32, 110, 111, 32, 111, 116, 104, 101, 114, 32, 110, 97, 109, 101]) (addW .i64 1 y12) (subW .i64 y11 1))] : List Piece)).map Piece.enc))], [], [(7, (⟨[0, 1, 2, 7, 8], [], 0, [], []⟩, ⟨[], [], []⟩, (.ex 0), law_DataParts_L1_T0 l a a_ w8))]⟩ 3 [.sl (l.map Piece.enc), .v (.int .i64 a), .v (.int .i64 a_)] K
  = ((pc 7 [] (fun x => x = .v (.bool y1))) ∧ (AV.v (.bool !y1) = AV.v (.bool false)) ∧ (pc 8 [.sl (l.map Piece.enc)] (fun x => x = .v (.bool y3))) ∧ (AV.v (.bool !y3) = AV.v (.bool false)) ∧ (pc 9 [.sl (l.map Piece.enc)] (fun x => x = .v (.int .i64 y5))) ∧ (AV.v (.bool (y5 != 0)) = AV.v (.bool false)) ∧ (lp (polF 3) c_law_DataParts_L1 (law_DataParts_L1_S l a a_ (1048576, (-1))) (fun e' S' => e' = (.ex 0) ∧ S' = law_DataParts_L1_T0 l a a_ w8)) ∧ (pc 11 [.sl (l.map Piece.enc)] (fun x => x = .v (.int .i64 y9))) ∧ (AV.v (.bool (w8 != (addW .u64 1048576 (mulW .u64 8 (IntKind.wrap .u64 y9))))) = AV.v (.bool false)) ∧ (pc 12 [.v (.int .i64 a), .v (.int .i64 9)] (fun x => x = .v (.int .i64 y11))) ∧ (pc 12 [.v (.int .i64 a_), .v (.int .i64 50)] (fun x => x = .v (.int .i64 y12))) ∧ (sc 13 [.sl (l.map Piece.enc)] [] (fun r' o' => r' = .mf 0 ∧ o' = [.arr true 3 (l.map Piece.enc)])) ∧ (szOk 3 [[.v (.string (ByteArray.mk #[111, 110, 101, 32, 109, 111, 114, 101, 32, 116, 104, 97, 116, 32, 104, 97, 115, 32, 110, 111, 32, 111, 116, 104, 101, 114, 32, 110, 97, 109, 101])), .v (.int .i64 (addW .i64 1 y12)), .v (.int .i64 (subW .i64 y11 1))]] = true) ∧ (okRows [[.v (.string (ByteArray.mk #[111, 110, 101, 32, 109, 111, 114, 101, 32, 116, 104, 97, 116, 32, 104, 97, 115, 32, 110, 111, 32, 111, 116, 104, 101, 114, 32, 110, 97, 109, 101])), .v (.int .i64 (addW .i64 1 y12)), .v (.int .i64 (subW .i64 y11 1))]] = true) ∧ (Nat.ble (((l.map Piece.enc).length + 1) * 32) 140737488355328 = true) ∧ ((l.map Piece.enc) ++ [[.v (.string (ByteArray.mk #[111, 110, 101, 32, 109, 111, 114, 101, 32, 116, 104, 97, 116, 32, 104, 97, 115, 32, 110, 111, 32, 111, 116, 104, 101, 114, 32, 110, 97, 109, 101])), .v (.int .i64 (addW .i64 1 y12)), .v (.int .i64 (subW .i64 y11 1))]] = (l ++ ([(Piece.mk (ByteArray.mk #[111, 110, 101, 32, 109, 111, 114, 101, 32, 116, 104, 97, 116, 32, 104, 97, 115, 32, 110, 111, 32, 111, 116, 104, 101, 114, 32, 110, 97, 109, 101]) (addW .i64 1 y12) (subW .i64 y11 1))] : List Piece)).map Piece.enc) ∧ (pc 9 [.sl ((l ++ ([(Piece.mk (ByteArray.mk #[111, 110, 101, 32, 109, 111, 114, 101, 32, 116, 104, 97, 116, 32, 104, 97, 115, 32, 110, 111, 32, 111, 116, 104, 101, 114, 32, 110, 97, 109, 101]) (addW .i64 1 y12) (subW .i64 y11 1))] : List Piece)).map Piece.enc)] (fun x => x = .v (.int .i64 y15))) ∧ (AV.v (.bool (y15 != 0)) = AV.v (.bool true)) ∧ K (.v (.bool true))) := by kernel_rfl
theorem law_DataParts_p5 (l : (List Piece)) (a : Int) (a_ : Int) (y1 : Bool) (y3 : Bool) (y5 : Int) (w8 : Int) (y9 : Int) (y11 : Int) (y12 : Int) (y15 : Int) (w18 : Unit) (K : AV → Prop) : opure (cx pc sc lp) ⟨ord3, [74], [], [(22, .v (.bool false)), (26, .v (.bool false)), (30, .v (.bool false)), (61, .v (.bool false)), (77, .v (.bool false))], [(21, .v (.bool y1)), (24, .v (.bool y3)), (28, .v (.int .i64 y5)), (57, .v (.int .i64 y9)), (63, .v (.int .i64 y11)), (66, .v (.int .i64 y12)), (76, .v (.int .i64 y15))], [(69, (.mf 0, [.arr true 3 (l.map Piece.enc)]))], [(74, (0, (l ++ ([(Piece.mk (ByteArray.mk #[111, 110, 101, 32, 109, 111, 114, 101, 32, 116, 104, 97, 116, 32, 104, 97, 115, 32, 110, 111, 32, 111, 116, 104, 101, 114, 32, 110, 97, 109, 101]) (addW .i64 1 y12) (subW .i64 y11 1))] : List Piece)).map Piece.enc))], [], [(7, (⟨[0, 1, 2, 7, 8], [], 0, [], []⟩, ⟨[], [], []⟩, (.ex 0), law_DataParts_L1_T0 l a a_ w8)), (20, (⟨[0, 1, 2, 12, 13], [], 1, [], []⟩, ⟨[], [], []⟩, (.ex 2), law_DataParts_L2_T0 l y11 y12 w18))]⟩ 3 [.sl (l.map Piece.enc), .v (.int .i64 a), .v (.int .i64 a_)] K
  = ((pc 7 [] (fun x => x = .v (.bool y1))) ∧ (AV.v (.bool !y1) = AV.v (.bool false)) ∧ (pc 8 [.sl (l.map Piece.enc)] (fun x => x = .v (.bool y3))) ∧ (AV.v (.bool !y3) = AV.v (.bool false)) ∧ (pc 9 [.sl (l.map Piece.enc)] (fun x => x = .v (.int .i64 y5))) ∧ (AV.v (.bool (y5 != 0)) = AV.v (.bool false)) ∧ (lp (polF 3) c_law_DataParts_L1 (law_DataParts_L1_S l a a_ (1048576, (-1))) (fun e' S' => e' = (.ex 0) ∧ S' = law_DataParts_L1_T0 l a a_ w8)) ∧ (pc 11 [.sl (l.map Piece.enc)] (fun x => x = .v (.int .i64 y9))) ∧ (AV.v (.bool (w8 != (addW .u64 1048576 (mulW .u64 8 (IntKind.wrap .u64 y9))))) = AV.v (.bool false)) ∧ (pc 12 [.v (.int .i64 a), .v (.int .i64 9)] (fun x => x = .v (.int .i64 y11))) ∧ (pc 12 [.v (.int .i64 a_), .v (.int .i64 50)] (fun x => x = .v (.int .i64 y12))) ∧ (sc 13 [.sl (l.map Piece.enc)] [] (fun r' o' => r' = .mf 0 ∧ o' = [.arr true 3 (l.map Piece.enc)])) ∧ (szOk 3 [[.v (.string (ByteArray.mk #[111, 110, 101, 32, 109, 111, 114, 101, 32, 116, 104, 97, 116, 32, 104, 97, 115, 32, 110, 111, 32, 111, 116, 104, 101, 114, 32, 110, 97, 109, 101])), .v (.int .i64 (addW .i64 1 y12)), .v (.int .i64 (subW .i64 y11 1))]] = true) ∧ (okRows [[.v (.string (ByteArray.mk #[111, 110, 101, 32, 109, 111, 114, 101, 32, 116, 104, 97, 116, 32, 104, 97, 115, 32, 110, 111, 32, 111, 116, 104, 101, 114, 32, 110, 97, 109, 101])), .v (.int .i64 (addW .i64 1 y12)), .v (.int .i64 (subW .i64 y11 1))]] = true) ∧ (Nat.ble (((l.map Piece.enc).length + 1) * 32) 140737488355328 = true) ∧ ((l.map Piece.enc) ++ [[.v (.string (ByteArray.mk #[111, 110, 101, 32, 109, 111, 114, 101, 32, 116, 104, 97, 116, 32, 104, 97, 115, 32, 110, 111, 32, 111, 116, 104, 101, 114, 32, 110, 97, 109, 101])), .v (.int .i64 (addW .i64 1 y12)), .v (.int .i64 (subW .i64 y11 1))]] = (l ++ ([(Piece.mk (ByteArray.mk #[111, 110, 101, 32, 109, 111, 114, 101, 32, 116, 104, 97, 116, 32, 104, 97, 115, 32, 110, 111, 32, 111, 116, 104, 101, 114, 32, 110, 97, 109, 101]) (addW .i64 1 y12) (subW .i64 y11 1))] : List Piece)).map Piece.enc) ∧ (pc 9 [.sl ((l ++ ([(Piece.mk (ByteArray.mk #[111, 110, 101, 32, 109, 111, 114, 101, 32, 116, 104, 97, 116, 32, 104, 97, 115, 32, 110, 111, 32, 111, 116, 104, 101, 114, 32, 110, 97, 109, 101]) (addW .i64 1 y12) (subW .i64 y11 1))] : List Piece)).map Piece.enc)] (fun x => x = .v (.int .i64 y15))) ∧ (AV.v (.bool (y15 != 0)) = AV.v (.bool false)) ∧ (lp (polF 3) c_law_DataParts_L2 (law_DataParts_L2_S l y11 y12 (-1)) (fun e' S' => e' = (.ex 2) ∧ S' = law_DataParts_L2_T0 l y11 y12 w18)) ∧ K (.v (.bool true))) := by kernel_rfl
theorem law_DataParts_p6 (l : (List Piece)) (a : Int) (a_ : Int) (y1 : Bool) (y3 : Bool) (y5 : Int) (w8 : Int) (y9 : Int) (y11 : Int) (y12 : Int) (y15 : Int) (w18 : Unit) (K : AV → Prop) : opure (cx pc sc lp) ⟨ord3, [74], [], [(22, .v (.bool false)), (26, .v (.bool false)), (30, .v (.bool false)), (61, .v (.bool false)), (77, .v (.bool false))], [(21, .v (.bool y1)), (24, .v (.bool y3)), (28, .v (.int .i64 y5)), (57, .v (.int .i64 y9)), (63, .v (.int .i64 y11)), (66, .v (.int .i64 y12)), (76, .v (.int .i64 y15))], [(69, (.mf 0, [.arr true 3 (l.map Piece.enc)]))], [(74, (0, (l ++ ([(Piece.mk (ByteArray.mk #[111, 110, 101, 32, 109, 111, 114, 101, 32, 116, 104, 97, 116, 32, 104, 97, 115, 32, 110, 111, 32, 111, 116, 104, 101, 114, 32, 110, 97, 109, 101]) (addW .i64 1 y12) (subW .i64 y11 1))] : List Piece)).map Piece.enc))], [], [(7, (⟨[0, 1, 2, 7, 8], [], 0, [], []⟩, ⟨[], [], []⟩, (.ex 0), law_DataParts_L1_T0 l a a_ w8)), (20, (⟨[0, 1, 2, 12, 13], [], 1, [], []⟩, ⟨[], [], []⟩, .ret, law_DataParts_L2_T1 l y11 y12 w18))]⟩ 3 [.sl (l.map Piece.enc), .v (.int .i64 a), .v (.int .i64 a_)] K
  = ((pc 7 [] (fun x => x = .v (.bool y1))) ∧ (AV.v (.bool !y1) = AV.v (.bool false)) ∧ (pc 8 [.sl (l.map Piece.enc)] (fun x => x = .v (.bool y3))) ∧ (AV.v (.bool !y3) = AV.v (.bool false)) ∧ (pc 9 [.sl (l.map Piece.enc)] (fun x => x = .v (.int .i64 y5))) ∧ (AV.v (.bool (y5 != 0)) = AV.v (.bool false)) ∧ (lp (polF 3) c_law_DataParts_L1 (law_DataParts_L1_S l a a_ (1048576, (-1))) (fun e' S' => e' = (.ex 0) ∧ S' = law_DataParts_L1_T0 l a a_ w8)) ∧ (pc 11 [.sl (l.map Piece.enc)] (fun x => x = .v (.int .i64 y9))) ∧ (AV.v (.bool (w8 != (addW .u64 1048576 (mulW .u64 8 (IntKind.wrap .u64 y9))))) = AV.v (.bool false)) ∧ (pc 12 [.v (.int .i64 a), .v (.int .i64 9)] (fun x => x = .v (.int .i64 y11))) ∧ (pc 12 [.v (.int .i64 a_), .v (.int .i64 50)] (fun x => x = .v (.int .i64 y12))) ∧ (sc 13 [.sl (l.map Piece.enc)] [] (fun r' o' => r' = .mf 0 ∧ o' = [.arr true 3 (l.map Piece.enc)])) ∧ (szOk 3 [[.v (.string (ByteArray.mk #[111, 110, 101, 32, 109, 111, 114, 101, 32, 116, 104, 97, 116, 32, 104, 97, 115, 32, 110, 111, 32, 111, 116, 104, 101, 114, 32, 110, 97, 109, 101])), .v (.int .i64 (addW .i64 1 y12)), .v (.int .i64 (subW .i64 y11 1))]] = true) ∧ (okRows [[.v (.string (ByteArray.mk #[111, 110, 101, 32, 109, 111, 114, 101, 32, 116, 104, 97, 116, 32, 104, 97, 115, 32, 110, 111, 32, 111, 116, 104, 101, 114, 32, 110, 97, 109, 101])), .v (.int .i64 (addW .i64 1 y12)), .v (.int .i64 (subW .i64 y11 1))]] = true) ∧ (Nat.ble (((l.map Piece.enc).length + 1) * 32) 140737488355328 = true) ∧ ((l.map Piece.enc) ++ [[.v (.string (ByteArray.mk #[111, 110, 101, 32, 109, 111, 114, 101, 32, 116, 104, 97, 116, 32, 104, 97, 115, 32, 110, 111, 32, 111, 116, 104, 101, 114, 32, 110, 97, 109, 101])), .v (.int .i64 (addW .i64 1 y12)), .v (.int .i64 (subW .i64 y11 1))]] = (l ++ ([(Piece.mk (ByteArray.mk #[111, 110, 101, 32, 109, 111, 114, 101, 32, 116, 104, 97, 116, 32, 104, 97, 115, 32, 110, 111, 32, 111, 116, 104, 101, 114, 32, 110, 97, 109, 101]) (addW .i64 1 y12) (subW .i64 y11 1))] : List Piece)).map Piece.enc) ∧ (pc 9 [.sl ((l ++ ([(Piece.mk (ByteArray.mk #[111, 110, 101, 32, 109, 111, 114, 101, 32, 116, 104, 97, 116, 32, 104, 97, 115, 32, 110, 111, 32, 111, 116, 104, 101, 114, 32, 110, 97, 109, 101]) (addW .i64 1 y12) (subW .i64 y11 1))] : List Piece)).map Piece.enc)] (fun x => x = .v (.int .i64 y15))) ∧ (AV.v (.bool (y15 != 0)) = AV.v (.bool false)) ∧ (lp (polF 3) c_law_DataParts_L2 (law_DataParts_L2_S l y11 y12 (-1)) (fun e' S' => e' = .ret ∧ S' = law_DataParts_L2_T1 l y11 y12 w18)) ∧ K (.v (.bool false))) := by kernel_rfl
theorem law_DataParts_p7 (l : (List Piece)) (a : Int) (a_ : Int) (y1 : Bool) (y3 : Bool) (y5 : Int) (w8 : Unit) (K : AV → Prop) : opure (cx pc sc lp) ⟨ord3, [], [], [(22, .v (.bool false)), (26, .v (.bool false)), (30, .v (.bool false))], [(21, .v (.bool y1)), (24, .v (.bool y3)), (28, .v (.int .i64 y5))], [], [], [], [(7, (⟨[0, 1, 2, 7, 8], [], 0, [], []⟩, ⟨[], [], []⟩, .ret, law_DataParts_L1_T1 l a a_ w8))]⟩ 3 [.sl (l.map Piece.enc), .v (.int .i64 a), .v (.int .i64 a_)] K
  = ((pc 7 [] (fun x => x = .v (.bool y1))) ∧ (AV.v (.bool !y1) = AV.v (.bool false)) ∧ (pc 8 [.sl (l.map Piece.enc)] (fun x => x = .v (.bool y3))) ∧ (AV.v (.bool !y3) = AV.v (.bool false)) ∧ (pc 9 [.sl (l.map Piece.enc)] (fun x => x = .v (.int .i64 y5))) ∧ (AV.v (.bool (y5 != 0)) = AV.v (.bool false)) ∧ (lp (polF 3) c_law_DataParts_L1 (law_DataParts_L1_S l a a_ (1048576, (-1))) (fun e' S' => e' = .ret ∧ S' = law_DataParts_L1_T1 l a a_ w8)) ∧ K (.v (.bool false))) := by kernel_rfl
theorem law_DataParts_sim (n : Nat) (l : (List Piece)) (a : Int) (a_ : Int) (r : Bool) (h : law_DataParts n l a a_ = some r) : PCall Try.prog 3 [.sl (l.map Piece.enc), .v (.int .i64 a), .v (.int .i64 a_)] (fun x => x = .v (.bool r)) := by
  unfold law_DataParts at h
  obtain ⟨y1, gy1, h⟩ := bindE h
  rcases bcase (!y1) with h2 | h2
  · replace h := iteT h2 h
    have e := Option.some.inj h
    subst e
    exact okP ordB3 (Eq.mpr (law_DataParts_p0 (PCall Try.prog) (SD Try.prog) (LoopD Try.prog) l a a_ y1 _) (⟨(law_lives_sim n y1 gy1), congrArg aBool h2, LeA.refl _⟩))
  · replace h := iteF h2 h
    obtain ⟨y3, gy3, h⟩ := bindE h
    rcases bcase (!y3) with h4 | h4
    · replace h := iteT h4 h
      have e := Option.some.inj h
      subst e
      exact okP ordB3 (Eq.mpr (law_DataParts_p1 (PCall Try.prog) (SD Try.prog) (LoopD Try.prog) l a a_ y1 y3 _) (⟨(law_lives_sim n y1 gy1), congrArg aBool h2, (law_light_sim n l y3 gy3), congrArg aBool h4, LeA.refl _⟩))
    · replace h := iteF h4 h
      obtain ⟨y5, gy5, h⟩ := bindE h
      rcases bcase (y5 != 0) with h6 | h6
      · replace h := iteT h6 h
        have e := Option.some.inj h
        subst e
        exact okP ordB3 (Eq.mpr (law_DataParts_p2 (PCall Try.prog) (SD Try.prog) (LoopD Try.prog) l a a_ y1 y3 y5 _) (⟨(law_lives_sim n y1 gy1), congrArg aBool h2, (law_light_sim n l y3 gy3), congrArg aBool h4, (data_Check_sim n l y5 gy5), congrArg aBool h6, LeA.refl _⟩))
      · replace h := iteF h6 h
        obtain ⟨t7, gt7, h⟩ := bindE h
        rcases t7 with w8 | w8
        · skip
          obtain ⟨y9, gy9, h⟩ := bindE h
          rcases bcase (w8 != (addW .u64 1048576 (mulW .u64 8 (IntKind.wrap .u64 y9)))) with h10 | h10
          · replace h := iteT h10 h
            have e := Option.some.inj h
            subst e
            exact okP ordB3 (Eq.mpr (law_DataParts_p3 (PCall Try.prog) (SD Try.prog) (LoopD Try.prog) l a a_ y1 y3 y5 w8 y9 _) (⟨(law_lives_sim n y1 gy1), congrArg aBool h2, (law_light_sim n l y3 gy3), congrArg aBool h4, (data_Check_sim n l y5 gy5), congrArg aBool h6, okL (law_DataParts_L1_S l a a_) (law_DataParts_L1_out l a a_) (law_DataParts_L1_sim n l a a_) n _ (.inl w8) gt7, (data_Size_sim n l y9 gy9), congrArg aBool h10, LeA.refl _⟩))
          · replace h := iteF h10 h
            obtain ⟨y11, gy11, h⟩ := bindE h
            obtain ⟨y12, gy12, h⟩ := bindE h
            obtain ⟨y13, gy13, h⟩ := bindE h
            obtain ⟨h14, h⟩ := grdE h
            obtain ⟨y15, gy15, h⟩ := bindE h
            rcases bcase (y15 != 0) with h16 | h16
            · replace h := iteT h16 h
              have e := Option.some.inj h
              subst e
              exact okP ordB3 (Eq.mpr (law_DataParts_p4 (PCall Try.prog) (SD Try.prog) (LoopD Try.prog) l a a_ y1 y3 y5 w8 y9 y11 y12 y15 _) (⟨(law_lives_sim n y1 gy1), congrArg aBool h2, (law_light_sim n l y3 gy3), congrArg aBool h4, (data_Check_sim n l y5 gy5), congrArg aBool h6, okL (law_DataParts_L1_S l a a_) (law_DataParts_L1_out l a a_) (law_DataParts_L1_sim n l a a_) n _ (.inl w8) gt7, (data_Size_sim n l y9 gy9), congrArg aBool h10, (kit_Pick_sim n a 9 y11 gy11), (kit_Pick_sim n a_ 50 y12 gy12), kit_Own_Piece_S_sim n l y13 gy13, rfl, rfl, ble_maps1 h14, app_map Piece.enc l ([(Piece.mk (ByteArray.mk #[111, 110, 101, 32, 109, 111, 114, 101, 32, 116, 104, 97, 116, 32, 104, 97, 115, 32, 110, 111, 32, 111, 116, 104, 101, 114, 32, 110, 97, 109, 101]) (addW .i64 1 y12) (subW .i64 y11 1))] : List Piece), (data_Check_sim n (l ++ ([(Piece.mk (ByteArray.mk #[111, 110, 101, 32, 109, 111, 114, 101, 32, 116, 104, 97, 116, 32, 104, 97, 115, 32, 110, 111, 32, 111, 116, 104, 101, 114, 32, 110, 97, 109, 101]) (addW .i64 1 y12) (subW .i64 y11 1))] : List Piece)) y15 gy15), congrArg aBool h16, LeA.refl _⟩))
            · replace h := iteF h16 h
              obtain ⟨t17, gt17, h⟩ := bindE h
              rcases t17 with w18 | w18
              · skip
                have e := Option.some.inj h
                subst e
                exact okP ordB3 (Eq.mpr (law_DataParts_p5 (PCall Try.prog) (SD Try.prog) (LoopD Try.prog) l a a_ y1 y3 y5 w8 y9 y11 y12 y15 w18 _) (⟨(law_lives_sim n y1 gy1), congrArg aBool h2, (law_light_sim n l y3 gy3), congrArg aBool h4, (data_Check_sim n l y5 gy5), congrArg aBool h6, okL (law_DataParts_L1_S l a a_) (law_DataParts_L1_out l a a_) (law_DataParts_L1_sim n l a a_) n _ (.inl w8) gt7, (data_Size_sim n l y9 gy9), congrArg aBool h10, (kit_Pick_sim n a 9 y11 gy11), (kit_Pick_sim n a_ 50 y12 gy12), kit_Own_Piece_S_sim n l y13 gy13, rfl, rfl, ble_maps1 h14, app_map Piece.enc l ([(Piece.mk (ByteArray.mk #[111, 110, 101, 32, 109, 111, 114, 101, 32, 116, 104, 97, 116, 32, 104, 97, 115, 32, 110, 111, 32, 111, 116, 104, 101, 114, 32, 110, 97, 109, 101]) (addW .i64 1 y12) (subW .i64 y11 1))] : List Piece), (data_Check_sim n (l ++ ([(Piece.mk (ByteArray.mk #[111, 110, 101, 32, 109, 111, 114, 101, 32, 116, 104, 97, 116, 32, 104, 97, 115, 32, 110, 111, 32, 111, 116, 104, 101, 114, 32, 110, 97, 109, 101]) (addW .i64 1 y12) (subW .i64 y11 1))] : List Piece)) y15 gy15), congrArg aBool h16, okL (law_DataParts_L2_S l y11 y12) (law_DataParts_L2_out l y11 y12) (law_DataParts_L2_sim n l y11 y12) n _ (.inl w18) gt17, LeA.refl _⟩))
              · skip
                have e := Option.some.inj h
                subst e
                exact okP ordB3 (Eq.mpr (law_DataParts_p6 (PCall Try.prog) (SD Try.prog) (LoopD Try.prog) l a a_ y1 y3 y5 w8 y9 y11 y12 y15 w18 _) (⟨(law_lives_sim n y1 gy1), congrArg aBool h2, (law_light_sim n l y3 gy3), congrArg aBool h4, (data_Check_sim n l y5 gy5), congrArg aBool h6, okL (law_DataParts_L1_S l a a_) (law_DataParts_L1_out l a a_) (law_DataParts_L1_sim n l a a_) n _ (.inl w8) gt7, (data_Size_sim n l y9 gy9), congrArg aBool h10, (kit_Pick_sim n a 9 y11 gy11), (kit_Pick_sim n a_ 50 y12 gy12), kit_Own_Piece_S_sim n l y13 gy13, rfl, rfl, ble_maps1 h14, app_map Piece.enc l ([(Piece.mk (ByteArray.mk #[111, 110, 101, 32, 109, 111, 114, 101, 32, 116, 104, 97, 116, 32, 104, 97, 115, 32, 110, 111, 32, 111, 116, 104, 101, 114, 32, 110, 97, 109, 101]) (addW .i64 1 y12) (subW .i64 y11 1))] : List Piece), (data_Check_sim n (l ++ ([(Piece.mk (ByteArray.mk #[111, 110, 101, 32, 109, 111, 114, 101, 32, 116, 104, 97, 116, 32, 104, 97, 115, 32, 110, 111, 32, 111, 116, 104, 101, 114, 32, 110, 97, 109, 101]) (addW .i64 1 y12) (subW .i64 y11 1))] : List Piece)) y15 gy15), congrArg aBool h16, okL (law_DataParts_L2_S l y11 y12) (law_DataParts_L2_out l y11 y12) (law_DataParts_L2_sim n l y11 y12) n _ (.inr w18) gt17, LeA.refl _⟩))
        · skip
          have e := Option.some.inj h
          subst e
          exact okP ordB3 (Eq.mpr (law_DataParts_p7 (PCall Try.prog) (SD Try.prog) (LoopD Try.prog) l a a_ y1 y3 y5 w8 _) (⟨(law_lives_sim n y1 gy1), congrArg aBool h2, (law_light_sim n l y3 gy3), congrArg aBool h4, (data_Check_sim n l y5 gy5), congrArg aBool h6, okL (law_DataParts_L1_S l a a_) (law_DataParts_L1_out l a a_) (law_DataParts_L1_sim n l a a_) n _ (.inr w8) gt7, LeA.refl _⟩))

end
end Go.Proofs.Ytnjpjmeoednfcaa
