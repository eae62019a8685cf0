/- What the functions compute, they compute: printed by a program, path by path. No conditions. -/
import Derived.Test.YtigcbjbaibcgfaaP2
import Derived.KernelRfl
namespace Go.Proofs.Ytigcbjbaibcgfaa
open Go A
set_option linter.unusedVariables false
set_option maxRecDepth 100000
set_option maxHeartbeats 0
section
variable (pc : Nat → List AV → (AV → Prop) → Prop) (sc : Nat → List AV → List Ob → (AV → List Ob → Prop) → Prop) (lp : Pol → Code → St → (Ex → St → Prop) → Prop) (cd : CutP)

def ord40 : List (Nat × PT) := []
theorem ordB40 : ordB (polF 40) ord40 (bodyOf Try.prog 40) = true := by kernel_rfl
noncomputable def c_ref_Check2_C1 : Code := sub (bodyOf Try.prog 40) [1, 1, 1, 1]
noncomputable def c_ref_Check2_C2 : Code := sub (bodyOf Try.prog 40) [1, 1, 1, 0, 1, 1, 1]
noncomputable def c_ref_Check2_C3 : Code := sub c_ref_Check2_C2 [1]
noncomputable def c_ref_Check2_C4 : Code := sub c_ref_Check2_C3 [1]
theorem ordB_ref_Check2_C1 : ordB (polF 40) ord40 c_ref_Check2_C1 = true := by kernel_rfl
def ref_Check2_C1_S (sa : Bool) : St := mkS 216 [(4, .v (.bool sa))] [] [] 0
def ref_Check2_C1_T0 (tt : Int) : St := mkS 216 [(2, (vI tt))] [] [] 0
def ref_Check2_C1_out (tt : Int) : Ex × St := (.ret, ref_Check2_C1_T0 tt)
theorem ref_Check2_C1_sim (n : Nat) : ∀ sa t, ref_Check2_C1 n sa = some t → CodeD Try.prog c_ref_Check2_C1 (ref_Check2_C1_S sa) (pk (ref_Check2_C1_out) t) := by
 intro sa t h
 unfold ref_Check2_C1 at h
 rcases iteE h with ⟨ha1, h⟩ | ⟨ha1, h⟩
 ·
  obtain rfl := soI h
  exact kR ⟨ord40, [rV 9 [(215, vT)]], [], [], []⟩ [(1, ⟨[2], [], 0, [], [], []⟩, ⟨[], [], []⟩)] ordB_ref_Check2_C1 (pkE rfl) (fun z => (aB ha1 z)) (by kernel_rfl)
 obtain rfl := soI h
 exact kR ⟨ord40, [rV 9 [(215, vF)]], [], [], []⟩ [(1, ⟨[2], [], 0, [], [], []⟩, ⟨[], [], []⟩)] ordB_ref_Check2_C1 (pkE rfl) (fun z => (aB ha1 z)) (by kernel_rfl)

theorem ordB_ref_Check2_C4 : ordB (polF 40) ord40 c_ref_Check2_C4 = true := by kernel_rfl
def ref_Check2_C4_S (e : Event) (sd : Bool) : St := mkS 216 [(1, .ptr (.L 1) 0 0), (4, .v (.bool sd))] [(1, (Event.enc e))] [] 0
def ref_Check2_C4_T0 (e : Event) (tt : Bool) : St := mkS 216 [(4, .v (.bool tt))] [] [] 0
def ref_Check2_C4_out (e : Event) (tt : Bool) : Ex × St := (.nrm, ref_Check2_C4_T0 e tt)
theorem ref_Check2_C4_sim (n : Nat) (e : Event) : ∀ sd t, ref_Check2_C4 n e sd = some t → CodeD Try.prog c_ref_Check2_C4 (ref_Check2_C4_S e sd) (pk (ref_Check2_C4_out e) t) := by
 intro sd t h
 unfold ref_Check2_C4 at h
 rcases iteN h with ⟨hd1, h⟩ | ⟨hd1, h⟩
 ·
  obtain rfl := soI h
  exact kR ⟨ord40, [rV 8 [(179, vF)]], [], [], []⟩ [(0, ⟨[4], [1], 0, [], [], []⟩, ⟨[], [], []⟩)] ordB_ref_Check2_C4 (pkE rfl) (fun z => (aB hd1 z)) (by kernel_rfl)
 obtain ⟨yd2, gyd2, h⟩ := bindE h
 rcases iteN h with ⟨hd3, h⟩ | ⟨hd3, h⟩
 ·
  obtain rfl := soI h
  exact kR ⟨ord40, [rVC 8 [(179, vT), (187, vF)] [(185, .v (.bool yd2))]], [], [], []⟩ [(0, ⟨[4], [1], 0, [], [], []⟩, ⟨[], [], []⟩)] ordB_ref_Check2_C4 (pkE rfl) (fun z => (aB hd1 (aI (ref_below_sim n e.Deps.Addr e.At yd2 gyd2) (aB hd3 z)))) (by kernel_rfl)
 obtain ⟨yd4, gyd4, h⟩ := bindE h
 rcases iteN h with ⟨hd5, h⟩ | ⟨hd5, h⟩
 ·
  obtain rfl := soI h
  exact kR ⟨ord40, [rVC 8 [(179, vT), (187, vT), (195, vF)] [(185, .v (.bool yd2)), (193, .v (.bool yd4))]], [], [], []⟩ [(0, ⟨[4], [1], 0, [], [], []⟩, ⟨[], [], []⟩)] ordB_ref_Check2_C4 (pkE rfl) (fun z => (aB hd1 (aI (ref_below_sim n e.Deps.Addr e.At yd2 gyd2) (aB hd3 (aI (ref_below_sim n e.Deps.Data e.At yd4 gyd4) (aB hd5 z)))))) (by kernel_rfl)
 obtain ⟨yd6, gyd6, h⟩ := bindE h
 rcases iteN h with ⟨hd7, h⟩ | ⟨hd7, h⟩
 ·
  obtain rfl := soI h
  exact kR ⟨ord40, [rVC 8 [(179, vT), (187, vT), (195, vT), (203, vF)] [(185, .v (.bool yd2)), (193, .v (.bool yd4)), (201, .v (.bool yd6))]], [], [], []⟩ [(0, ⟨[4], [1], 0, [], [], []⟩, ⟨[], [], []⟩)] ordB_ref_Check2_C4 (pkE rfl) (fun z => (aB hd1 (aI (ref_below_sim n e.Deps.Addr e.At yd2 gyd2) (aB hd3 (aI (ref_below_sim n e.Deps.Data e.At yd4 gyd4) (aB hd5 (aI (ref_below_sim n e.Deps.Way e.At yd6 gyd6) (aB hd7 z)))))))) (by kernel_rfl)
 obtain ⟨yd8, gyd8, h⟩ := bindE h
 rcases iteE h with ⟨hd9, h⟩ | ⟨hd9, h⟩
 ·
  obtain rfl := soI h
  exact kR ⟨ord40, [rVC 8 [(179, vT), (187, vT), (195, vT), (203, vT), (206, vT)] [(185, .v (.bool yd2)), (193, .v (.bool yd4)), (201, .v (.bool yd6)), (205, .v (.bool yd8))]], [], [], []⟩ [(0, ⟨[4], [1], 0, [], [], []⟩, ⟨[], [], []⟩)] ordB_ref_Check2_C4 (pkE rfl) (fun z => (aB hd1 (aI (ref_below_sim n e.Deps.Addr e.At yd2 gyd2) (aB hd3 (aI (ref_below_sim n e.Deps.Data e.At yd4 gyd4) (aB hd5 (aI (ref_below_sim n e.Deps.Way e.At yd6 gyd6) (aB hd7 (aI (ref_Writes_sim n e yd8 gyd8) (aB hd9 z)))))))))) (by kernel_rfl)
 obtain rfl := soI h
 exact kR ⟨ord40, [rVC 8 [(179, vT), (187, vT), (195, vT), (203, vT), (206, vF), (210, (vI (e.Deps.Data.length : Int)))] [(185, .v (.bool yd2)), (193, .v (.bool yd4)), (201, .v (.bool yd6)), (205, .v (.bool yd8))]], [], [], []⟩ [(0, ⟨[4], [1], 0, [], [], []⟩, ⟨[], [], []⟩)] ordB_ref_Check2_C4 (pkE rfl) (fun z => (aB hd1 (aI (ref_below_sim n e.Deps.Addr e.At yd2 gyd2) (aB hd3 (aI (ref_below_sim n e.Deps.Data e.At yd4 gyd4) (aB hd5 (aI (ref_below_sim n e.Deps.Way e.At yd6 gyd6) (aB hd7 (aI (ref_Writes_sim n e yd8 gyd8) (aB hd9 (aL eI e.Deps.Data z))))))))))) (by kernel_rfl)

theorem ordB_ref_Check2_C3 : ordB (polF 40) ord40 c_ref_Check2_C3 = true := by kernel_rfl
def ref_Check2_C3_S (e : Event) (sb : Bool) : St := mkS 216 [(1, .ptr (.L 1) 0 0), (4, .v (.bool sb))] [(1, (Event.enc e))] [] 0
def ref_Check2_C3_T0 (e : Event) (tt : Bool) : St := mkS 216 [(4, .v (.bool tt))] [] [] 0
def ref_Check2_C3_out (e : Event) (tt : Bool) : Ex × St := (.nrm, ref_Check2_C3_T0 e tt)
theorem ref_Check2_C3_sim (n : Nat) (e : Event) : ∀ sb t, ref_Check2_C3 n e sb = some t → CodeD Try.prog c_ref_Check2_C3 (ref_Check2_C3_S e sb) (pk (ref_Check2_C3_out e) t) := by
 intro sb t h
 unfold ref_Check2_C3 at h
 rcases iteN h with ⟨hb1, h⟩ | ⟨hb1, h⟩
 ·
  obtain ⟨tb2, gtb2, h⟩ := bindE h
  obtain rfl := soI h
  exact kR ⟨ord40, [rV 7 [(151, vF)]], [], [], [(8, (⟨[1, 4], [], 0, [], [], []⟩, ⟨[], [], []⟩, .nrm, ref_Check2_C4_T0 e tb2))]⟩ [(0, ⟨[4], [], 0, [], [], []⟩, ⟨[], [], []⟩)] ordB_ref_Check2_C3 (pkE rfl) (fun z => (aB hb1 (aI (ref_Check2_C4_sim n e _ tb2 gtb2) z))) (by kernel_rfl)
 rcases iteN h with ⟨hb2, h⟩ | ⟨hb2, h⟩
 ·
  rcases iteE h with ⟨hb3, h⟩ | ⟨hb3, h⟩
  ·
   obtain ⟨tb4, gtb4, h⟩ := bindE h
   obtain rfl := soI h
   exact kR ⟨ord40, [rV 7 [(151, vT), (155, vF), (171, vT)]], [], [], [(8, (⟨[1, 4], [], 0, [], [], []⟩, ⟨[], [], []⟩, .nrm, ref_Check2_C4_T0 e tb4))]⟩ [(0, ⟨[4], [], 0, [], [], []⟩, ⟨[], [], []⟩)] ordB_ref_Check2_C3 (pkE rfl) (fun z => (aB hb1 (aB hb2 (aB hb3 (aI (ref_Check2_C4_sim n e _ tb4 gtb4) z))))) (by kernel_rfl)
  obtain ⟨tb4, gtb4, h⟩ := bindE h
  obtain rfl := soI h
  exact kR ⟨ord40, [rV 7 [(151, vT), (155, vF), (171, vF)]], [], [], [(8, (⟨[1, 4], [], 0, [], [], []⟩, ⟨[], [], []⟩, .nrm, ref_Check2_C4_T0 e tb4))]⟩ [(0, ⟨[4], [], 0, [], [], []⟩, ⟨[], [], []⟩)] ordB_ref_Check2_C3 (pkE rfl) (fun z => (aB hb1 (aB hb2 (aB hb3 (aI (ref_Check2_C4_sim n e _ tb4 gtb4) z))))) (by kernel_rfl)
 rcases iteN h with ⟨hb3, h⟩ | ⟨hb3, h⟩
 ·
  rcases iteE h with ⟨hb4, h⟩ | ⟨hb4, h⟩
  ·
   obtain ⟨tb5, gtb5, h⟩ := bindE h
   obtain rfl := soI h
   exact kR ⟨ord40, [rV 7 [(151, vT), (155, vT), (160, vF), (171, vT)]], [], [], [(8, (⟨[1, 4], [], 0, [], [], []⟩, ⟨[], [], []⟩, .nrm, ref_Check2_C4_T0 e tb5))]⟩ [(0, ⟨[4], [], 0, [], [], []⟩, ⟨[], [], []⟩)] ordB_ref_Check2_C3 (pkE rfl) (fun z => (aB hb1 (aB hb2 (aB hb3 (aB hb4 (aI (ref_Check2_C4_sim n e _ tb5 gtb5) z)))))) (by kernel_rfl)
  obtain ⟨tb5, gtb5, h⟩ := bindE h
  obtain rfl := soI h
  exact kR ⟨ord40, [rV 7 [(151, vT), (155, vT), (160, vF), (171, vF)]], [], [], [(8, (⟨[1, 4], [], 0, [], [], []⟩, ⟨[], [], []⟩, .nrm, ref_Check2_C4_T0 e tb5))]⟩ [(0, ⟨[4], [], 0, [], [], []⟩, ⟨[], [], []⟩)] ordB_ref_Check2_C3 (pkE rfl) (fun z => (aB hb1 (aB hb2 (aB hb3 (aB hb4 (aI (ref_Check2_C4_sim n e _ tb5 gtb5) z)))))) (by kernel_rfl)
 rcases iteE h with ⟨hb4, h⟩ | ⟨hb4, h⟩
 ·
  obtain ⟨tb5, gtb5, h⟩ := bindE h
  obtain rfl := soI h
  exact kR ⟨ord40, [rV 7 [(151, vT), (155, vT), (160, vT), (167, vT)]], [], [], [(8, (⟨[1, 4], [], 0, [], [], []⟩, ⟨[], [], []⟩, .nrm, ref_Check2_C4_T0 e tb5))]⟩ [(0, ⟨[4], [], 0, [], [], []⟩, ⟨[], [], []⟩)] ordB_ref_Check2_C3 (pkE rfl) (fun z => (aB hb1 (aB hb2 (aB hb3 (aB hb4 (aI (ref_Check2_C4_sim n e _ tb5 gtb5) z)))))) (by kernel_rfl)
 rcases iteE h with ⟨hb5, h⟩ | ⟨hb5, h⟩
 ·
  obtain ⟨tb6, gtb6, h⟩ := bindE h
  obtain rfl := soI h
  exact kR ⟨ord40, [rV 7 [(151, vT), (155, vT), (160, vT), (167, vF), (171, vT)]], [], [], [(8, (⟨[1, 4], [], 0, [], [], []⟩, ⟨[], [], []⟩, .nrm, ref_Check2_C4_T0 e tb6))]⟩ [(0, ⟨[4], [], 0, [], [], []⟩, ⟨[], [], []⟩)] ordB_ref_Check2_C3 (pkE rfl) (fun z => (aB hb1 (aB hb2 (aB hb3 (aB hb4 (aB hb5 (aI (ref_Check2_C4_sim n e _ tb6 gtb6) z))))))) (by kernel_rfl)
 obtain ⟨tb6, gtb6, h⟩ := bindE h
 obtain rfl := soI h
 exact kR ⟨ord40, [rV 7 [(151, vT), (155, vT), (160, vT), (167, vF), (171, vF)]], [], [], [(8, (⟨[1, 4], [], 0, [], [], []⟩, ⟨[], [], []⟩, .nrm, ref_Check2_C4_T0 e tb6))]⟩ [(0, ⟨[4], [], 0, [], [], []⟩, ⟨[], [], []⟩)] ordB_ref_Check2_C3 (pkE rfl) (fun z => (aB hb1 (aB hb2 (aB hb3 (aB hb4 (aB hb5 (aI (ref_Check2_C4_sim n e _ tb6 gtb6) z))))))) (by kernel_rfl)

theorem ordB_ref_Check2_C2 : ordB (polF 40) ord40 c_ref_Check2_C2 = true := by kernel_rfl
def ref_Check2_C2_S (e : Event) (sa : Bool) : St := mkS 216 [(1, .ptr (.L 1) 0 0), (4, .v (.bool sa))] [(1, (Event.enc e))] [] 0
def ref_Check2_C2_T0 (e : Event) (tt : Bool) : St := mkS 216 [(4, .v (.bool tt))] [] [] 0
def ref_Check2_C2_out (e : Event) (tt : Bool) : Ex × St := (.nrm, ref_Check2_C2_T0 e tt)
theorem ref_Check2_C2_sim (n : Nat) (e : Event) : ∀ sa t, ref_Check2_C2 n e sa = some t → CodeD Try.prog c_ref_Check2_C2 (ref_Check2_C2_S e sa) (pk (ref_Check2_C2_out e) t) := by
 intro sa t h
 unfold ref_Check2_C2 at h
 rcases iteN h with ⟨ha1, h⟩ | ⟨ha1, h⟩
 ·
  obtain ⟨ta2, gta2, h⟩ := bindE h
  obtain rfl := soI h
  exact kR ⟨ord40, [rV 6 [(130, vF)]], [], [], [(7, (⟨[1, 4], [], 0, [], [], []⟩, ⟨[], [], []⟩, .nrm, ref_Check2_C3_T0 e ta2))]⟩ [(0, ⟨[4], [], 0, [], [], []⟩, ⟨[], [], []⟩)] ordB_ref_Check2_C2 (pkE rfl) (fun z => (aB ha1 (aI (ref_Check2_C3_sim n e _ ta2 gta2) z))) (by kernel_rfl)
 rcases iteN h with ⟨ha2, h⟩ | ⟨ha2, h⟩
 ·
  rcases iteE h with ⟨ha3, h⟩ | ⟨ha3, h⟩
  ·
   obtain ⟨ta4, gta4, h⟩ := bindE h
   obtain rfl := soI h
   exact kR ⟨ord40, [rV 6 [(130, vT), (134, vF), (143, vT)]], [], [], [(7, (⟨[1, 4], [], 0, [], [], []⟩, ⟨[], [], []⟩, .nrm, ref_Check2_C3_T0 e ta4))]⟩ [(0, ⟨[4], [], 0, [], [], []⟩, ⟨[], [], []⟩)] ordB_ref_Check2_C2 (pkE rfl) (fun z => (aB ha1 (aB ha2 (aB ha3 (aI (ref_Check2_C3_sim n e _ ta4 gta4) z))))) (by kernel_rfl)
  obtain ⟨ta4, gta4, h⟩ := bindE h
  obtain rfl := soI h
  exact kR ⟨ord40, [rV 6 [(130, vT), (134, vF), (143, vF)]], [], [], [(7, (⟨[1, 4], [], 0, [], [], []⟩, ⟨[], [], []⟩, .nrm, ref_Check2_C3_T0 e ta4))]⟩ [(0, ⟨[4], [], 0, [], [], []⟩, ⟨[], [], []⟩)] ordB_ref_Check2_C2 (pkE rfl) (fun z => (aB ha1 (aB ha2 (aB ha3 (aI (ref_Check2_C3_sim n e _ ta4 gta4) z))))) (by kernel_rfl)
 rcases iteE h with ⟨ha3, h⟩ | ⟨ha3, h⟩
 ·
  obtain ⟨ta4, gta4, h⟩ := bindE h
  obtain rfl := soI h
  exact kR ⟨ord40, [rV 6 [(130, vT), (134, vT), (139, vT)]], [], [], [(7, (⟨[1, 4], [], 0, [], [], []⟩, ⟨[], [], []⟩, .nrm, ref_Check2_C3_T0 e ta4))]⟩ [(0, ⟨[4], [], 0, [], [], []⟩, ⟨[], [], []⟩)] ordB_ref_Check2_C2 (pkE rfl) (fun z => (aB ha1 (aB ha2 (aB ha3 (aI (ref_Check2_C3_sim n e _ ta4 gta4) z))))) (by kernel_rfl)
 rcases iteE h with ⟨ha4, h⟩ | ⟨ha4, h⟩
 ·
  obtain ⟨ta5, gta5, h⟩ := bindE h
  obtain rfl := soI h
  exact kR ⟨ord40, [rV 6 [(130, vT), (134, vT), (139, vF), (143, vT)]], [], [], [(7, (⟨[1, 4], [], 0, [], [], []⟩, ⟨[], [], []⟩, .nrm, ref_Check2_C3_T0 e ta5))]⟩ [(0, ⟨[4], [], 0, [], [], []⟩, ⟨[], [], []⟩)] ordB_ref_Check2_C2 (pkE rfl) (fun z => (aB ha1 (aB ha2 (aB ha3 (aB ha4 (aI (ref_Check2_C3_sim n e _ ta5 gta5) z)))))) (by kernel_rfl)
 obtain ⟨ta5, gta5, h⟩ := bindE h
 obtain rfl := soI h
 exact kR ⟨ord40, [rV 6 [(130, vT), (134, vT), (139, vF), (143, vF)]], [], [], [(7, (⟨[1, 4], [], 0, [], [], []⟩, ⟨[], [], []⟩, .nrm, ref_Check2_C3_T0 e ta5))]⟩ [(0, ⟨[4], [], 0, [], [], []⟩, ⟨[], [], []⟩)] ordB_ref_Check2_C2 (pkE rfl) (fun z => (aB ha1 (aB ha2 (aB ha3 (aB ha4 (aI (ref_Check2_C3_sim n e _ ta5 gta5) z)))))) (by kernel_rfl)

theorem ref_Check2_sim (n : Nat) (e : Event) (r : Int) (h : ref_Check2 n e = some r) : PCall Try.prog 40 [(aAgg Event.enc e)] (eqA ((vI r))) := by
 unfold ref_Check2 at h
 rcases iteN h with ⟨h1, h⟩ | ⟨h1, h⟩
 ·
  rcases iteE h with ⟨h2, h⟩ | ⟨h2, h⟩
  ·
   obtain ⟨t3, gt3, h⟩ := bindE h
   obtain rfl := soI h
   exact kP ⟨ord40, [rV 1 [(8, (vI (e.Deps.Addr.length : Int))), (12, (vI (e.Deps.Data.length : Int))), (17, (vI (e.Deps.Way.length : Int)))], rV 2 [(22, vF)], rV 3 [(34, vT)]], [], [], [(9, (⟨[4], [1], 0, [], [], []⟩, ⟨[], [], []⟩, .ret, ref_Check2_C1_T0 t3))]⟩ ordB40 (fun z => (aL eI e.Deps.Addr (aL eI e.Deps.Data (aL eI e.Deps.Way (aB h1 (aB h2 (aI (ref_Check2_C1_sim n _ t3 gt3) z))))))) (by kernel_rfl)
  obtain ⟨t3, gt3, h⟩ := bindE h
  obtain ⟨t4, gt4, h⟩ := bindE h
  obtain rfl := soI h
  exact kP ⟨ord40, [rV 1 [(8, (vI (e.Deps.Addr.length : Int))), (12, (vI (e.Deps.Data.length : Int))), (17, (vI (e.Deps.Way.length : Int)))], rV 2 [(22, vF)], rV 3 [(34, vF)]], [], [], [(6, (⟨[1, 4], [], 0, [], [], []⟩, ⟨[], [], []⟩, .nrm, ref_Check2_C2_T0 e t3)), (9, (⟨[4], [], 0, [], [], []⟩, ⟨[], [], []⟩, .ret, ref_Check2_C1_T0 t4))]⟩ ordB40 (fun z => (aL eI e.Deps.Addr (aL eI e.Deps.Data (aL eI e.Deps.Way (aB h1 (aB h2 (aI (ref_Check2_C2_sim n e _ t3 gt3) (aI (ref_Check2_C1_sim n _ t4 gt4) z)))))))) (by kernel_rfl)
 rcases iteN h with ⟨h2, h⟩ | ⟨h2, h⟩
 ·
  rcases iteE h with ⟨h3, h⟩ | ⟨h3, h⟩
  ·
   obtain ⟨t4, gt4, h⟩ := bindE h
   obtain rfl := soI h
   exact kP ⟨ord40, [rV 1 [(8, (vI (e.Deps.Addr.length : Int))), (12, (vI (e.Deps.Data.length : Int))), (17, (vI (e.Deps.Way.length : Int)))], rV 2 [(22, vT), (27, vF)], rV 3 [(34, vT)]], [], [], [(9, (⟨[4], [1], 0, [], [], []⟩, ⟨[], [], []⟩, .ret, ref_Check2_C1_T0 t4))]⟩ ordB40 (fun z => (aL eI e.Deps.Addr (aL eI e.Deps.Data (aL eI e.Deps.Way (aB h1 (aB h2 (aB h3 (aI (ref_Check2_C1_sim n _ t4 gt4) z)))))))) (by kernel_rfl)
  obtain ⟨t4, gt4, h⟩ := bindE h
  obtain ⟨t5, gt5, h⟩ := bindE h
  obtain rfl := soI h
  exact kP ⟨ord40, [rV 1 [(8, (vI (e.Deps.Addr.length : Int))), (12, (vI (e.Deps.Data.length : Int))), (17, (vI (e.Deps.Way.length : Int)))], rV 2 [(22, vT), (27, vF)], rV 3 [(34, vF)]], [], [], [(6, (⟨[1, 4], [], 0, [], [], []⟩, ⟨[], [], []⟩, .nrm, ref_Check2_C2_T0 e t4)), (9, (⟨[4], [], 0, [], [], []⟩, ⟨[], [], []⟩, .ret, ref_Check2_C1_T0 t5))]⟩ ordB40 (fun z => (aL eI e.Deps.Addr (aL eI e.Deps.Data (aL eI e.Deps.Way (aB h1 (aB h2 (aB h3 (aI (ref_Check2_C2_sim n e _ t4 gt4) (aI (ref_Check2_C1_sim n _ t5 gt5) z))))))))) (by kernel_rfl)
 rcases iteE h with ⟨h3, h⟩ | ⟨h3, h⟩
 ·
  rcases iteN h with ⟨h4, h⟩ | ⟨h4, h⟩
  ·
   obtain ⟨t5, gt5, h⟩ := bindE h
   obtain rfl := soI h
   exact kP ⟨ord40, [rV 1 [(8, (vI (e.Deps.Addr.length : Int))), (12, (vI (e.Deps.Data.length : Int))), (17, (vI (e.Deps.Way.length : Int)))], rV 2 [(22, vT), (27, vT)], rV 3 [(34, vT)], rV 4 [(36, vF)]], [], [], [(9, (⟨[4], [1], 0, [], [], []⟩, ⟨[], [], []⟩, .ret, ref_Check2_C1_T0 t5))]⟩ ordB40 (fun z => (aL eI e.Deps.Addr (aL eI e.Deps.Data (aL eI e.Deps.Way (aB h1 (aB h2 (aB h3 (aB h4 (aI (ref_Check2_C1_sim n _ t5 gt5) z))))))))) (by kernel_rfl)
  rcases iteN h with ⟨h5, h⟩ | ⟨h5, h⟩
  ·
   obtain ⟨t6, gt6, h⟩ := bindE h
   obtain rfl := soI h
   exact kP ⟨ord40, [rV 1 [(8, (vI (e.Deps.Addr.length : Int))), (12, (vI (e.Deps.Data.length : Int))), (17, (vI (e.Deps.Way.length : Int)))], rV 2 [(22, vT), (27, vT)], rV 3 [(34, vT)], rV 4 [(36, vT), (41, vF)]], [], [], [(9, (⟨[4], [1], 0, [], [], []⟩, ⟨[], [], []⟩, .ret, ref_Check2_C1_T0 t6))]⟩ ordB40 (fun z => (aL eI e.Deps.Addr (aL eI e.Deps.Data (aL eI e.Deps.Way (aB h1 (aB h2 (aB h3 (aB h4 (aB h5 (aI (ref_Check2_C1_sim n _ t6 gt6) z)))))))))) (by kernel_rfl)
  rcases iteN h with ⟨h6, h⟩ | ⟨h6, h⟩
  ·
   obtain ⟨t7, gt7, h⟩ := bindE h
   obtain rfl := soI h
   exact kP ⟨ord40, [rV 1 [(8, (vI (e.Deps.Addr.length : Int))), (12, (vI (e.Deps.Data.length : Int))), (17, (vI (e.Deps.Way.length : Int)))], rV 2 [(22, vT), (27, vT)], rV 3 [(34, vT)], rV 4 [(36, vT), (41, vT), (46, vF)]], [], [], [(9, (⟨[4], [1], 0, [], [], []⟩, ⟨[], [], []⟩, .ret, ref_Check2_C1_T0 t7))]⟩ ordB40 (fun z => (aL eI e.Deps.Addr (aL eI e.Deps.Data (aL eI e.Deps.Way (aB h1 (aB h2 (aB h3 (aB h4 (aB h5 (aB h6 (aI (ref_Check2_C1_sim n _ t7 gt7) z))))))))))) (by kernel_rfl)
  rcases iteN h with ⟨h7, h⟩ | ⟨h7, h⟩
  ·
   obtain ⟨t8, gt8, h⟩ := bindE h
   obtain rfl := soI h
   exact kP ⟨ord40, [rV 1 [(8, (vI (e.Deps.Addr.length : Int))), (12, (vI (e.Deps.Data.length : Int))), (17, (vI (e.Deps.Way.length : Int)))], rV 2 [(22, vT), (27, vT)], rV 3 [(34, vT)], rV 4 [(36, vT), (41, vT), (46, vT), (51, vF)]], [], [], [(9, (⟨[4], [1], 0, [], [], []⟩, ⟨[], [], []⟩, .ret, ref_Check2_C1_T0 t8))]⟩ ordB40 (fun z => (aL eI e.Deps.Addr (aL eI e.Deps.Data (aL eI e.Deps.Way (aB h1 (aB h2 (aB h3 (aB h4 (aB h5 (aB h6 (aB h7 (aI (ref_Check2_C1_sim n _ t8 gt8) z)))))))))))) (by kernel_rfl)
  rcases iteN h with ⟨h8, h⟩ | ⟨h8, h⟩
  ·
   obtain ⟨t9, gt9, h⟩ := bindE h
   obtain rfl := soI h
   exact kP ⟨ord40, [rV 1 [(8, (vI (e.Deps.Addr.length : Int))), (12, (vI (e.Deps.Data.length : Int))), (17, (vI (e.Deps.Way.length : Int)))], rV 2 [(22, vT), (27, vT)], rV 3 [(34, vT)], rV 4 [(36, vT), (41, vT), (46, vT), (51, vT), (56, vF)]], [], [], [(9, (⟨[4], [1], 0, [], [], []⟩, ⟨[], [], []⟩, .ret, ref_Check2_C1_T0 t9))]⟩ ordB40 (fun z => (aL eI e.Deps.Addr (aL eI e.Deps.Data (aL eI e.Deps.Way (aB h1 (aB h2 (aB h3 (aB h4 (aB h5 (aB h6 (aB h7 (aB h8 (aI (ref_Check2_C1_sim n _ t9 gt9) z))))))))))))) (by kernel_rfl)
  rcases iteN h with ⟨h9, h⟩ | ⟨h9, h⟩
  ·
   obtain ⟨t10, gt10, h⟩ := bindE h
   obtain rfl := soI h
   exact kP ⟨ord40, [rV 1 [(8, (vI (e.Deps.Addr.length : Int))), (12, (vI (e.Deps.Data.length : Int))), (17, (vI (e.Deps.Way.length : Int)))], rV 2 [(22, vT), (27, vT)], rV 3 [(34, vT)], rV 4 [(36, vT), (41, vT), (46, vT), (51, vT), (56, vT), (61, vF)]], [], [], [(9, (⟨[4], [1], 0, [], [], []⟩, ⟨[], [], []⟩, .ret, ref_Check2_C1_T0 t10))]⟩ ordB40 (fun z => (aL eI e.Deps.Addr (aL eI e.Deps.Data (aL eI e.Deps.Way (aB h1 (aB h2 (aB h3 (aB h4 (aB h5 (aB h6 (aB h7 (aB h8 (aB h9 (aI (ref_Check2_C1_sim n _ t10 gt10) z)))))))))))))) (by kernel_rfl)
  rcases iteN h with ⟨h10, h⟩ | ⟨h10, h⟩
  ·
   obtain ⟨t11, gt11, h⟩ := bindE h
   obtain rfl := soI h
   exact kP ⟨ord40, [rV 1 [(8, (vI (e.Deps.Addr.length : Int))), (12, (vI (e.Deps.Data.length : Int))), (17, (vI (e.Deps.Way.length : Int)))], rV 2 [(22, vT), (27, vT)], rV 3 [(34, vT)], rV 4 [(36, vT), (41, vT), (46, vT), (51, vT), (56, vT), (61, vT), (66, vF)]], [], [], [(9, (⟨[4], [1], 0, [], [], []⟩, ⟨[], [], []⟩, .ret, ref_Check2_C1_T0 t11))]⟩ ordB40 (fun z => (aL eI e.Deps.Addr (aL eI e.Deps.Data (aL eI e.Deps.Way (aB h1 (aB h2 (aB h3 (aB h4 (aB h5 (aB h6 (aB h7 (aB h8 (aB h9 (aB h10 (aI (ref_Check2_C1_sim n _ t11 gt11) z))))))))))))))) (by kernel_rfl)
  rcases iteN h with ⟨h11, h⟩ | ⟨h11, h⟩
  ·
   obtain ⟨t12, gt12, h⟩ := bindE h
   obtain rfl := soI h
   exact kP ⟨ord40, [rV 1 [(8, (vI (e.Deps.Addr.length : Int))), (12, (vI (e.Deps.Data.length : Int))), (17, (vI (e.Deps.Way.length : Int)))], rV 2 [(22, vT), (27, vT)], rV 3 [(34, vT)], rV 4 [(36, vT), (41, vT), (46, vT), (51, vT), (56, vT), (61, vT), (66, vT), (70, vF)]], [], [], [(9, (⟨[4], [1], 0, [], [], []⟩, ⟨[], [], []⟩, .ret, ref_Check2_C1_T0 t12))]⟩ ordB40 (fun z => (aL eI e.Deps.Addr (aL eI e.Deps.Data (aL eI e.Deps.Way (aB h1 (aB h2 (aB h3 (aB h4 (aB h5 (aB h6 (aB h7 (aB h8 (aB h9 (aB h10 (aB h11 (aI (ref_Check2_C1_sim n _ t12 gt12) z)))))))))))))))) (by kernel_rfl)
  rcases iteN h with ⟨h12, h⟩ | ⟨h12, h⟩
  ·
   obtain ⟨t13, gt13, h⟩ := bindE h
   obtain rfl := soI h
   exact kP ⟨ord40, [rV 1 [(8, (vI (e.Deps.Addr.length : Int))), (12, (vI (e.Deps.Data.length : Int))), (17, (vI (e.Deps.Way.length : Int)))], rV 2 [(22, vT), (27, vT)], rV 3 [(34, vT)], rV 4 [(36, vT), (41, vT), (46, vT), (51, vT), (56, vT), (61, vT), (66, vT), (70, vT), (75, vF)]], [], [], [(9, (⟨[4], [1], 0, [], [], []⟩, ⟨[], [], []⟩, .ret, ref_Check2_C1_T0 t13))]⟩ ordB40 (fun z => (aL eI e.Deps.Addr (aL eI e.Deps.Data (aL eI e.Deps.Way (aB h1 (aB h2 (aB h3 (aB h4 (aB h5 (aB h6 (aB h7 (aB h8 (aB h9 (aB h10 (aB h11 (aB h12 (aI (ref_Check2_C1_sim n _ t13 gt13) z))))))))))))))))) (by kernel_rfl)
  rcases iteN h with ⟨h13, h⟩ | ⟨h13, h⟩
  ·
   obtain ⟨t14, gt14, h⟩ := bindE h
   obtain rfl := soI h
   exact kP ⟨ord40, [rV 1 [(8, (vI (e.Deps.Addr.length : Int))), (12, (vI (e.Deps.Data.length : Int))), (17, (vI (e.Deps.Way.length : Int)))], rV 2 [(22, vT), (27, vT)], rV 3 [(34, vT)], rV 4 [(36, vT), (41, vT), (46, vT), (51, vT), (56, vT), (61, vT), (66, vT), (70, vT), (75, vT), (80, vF)]], [], [], [(9, (⟨[4], [1], 0, [], [], []⟩, ⟨[], [], []⟩, .ret, ref_Check2_C1_T0 t14))]⟩ ordB40 (fun z => (aL eI e.Deps.Addr (aL eI e.Deps.Data (aL eI e.Deps.Way (aB h1 (aB h2 (aB h3 (aB h4 (aB h5 (aB h6 (aB h7 (aB h8 (aB h9 (aB h10 (aB h11 (aB h12 (aB h13 (aI (ref_Check2_C1_sim n _ t14 gt14) z)))))))))))))))))) (by kernel_rfl)
  rcases iteE h with ⟨h14, h⟩ | ⟨h14, h⟩
  ·
   obtain ⟨t15, gt15, h⟩ := bindE h
   obtain rfl := soI h
   exact kP ⟨ord40, [rV 1 [(8, (vI (e.Deps.Addr.length : Int))), (12, (vI (e.Deps.Data.length : Int))), (17, (vI (e.Deps.Way.length : Int)))], rV 2 [(22, vT), (27, vT)], rV 3 [(34, vT)], rV 4 [(36, vT), (41, vT), (46, vT), (51, vT), (56, vT), (61, vT), (66, vT), (70, vT), (75, vT), (80, vT), (85, vT)]], [], [], [(9, (⟨[4], [1], 0, [], [], []⟩, ⟨[], [], []⟩, .ret, ref_Check2_C1_T0 t15))]⟩ ordB40 (fun z => (aL eI e.Deps.Addr (aL eI e.Deps.Data (aL eI e.Deps.Way (aB h1 (aB h2 (aB h3 (aB h4 (aB h5 (aB h6 (aB h7 (aB h8 (aB h9 (aB h10 (aB h11 (aB h12 (aB h13 (aB h14 (aI (ref_Check2_C1_sim n _ t15 gt15) z))))))))))))))))))) (by kernel_rfl)
  obtain ⟨t15, gt15, h⟩ := bindE h
  obtain rfl := soI h
  exact kP ⟨ord40, [rV 1 [(8, (vI (e.Deps.Addr.length : Int))), (12, (vI (e.Deps.Data.length : Int))), (17, (vI (e.Deps.Way.length : Int)))], rV 2 [(22, vT), (27, vT)], rV 3 [(34, vT)], rV 4 [(36, vT), (41, vT), (46, vT), (51, vT), (56, vT), (61, vT), (66, vT), (70, vT), (75, vT), (80, vT), (85, vF)]], [], [], [(9, (⟨[4], [1], 0, [], [], []⟩, ⟨[], [], []⟩, .ret, ref_Check2_C1_T0 t15))]⟩ ordB40 (fun z => (aL eI e.Deps.Addr (aL eI e.Deps.Data (aL eI e.Deps.Way (aB h1 (aB h2 (aB h3 (aB h4 (aB h5 (aB h6 (aB h7 (aB h8 (aB h9 (aB h10 (aB h11 (aB h12 (aB h13 (aB h14 (aI (ref_Check2_C1_sim n _ t15 gt15) z))))))))))))))))))) (by kernel_rfl)
 rcases iteN h with ⟨h4, h⟩ | ⟨h4, h⟩
 ·
  obtain ⟨t5, gt5, h⟩ := bindE h
  obtain ⟨t6, gt6, h⟩ := bindE h
  obtain rfl := soI h
  exact kP ⟨ord40, [rV 1 [(8, (vI (e.Deps.Addr.length : Int))), (12, (vI (e.Deps.Data.length : Int))), (17, (vI (e.Deps.Way.length : Int)))], rV 2 [(22, vT), (27, vT)], rV 3 [(34, vF)], rV 5 [(91, vF)]], [], [], [(6, (⟨[1, 4], [], 0, [], [], []⟩, ⟨[], [], []⟩, .nrm, ref_Check2_C2_T0 e t5)), (9, (⟨[4], [], 0, [], [], []⟩, ⟨[], [], []⟩, .ret, ref_Check2_C1_T0 t6))]⟩ ordB40 (fun z => (aL eI e.Deps.Addr (aL eI e.Deps.Data (aL eI e.Deps.Way (aB h1 (aB h2 (aB h3 (aB h4 (aI (ref_Check2_C2_sim n e _ t5 gt5) (aI (ref_Check2_C1_sim n _ t6 gt6) z)))))))))) (by kernel_rfl)
 obtain ⟨y5, gy5, h⟩ := bindE h
 rcases iteN h with ⟨h6, h⟩ | ⟨h6, h⟩
 ·
  obtain ⟨t7, gt7, h⟩ := bindE h
  obtain ⟨t8, gt8, h⟩ := bindE h
  obtain rfl := soI h
  exact kP ⟨ord40, [rV 1 [(8, (vI (e.Deps.Addr.length : Int))), (12, (vI (e.Deps.Data.length : Int))), (17, (vI (e.Deps.Way.length : Int)))], rV 2 [(22, vT), (27, vT)], rV 3 [(34, vF)], rVC 5 [(91, vT), (95, vF)] [(93, .v (.bool y5))]], [], [], [(6, (⟨[1, 4], [], 0, [], [], []⟩, ⟨[], [], []⟩, .nrm, ref_Check2_C2_T0 e t7)), (9, (⟨[4], [], 0, [], [], []⟩, ⟨[], [], []⟩, .ret, ref_Check2_C1_T0 t8))]⟩ ordB40 (fun z => (aL eI e.Deps.Addr (aL eI e.Deps.Data (aL eI e.Deps.Way (aB h1 (aB h2 (aB h3 (aB h4 (aI (ref_Memory_sim n e y5 gy5) (aB h6 (aI (ref_Check2_C2_sim n e _ t7 gt7) (aI (ref_Check2_C1_sim n _ t8 gt8) z)))))))))))) (by kernel_rfl)
 rcases iteN h with ⟨h7, h⟩ | ⟨h7, h⟩
 ·
  obtain ⟨t8, gt8, h⟩ := bindE h
  obtain ⟨t9, gt9, h⟩ := bindE h
  obtain rfl := soI h
  exact kP ⟨ord40, [rV 1 [(8, (vI (e.Deps.Addr.length : Int))), (12, (vI (e.Deps.Data.length : Int))), (17, (vI (e.Deps.Way.length : Int)))], rV 2 [(22, vT), (27, vT)], rV 3 [(34, vF)], rVC 5 [(91, vT), (95, vT), (101, vF)] [(93, .v (.bool y5))]], [], [], [(6, (⟨[1, 4], [], 0, [], [], []⟩, ⟨[], [], []⟩, .nrm, ref_Check2_C2_T0 e t8)), (9, (⟨[4], [], 0, [], [], []⟩, ⟨[], [], []⟩, .ret, ref_Check2_C1_T0 t9))]⟩ ordB40 (fun z => (aL eI e.Deps.Addr (aL eI e.Deps.Data (aL eI e.Deps.Way (aB h1 (aB h2 (aB h3 (aB h4 (aI (ref_Memory_sim n e y5 gy5) (aB h6 (aB h7 (aI (ref_Check2_C2_sim n e _ t8 gt8) (aI (ref_Check2_C1_sim n _ t9 gt9) z))))))))))))) (by kernel_rfl)
 obtain ⟨y8, gy8, h⟩ := bindE h
 rcases iteE h with ⟨h9, h⟩ | ⟨h9, h⟩
 ·
  obtain ⟨y10, gy10, h⟩ := bindE h
  rcases iteE h with ⟨h11, h⟩ | ⟨h11, h⟩
  ·
   rcases iteE h with ⟨h12, h⟩ | ⟨h12, h⟩
   ·
    obtain ⟨t13, gt13, h⟩ := bindE h
    obtain ⟨t14, gt14, h⟩ := bindE h
    obtain rfl := soI h
    exact kP ⟨ord40, [rV 1 [(8, (vI (e.Deps.Addr.length : Int))), (12, (vI (e.Deps.Data.length : Int))), (17, (vI (e.Deps.Way.length : Int)))], rV 2 [(22, vT), (27, vT)], rV 3 [(34, vF)], rVC 5 [(91, vT), (95, vT), (101, vT), (104, vT), (113, vT), (124, vT)] [(93, .v (.bool y5)), (103, .v (.bool y8)), (112, .v (.bool y10))]], [], [], [(6, (⟨[1, 4], [], 0, [], [], []⟩, ⟨[], [], []⟩, .nrm, ref_Check2_C2_T0 e t13)), (9, (⟨[4], [], 0, [], [], []⟩, ⟨[], [], []⟩, .ret, ref_Check2_C1_T0 t14))]⟩ ordB40 (fun z => (aL eI e.Deps.Addr (aL eI e.Deps.Data (aL eI e.Deps.Way (aB h1 (aB h2 (aB h3 (aB h4 (aI (ref_Memory_sim n e y5 gy5) (aB h6 (aB h7 (aI (ref_Reads_sim n e y8 gy8) (aB h9 (aI (ref_Writes_sim n e y10 gy10) (aB h11 (aB h12 (aI (ref_Check2_C2_sim n e _ t13 gt13) (aI (ref_Check2_C1_sim n _ t14 gt14) z)))))))))))))))))) (by kernel_rfl)
   obtain ⟨t13, gt13, h⟩ := bindE h
   obtain ⟨t14, gt14, h⟩ := bindE h
   obtain rfl := soI h
   exact kP ⟨ord40, [rV 1 [(8, (vI (e.Deps.Addr.length : Int))), (12, (vI (e.Deps.Data.length : Int))), (17, (vI (e.Deps.Way.length : Int)))], rV 2 [(22, vT), (27, vT)], rV 3 [(34, vF)], rVC 5 [(91, vT), (95, vT), (101, vT), (104, vT), (113, vT), (124, vF)] [(93, .v (.bool y5)), (103, .v (.bool y8)), (112, .v (.bool y10))]], [], [], [(6, (⟨[1, 4], [], 0, [], [], []⟩, ⟨[], [], []⟩, .nrm, ref_Check2_C2_T0 e t13)), (9, (⟨[4], [], 0, [], [], []⟩, ⟨[], [], []⟩, .ret, ref_Check2_C1_T0 t14))]⟩ ordB40 (fun z => (aL eI e.Deps.Addr (aL eI e.Deps.Data (aL eI e.Deps.Way (aB h1 (aB h2 (aB h3 (aB h4 (aI (ref_Memory_sim n e y5 gy5) (aB h6 (aB h7 (aI (ref_Reads_sim n e y8 gy8) (aB h9 (aI (ref_Writes_sim n e y10 gy10) (aB h11 (aB h12 (aI (ref_Check2_C2_sim n e _ t13 gt13) (aI (ref_Check2_C1_sim n _ t14 gt14) z)))))))))))))))))) (by kernel_rfl)
  rcases iteN h with ⟨h12, h⟩ | ⟨h12, h⟩
  ·
   obtain ⟨t13, gt13, h⟩ := bindE h
   obtain ⟨t14, gt14, h⟩ := bindE h
   obtain rfl := soI h
   exact kP ⟨ord40, [rV 1 [(8, (vI (e.Deps.Addr.length : Int))), (12, (vI (e.Deps.Data.length : Int))), (17, (vI (e.Deps.Way.length : Int)))], rV 2 [(22, vT), (27, vT)], rV 3 [(34, vF)], rVC 5 [(91, vT), (95, vT), (101, vT), (104, vT), (113, vF), (119, vF)] [(93, .v (.bool y5)), (103, .v (.bool y8)), (112, .v (.bool y10))]], [], [], [(6, (⟨[1, 4], [], 0, [], [], []⟩, ⟨[], [], []⟩, .nrm, ref_Check2_C2_T0 e t13)), (9, (⟨[4], [], 0, [], [], []⟩, ⟨[], [], []⟩, .ret, ref_Check2_C1_T0 t14))]⟩ ordB40 (fun z => (aL eI e.Deps.Addr (aL eI e.Deps.Data (aL eI e.Deps.Way (aB h1 (aB h2 (aB h3 (aB h4 (aI (ref_Memory_sim n e y5 gy5) (aB h6 (aB h7 (aI (ref_Reads_sim n e y8 gy8) (aB h9 (aI (ref_Writes_sim n e y10 gy10) (aB h11 (aB h12 (aI (ref_Check2_C2_sim n e _ t13 gt13) (aI (ref_Check2_C1_sim n _ t14 gt14) z)))))))))))))))))) (by kernel_rfl)
  rcases iteE h with ⟨h13, h⟩ | ⟨h13, h⟩
  ·
   obtain ⟨t14, gt14, h⟩ := bindE h
   obtain ⟨t15, gt15, h⟩ := bindE h
   obtain rfl := soI h
   exact kP ⟨ord40, [rV 1 [(8, (vI (e.Deps.Addr.length : Int))), (12, (vI (e.Deps.Data.length : Int))), (17, (vI (e.Deps.Way.length : Int)))], rV 2 [(22, vT), (27, vT)], rV 3 [(34, vF)], rVC 5 [(91, vT), (95, vT), (101, vT), (104, vT), (113, vF), (119, vT), (124, vT)] [(93, .v (.bool y5)), (103, .v (.bool y8)), (112, .v (.bool y10))]], [], [], [(6, (⟨[1, 4], [], 0, [], [], []⟩, ⟨[], [], []⟩, .nrm, ref_Check2_C2_T0 e t14)), (9, (⟨[4], [], 0, [], [], []⟩, ⟨[], [], []⟩, .ret, ref_Check2_C1_T0 t15))]⟩ ordB40 (fun z => (aL eI e.Deps.Addr (aL eI e.Deps.Data (aL eI e.Deps.Way (aB h1 (aB h2 (aB h3 (aB h4 (aI (ref_Memory_sim n e y5 gy5) (aB h6 (aB h7 (aI (ref_Reads_sim n e y8 gy8) (aB h9 (aI (ref_Writes_sim n e y10 gy10) (aB h11 (aB h12 (aB h13 (aI (ref_Check2_C2_sim n e _ t14 gt14) (aI (ref_Check2_C1_sim n _ t15 gt15) z))))))))))))))))))) (by kernel_rfl)
  obtain ⟨t14, gt14, h⟩ := bindE h
  obtain ⟨t15, gt15, h⟩ := bindE h
  obtain rfl := soI h
  exact kP ⟨ord40, [rV 1 [(8, (vI (e.Deps.Addr.length : Int))), (12, (vI (e.Deps.Data.length : Int))), (17, (vI (e.Deps.Way.length : Int)))], rV 2 [(22, vT), (27, vT)], rV 3 [(34, vF)], rVC 5 [(91, vT), (95, vT), (101, vT), (104, vT), (113, vF), (119, vT), (124, vF)] [(93, .v (.bool y5)), (103, .v (.bool y8)), (112, .v (.bool y10))]], [], [], [(6, (⟨[1, 4], [], 0, [], [], []⟩, ⟨[], [], []⟩, .nrm, ref_Check2_C2_T0 e t14)), (9, (⟨[4], [], 0, [], [], []⟩, ⟨[], [], []⟩, .ret, ref_Check2_C1_T0 t15))]⟩ ordB40 (fun z => (aL eI e.Deps.Addr (aL eI e.Deps.Data (aL eI e.Deps.Way (aB h1 (aB h2 (aB h3 (aB h4 (aI (ref_Memory_sim n e y5 gy5) (aB h6 (aB h7 (aI (ref_Reads_sim n e y8 gy8) (aB h9 (aI (ref_Writes_sim n e y10 gy10) (aB h11 (aB h12 (aB h13 (aI (ref_Check2_C2_sim n e _ t14 gt14) (aI (ref_Check2_C1_sim n _ t15 gt15) z))))))))))))))))))) (by kernel_rfl)
 rcases iteN h with ⟨h10, h⟩ | ⟨h10, h⟩
 ·
  obtain ⟨t11, gt11, h⟩ := bindE h
  obtain ⟨t12, gt12, h⟩ := bindE h
  obtain rfl := soI h
  exact kP ⟨ord40, [rV 1 [(8, (vI (e.Deps.Addr.length : Int))), (12, (vI (e.Deps.Data.length : Int))), (17, (vI (e.Deps.Way.length : Int)))], rV 2 [(22, vT), (27, vT)], rV 3 [(34, vF)], rVC 5 [(91, vT), (95, vT), (101, vT), (104, vF), (110, vF)] [(93, .v (.bool y5)), (103, .v (.bool y8))]], [], [], [(6, (⟨[1, 4], [], 0, [], [], []⟩, ⟨[], [], []⟩, .nrm, ref_Check2_C2_T0 e t11)), (9, (⟨[4], [], 0, [], [], []⟩, ⟨[], [], []⟩, .ret, ref_Check2_C1_T0 t12))]⟩ ordB40 (fun z => (aL eI e.Deps.Addr (aL eI e.Deps.Data (aL eI e.Deps.Way (aB h1 (aB h2 (aB h3 (aB h4 (aI (ref_Memory_sim n e y5 gy5) (aB h6 (aB h7 (aI (ref_Reads_sim n e y8 gy8) (aB h9 (aB h10 (aI (ref_Check2_C2_sim n e _ t11 gt11) (aI (ref_Check2_C1_sim n _ t12 gt12) z)))))))))))))))) (by kernel_rfl)
 obtain ⟨y11, gy11, h⟩ := bindE h
 rcases iteE h with ⟨h12, h⟩ | ⟨h12, h⟩
 ·
  rcases iteE h with ⟨h13, h⟩ | ⟨h13, h⟩
  ·
   obtain ⟨t14, gt14, h⟩ := bindE h
   obtain ⟨t15, gt15, h⟩ := bindE h
   obtain rfl := soI h
   exact kP ⟨ord40, [rV 1 [(8, (vI (e.Deps.Addr.length : Int))), (12, (vI (e.Deps.Data.length : Int))), (17, (vI (e.Deps.Way.length : Int)))], rV 2 [(22, vT), (27, vT)], rV 3 [(34, vF)], rVC 5 [(91, vT), (95, vT), (101, vT), (104, vF), (110, vT), (113, vT), (124, vT)] [(93, .v (.bool y5)), (103, .v (.bool y8)), (112, .v (.bool y11))]], [], [], [(6, (⟨[1, 4], [], 0, [], [], []⟩, ⟨[], [], []⟩, .nrm, ref_Check2_C2_T0 e t14)), (9, (⟨[4], [], 0, [], [], []⟩, ⟨[], [], []⟩, .ret, ref_Check2_C1_T0 t15))]⟩ ordB40 (fun z => (aL eI e.Deps.Addr (aL eI e.Deps.Data (aL eI e.Deps.Way (aB h1 (aB h2 (aB h3 (aB h4 (aI (ref_Memory_sim n e y5 gy5) (aB h6 (aB h7 (aI (ref_Reads_sim n e y8 gy8) (aB h9 (aB h10 (aI (ref_Writes_sim n e y11 gy11) (aB h12 (aB h13 (aI (ref_Check2_C2_sim n e _ t14 gt14) (aI (ref_Check2_C1_sim n _ t15 gt15) z))))))))))))))))))) (by kernel_rfl)
  obtain ⟨t14, gt14, h⟩ := bindE h
  obtain ⟨t15, gt15, h⟩ := bindE h
  obtain rfl := soI h
  exact kP ⟨ord40, [rV 1 [(8, (vI (e.Deps.Addr.length : Int))), (12, (vI (e.Deps.Data.length : Int))), (17, (vI (e.Deps.Way.length : Int)))], rV 2 [(22, vT), (27, vT)], rV 3 [(34, vF)], rVC 5 [(91, vT), (95, vT), (101, vT), (104, vF), (110, vT), (113, vT), (124, vF)] [(93, .v (.bool y5)), (103, .v (.bool y8)), (112, .v (.bool y11))]], [], [], [(6, (⟨[1, 4], [], 0, [], [], []⟩, ⟨[], [], []⟩, .nrm, ref_Check2_C2_T0 e t14)), (9, (⟨[4], [], 0, [], [], []⟩, ⟨[], [], []⟩, .ret, ref_Check2_C1_T0 t15))]⟩ ordB40 (fun z => (aL eI e.Deps.Addr (aL eI e.Deps.Data (aL eI e.Deps.Way (aB h1 (aB h2 (aB h3 (aB h4 (aI (ref_Memory_sim n e y5 gy5) (aB h6 (aB h7 (aI (ref_Reads_sim n e y8 gy8) (aB h9 (aB h10 (aI (ref_Writes_sim n e y11 gy11) (aB h12 (aB h13 (aI (ref_Check2_C2_sim n e _ t14 gt14) (aI (ref_Check2_C1_sim n _ t15 gt15) z))))))))))))))))))) (by kernel_rfl)
 rcases iteN h with ⟨h13, h⟩ | ⟨h13, h⟩
 ·
  obtain ⟨t14, gt14, h⟩ := bindE h
  obtain ⟨t15, gt15, h⟩ := bindE h
  obtain rfl := soI h
  exact kP ⟨ord40, [rV 1 [(8, (vI (e.Deps.Addr.length : Int))), (12, (vI (e.Deps.Data.length : Int))), (17, (vI (e.Deps.Way.length : Int)))], rV 2 [(22, vT), (27, vT)], rV 3 [(34, vF)], rVC 5 [(91, vT), (95, vT), (101, vT), (104, vF), (110, vT), (113, vF), (119, vF)] [(93, .v (.bool y5)), (103, .v (.bool y8)), (112, .v (.bool y11))]], [], [], [(6, (⟨[1, 4], [], 0, [], [], []⟩, ⟨[], [], []⟩, .nrm, ref_Check2_C2_T0 e t14)), (9, (⟨[4], [], 0, [], [], []⟩, ⟨[], [], []⟩, .ret, ref_Check2_C1_T0 t15))]⟩ ordB40 (fun z => (aL eI e.Deps.Addr (aL eI e.Deps.Data (aL eI e.Deps.Way (aB h1 (aB h2 (aB h3 (aB h4 (aI (ref_Memory_sim n e y5 gy5) (aB h6 (aB h7 (aI (ref_Reads_sim n e y8 gy8) (aB h9 (aB h10 (aI (ref_Writes_sim n e y11 gy11) (aB h12 (aB h13 (aI (ref_Check2_C2_sim n e _ t14 gt14) (aI (ref_Check2_C1_sim n _ t15 gt15) z))))))))))))))))))) (by kernel_rfl)
 rcases iteE h with ⟨h14, h⟩ | ⟨h14, h⟩
 ·
  obtain ⟨t15, gt15, h⟩ := bindE h
  obtain ⟨t16, gt16, h⟩ := bindE h
  obtain rfl := soI h
  exact kP ⟨ord40, [rV 1 [(8, (vI (e.Deps.Addr.length : Int))), (12, (vI (e.Deps.Data.length : Int))), (17, (vI (e.Deps.Way.length : Int)))], rV 2 [(22, vT), (27, vT)], rV 3 [(34, vF)], rVC 5 [(91, vT), (95, vT), (101, vT), (104, vF), (110, vT), (113, vF), (119, vT), (124, vT)] [(93, .v (.bool y5)), (103, .v (.bool y8)), (112, .v (.bool y11))]], [], [], [(6, (⟨[1, 4], [], 0, [], [], []⟩, ⟨[], [], []⟩, .nrm, ref_Check2_C2_T0 e t15)), (9, (⟨[4], [], 0, [], [], []⟩, ⟨[], [], []⟩, .ret, ref_Check2_C1_T0 t16))]⟩ ordB40 (fun z => (aL eI e.Deps.Addr (aL eI e.Deps.Data (aL eI e.Deps.Way (aB h1 (aB h2 (aB h3 (aB h4 (aI (ref_Memory_sim n e y5 gy5) (aB h6 (aB h7 (aI (ref_Reads_sim n e y8 gy8) (aB h9 (aB h10 (aI (ref_Writes_sim n e y11 gy11) (aB h12 (aB h13 (aB h14 (aI (ref_Check2_C2_sim n e _ t15 gt15) (aI (ref_Check2_C1_sim n _ t16 gt16) z)))))))))))))))))))) (by kernel_rfl)
 obtain ⟨t15, gt15, h⟩ := bindE h
 obtain ⟨t16, gt16, h⟩ := bindE h
 obtain rfl := soI h
 exact kP ⟨ord40, [rV 1 [(8, (vI (e.Deps.Addr.length : Int))), (12, (vI (e.Deps.Data.length : Int))), (17, (vI (e.Deps.Way.length : Int)))], rV 2 [(22, vT), (27, vT)], rV 3 [(34, vF)], rVC 5 [(91, vT), (95, vT), (101, vT), (104, vF), (110, vT), (113, vF), (119, vT), (124, vF)] [(93, .v (.bool y5)), (103, .v (.bool y8)), (112, .v (.bool y11))]], [], [], [(6, (⟨[1, 4], [], 0, [], [], []⟩, ⟨[], [], []⟩, .nrm, ref_Check2_C2_T0 e t15)), (9, (⟨[4], [], 0, [], [], []⟩, ⟨[], [], []⟩, .ret, ref_Check2_C1_T0 t16))]⟩ ordB40 (fun z => (aL eI e.Deps.Addr (aL eI e.Deps.Data (aL eI e.Deps.Way (aB h1 (aB h2 (aB h3 (aB h4 (aI (ref_Memory_sim n e y5 gy5) (aB h6 (aB h7 (aI (ref_Reads_sim n e y8 gy8) (aB h9 (aB h10 (aI (ref_Writes_sim n e y11 gy11) (aB h12 (aB h13 (aB h14 (aI (ref_Check2_C2_sim n e _ t15 gt15) (aI (ref_Check2_C1_sim n _ t16 gt16) z)))))))))))))))))))) (by kernel_rfl)

def ord24 : List (Nat × PT) := [(8, (ptS [0, 1, 2, 3, 4, 5, 6, 7, 8, 9, 10, 11, 12, 13, 14, 15, 16, 17]))]
theorem ordB24 : ordB (polF 24) ord24 (bodyOf Try.prog 24) = true := by kernel_rfl
noncomputable def c_ref_Row_L1 : Code := sub (bodyOf Try.prog 24) [1, 0, 1, 0, 0]
noncomputable def c_ref_Row_L2 : Code := sub c_ref_Row_L1 [1, 0, 0, 1, 1, 1, 1, 1, 0, 0]
theorem ordB_ref_Row_L2 : ordB (polF 24) ord24 c_ref_Row_L2 = true := by kernel_rfl
def ref_Row_L2_S (hart : Int) (l : (List Event)) (xa2 : Event) (xa8 : Event) (sb : Int × Bool × Int × Int) : St := mkS 76 [(0, (vI hart)), (1, .sl (l.map Event.enc)), (5, (vI sb.2.2.1)), (7, (vI sb.2.2.2)), (22, .ptr (.L 6) 0 0), (23, (vI xa2.Hart)), (24, (vI hart)), (25, .v (.bool (xa2.Hart != hart))), (28, .ptr (.L 6) 0 1), (29, (vI xa2.At)), (30, (vI sb.1)), (31, .v (.bool sb.2.1)), (44, .sl (l.map Event.enc)), (45, .ptr (.L 6) 0 10), (46, (vI xa2.Pair)), (47, .fptr (Event.enc xa8) 0), (48, .fptr (Event.enc xa8) 3), (49, (vU xa8.Addr)), (50, .ptr (.L 6) 0 3), (51, (vU xa2.Addr)), (52, .v (.bool (xa8.Addr != xa2.Addr)))] [(6, (Event.enc xa2))] [] 0
def ref_Row_L2_T0 (hart : Int) (l : (List Event)) (xa2 : Event) (xa8 : Event) (tt : Int × Bool × Int) : St := mkS 76 [(0, (vI hart)), (1, .sl (l.map Event.enc)), (5, (vI tt.2.2)), (22, .ptr (.L 6) 0 0), (23, (vI xa2.Hart)), (24, (vI hart)), (25, .v (.bool (xa2.Hart != hart))), (28, .ptr (.L 6) 0 1), (29, (vI xa2.At)), (30, (vI tt.1)), (31, .v (.bool tt.2.1)), (44, .sl (l.map Event.enc)), (45, .ptr (.L 6) 0 10), (46, (vI xa2.Pair)), (47, .fptr (Event.enc xa8) 0), (48, .fptr (Event.enc xa8) 3), (49, (vU xa8.Addr)), (50, .ptr (.L 6) 0 3), (51, (vU xa2.Addr)), (52, .v (.bool (xa8.Addr != xa2.Addr)))] [(6, (Event.enc xa2))] [] 0
def ref_Row_L2_T1 (hart : Int) (l : (List Event)) (xa2 : Event) (xa8 : Event) (tt : Unit) : St := mkS 76 [(4, (vI 4))] [] [] 0
def ref_Row_L2_out (hart : Int) (l : (List Event)) (xa2 : Event) (xa8 : Event) (t0 : ((Int × Bool × Int) ⊕ Unit)) : Ex × St := match t0 with | .inl tt => (.ex 2, ref_Row_L2_T0 hart l xa2 xa8 tt) | .inr tt => (.ret, ref_Row_L2_T1 hart l xa2 xa8 tt)
theorem ref_Row_L2_sim (n : Nat) (hart : Int) (l : (List Event)) (xa2 : Event) (xa8 : Event) : ∀ sb r, ref_Row_L2 n hart l xa2 xa8 sb = some r → CodeD Try.prog c_ref_Row_L2 (ref_Row_L2_S hart l xa2 xa8 sb) (rk (ref_Row_L2_S hart l xa2 xa8) (ref_Row_L2_out hart l xa2 xa8) r) := by
 intro sb r h
 unfold ref_Row_L2 at h
 rcases iteN h with ⟨hb1, h⟩ | ⟨hb1, h⟩
 ·
  obtain rfl := soI h
  exact kR ⟨ord24, [rV 11 [(59, vF)]], [], [], []⟩ [(4, ⟨[0, 1, 5, 22, 23, 24, 25, 28, 29, 30, 31, 44, 45, 46, 47, 48, 49, 50, 51, 52], [], 0, [], [], []⟩, ⟨[], [], []⟩)] ordB_ref_Row_L2 (rkE rfl neE) (fun z => (aB hb1 z)) (by kernel_rfl)
 obtain ⟨xb2, gxb2, h⟩ := bindE h
 rcases iteE h with ⟨hb3, h⟩ | ⟨hb3, h⟩
 ·
  obtain rfl := soI h
  exact kR ⟨ord24, [rV 11 [(59, vT)], (13, ⟨[], [], [(64, (Event.enc xb2))], [(68, vT)], [], [], [], []⟩)], [], [], []⟩ [(1, ⟨[4], [6], 0, [], [], []⟩, ⟨[], [], []⟩)] ordB_ref_Row_L2 (rkE rfl neR) (fun z => (aB hb1 (aM Event.enc gxb2 (aB hb3 z)))) (by kernel_rfl)
 rcases iteE h with ⟨hb4, h⟩ | ⟨hb4, h⟩
 ·
  obtain rfl := soI h
  exact kR ⟨ord24, [rV 11 [(59, vT)], (13, ⟨[], [], [(64, (Event.enc xb2)), (71, (Event.enc xb2))], [(68, vF), (75, vT)], [], [], [], []⟩)], [], [], []⟩ [(1, ⟨[4], [6], 0, [], [], []⟩, ⟨[], [], []⟩)] ordB_ref_Row_L2 (rkE rfl neR) (fun z => (aB hb1 (aM Event.enc gxb2 (aB hb3 (aM Event.enc gxb2 (aB hb4 z)))))) (by kernel_rfl)
 obtain rfl := soI h
 exact kR ⟨ord24, [rV 11 [(59, vT)], (13, ⟨[], [], [(64, (Event.enc xb2)), (71, (Event.enc xb2))], [(68, vF), (75, vF)], [], [], [], []⟩)], [], [], []⟩ [(0, ⟨[0, 1, 5, 7, 22, 23, 24, 25, 28, 29, 30, 31, 44, 45, 46, 47, 48, 49, 50, 51, 52], [], 0, [], [], []⟩, ⟨[], [], []⟩)] ordB_ref_Row_L2 rkN (fun z => (aB hb1 (aM Event.enc gxb2 (aB hb3 (aM Event.enc gxb2 (aB hb4 z)))))) (by kernel_rfl)

theorem ordB_ref_Row_L1 : ordB (polF 24) ord24 c_ref_Row_L1 = true := by kernel_rfl
def ref_Row_L1_S (hart : Int) (l : (List Event)) (sa : Int) : St := mkS 76 [(0, (vI hart)), (1, .sl (l.map Event.enc)), (5, (vI sa))] [] [] 0
def ref_Row_L1_T0 (hart : Int) (l : (List Event)) (tt : Unit) : St := mkS 76 [] [] [] 0
def ref_Row_L1_T1 (hart : Int) (l : (List Event)) (tt : Unit) : St := mkS 76 [(4, (vI 4))] [] [] 0
def ref_Row_L1_out (hart : Int) (l : (List Event)) (t0 : (Unit ⊕ Unit)) : Ex × St := match t0 with | .inl tt => (.ex 0, ref_Row_L1_T0 hart l tt) | .inr tt => (.ret, ref_Row_L1_T1 hart l tt)
theorem ref_Row_L1_sim (n : Nat) (hart : Int) (l : (List Event)) : ∀ sa r, ref_Row_L1 n hart l sa = some r → CodeD Try.prog c_ref_Row_L1 (ref_Row_L1_S hart l sa) (rk (ref_Row_L1_S hart l) (ref_Row_L1_out hart l) r) := by
 intro sa r h
 unfold ref_Row_L1 at h
 rcases iteN h with ⟨ha1, h⟩ | ⟨ha1, h⟩
 ·
  obtain rfl := soI h
  exact kR ⟨ord24, [rV 2 [(10, (vI (l.length : Int))), (11, vF)]], [], [], []⟩ [(2, ⟨[], [], 0, [], [], []⟩, ⟨[], [], []⟩)] ordB_ref_Row_L1 (rkE rfl neE) (fun z => (aL Event.enc l (aB ha1 z))) (by kernel_rfl)
 obtain ⟨xa2, gxa2, h⟩ := bindE h
 obtain ⟨ya3, gya3, h⟩ := bindE h
 rcases iteE h with ⟨ha4, h⟩ | ⟨ha4, h⟩
 ·
  obtain rfl := soI h
  exact kR ⟨ord24, [rV 2 [(10, (vI (l.length : Int))), (11, vT)], (4, ⟨[], [], [(16, (Event.enc xa2))], [], [], [], [], []⟩), rVC 5 [(21, vT)] [(19, (vI ya3))]], [], [], []⟩ [(1, ⟨[4], [6], 0, [], [], []⟩, ⟨[], [], []⟩)] ordB_ref_Row_L1 (rkE rfl neR) (fun z => (aL Event.enc l (aB ha1 (aM Event.enc gxa2 (aI (ref_Check2_sim n xa2 ya3 gya3) (aB ha4 z)))))) (by kernel_rfl)
 rcases iteE h with ⟨ha5, h⟩ | ⟨ha5, h⟩
 ·
  obtain rfl := soI h
  exact kR ⟨ord24, [rV 2 [(10, (vI (l.length : Int))), (11, vT)], (4, ⟨[], [], [(16, (Event.enc xa2))], [], [], [], [], []⟩), rVC 5 [(21, vF), (27, vT)] [(19, (vI ya3))]], [], [], []⟩ [(1, ⟨[4], [6], 0, [], [], []⟩, ⟨[], [], []⟩)] ordB_ref_Row_L1 (rkE rfl neR) (fun z => (aL Event.enc l (aB ha1 (aM Event.enc gxa2 (aI (ref_Check2_sim n xa2 ya3 gya3) (aB ha4 (aB ha5 z))))))) (by kernel_rfl)
 rcases iteE h with ⟨ha6, h⟩ | ⟨ha6, h⟩
 ·
  obtain rfl := soI h
  exact kR ⟨ord24, [rV 2 [(10, (vI (l.length : Int))), (11, vT)], (4, ⟨[], [], [(16, (Event.enc xa2))], [], [], [], [], []⟩), rVC 5 [(21, vF), (27, vF), (32, vT)] [(19, (vI ya3))]], [], [], []⟩ [(1, ⟨[4], [6], 0, [], [], []⟩, ⟨[], [], []⟩)] ordB_ref_Row_L1 (rkE rfl neR) (fun z => (aL Event.enc l (aB ha1 (aM Event.enc gxa2 (aI (ref_Check2_sim n xa2 ya3 gya3) (aB ha4 (aB ha5 (aB ha6 z)))))))) (by kernel_rfl)
 rcases iteE h with ⟨ha7, h⟩ | ⟨ha7, h⟩
 ·
  obtain rfl := soI h
  exact kR ⟨ord24, [rV 2 [(10, (vI (l.length : Int))), (11, vT)], (4, ⟨[], [], [(16, (Event.enc xa2))], [], [], [], [], []⟩), rVC 5 [(21, vF), (27, vF), (32, vF)] [(19, (vI ya3))], rV 7 [(35, vT)]], [], [], []⟩ [(0, ⟨[0, 1, 5], [6], 0, [], [], []⟩, ⟨[], [], []⟩)] ordB_ref_Row_L1 rkN (fun z => (aL Event.enc l (aB ha1 (aM Event.enc gxa2 (aI (ref_Check2_sim n xa2 ya3 gya3) (aB ha4 (aB ha5 (aB ha6 (aB ha7 z))))))))) (by kernel_rfl)
 obtain ⟨xa8, gxa8, h⟩ := bindE h
 rcases iteE h with ⟨ha9, h⟩ | ⟨ha9, h⟩
 ·
  obtain rfl := soI h
  exact kR ⟨ord24, [rV 2 [(10, (vI (l.length : Int))), (11, vT)], (4, ⟨[], [], [(16, (Event.enc xa2))], [], [], [], [], []⟩), rVC 5 [(21, vF), (27, vF), (32, vF)] [(19, (vI ya3))], rV 7 [(35, vF)], (8, ⟨[], [], [(39, (Event.enc xa8))], [(43, vT)], [], [], [], []⟩)], [], [], []⟩ [(1, ⟨[4], [6], 0, [], [], []⟩, ⟨[], [], []⟩)] ordB_ref_Row_L1 (rkE rfl neR) (fun z => (aL Event.enc l (aB ha1 (aM Event.enc gxa2 (aI (ref_Check2_sim n xa2 ya3 gya3) (aB ha4 (aB ha5 (aB ha6 (aB ha7 (aM Event.enc gxa8 (aB ha9 z))))))))))) (by kernel_rfl)
 rcases iteE h with ⟨ha10, h⟩ | ⟨ha10, h⟩
 ·
  obtain rfl := soI h
  exact kR ⟨ord24, [rV 2 [(10, (vI (l.length : Int))), (11, vT)], (4, ⟨[], [], [(16, (Event.enc xa2))], [], [], [], [], []⟩), rVC 5 [(21, vF), (27, vF), (32, vF)] [(19, (vI ya3))], rV 7 [(35, vF)], (8, ⟨[], [], [(39, (Event.enc xa8)), (47, (Event.enc xa8))], [(43, vF), (53, vT)], [], [], [], []⟩)], [], [], []⟩ [(1, ⟨[4], [6], 0, [], [], []⟩, ⟨[], [], []⟩)] ordB_ref_Row_L1 (rkE rfl neR) (fun z => (aL Event.enc l (aB ha1 (aM Event.enc gxa2 (aI (ref_Check2_sim n xa2 ya3 gya3) (aB ha4 (aB ha5 (aB ha6 (aB ha7 (aM Event.enc gxa8 (aB ha9 (aM Event.enc gxa8 (aB ha10 z))))))))))))) (by kernel_rfl)
 obtain ⟨ta11, gta11, h⟩ := bindE h
 rcases ta11 with wa12 | wa12
 ·
  obtain rfl := soI h
  exact kR ⟨ord24, [rV 2 [(10, (vI (l.length : Int))), (11, vT)], (4, ⟨[], [], [(16, (Event.enc xa2))], [], [], [], [], []⟩), rVC 5 [(21, vF), (27, vF), (32, vF)] [(19, (vI ya3))], rV 7 [(35, vF)], (8, ⟨[], [], [(39, (Event.enc xa8)), (47, (Event.enc xa8))], [(43, vF), (53, vF)], [], [], [], []⟩)], [], [(11, (⟨[0, 1, 5, 7, 22, 23, 24, 25, 28, 29, 30, 31, 44, 45, 46, 47, 48, 49, 50, 51, 52], [], 0, [], [], []⟩, ⟨[], [], []⟩, (.ex 2), ref_Row_L2_T0 hart l xa2 xa8 wa12))], []⟩ [(0, ⟨[0, 1, 5], [6], 0, [], [], []⟩, ⟨[], [], []⟩)] ordB_ref_Row_L1 rkN (fun z => (aL Event.enc l (aB ha1 (aM Event.enc gxa2 (aI (ref_Check2_sim n xa2 ya3 gya3) (aB ha4 (aB ha5 (aB ha6 (aB ha7 (aM Event.enc gxa8 (aB ha9 (aM Event.enc gxa8 (aB ha10 (aI (okL (pl := polF 24) (ref_Row_L2_S hart l xa2 xa8) (ref_Row_L2_out hart l xa2 xa8) (ref_Row_L2_sim n hart l xa2 xa8) n _ (.inl wa12) gta11) z)))))))))))))) (by kernel_rfl)
 ·
  obtain rfl := soI h
  exact kR ⟨ord24, [rV 2 [(10, (vI (l.length : Int))), (11, vT)], (4, ⟨[], [], [(16, (Event.enc xa2))], [], [], [], [], []⟩), rVC 5 [(21, vF), (27, vF), (32, vF)] [(19, (vI ya3))], rV 7 [(35, vF)], (8, ⟨[], [], [(39, (Event.enc xa8)), (47, (Event.enc xa8))], [(43, vF), (53, vF)], [], [], [], []⟩)], [], [(11, (⟨[0, 1, 5, 7, 22, 23, 24, 25, 28, 29, 30, 31, 44, 45, 46, 47, 48, 49, 50, 51, 52], [], 0, [], [], []⟩, ⟨[], [], []⟩, .ret, ref_Row_L2_T1 hart l xa2 xa8 wa12))], []⟩ [(1, ⟨[4], [], 0, [], [], []⟩, ⟨[], [], []⟩)] ordB_ref_Row_L1 (rkE rfl neR) (fun z => (aL Event.enc l (aB ha1 (aM Event.enc gxa2 (aI (ref_Check2_sim n xa2 ya3 gya3) (aB ha4 (aB ha5 (aB ha6 (aB ha7 (aM Event.enc gxa8 (aB ha9 (aM Event.enc gxa8 (aB ha10 (aI (okL (pl := polF 24) (ref_Row_L2_S hart l xa2 xa8) (ref_Row_L2_out hart l xa2 xa8) (ref_Row_L2_sim n hart l xa2 xa8) n _ (.inr wa12) gta11) z)))))))))))))) (by kernel_rfl)

theorem ref_Row_sim (n : Nat) (hart : Int) (l : (List Event)) (r : Int) (h : ref_Row n hart l = some r) : PCall Try.prog 24 [(vI hart), .sl (l.map Event.enc)] (eqA ((vI r))) := by
 unfold ref_Row at h
 obtain ⟨t1, gt1, h⟩ := bindE h
 rcases t1 with w2 | w2
 ·
  obtain rfl := soI h
  exact kP ⟨ord24, [], [], [(2, (⟨[0, 1, 5], [], 0, [], [], []⟩, ⟨[], [], []⟩, (.ex 0), ref_Row_L1_T0 hart l w2))], []⟩ ordB24 (fun z => (aI (okL (pl := polF 24) (ref_Row_L1_S hart l) (ref_Row_L1_out hart l) (ref_Row_L1_sim n hart l) n _ (.inl w2) gt1) z)) (by kernel_rfl)
 ·
  obtain rfl := soI h
  exact kP ⟨ord24, [], [], [(2, (⟨[0, 1, 5], [], 0, [], [], []⟩, ⟨[], [], []⟩, .ret, ref_Row_L1_T1 hart l w2))], []⟩ ordB24 (fun z => (aI (okL (pl := polF 24) (ref_Row_L1_S hart l) (ref_Row_L1_out hart l) (ref_Row_L1_sim n hart l) n _ (.inr w2) gt1) z)) (by kernel_rfl)

def ord41 : List (Nat × PT) := [(1, (ptS [0, 1, 2, 3, 4, 5, 6, 7, 8, 9, 10, 11, 12, 13]))]
theorem ordB41 : ordB (polF 41) ord41 (bodyOf Try.prog 41) = true := by kernel_rfl
theorem ref_Copy_sim (n : Nat) (d : Deps) (r : Deps) (h : ref_Copy n d = some r) : PCall Try.prog 41 [(aAgg Deps.enc d)] (eqA ((aAgg Deps.enc r))) := by
 unfold ref_Copy at h
 obtain ⟨h1, h⟩ := grdE h
 obtain ⟨h2, h⟩ := grdE h
 obtain ⟨h3, h⟩ := grdE h
 obtain rfl := soI h
 exact kP ⟨ord41, [], [], [], []⟩ ordB41 (fun z => (aI (szM : szOk 1 (d.Addr.map eI) = true) (aI (okM : okRows (d.Addr.map eI) = true) (aI (ble_map h1 : Nat.ble ((d.Addr.map eI).length * 8) 140737488355328 = true) (aI (szM : szOk 1 (d.Data.map eI) = true) (aI (okM : okRows (d.Data.map eI) = true) (aI (ble_map h2 : Nat.ble ((d.Data.map eI).length * 8) 140737488355328 = true) (aI (szM : szOk 1 (d.Way.map eI) = true) (aI (okM : okRows (d.Way.map eI) = true) (aI (ble_map h3 : Nat.ble ((d.Way.map eI).length * 8) 140737488355328 = true) z)))))))))) (by kernel_rfl)

def ord25 : List (Nat × PT) := []
theorem ordB25 : ordB (polF 25) ord25 (bodyOf Try.prog 25) = true := by kernel_rfl
noncomputable def c_ref_flat_L1 : Code := sub (bodyOf Try.prog 25) [1, 1, 0, 1, 0, 0]
noncomputable def c_ref_flat_L2 : Code := sub c_ref_flat_L1 [1, 0, 0, 1, 0, 0]
theorem ordB_ref_flat_L2 : ordB (polF 25) ord25 c_ref_flat_L2 = true := by kernel_rfl
def ref_flat_L2_S (c : Cand) (sb : (List Event) × Int × Int) : St := mkS 41 [(1, .ptr (.L 1) 0 0), (3, .mf 0), (4, (vI sb.2.1)), (5, (vI sb.2.2))] [(1, (Cand.enc c))] [.arr true 14 (sb.1.map Event.enc)] 0
def ref_flat_L2_T0 (c : Cand) (tt : (List Event) × Int) : St := mkS 41 [(1, .ptr (.L 1) 0 0), (3, .mf 0), (4, (vI tt.2))] [(1, (Cand.enc c))] [.arr true 14 (tt.1.map Event.enc)] 0
def ref_flat_L2_out (c : Cand) (tt : ((List Event) × Int)) : Ex × St := (.ex 2, ref_flat_L2_T0 c tt)
theorem ref_flat_L2_sim (n : Nat) (c : Cand) : ∀ sb r, ref_flat_L2 n c sb = some r → CodeD Try.prog c_ref_flat_L2 (ref_flat_L2_S c sb) (rk (ref_flat_L2_S c) (ref_flat_L2_out c) r) := by
 intro sb r h
 unfold ref_flat_L2 at h
 obtain ⟨xb1, gxb1, h⟩ := bindE h
 rcases iteN h with ⟨hb2, h⟩ | ⟨hb2, h⟩
 ·
  obtain rfl := soI h
  exact kR ⟨ord25, [(6, ⟨[], [], [(18, [.sl (xb1.map Event.enc)])], [(20, (vI (xb1.length : Int))), (21, vF)], [], [], [], []⟩)], [], [], []⟩ [(4, ⟨[1, 3, 4], [], 1, [], [], []⟩, ⟨[], [], []⟩)] ordB_ref_flat_L2 (rkE rfl neE) (fun z => (aM (eSl Event.enc) gxb1 (aL Event.enc xb1 (aB hb2 z)))) (by kernel_rfl)
 obtain ⟨xb3, gxb3, h⟩ := bindE h
 obtain ⟨yb4, gyb4, h⟩ := bindE h
 obtain ⟨hb5, h⟩ := grdE h
 obtain rfl := soI h
 exact kR ⟨ord25, [(6, ⟨[], [], [(18, [.sl (xb1.map Event.enc)])], [(20, (vI (xb1.length : Int))), (21, vT)], [], [], [], []⟩), (8, ⟨[], [], [(27, [.sl (xb1.map Event.enc)]), (30, (Event.enc xb3))], [], [], [], [], []⟩), rVC 9 [] [(34, (aAgg Deps.enc yb4))], (10, ⟨[], [39], [], [], [], [], [(39, (0, (sb.1 ++ ([(Event.mk xb3.Hart xb3.At xb3.Kind xb3.Addr xb3.Load xb3.Store xb3.Aq xb3.Rl xb3.Pred xb3.Succ xb3.Pair yb4)] : List Event)).map Event.enc))], []⟩)], [], [], []⟩ [(0, ⟨[1, 3, 4, 5], [6], 1, [], [], []⟩, ⟨[], [], []⟩)] ordB_ref_flat_L2 rkN (fun z => (aM (eSl Event.enc) gxb1 (aL Event.enc xb1 (aB hb2 (aM (eSl Event.enc) gxb1 (aM Event.enc gxb3 (aI (ref_Copy_sim n xb3.Deps yb4 gyb4) (aI (rfl : szOk 14 [[(vI xb3.Hart), (vI xb3.At), (vI xb3.Kind), (vU xb3.Addr), (vU xb3.Load), (vU xb3.Store), .v (.bool xb3.Aq), .v (.bool xb3.Rl), (vI xb3.Pred), (vI xb3.Succ), (vI xb3.Pair), .sl (yb4.Addr.map eI), .sl (yb4.Data.map eI), .sl (yb4.Way.map eI)]] = true) (aI (rfl : okRows [[(vI xb3.Hart), (vI xb3.At), (vI xb3.Kind), (vU xb3.Addr), (vU xb3.Load), (vU xb3.Store), .v (.bool xb3.Aq), .v (.bool xb3.Rl), (vI xb3.Pred), (vI xb3.Succ), (vI xb3.Pair), .sl (yb4.Addr.map eI), .sl (yb4.Data.map eI), .sl (yb4.Way.map eI)]] = true) (aI (ble_maps1 hb5 : Nat.ble (((sb.1.map Event.enc).length + 1) * 152) 140737488355328 = true) (aI (app_map Event.enc sb.1 ([(Event.mk xb3.Hart xb3.At xb3.Kind xb3.Addr xb3.Load xb3.Store xb3.Aq xb3.Rl xb3.Pred xb3.Succ xb3.Pair yb4)] : List Event)) z))))))))))) (by kernel_rfl)

theorem ordB_ref_flat_L1 : ordB (polF 25) ord25 c_ref_flat_L1 = true := by kernel_rfl
def ref_flat_L1_S (c : Cand) (sa : (List Event) × Int) : St := mkS 41 [(1, .ptr (.L 1) 0 0), (3, .mf 0), (4, (vI sa.2))] [(1, (Cand.enc c))] [.arr true 14 (sa.1.map Event.enc)] 0
def ref_flat_L1_T0 (c : Cand) (tt : (List Event)) : St := mkS 41 [(3, .mf 0)] [] [.arr true 14 (tt.map Event.enc)] 0
def ref_flat_L1_out (c : Cand) (tt : ((List Event))) : Ex × St := (.ex 0, ref_flat_L1_T0 c tt)
theorem ref_flat_L1_sim (n : Nat) (c : Cand) : ∀ sa r, ref_flat_L1 n c sa = some r → CodeD Try.prog c_ref_flat_L1 (ref_flat_L1_S c sa) (rk (ref_flat_L1_S c) (ref_flat_L1_out c) r) := by
 intro sa r h
 unfold ref_flat_L1 at h
 rcases iteN h with ⟨ha1, h⟩ | ⟨ha1, h⟩
 ·
  obtain rfl := soI h
  exact kR ⟨ord25, [rV 3 [(10, (vI (c.Harts.length : Int))), (11, vF)]], [], [], []⟩ [(2, ⟨[3], [1], 1, [], [], []⟩, ⟨[], [], []⟩)] ordB_ref_flat_L1 (rkE rfl neE) (fun z => (aL (eSl Event.enc) c.Harts (aB ha1 z))) (by kernel_rfl)
 obtain ⟨ta2, gta2, h⟩ := bindE h
 obtain rfl := soI h
 exact kR ⟨ord25, [rV 3 [(10, (vI (c.Harts.length : Int))), (11, vT)]], [], [(6, (⟨[1, 3, 4, 5], [], 1, [], [], []⟩, ⟨[], [], []⟩, (.ex 2), ref_flat_L2_T0 c ta2))], []⟩ [(0, ⟨[1, 3, 4], [], 1, [], [], []⟩, ⟨[], [], []⟩)] ordB_ref_flat_L1 rkN (fun z => (aL (eSl Event.enc) c.Harts (aB ha1 (aI (okL (pl := polF 25) (ref_flat_L2_S c) (ref_flat_L2_out c) (ref_flat_L2_sim n c) n _ ta2 gta2) z)))) (by kernel_rfl)

theorem ref_flat_sim (n : Nat) (c : Cand) (r : (List Event)) (h : ref_flat n c = some r) : PCall Try.prog 25 [(aAgg Cand.enc c)] (eqA (.sl (r.map Event.enc))) := by
 unfold ref_flat at h
 obtain ⟨t1, gt1, h⟩ := bindE h
 obtain rfl := soI h
 exact kP ⟨ord25, [], [], [(3, (⟨[1, 3, 4], [], 0, [(3, 14)], [], []⟩, ⟨[], [], []⟩, (.ex 0), ref_flat_L1_T0 c t1))], []⟩ ordB25 (fun z => (aI (okL (pl := polF 25) (ref_flat_L1_S c) (ref_flat_L1_out c) (ref_flat_L1_sim n c) n _ t1 gt1) z)) (by kernel_rfl)

def ord42 : List (Nat × PT) := []
theorem ordB42 : ordB (polF 42) ord42 (bodyOf Try.prog 42) = true := by kernel_rfl
noncomputable def c_ref_first_L1 : Code := sub (bodyOf Try.prog 42) [1, 0, 1, 0, 0]
theorem ordB_ref_first_L1 : ordB (polF 42) ord42 c_ref_first_L1 = true := by kernel_rfl
def ref_first_L1_S (l : (List Cell)) (addr : Int) (sa : Int) : St := mkS 24 [(0, .sl (l.map Cell.enc)), (1, (vU addr)), (5, (vI sa))] [] [] 0
def ref_first_L1_T0 (l : (List Cell)) (addr : Int) (tt : Unit) : St := mkS 24 [] [] [] 0
def ref_first_L1_T1 (l : (List Cell)) (addr : Int) (tt : Int) : St := mkS 24 [(4, (vU tt))] [] [] 0
def ref_first_L1_out (l : (List Cell)) (addr : Int) (t0 : (Unit ⊕ Int)) : Ex × St := match t0 with | .inl tt => (.ex 0, ref_first_L1_T0 l addr tt) | .inr tt => (.ret, ref_first_L1_T1 l addr tt)
theorem ref_first_L1_sim (n : Nat) (l : (List Cell)) (addr : Int) : ∀ sa r, ref_first_L1 n l addr sa = some r → CodeD Try.prog c_ref_first_L1 (ref_first_L1_S l addr sa) (rk (ref_first_L1_S l addr) (ref_first_L1_out l addr) r) := by
 intro sa r h
 unfold ref_first_L1 at h
 rcases iteN h with ⟨ha1, h⟩ | ⟨ha1, h⟩
 ·
  obtain rfl := soI h
  exact kR ⟨ord42, [rV 2 [(8, (vI (l.length : Int))), (9, vF)]], [], [], []⟩ [(2, ⟨[], [], 0, [], [], []⟩, ⟨[], [], []⟩)] ordB_ref_first_L1 (rkE rfl neE) (fun z => (aL Cell.enc l (aB ha1 z))) (by kernel_rfl)
 obtain ⟨xa2, gxa2, h⟩ := bindE h
 rcases iteN h with ⟨ha3, h⟩ | ⟨ha3, h⟩
 ·
  obtain rfl := soI h
  exact kR ⟨ord42, [rV 2 [(8, (vI (l.length : Int))), (9, vT)], (4, ⟨[], [], [(14, (Cell.enc xa2))], [(18, vF)], [], [], [], []⟩)], [], [], []⟩ [(0, ⟨[0, 1, 5], [], 0, [], [], []⟩, ⟨[], [], []⟩)] ordB_ref_first_L1 rkN (fun z => (aL Cell.enc l (aB ha1 (aM Cell.enc gxa2 (aB ha3 z))))) (by kernel_rfl)
 obtain rfl := soI h
 exact kR ⟨ord42, [rV 2 [(8, (vI (l.length : Int))), (9, vT)], (4, ⟨[], [], [(14, (Cell.enc xa2))], [(18, vT)], [], [], [], []⟩), (5, ⟨[], [], [(21, (Cell.enc xa2))], [], [], [], [], []⟩)], [], [], []⟩ [(1, ⟨[4], [], 0, [], [], []⟩, ⟨[], [], []⟩)] ordB_ref_first_L1 (rkE rfl neR) (fun z => (aL Cell.enc l (aB ha1 (aM Cell.enc gxa2 (aB ha3 (aM Cell.enc gxa2 z)))))) (by kernel_rfl)

theorem ref_first_sim (n : Nat) (l : (List Cell)) (addr : Int) (r : Int) (h : ref_first n l addr = some r) : PCall Try.prog 42 [.sl (l.map Cell.enc), (vU addr)] (eqA ((vU r))) := by
 unfold ref_first at h
 obtain ⟨t1, gt1, h⟩ := bindE h
 rcases t1 with w2 | w2
 ·
  obtain rfl := soI h
  exact kP ⟨ord42, [], [], [(2, (⟨[0, 1, 5], [], 0, [], [], []⟩, ⟨[], [], []⟩, (.ex 0), ref_first_L1_T0 l addr w2))], []⟩ ordB42 (fun z => (aI (okL (pl := polF 42) (ref_first_L1_S l addr) (ref_first_L1_out l addr) (ref_first_L1_sim n l addr) n _ (.inl w2) gt1) z)) (by kernel_rfl)
 ·
  obtain rfl := soI h
  exact kP ⟨ord42, [], [], [(2, (⟨[0, 1, 5], [], 0, [], [], []⟩, ⟨[], [], []⟩, .ret, ref_first_L1_T1 l addr w2))], []⟩ ordB42 (fun z => (aI (okL (pl := polF 42) (ref_first_L1_S l addr) (ref_first_L1_out l addr) (ref_first_L1_sim n l addr) n _ (.inr w2) gt1) z)) (by kernel_rfl)

def ord26 : List (Nat × PT) := [(1, (ptS [0, 1, 2, 3, 4, 5, 6, 7, 8, 9, 10, 11])), (5, (ptS [0, 1, 2, 3, 4, 5, 6, 7, 8])), (8, (ptS [0, 1, 2, 3, 4, 5, 6, 7, 8, 9, 10, 11, 12, 13, 14, 15, 16, 17, 18, 19, 20, 21, 22, 23, 24, 25]))]
theorem ordB26 : ordB (polF 26) ord26 (bodyOf Try.prog 26) = true := by kernel_rfl
theorem ref_from_sim (n : Nat) (c : Cand) (all : (List Event)) (n_ : Int) (r : Bool) (h : ref_from n c all n_ = some r) : PCall Try.prog 26 [(aAgg Cand.enc c), .sl (all.map Event.enc), (vI n_)] (eqA (.v (.bool r))) := by
 unfold ref_from at h
 obtain ⟨x1, gx1, h⟩ := bindE h
 obtain ⟨x2, gx2, h⟩ := bindE h
 obtain ⟨y3, gy3, h⟩ := bindE h
 rcases iteE h with ⟨h4, h⟩ | ⟨h4, h⟩
 ·
  obtain rfl := soI h
  exact kP ⟨ord26, [(1, ⟨[], [], [(11, (Event.enc x1)), (16, [(vI x2)])], [], [], [], [], []⟩), rVC 2 [(18, vT)] [(20, .v (.bool y3))]], [], [], []⟩ ordB26 (fun z => (aM Event.enc gx1 (aM eI gx2 (aI (ref_Reads_sim n x1 y3 gy3) (aB h4 z))))) (by kernel_rfl)
 rcases iteE h with ⟨h5, h⟩ | ⟨h5, h⟩
 ·
  obtain ⟨y6, gy6, h⟩ := bindE h
  obtain rfl := soI h
  exact kP ⟨ord26, [(1, ⟨[], [], [(11, (Event.enc x1)), (16, [(vI x2)])], [], [], [], [], []⟩), rVC 2 [(18, vF)] [(20, .v (.bool y3))], rV 4 [(24, vT)], rVC 5 [] [(33, (vU y6))]], [], [], []⟩ ordB26 (fun z => (aM Event.enc gx1 (aM eI gx2 (aI (ref_Reads_sim n x1 y3 gy3) (aB h4 (aB h5 (aI (ref_first_sim n c.First x1.Addr y6 gy6) z))))))) (by kernel_rfl)
 rcases iteE h with ⟨h6, h⟩ | ⟨h6, h⟩
 ·
  obtain rfl := soI h
  exact kP ⟨ord26, [(1, ⟨[], [], [(11, (Event.enc x1)), (16, [(vI x2)])], [], [], [], [], []⟩), rVC 2 [(18, vF)] [(20, .v (.bool y3))], rV 4 [(24, vF)], rV 6 [(38, vT)]], [], [], []⟩ ordB26 (fun z => (aM Event.enc gx1 (aM eI gx2 (aI (ref_Reads_sim n x1 y3 gy3) (aB h4 (aB h5 (aB h6 z))))))) (by kernel_rfl)
 rcases iteE h with ⟨h7, h⟩ | ⟨h7, h⟩
 ·
  obtain rfl := soI h
  exact kP ⟨ord26, [(1, ⟨[], [], [(11, (Event.enc x1)), (16, [(vI x2)])], [], [], [], [], []⟩), rVC 2 [(18, vF)] [(20, .v (.bool y3))], rV 4 [(24, vF)], rV 6 [(38, vF), (41, (vI (all.length : Int))), (44, vT)]], [], [], []⟩ ordB26 (fun z => (aM Event.enc gx1 (aM eI gx2 (aI (ref_Reads_sim n x1 y3 gy3) (aB h4 (aB h5 (aB h6 (aL Event.enc all (aB h7 z))))))))) (by kernel_rfl)
 rcases iteE h with ⟨h8, h⟩ | ⟨h8, h⟩
 ·
  obtain rfl := soI h
  exact kP ⟨ord26, [(1, ⟨[], [], [(11, (Event.enc x1)), (16, [(vI x2)])], [], [], [], [], []⟩), rVC 2 [(18, vF)] [(20, .v (.bool y3))], rV 4 [(24, vF)], rV 6 [(35, vT), (38, vF), (41, (vI (all.length : Int))), (44, vF)]], [], [], []⟩ ordB26 (fun z => (aM Event.enc gx1 (aM eI gx2 (aI (ref_Reads_sim n x1 y3 gy3) (aB h4 (aB h5 (aB h6 (aL Event.enc all (aB h7 (aB h8 z)))))))))) (by kernel_rfl)
 obtain ⟨x9, gx9, h⟩ := bindE h
 obtain ⟨y10, gy10, h⟩ := bindE h
 rcases iteN h with ⟨h11, h⟩ | ⟨h11, h⟩
 ·
  obtain rfl := soI h
  exact kP ⟨ord26, [(1, ⟨[], [], [(11, (Event.enc x1)), (16, [(vI x2)])], [], [], [], [], []⟩), rVC 2 [(18, vF)] [(20, .v (.bool y3))], rV 4 [(24, vF)], rV 6 [(35, vF), (38, vF), (41, (vI (all.length : Int))), (44, vF)], (8, ⟨[], [], [(51, (Event.enc x9))], [(54, vF)], [(53, .v (.bool y10))], [], [], []⟩)], [], [], []⟩ ordB26 (fun z => (aM Event.enc gx1 (aM eI gx2 (aI (ref_Reads_sim n x1 y3 gy3) (aB h4 (aB h5 (aB h6 (aL Event.enc all (aB h7 (aB h8 (aM Event.enc gx9 (aI (ref_Writes_sim n x9 y10 gy10) (aB h11 z))))))))))))) (by kernel_rfl)
 rcases iteN h with ⟨h12, h⟩ | ⟨h12, h⟩
 ·
  obtain rfl := soI h
  exact kP ⟨ord26, [(1, ⟨[], [], [(11, (Event.enc x1)), (16, [(vI x2)])], [], [], [], [], []⟩), rVC 2 [(18, vF)] [(20, .v (.bool y3))], rV 4 [(24, vF)], rV 6 [(35, vF), (38, vF), (41, (vI (all.length : Int))), (44, vF)], (8, ⟨[], [], [(51, (Event.enc x9)), (57, (Event.enc x9))], [(54, vT), (64, vF)], [(53, .v (.bool y10))], [], [], []⟩)], [], [], []⟩ ordB26 (fun z => (aM Event.enc gx1 (aM eI gx2 (aI (ref_Reads_sim n x1 y3 gy3) (aB h4 (aB h5 (aB h6 (aL Event.enc all (aB h7 (aB h8 (aM Event.enc gx9 (aI (ref_Writes_sim n x9 y10 gy10) (aB h11 (aM Event.enc gx9 (aB h12 z))))))))))))))) (by kernel_rfl)
 obtain rfl := soI h
 exact kP ⟨ord26, [(1, ⟨[], [], [(11, (Event.enc x1)), (16, [(vI x2)])], [], [], [], [], []⟩), rVC 2 [(18, vF)] [(20, .v (.bool y3))], rV 4 [(24, vF)], rV 6 [(35, vF), (38, vF), (41, (vI (all.length : Int))), (44, vF)], (8, ⟨[], [], [(51, (Event.enc x9)), (57, (Event.enc x9)), (67, (Event.enc x9))], [(54, vT), (64, vT)], [(53, .v (.bool y10))], [], [], []⟩)], [], [], []⟩ ordB26 (fun z => (aM Event.enc gx1 (aM eI gx2 (aI (ref_Reads_sim n x1 y3 gy3) (aB h4 (aB h5 (aB h6 (aL Event.enc all (aB h7 (aB h8 (aM Event.enc gx9 (aI (ref_Writes_sim n x9 y10 gy10) (aB h11 (aM Event.enc gx9 (aB h12 (aM Event.enc gx9 z)))))))))))))))) (by kernel_rfl)

def ord9 : List (Nat × PT) := []
theorem ordB9 : ordB (polF 9) ord9 (bodyOf Try.prog 9) = true := by kernel_rfl
noncomputable def c_ref_Check_L1 : Code := sub (bodyOf Try.prog 9) [1, 1, 1, 0, 1, 0, 0]
noncomputable def c_ref_Check_L2 : Code := sub (bodyOf Try.prog 9) [1, 1, 1, 1, 1, 1, 1, 0, 1, 0, 0]
noncomputable def c_ref_Check_L3 : Code := sub (bodyOf Try.prog 9) [1, 1, 1, 1, 1, 1, 1, 1, 1, 0, 1, 0, 0]
theorem ordB_ref_Check_L1 : ordB (polF 9) ord9 c_ref_Check_L1 = true := by kernel_rfl
def ref_Check_L1_S (c : Cand) (sa : Int × Int) : St := mkS 121 [(1, .ptr (.L 1) 0 0), (3, (vI sa.1)), (4, (vI sa.2))] [(1, (Cand.enc c))] [] 0
def ref_Check_L1_T0 (c : Cand) (tt : Int) : St := mkS 121 [(1, .ptr (.L 1) 0 0), (3, (vI tt))] [(1, (Cand.enc c))] [] 0
def ref_Check_L1_T1 (c : Cand) (tt : Unit) : St := mkS 121 [(2, (vI 2))] [] [] 0
def ref_Check_L1_out (c : Cand) (t0 : (Int ⊕ Unit)) : Ex × St := match t0 with | .inl tt => (.ex 0, ref_Check_L1_T0 c tt) | .inr tt => (.ret, ref_Check_L1_T1 c tt)
theorem ref_Check_L1_sim (n : Nat) (c : Cand) : ∀ sa r, ref_Check_L1 n c sa = some r → CodeD Try.prog c_ref_Check_L1 (ref_Check_L1_S c sa) (rk (ref_Check_L1_S c) (ref_Check_L1_out c) r) := by
 intro sa r h
 unfold ref_Check_L1 at h
 rcases iteN h with ⟨ha1, h⟩ | ⟨ha1, h⟩
 ·
  obtain rfl := soI h
  exact kR ⟨ord9, [rV 5 [(30, (vI (c.Harts.length : Int))), (31, vF)]], [], [], []⟩ [(2, ⟨[1, 3], [], 0, [], [], []⟩, ⟨[], [], []⟩)] ordB_ref_Check_L1 (rkE rfl neE) (fun z => (aL (eSl Event.enc) c.Harts (aB ha1 z))) (by kernel_rfl)
 obtain ⟨xa2, gxa2, h⟩ := bindE h
 rcases iteE h with ⟨ha3, h⟩ | ⟨ha3, h⟩
 ·
  obtain rfl := soI h
  exact kR ⟨ord9, [rV 5 [(30, (vI (c.Harts.length : Int))), (31, vT)], (7, ⟨[], [], [(38, [.sl (xa2.map Event.enc)])], [(40, (vI (xa2.length : Int)))], [], [], [], []⟩), rV 8 [(44, vT)]], [], [], []⟩ [(1, ⟨[2], [1], 0, [], [], []⟩, ⟨[], [], []⟩)] ordB_ref_Check_L1 (rkE rfl neR) (fun z => (aL (eSl Event.enc) c.Harts (aB ha1 (aM (eSl Event.enc) gxa2 (aL Event.enc xa2 (aB ha3 z)))))) (by kernel_rfl)
 obtain ⟨ya4, gya4, h⟩ := bindE h
 rcases iteN h with ⟨ha5, h⟩ | ⟨ha5, h⟩
 ·
  obtain rfl := soI h
  exact kR ⟨ord9, [rV 5 [(30, (vI (c.Harts.length : Int))), (31, vT)], (7, ⟨[], [], [(38, [.sl (xa2.map Event.enc)])], [(40, (vI (xa2.length : Int)))], [], [], [], []⟩), (8, ⟨[], [], [(49, [.sl (xa2.map Event.enc)])], [(44, vF), (53, vF)], [(51, (vI ya4))], [], [], []⟩)], [], [], []⟩ [(0, ⟨[1, 3, 4], [], 0, [], [], []⟩, ⟨[], [], []⟩)] ordB_ref_Check_L1 rkN (fun z => (aL (eSl Event.enc) c.Harts (aB ha1 (aM (eSl Event.enc) gxa2 (aL Event.enc xa2 (aB ha3 (aM (eSl Event.enc) gxa2 (aI (ref_Row_sim n sa.2 xa2 ya4 gya4) (aB ha5 z))))))))) (by kernel_rfl)
 obtain rfl := soI h
 exact kR ⟨ord9, [rV 5 [(30, (vI (c.Harts.length : Int))), (31, vT)], (7, ⟨[], [], [(38, [.sl (xa2.map Event.enc)])], [(40, (vI (xa2.length : Int)))], [], [], [], []⟩), (8, ⟨[], [], [(49, [.sl (xa2.map Event.enc)])], [(44, vF), (53, vT)], [(51, (vI ya4))], [], [], []⟩)], [], [], []⟩ [(1, ⟨[2], [1], 0, [], [], []⟩, ⟨[], [], []⟩)] ordB_ref_Check_L1 (rkE rfl neR) (fun z => (aL (eSl Event.enc) c.Harts (aB ha1 (aM (eSl Event.enc) gxa2 (aL Event.enc xa2 (aB ha3 (aM (eSl Event.enc) gxa2 (aI (ref_Row_sim n sa.2 xa2 ya4 gya4) (aB ha5 z))))))))) (by kernel_rfl)

theorem ordB_ref_Check_L2 : ordB (polF 9) ord9 c_ref_Check_L2 = true := by kernel_rfl
def ref_Check_L2_S (c : Cand) (w6 : Int) (y7 : (List Event)) (sa : Int × Int) : St := mkS 121 [(1, .ptr (.L 1) 0 0), (3, (vI w6)), (5, .sl (y7.map Event.enc)), (6, (vI sa.1)), (7, (vI sa.2))] [(1, (Cand.enc c))] [] 0
def ref_Check_L2_T0 (c : Cand) (w6 : Int) (y7 : (List Event)) (tt : Int) : St := mkS 121 [(1, .ptr (.L 1) 0 0), (3, (vI w6)), (5, .sl (y7.map Event.enc)), (6, (vI tt))] [(1, (Cand.enc c))] [] 0
def ref_Check_L2_T1 (c : Cand) (w6 : Int) (y7 : (List Event)) (tt : Unit) : St := mkS 121 [(2, (vI 2))] [] [] 0
def ref_Check_L2_out (c : Cand) (w6 : Int) (y7 : (List Event)) (t0 : (Int ⊕ Unit)) : Ex × St := match t0 with | .inl tt => (.ex 2, ref_Check_L2_T0 c w6 y7 tt) | .inr tt => (.ret, ref_Check_L2_T1 c w6 y7 tt)
theorem ref_Check_L2_sim (n : Nat) (c : Cand) (w6 : Int) (y7 : (List Event)) : ∀ sa r, ref_Check_L2 n c w6 y7 sa = some r → CodeD Try.prog c_ref_Check_L2 (ref_Check_L2_S c w6 y7 sa) (rk (ref_Check_L2_S c w6 y7) (ref_Check_L2_out c w6 y7) r) := by
 intro sa r h
 unfold ref_Check_L2 at h
 rcases iteN h with ⟨ha1, h⟩ | ⟨ha1, h⟩
 ·
  obtain rfl := soI h
  exact kR ⟨ord9, [rV 15 [(63, vF)]], [], [], []⟩ [(4, ⟨[1, 3, 5, 6], [], 0, [], [], []⟩, ⟨[], [], []⟩)] ordB_ref_Check_L2 (rkE rfl neE) (fun z => (aB ha1 z)) (by kernel_rfl)
 obtain ⟨ya2, gya2, h⟩ := bindE h
 rcases iteE h with ⟨ha3, h⟩ | ⟨ha3, h⟩
 ·
  obtain rfl := soI h
  exact kR ⟨ord9, [rV 15 [(63, vT)], rVC 17 [(70, vT)] [(69, .v (.bool ya2))]], [], [], []⟩ [(1, ⟨[2], [1], 0, [], [], []⟩, ⟨[], [], []⟩)] ordB_ref_Check_L2 (rkE rfl neR) (fun z => (aB ha1 (aI (ref_from_sim n c y7 sa.2 ya2 gya2) (aB ha3 z)))) (by kernel_rfl)
 obtain ⟨xa4, gxa4, h⟩ := bindE h
 obtain ⟨ya5, gya5, h⟩ := bindE h
 rcases iteE h with ⟨ha6, h⟩ | ⟨ha6, h⟩
 ·
  obtain rfl := soI h
  exact kR ⟨ord9, [rV 15 [(63, vT)], rVC 17 [(70, vF)] [(69, .v (.bool ya2))], (19, ⟨[], [], [(73, (Event.enc xa4))], [(75, vT)], [(75, .v (.bool ya5))], [], [], []⟩)], [], [], []⟩ [(0, ⟨[1, 3, 5, 6, 7], [], 0, [], [], []⟩, ⟨[], [], []⟩)] ordB_ref_Check_L2 rkN (fun z => (aB ha1 (aI (ref_from_sim n c y7 sa.2 ya2 gya2) (aB ha3 (aM Event.enc gxa4 (aI (ref_Memory_sim n xa4 ya5 gya5) (aB ha6 z))))))) (by kernel_rfl)
 obtain rfl := soI h
 exact kR ⟨ord9, [rV 15 [(63, vT)], rVC 17 [(70, vF)] [(69, .v (.bool ya2))], (19, ⟨[], [], [(73, (Event.enc xa4))], [(75, vF)], [(75, .v (.bool ya5))], [], [], []⟩)], [], [], []⟩ [(0, ⟨[1, 3, 5, 6, 7], [], 0, [], [], []⟩, ⟨[], [], []⟩)] ordB_ref_Check_L2 rkN (fun z => (aB ha1 (aI (ref_from_sim n c y7 sa.2 ya2 gya2) (aB ha3 (aM Event.enc gxa4 (aI (ref_Memory_sim n xa4 ya5 gya5) (aB ha6 z))))))) (by kernel_rfl)

theorem ordB_ref_Check_L3 : ordB (polF 9) ord9 c_ref_Check_L3 = true := by kernel_rfl
def ref_Check_L3_S (c : Cand) (w6 : Int) (y7 : (List Event)) (w10 : Int) (sa : (List Bool) × Int) : St := mkS 121 [(1, .ptr (.L 1) 0 0), (3, (vI w6)), (5, .sl (y7.map Event.enc)), (6, (vI w10)), (8, .mf 0), (9, (vI sa.2))] [(1, (Cand.enc c))] [.arr true 1 (sa.1.map eBool)] 0
def ref_Check_L3_T0 (c : Cand) (w6 : Int) (y7 : (List Event)) (w10 : Int) (tt : Unit) : St := mkS 121 [(1, .ptr (.L 1) 0 0), (6, (vI w10))] [(1, (Cand.enc c))] [] 0
def ref_Check_L3_T1 (c : Cand) (w6 : Int) (y7 : (List Event)) (w10 : Int) (tt : Unit) : St := mkS 121 [(2, (vI 2))] [] [] 0
def ref_Check_L3_out (c : Cand) (w6 : Int) (y7 : (List Event)) (w10 : Int) (t0 : (Unit ⊕ Unit)) : Ex × St := match t0 with | .inl tt => (.ex 4, ref_Check_L3_T0 c w6 y7 w10 tt) | .inr tt => (.ret, ref_Check_L3_T1 c w6 y7 w10 tt)
theorem ref_Check_L3_sim (n : Nat) (c : Cand) (w6 : Int) (y7 : (List Event)) (w10 : Int) : ∀ sa r, ref_Check_L3 n c w6 y7 w10 sa = some r → CodeD Try.prog c_ref_Check_L3 (ref_Check_L3_S c w6 y7 w10 sa) (rk (ref_Check_L3_S c w6 y7 w10) (ref_Check_L3_out c w6 y7 w10) r) := by
 intro sa r h
 unfold ref_Check_L3 at h
 rcases iteN h with ⟨ha1, h⟩ | ⟨ha1, h⟩
 ·
  obtain rfl := soI h
  exact kR ⟨ord9, [rV 23 [(83, (vI (c.Order.length : Int))), (84, vF)]], [], [], []⟩ [(6, ⟨[1, 6], [], 0, [], [], []⟩, ⟨[], [], []⟩)] ordB_ref_Check_L3 (rkE rfl neE) (fun z => (aL eI c.Order (aB ha1 z))) (by kernel_rfl)
 obtain ⟨xa2, gxa2, h⟩ := bindE h
 rcases iteE h with ⟨ha3, h⟩ | ⟨ha3, h⟩
 ·
  obtain rfl := soI h
  exact kR ⟨ord9, [rV 23 [(83, (vI (c.Order.length : Int))), (84, vT)], (25, ⟨[], [], [(90, [(vI xa2)])], [], [], [], [], []⟩), rV 26 [(94, vT)]], [], [], []⟩ [(1, ⟨[2], [1], 0, [], [], []⟩, ⟨[], [], []⟩)] ordB_ref_Check_L3 (rkE rfl neR) (fun z => (aL eI c.Order (aB ha1 (aM eI gxa2 (aB ha3 z))))) (by kernel_rfl)
 rcases iteE h with ⟨ha4, h⟩ | ⟨ha4, h⟩
 ·
  obtain rfl := soI h
  exact kR ⟨ord9, [rV 23 [(83, (vI (c.Order.length : Int))), (84, vT)], (25, ⟨[], [], [(90, [(vI xa2)])], [], [], [], [], []⟩), rV 26 [(94, vF), (99, vT)]], [], [], []⟩ [(1, ⟨[2], [1], 0, [], [], []⟩, ⟨[], [], []⟩)] ordB_ref_Check_L3 (rkE rfl neR) (fun z => (aL eI c.Order (aB ha1 (aM eI gxa2 (aB ha3 (aB ha4 z)))))) (by kernel_rfl)
 obtain ⟨xa5, gxa5, h⟩ := bindE h
 rcases iteE h with ⟨ha6, h⟩ | ⟨ha6, h⟩
 ·
  obtain rfl := soI h
  exact kR ⟨ord9, [rV 23 [(83, (vI (c.Order.length : Int))), (84, vT)], (25, ⟨[], [], [(90, [(vI xa2)])], [], [], [], [], []⟩), (26, ⟨[], [], [(102, [.v (.bool xa5)]), (103, [.v (.bool xa5)])], [(94, vF), (99, vF), (105, vT)], [], [], [], []⟩)], [], [], []⟩ [(1, ⟨[2], [1], 0, [], [], []⟩, ⟨[], [], []⟩)] ordB_ref_Check_L3 (rkE rfl neR) (fun z => (aL eI c.Order (aB ha1 (aM eI gxa2 (aB ha3 (aB ha4 (aM eBool gxa5 (aN eBool gxa5 (aB ha6 z))))))))) (by kernel_rfl)
 obtain ⟨xa7, gxa7, h⟩ := bindE h
 obtain ⟨ya8, gya8, h⟩ := bindE h
 rcases iteE h with ⟨ha9, h⟩ | ⟨ha9, h⟩
 ·
  obtain rfl := soI h
  exact kR ⟨ord9, [rV 23 [(83, (vI (c.Order.length : Int))), (84, vT)], (25, ⟨[], [], [(90, [(vI xa2)])], [], [], [], [], []⟩), (26, ⟨[], [], [(102, [.v (.bool xa5)]), (103, [.v (.bool xa5)]), (108, (Event.enc xa7))], [(94, vF), (99, vF), (105, vF), (112, vT)], [(110, .v (.bool ya8))], [], [], []⟩)], [], [], []⟩ [(1, ⟨[2], [1], 0, [], [], []⟩, ⟨[], [], []⟩)] ordB_ref_Check_L3 (rkE rfl neR) (fun z => (aL eI c.Order (aB ha1 (aM eI gxa2 (aB ha3 (aB ha4 (aM eBool gxa5 (aN eBool gxa5 (aB ha6 (aM Event.enc gxa7 (aI (ref_Memory_sim n xa7 ya8 gya8) (aB ha9 z)))))))))))) (by kernel_rfl)
 obtain rfl := soI h
 exact kR ⟨ord9, [rV 23 [(83, (vI (c.Order.length : Int))), (84, vT)], (25, ⟨[], [], [(90, [(vI xa2)])], [], [], [], [], []⟩), (26, ⟨[], [], [(102, [.v (.bool xa5)]), (103, [.v (.bool xa5)]), (108, (Event.enc xa7))], [(94, vF), (99, vF), (105, vF), (112, vF)], [(110, .v (.bool ya8))], [], [], []⟩), (28, ⟨[], [], [(115, [.v (.bool xa5)]), (1000115, [.v (.bool xa5)])], [], [], [], [(1000115, (0, (sa.1.set (xa2).toNat true).map eBool))], []⟩)], [], [], []⟩ [(0, ⟨[1, 3, 5, 6, 8, 9], [], 1, [], [], []⟩, ⟨[], [], []⟩)] ordB_ref_Check_L3 rkN (fun z => (aL eI c.Order (aB ha1 (aM eI gxa2 (aB ha3 (aB ha4 (aM eBool gxa5 (aN eBool gxa5 (aB ha6 (aM Event.enc gxa7 (aI (ref_Memory_sim n xa7 ya8 gya8) (aB ha9 (aM eBool gxa5 (aN eBool gxa5 (aI (set_map eBool sa.1 ((xa2).toNat) true) z))))))))))))))) (by kernel_rfl)

theorem ref_Check_sim (n : Nat) (c : Cand) (r : Int) (h : ref_Check n c = some r) : PCall Try.prog 9 [(aAgg Cand.enc c)] (eqA ((vI r))) := by
 unfold ref_Check at h
 obtain ⟨y1, gy1, h⟩ := bindE h
 rcases iteE h with ⟨h2, h⟩ | ⟨h2, h⟩
 ·
  obtain rfl := soI h
  exact kP ⟨ord9, [rVC 1 [(15, vT)] [(13, .v (.bool y1))]], [], [], []⟩ ordB9 (fun z => (aI (ref_Cells_sim n c.First y1 gy1) (aB h2 z))) (by kernel_rfl)
 rcases iteE h with ⟨h3, h⟩ | ⟨h3, h⟩
 ·
  obtain rfl := soI h
  exact kP ⟨ord9, [rVC 1 [(15, vF), (18, (vI (c.Harts.length : Int))), (21, vT)] [(13, .v (.bool y1))]], [], [], []⟩ ordB9 (fun z => (aI (ref_Cells_sim n c.First y1 gy1) (aB h2 (aL (eSl Event.enc) c.Harts (aB h3 z))))) (by kernel_rfl)
 rcases iteE h with ⟨h4, h⟩ | ⟨h4, h⟩
 ·
  obtain rfl := soI h
  exact kP ⟨ord9, [rVC 1 [(15, vF), (18, (vI (c.Harts.length : Int))), (21, vF), (24, (vI (c.Harts.length : Int))), (26, vT)] [(13, .v (.bool y1))]], [], [], []⟩ ordB9 (fun z => (aI (ref_Cells_sim n c.First y1 gy1) (aB h2 (aL (eSl Event.enc) c.Harts (aB h3 (aL (eSl Event.enc) c.Harts (aB h4 z))))))) (by kernel_rfl)
 obtain ⟨t5, gt5, h⟩ := bindE h
 rcases t5 with w6 | w6
 ·
  obtain ⟨y7, gy7, h⟩ := bindE h
  rcases iteE h with ⟨h8, h⟩ | ⟨h8, h⟩
  ·
   obtain rfl := soI h
   exact kP ⟨ord9, [rVC 1 [(15, vF), (18, (vI (c.Harts.length : Int))), (21, vF), (24, (vI (c.Harts.length : Int))), (26, vF)] [(13, .v (.bool y1))], rVC 10 [] [(55, .sl (y7.map Event.enc))], rV 11 [(58, (vI (c.From.length : Int))), (60, vT)]], [], [(5, (⟨[1, 3, 4], [], 0, [], [], []⟩, ⟨[], [], []⟩, (.ex 0), ref_Check_L1_T0 c w6))], []⟩ ordB9 (fun z => (aI (ref_Cells_sim n c.First y1 gy1) (aB h2 (aL (eSl Event.enc) c.Harts (aB h3 (aL (eSl Event.enc) c.Harts (aB h4 (aI (okL (pl := polF 9) (ref_Check_L1_S c) (ref_Check_L1_out c) (ref_Check_L1_sim n c) n _ (.inl w6) gt5) (aI (ref_flat_sim n c y7 gy7) (aL eI c.From (aB h8 z))))))))))) (by kernel_rfl)
  obtain ⟨t9, gt9, h⟩ := bindE h
  rcases t9 with w10 | w10
  ·
   obtain ⟨h11, h⟩ := grdE h
   obtain ⟨t12, gt12, h⟩ := bindE h
   rcases t12 with w13 | w13
   ·
    rcases iteE h with ⟨h14, h⟩ | ⟨h14, h⟩
    ·
     obtain rfl := soI h
     exact kP ⟨ord9, [rVC 1 [(15, vF), (18, (vI (c.Harts.length : Int))), (21, vF), (24, (vI (c.Harts.length : Int))), (26, vF)] [(13, .v (.bool y1))], rVC 10 [] [(55, .sl (y7.map Event.enc))], rV 11 [(58, (vI (c.From.length : Int))), (60, vF)], (21, ⟨[], [79], [], [], [], [], [(79, (0, (List.replicate (w6).toNat false).map eBool))], []⟩), rV 29 [(118, (vI (c.Order.length : Int))), (120, vT)]], [], [(5, (⟨[1, 3, 4], [], 0, [], [], []⟩, ⟨[], [], []⟩, (.ex 0), ref_Check_L1_T0 c w6)), (15, (⟨[1, 3, 5, 6, 7], [], 0, [], [], []⟩, ⟨[], [], []⟩, (.ex 2), ref_Check_L2_T0 c w6 y7 w10)), (23, (⟨[1, 3, 5, 6, 8, 9], [], 1, [], [], []⟩, ⟨[], [], []⟩, (.ex 4), ref_Check_L3_T0 c w6 y7 w10 w13))], []⟩ ordB9 (fun z => (aI (ref_Cells_sim n c.First y1 gy1) (aB h2 (aL (eSl Event.enc) c.Harts (aB h3 (aL (eSl Event.enc) c.Harts (aB h4 (aI (okL (pl := polF 9) (ref_Check_L1_S c) (ref_Check_L1_out c) (ref_Check_L1_sim n c) n _ (.inl w6) gt5) (aI (ref_flat_sim n c y7 gy7) (aL eI c.From (aB h8 (aI (okL (pl := polF 9) (ref_Check_L2_S c w6 y7) (ref_Check_L2_out c w6 y7) (ref_Check_L2_sim n c w6 y7) n _ (.inl w10) gt9) (aI h11 (aI (rep_map eBool _ false : List.replicate (w6).toNat [vF] = (List.replicate (w6).toNat false).map eBool) (aI (okL (pl := polF 9) (ref_Check_L3_S c w6 y7 w10) (ref_Check_L3_out c w6 y7 w10) (ref_Check_L3_sim n c w6 y7 w10) n _ (.inl w13) gt12) (aL eI c.Order (aB h14 z))))))))))))))))) (by kernel_rfl)
    obtain rfl := soI h
    exact kP ⟨ord9, [rVC 1 [(15, vF), (18, (vI (c.Harts.length : Int))), (21, vF), (24, (vI (c.Harts.length : Int))), (26, vF)] [(13, .v (.bool y1))], rVC 10 [] [(55, .sl (y7.map Event.enc))], rV 11 [(58, (vI (c.From.length : Int))), (60, vF)], (21, ⟨[], [79], [], [], [], [], [(79, (0, (List.replicate (w6).toNat false).map eBool))], []⟩), rV 29 [(118, (vI (c.Order.length : Int))), (120, vF)]], [], [(5, (⟨[1, 3, 4], [], 0, [], [], []⟩, ⟨[], [], []⟩, (.ex 0), ref_Check_L1_T0 c w6)), (15, (⟨[1, 3, 5, 6, 7], [], 0, [], [], []⟩, ⟨[], [], []⟩, (.ex 2), ref_Check_L2_T0 c w6 y7 w10)), (23, (⟨[1, 3, 5, 6, 8, 9], [], 1, [], [], []⟩, ⟨[], [], []⟩, (.ex 4), ref_Check_L3_T0 c w6 y7 w10 w13))], []⟩ ordB9 (fun z => (aI (ref_Cells_sim n c.First y1 gy1) (aB h2 (aL (eSl Event.enc) c.Harts (aB h3 (aL (eSl Event.enc) c.Harts (aB h4 (aI (okL (pl := polF 9) (ref_Check_L1_S c) (ref_Check_L1_out c) (ref_Check_L1_sim n c) n _ (.inl w6) gt5) (aI (ref_flat_sim n c y7 gy7) (aL eI c.From (aB h8 (aI (okL (pl := polF 9) (ref_Check_L2_S c w6 y7) (ref_Check_L2_out c w6 y7) (ref_Check_L2_sim n c w6 y7) n _ (.inl w10) gt9) (aI h11 (aI (rep_map eBool _ false : List.replicate (w6).toNat [vF] = (List.replicate (w6).toNat false).map eBool) (aI (okL (pl := polF 9) (ref_Check_L3_S c w6 y7 w10) (ref_Check_L3_out c w6 y7 w10) (ref_Check_L3_sim n c w6 y7 w10) n _ (.inl w13) gt12) (aL eI c.Order (aB h14 z))))))))))))))))) (by kernel_rfl)
   ·
    obtain rfl := soI h
    exact kP ⟨ord9, [rVC 1 [(15, vF), (18, (vI (c.Harts.length : Int))), (21, vF), (24, (vI (c.Harts.length : Int))), (26, vF)] [(13, .v (.bool y1))], rVC 10 [] [(55, .sl (y7.map Event.enc))], rV 11 [(58, (vI (c.From.length : Int))), (60, vF)], (21, ⟨[], [79], [], [], [], [], [(79, (0, (List.replicate (w6).toNat false).map eBool))], []⟩)], [], [(5, (⟨[1, 3, 4], [], 0, [], [], []⟩, ⟨[], [], []⟩, (.ex 0), ref_Check_L1_T0 c w6)), (15, (⟨[1, 3, 5, 6, 7], [], 0, [], [], []⟩, ⟨[], [], []⟩, (.ex 2), ref_Check_L2_T0 c w6 y7 w10)), (23, (⟨[1, 3, 5, 6, 8, 9], [], 1, [], [], []⟩, ⟨[], [], []⟩, .ret, ref_Check_L3_T1 c w6 y7 w10 w13))], []⟩ ordB9 (fun z => (aI (ref_Cells_sim n c.First y1 gy1) (aB h2 (aL (eSl Event.enc) c.Harts (aB h3 (aL (eSl Event.enc) c.Harts (aB h4 (aI (okL (pl := polF 9) (ref_Check_L1_S c) (ref_Check_L1_out c) (ref_Check_L1_sim n c) n _ (.inl w6) gt5) (aI (ref_flat_sim n c y7 gy7) (aL eI c.From (aB h8 (aI (okL (pl := polF 9) (ref_Check_L2_S c w6 y7) (ref_Check_L2_out c w6 y7) (ref_Check_L2_sim n c w6 y7) n _ (.inl w10) gt9) (aI h11 (aI (rep_map eBool _ false : List.replicate (w6).toNat [vF] = (List.replicate (w6).toNat false).map eBool) (aI (okL (pl := polF 9) (ref_Check_L3_S c w6 y7 w10) (ref_Check_L3_out c w6 y7 w10) (ref_Check_L3_sim n c w6 y7 w10) n _ (.inr w13) gt12) z))))))))))))))) (by kernel_rfl)
  ·
   obtain rfl := soI h
   exact kP ⟨ord9, [rVC 1 [(15, vF), (18, (vI (c.Harts.length : Int))), (21, vF), (24, (vI (c.Harts.length : Int))), (26, vF)] [(13, .v (.bool y1))], rVC 10 [] [(55, .sl (y7.map Event.enc))], rV 11 [(58, (vI (c.From.length : Int))), (60, vF)]], [], [(5, (⟨[1, 3, 4], [], 0, [], [], []⟩, ⟨[], [], []⟩, (.ex 0), ref_Check_L1_T0 c w6)), (15, (⟨[1, 3, 5, 6, 7], [], 0, [], [], []⟩, ⟨[], [], []⟩, .ret, ref_Check_L2_T1 c w6 y7 w10))], []⟩ ordB9 (fun z => (aI (ref_Cells_sim n c.First y1 gy1) (aB h2 (aL (eSl Event.enc) c.Harts (aB h3 (aL (eSl Event.enc) c.Harts (aB h4 (aI (okL (pl := polF 9) (ref_Check_L1_S c) (ref_Check_L1_out c) (ref_Check_L1_sim n c) n _ (.inl w6) gt5) (aI (ref_flat_sim n c y7 gy7) (aL eI c.From (aB h8 (aI (okL (pl := polF 9) (ref_Check_L2_S c w6 y7) (ref_Check_L2_out c w6 y7) (ref_Check_L2_sim n c w6 y7) n _ (.inr w10) gt9) z)))))))))))) (by kernel_rfl)
 ·
  obtain rfl := soI h
  exact kP ⟨ord9, [rVC 1 [(15, vF), (18, (vI (c.Harts.length : Int))), (21, vF), (24, (vI (c.Harts.length : Int))), (26, vF)] [(13, .v (.bool y1))]], [], [(5, (⟨[1, 3, 4], [], 0, [], [], []⟩, ⟨[], [], []⟩, .ret, ref_Check_L1_T1 c w6))], []⟩ ordB9 (fun z => (aI (ref_Cells_sim n c.First y1 gy1) (aB h2 (aL (eSl Event.enc) c.Harts (aB h3 (aL (eSl Event.enc) c.Harts (aB h4 (aI (okL (pl := polF 9) (ref_Check_L1_S c) (ref_Check_L1_out c) (ref_Check_L1_sim n c) n _ (.inr w6) gt5) z)))))))) (by kernel_rfl)

def ord30 : List (Nat × PT) := []
theorem ordB30 : ordB (polF 30) ord30 (bodyOf Try.prog 30) = true := by kernel_rfl
theorem kit_Own_Cell_sim (n : Nat) (l : (List Cell)) (r : (List Cell)) (h : kit_Own_Cell n l = some r) : PCall Try.prog 30 [.sl (l.map Cell.enc)] (eqA (.sl (r.map Cell.enc))) := by
 unfold kit_Own_Cell at h
 obtain ⟨h1, h⟩ := grdE h
 obtain rfl := soI h
 exact kP ⟨ord30, [(1, ⟨[], [5], [], [], [], [], [], []⟩)], [], [], []⟩ ordB30 (fun z => (aI (szM : szOk 2 (l.map Cell.enc) = true) (aI (okM : okRows (l.map Cell.enc) = true) (aI (ble_map h1 : Nat.ble ((l.map Cell.enc).length * 16) 140737488355328 = true) z)))) (by kernel_rfl)

def ord31 : List (Nat × PT) := []
theorem ordB31 : ordB (polF 31) ord31 (bodyOf Try.prog 31) = true := by kernel_rfl
theorem kit_Own_int_sim (n : Nat) (l : (List Int)) (r : (List Int)) (h : kit_Own_int n l = some r) : PCall Try.prog 31 [.sl (l.map eI)] (eqA (.sl (r.map eI))) := by
 unfold kit_Own_int at h
 obtain ⟨h1, h⟩ := grdE h
 obtain rfl := soI h
 exact kP ⟨ord31, [(1, ⟨[], [5], [], [], [], [], [], []⟩)], [], [], []⟩ ordB31 (fun z => (aI (szM : szOk 1 (l.map eI) = true) (aI (okM : okRows (l.map eI) = true) (aI (ble_map h1 : Nat.ble ((l.map eI).length * 8) 140737488355328 = true) z)))) (by kernel_rfl)

def ord68 : List (Nat × PT) := [(1, (ptS [0, 1, 2, 3, 4, 5, 6, 7, 8, 9, 10]))]
theorem ordB68 : ordB (polF 68) ord68 (bodyOf Try.prog 68) = true := by kernel_rfl
theorem kit_OwnDeps_sim (n : Nat) (d : Deps) (r : Deps) (h : kit_OwnDeps n d = some r) : PCall Try.prog 68 [(aAgg Deps.enc d)] (eqA ((aAgg Deps.enc r))) := by
 unfold kit_OwnDeps at h
 obtain ⟨y1, gy1, h⟩ := bindE h
 obtain ⟨y2, gy2, h⟩ := bindE h
 obtain ⟨y3, gy3, h⟩ := bindE h
 obtain rfl := soI h
 exact kP ⟨ord68, [rVC 1 [] [(5, .sl (y1.map eI)), (8, .sl (y2.map eI)), (11, .sl (y3.map eI))]], [], [], []⟩ ordB68 (fun z => (aI (kit_Own_int_sim n d.Addr y1 gy1) (aI (kit_Own_int_sim n d.Data y2 gy2) (aI (kit_Own_int_sim n d.Way y3 gy3) z)))) (by kernel_rfl)

def ord36 : List (Nat × PT) := []
theorem ordB36 : ordB (polF 36) ord36 (bodyOf Try.prog 36) = true := by kernel_rfl
theorem kit_OwnEvent_sim (n : Nat) (e : Event) (r : Event) (h : kit_OwnEvent n e = some r) : PCall Try.prog 36 [(aAgg Event.enc e)] (eqA ((aAgg Event.enc r))) := by
 unfold kit_OwnEvent at h
 obtain ⟨y1, gy1, h⟩ := bindE h
 obtain rfl := soI h
 exact kP ⟨ord36, [rVC 1 [] [(5, (aAgg Deps.enc y1))]], [], [], []⟩ ordB36 (fun z => (aI (kit_OwnDeps_sim n e.Deps y1 gy1) z)) (by kernel_rfl)

def ord37 : List (Nat × PT) := []
theorem ordB37 : ordB (polF 37) ord37 (bodyOf Try.prog 37) = true := by kernel_rfl
noncomputable def c_law_twice_L1 : Code := sub (bodyOf Try.prog 37) [1, 1, 0, 1, 0, 0]
theorem ordB_law_twice_L1 : ordB (polF 37) ord37 c_law_twice_L1 = true := by kernel_rfl
def law_twice_L1_S (l : (List Int)) (sa : (List Int) × Int) : St := mkS 20 [(0, .sl (l.map eI)), (3, .mf 0), (4, (vI sa.2))] [] [.arr true 1 (sa.1.map eI)] 0
def law_twice_L1_T0 (l : (List Int)) (tt : (List Int)) : St := mkS 20 [(3, .mf 0)] [] [.arr true 1 (tt.map eI)] 0
def law_twice_L1_out (l : (List Int)) (tt : ((List Int))) : Ex × St := (.ex 0, law_twice_L1_T0 l tt)
theorem law_twice_L1_sim (n : Nat) (l : (List Int)) : ∀ sa r, law_twice_L1 n l sa = some r → CodeD Try.prog c_law_twice_L1 (law_twice_L1_S l sa) (rk (law_twice_L1_S l) (law_twice_L1_out l) r) := by
 intro sa r h
 unfold law_twice_L1 at h
 rcases iteN h with ⟨ha1, h⟩ | ⟨ha1, h⟩
 ·
  obtain rfl := soI h
  exact kR ⟨ord37, [rV 3 [(7, (vI (l.length : Int))), (8, vF)]], [], [], []⟩ [(2, ⟨[3], [], 1, [], [], []⟩, ⟨[], [], []⟩)] ordB_law_twice_L1 (rkE rfl neE) (fun z => (aL eI l (aB ha1 z))) (by kernel_rfl)
 obtain ⟨xa2, gxa2, h⟩ := bindE h
 obtain ⟨ha3, h⟩ := grdE h
 obtain rfl := soI h
 exact kR ⟨ord37, [rV 3 [(7, (vI (l.length : Int))), (8, vT)], (5, ⟨[], [18], [(14, [(vI xa2)])], [], [], [], [(18, (0, (sa.1 ++ ([(mulW .i64 2 xa2)] : List Int)).map eI))], []⟩)], [], [], []⟩ [(0, ⟨[0, 3, 4], [], 1, [], [], []⟩, ⟨[], [], []⟩)] ordB_law_twice_L1 rkN (fun z => (aL eI l (aB ha1 (aM eI gxa2 (aI (rfl : szOk 1 [[(vI (mulW .i64 2 xa2))]] = true) (aI (rfl : okRows [[(vI (mulW .i64 2 xa2))]] = true) (aI (ble_maps1 ha3 : Nat.ble (((sa.1.map eI).length + 1) * 8) 140737488355328 = true) (aI (app_map eI sa.1 ([(mulW .i64 2 xa2)] : List Int)) z)))))))) (by kernel_rfl)

theorem law_twice_sim (n : Nat) (l : (List Int)) (r : (List Int)) (h : law_twice n l = some r) : PCall Try.prog 37 [.sl (l.map eI)] (eqA (.sl (r.map eI))) := by
 unfold law_twice at h
 obtain ⟨t1, gt1, h⟩ := bindE h
 obtain rfl := soI h
 exact kP ⟨ord37, [], [], [(3, (⟨[0, 3, 4], [], 0, [(3, 1)], [], []⟩, ⟨[], [], []⟩, (.ex 0), law_twice_L1_T0 l t1))], []⟩ ordB37 (fun z => (aI (okL (pl := polF 37) (law_twice_L1_S l) (law_twice_L1_out l) (law_twice_L1_sim n l) n _ t1 gt1) z)) (by kernel_rfl)

def ord18 : List (Nat × PT) := [(11, (ptS [0, 1, 2, 3, 4, 5, 6, 7, 8, 9, 10, 11, 12, 13, 14]))]
theorem ordB18 : ordB (polF 18) ord18 (bodyOf Try.prog 18) = true := by kernel_rfl
noncomputable def c_law_spread_L1 : Code := sub (bodyOf Try.prog 18) [1, 1, 0, 1, 0, 0]
noncomputable def c_law_spread_L3 : Code := sub (bodyOf Try.prog 18) [1, 1, 1, 0, 1, 0, 0]
noncomputable def c_law_spread_L2 : Code := sub c_law_spread_L1 [1, 0, 0, 1, 0, 1, 0, 0]
theorem ordB_law_spread_L2 : ordB (polF 18) ord18 c_law_spread_L2 = true := by kernel_rfl
def law_spread_L2_S (c : Cand) (y1 : (List Cell)) (sb : (List (List Event)) × (List Event) × Int × Int) : St := mkS 103 [(1, .ptr (.L 1) 0 0), (2, .ptr (.L 2) 0 0), (3, .ptr (.L 3) 0 0), (4, (vI sb.2.2.1)), (5, .mf 1), (6, (vI sb.2.2.2))] [(3, [.sl (y1.map Cell.enc), .mf 0, .nilsl, .nilsl]), (2, [.nilsl, .nilsl, .nilsl, .nilsl]), (1, (Cand.enc c))] [.arr true 1 (sb.1.map (eSl Event.enc)), .arr true 14 (sb.2.1.map Event.enc)] 0
def law_spread_L2_T0 (c : Cand) (y1 : (List Cell)) (tt : (List (List Event)) × Int × (List Event)) : St := mkS 103 [(1, .ptr (.L 1) 0 0), (2, .ptr (.L 2) 0 0), (3, .ptr (.L 3) 0 0), (4, (vI tt.2.1)), (5, .sl (tt.2.2.map Event.enc))] [(3, [.sl (y1.map Cell.enc), .mf 0, .nilsl, .nilsl]), (2, [.nilsl, .nilsl, .nilsl, .nilsl]), (1, (Cand.enc c))] [.arr true 1 (tt.1.map (eSl Event.enc))] 0
def law_spread_L2_out (c : Cand) (y1 : (List Cell)) (tt : ((List (List Event)) × Int × (List Event))) : Ex × St := (.ex 2, law_spread_L2_T0 c y1 tt)
theorem law_spread_L2_sim (n : Nat) (c : Cand) (y1 : (List Cell)) : ∀ sb r, law_spread_L2 n c y1 sb = some r → CodeD Try.prog c_law_spread_L2 (law_spread_L2_S c y1 sb) (rk (law_spread_L2_S c y1) (law_spread_L2_out c y1) r) := by
 intro sb r h
 unfold law_spread_L2 at h
 obtain ⟨xb1, gxb1, h⟩ := bindE h
 rcases iteN h with ⟨hb2, h⟩ | ⟨hb2, h⟩
 ·
  obtain rfl := soI h
  exact kR ⟨ord18, [(7, ⟨[], [], [(25, [.sl (xb1.map Event.enc)])], [(27, (vI (xb1.length : Int))), (28, vF)], [], [], [], []⟩)], [], [], []⟩ [(4, ⟨[1, 2, 3, 4, 5], [], 1, [], [], [5]⟩, ⟨[], [], []⟩)] ordB_law_spread_L2 (rkE rfl neE) (fun z => (aM (eSl Event.enc) gxb1 (aL Event.enc xb1 (aB hb2 z)))) (by kernel_rfl)
 obtain ⟨xb3, gxb3, h⟩ := bindE h
 obtain ⟨yb4, gyb4, h⟩ := bindE h
 obtain ⟨yb5, gyb5, h⟩ := bindE h
 obtain ⟨yb6, gyb6, h⟩ := bindE h
 obtain ⟨yb7, gyb7, h⟩ := bindE h
 obtain ⟨hb8, h⟩ := grdE h
 obtain rfl := soI h
 exact kR ⟨ord18, [(7, ⟨[], [], [(25, [.sl (xb1.map Event.enc)])], [(27, (vI (xb1.length : Int))), (28, vT)], [], [], [], []⟩), (9, ⟨[], [], [(34, [.sl (xb1.map Event.enc)]), (37, (Event.enc xb3))], [], [(39, (aAgg Event.enc yb4))], [], [], []⟩), rVC 11 [] [(50, .sl (yb5.map eI)), (54, .sl (yb6.map eI)), (58, .sl (yb7.map eI))], (12, ⟨[], [69], [], [], [], [], [], []⟩)], [(12, ⟨[], [], [(1, (sb.2.1 ++ ([(Event.mk yb4.Hart (mulW .i64 2 sb.2.2.2) yb4.Kind yb4.Addr yb4.Load yb4.Store yb4.Aq yb4.Rl yb4.Pred yb4.Succ (mulW .i64 2 yb4.Pair) (Deps.mk yb5 yb6 yb7)), (Event.mk sb.2.2.1 (addW .i64 (mulW .i64 2 sb.2.2.2) 1) 6 0 0 0 false false 3 3 0 (Deps.mk ([] : List Int) ([] : List Int) ([] : List Int)))] : List Event)).map Event.enc)]⟩)], [], []⟩ [(0, ⟨[1, 2, 3, 4, 5, 6], [7], 2, [], [], []⟩, ⟨[], [], []⟩)] ordB_law_spread_L2 rkN (fun z => (aM (eSl Event.enc) gxb1 (aL Event.enc xb1 (aB hb2 (aM (eSl Event.enc) gxb1 (aM Event.enc gxb3 (aI (kit_OwnEvent_sim n xb3 yb4 gyb4) (aI (law_twice_sim n yb4.Deps.Addr yb5 gyb5) (aI (law_twice_sim n yb4.Deps.Data yb6 gyb6) (aI (law_twice_sim n yb4.Deps.Way yb7 gyb7) (aI (rfl : szOk 14 [[(vI yb4.Hart), (vI (mulW .i64 2 sb.2.2.2)), (vI yb4.Kind), (vU yb4.Addr), (vU yb4.Load), (vU yb4.Store), .v (.bool yb4.Aq), .v (.bool yb4.Rl), (vI yb4.Pred), (vI yb4.Succ), (vI (mulW .i64 2 yb4.Pair)), .sl (yb5.map eI), .sl (yb6.map eI), .sl (yb7.map eI)], [(vI sb.2.2.1), (vI (addW .i64 (mulW .i64 2 sb.2.2.2) 1)), (vI 6), (vU 0), (vU 0), (vU 0), vF, vF, (vI 3), (vI 3), (vI 0), .nilsl, .nilsl, .nilsl]] = true) (aI (rfl : okRows [[(vI yb4.Hart), (vI (mulW .i64 2 sb.2.2.2)), (vI yb4.Kind), (vU yb4.Addr), (vU yb4.Load), (vU yb4.Store), .v (.bool yb4.Aq), .v (.bool yb4.Rl), (vI yb4.Pred), (vI yb4.Succ), (vI (mulW .i64 2 yb4.Pair)), .sl (yb5.map eI), .sl (yb6.map eI), .sl (yb7.map eI)], [(vI sb.2.2.1), (vI (addW .i64 (mulW .i64 2 sb.2.2.2) 1)), (vI 6), (vU 0), (vU 0), (vU 0), vF, vF, (vI 3), (vI 3), (vI 0), .nilsl, .nilsl, .nilsl]] = true) (aI (ble_maps1 hb8 : Nat.ble (((sb.2.1.map Event.enc).length + 2) * 152) 140737488355328 = true) (aI ((le_app Event.enc sb.2.1 ([(Event.mk yb4.Hart (mulW .i64 2 sb.2.2.2) yb4.Kind yb4.Addr yb4.Load yb4.Store yb4.Aq yb4.Rl yb4.Pred yb4.Succ (mulW .i64 2 yb4.Pair) (Deps.mk yb5 yb6 yb7)), (Event.mk sb.2.2.1 (addW .i64 (mulW .i64 2 sb.2.2.2) 1) 6 0 0 0 false false 3 3 0 (Deps.mk ([] : List Int) ([] : List Int) ([] : List Int)))] : List Event) (LeRs.refl _) (LeRs.cons (LeR.cons (LeA.refl _) (LeR.cons (LeA.refl _) (LeR.cons (LeA.refl _) (LeR.cons (LeA.refl _) (LeR.cons (LeA.refl _) (LeR.cons (LeA.refl _) (LeR.cons (LeA.refl _) (LeR.cons (LeA.refl _) (LeR.cons (LeA.refl _) (LeR.cons (LeA.refl _) (LeR.cons (LeA.refl _) (LeR.cons (LeA.refl _) (LeR.cons (LeA.refl _) (LeR.cons (LeA.refl _) LeR.nil)))))))))))))) (LeRs.cons (LeR.cons (LeA.refl _) (LeR.cons (LeA.refl _) (LeR.cons (LeA.refl _) (LeR.cons (LeA.refl _) (LeR.cons (LeA.refl _) (LeR.cons (LeA.refl _) (LeR.cons (LeA.refl _) (LeR.cons (LeA.refl _) (LeR.cons (LeA.refl _) (LeR.cons (LeA.refl _) (LeR.cons (LeA.refl _) (LeR.cons LeA.nil (LeR.cons LeA.nil (LeR.cons LeA.nil LeR.nil)))))))))))))) LeRs.nil))) : LeRs ((sb.2.1.map Event.enc) ++ [[(vI yb4.Hart), (vI (mulW .i64 2 sb.2.2.2)), (vI yb4.Kind), (vU yb4.Addr), (vU yb4.Load), (vU yb4.Store), .v (.bool yb4.Aq), .v (.bool yb4.Rl), (vI yb4.Pred), (vI yb4.Succ), (vI (mulW .i64 2 yb4.Pair)), .sl (yb5.map eI), .sl (yb6.map eI), .sl (yb7.map eI)], [(vI sb.2.2.1), (vI (addW .i64 (mulW .i64 2 sb.2.2.2) 1)), (vI 6), (vU 0), (vU 0), (vU 0), vF, vF, (vI 3), (vI 3), (vI 0), .nilsl, .nilsl, .nilsl]]) ((sb.2.1 ++ ([(Event.mk yb4.Hart (mulW .i64 2 sb.2.2.2) yb4.Kind yb4.Addr yb4.Load yb4.Store yb4.Aq yb4.Rl yb4.Pred yb4.Succ (mulW .i64 2 yb4.Pair) (Deps.mk yb5 yb6 yb7)), (Event.mk sb.2.2.1 (addW .i64 (mulW .i64 2 sb.2.2.2) 1) 6 0 0 0 false false 3 3 0 (Deps.mk ([] : List Int) ([] : List Int) ([] : List Int)))] : List Event)).map Event.enc)) z)))))))))))))) (by kernel_rfl)

theorem ordB_law_spread_L1 : ordB (polF 18) ord18 c_law_spread_L1 = true := by kernel_rfl
def law_spread_L1_S (c : Cand) (y1 : (List Cell)) (sa : (List (List Event)) × Int) : St := mkS 103 [(1, .ptr (.L 1) 0 0), (2, .ptr (.L 2) 0 0), (3, .ptr (.L 3) 0 0), (4, (vI sa.2))] [(3, [.sl (y1.map Cell.enc), .mf 0, .nilsl, .nilsl]), (2, [.nilsl, .nilsl, .nilsl, .nilsl]), (1, (Cand.enc c))] [.arr true 1 (sa.1.map (eSl Event.enc))] 0
def law_spread_L1_T0 (c : Cand) (y1 : (List Cell)) (tt : (List (List Event))) : St := mkS 103 [(1, .ptr (.L 1) 0 0), (2, .ptr (.L 2) 0 0), (3, .ptr (.L 3) 0 0)] [(3, [.sl (y1.map Cell.enc), .mf 0, .nilsl, .nilsl]), (2, [.nilsl, .nilsl, .nilsl, .nilsl]), (1, (Cand.enc c))] [.arr true 1 (tt.map (eSl Event.enc))] 0
def law_spread_L1_out (c : Cand) (y1 : (List Cell)) (tt : ((List (List Event)))) : Ex × St := (.ex 0, law_spread_L1_T0 c y1 tt)
theorem law_spread_L1_sim (n : Nat) (c : Cand) (y1 : (List Cell)) : ∀ sa r, law_spread_L1 n c y1 sa = some r → CodeD Try.prog c_law_spread_L1 (law_spread_L1_S c y1 sa) (rk (law_spread_L1_S c y1) (law_spread_L1_out c y1) r) := by
 intro sa r h
 unfold law_spread_L1 at h
 rcases iteN h with ⟨ha1, h⟩ | ⟨ha1, h⟩
 ·
  obtain rfl := soI h
  exact kR ⟨ord18, [rV 3 [(17, (vI (c.Harts.length : Int))), (18, vF)]], [], [], []⟩ [(2, ⟨[1, 2, 3], [], 1, [], [], []⟩, ⟨[], [], []⟩)] ordB_law_spread_L1 (rkE rfl neE) (fun z => (aL (eSl Event.enc) c.Harts (aB ha1 z))) (by kernel_rfl)
 obtain ⟨ta2, gta2, h⟩ := bindE h
 obtain ⟨ha3, h⟩ := grdE h
 obtain rfl := soI h
 exact kR ⟨ord18, [rV 3 [(17, (vI (c.Harts.length : Int))), (18, vT)], (13, ⟨[], [74], [], [], [], [], [(74, (0, (ta2.1 ++ ([ta2.2.2] : List (List Event))).map (eSl Event.enc)))], []⟩)], [], [(7, (⟨[1, 2, 3, 4, 5, 6], [], 1, [(5, 14)], [], []⟩, ⟨[], [], []⟩, (.ex 2), law_spread_L2_T0 c y1 ta2))], []⟩ [(0, ⟨[1, 2, 3, 4], [], 1, [], [], []⟩, ⟨[], [], []⟩)] ordB_law_spread_L1 rkN (fun z => (aL (eSl Event.enc) c.Harts (aB ha1 (aI (okL (pl := polF 18) (law_spread_L2_S c y1) (law_spread_L2_out c y1) (law_spread_L2_sim n c y1) n _ ta2 gta2) (aI (rfl : szOk 1 [[.sl (ta2.2.2.map Event.enc)]] = true) (aI (rfl : okRows [[.sl (ta2.2.2.map Event.enc)]] = true) (aI (ble_maps1 ha3 : Nat.ble (((ta2.1.map (eSl Event.enc)).length + 1) * 24) 140737488355328 = true) (aI (app_map (eSl Event.enc) ta2.1 ([ta2.2.2] : List (List Event))) z)))))))) (by kernel_rfl)

theorem ordB_law_spread_L3 : ordB (polF 18) ord18 c_law_spread_L3 = true := by kernel_rfl
def law_spread_L3_S (c : Cand) (y1 : (List Cell)) (t2 : ((List (List Event)))) (sa : (List Int) × Int) : St := mkS 103 [(1, .ptr (.L 1) 0 0), (2, .ptr (.L 2) 0 0), (3, .ptr (.L 3) 0 0), (8, (vI sa.2))] [(3, [.sl (y1.map Cell.enc), .mf 0, .mf 1, .nilsl]), (2, [.nilsl, .nilsl, .nilsl, .nilsl]), (1, (Cand.enc c))] [.arr true 1 (t2.map (eSl Event.enc)), .arr true 1 (sa.1.map eI)] 0
def law_spread_L3_T0 (c : Cand) (y1 : (List Cell)) (t2 : ((List (List Event)))) (tt : (List Int)) : St := mkS 103 [(1, .ptr (.L 1) 0 0), (2, .ptr (.L 2) 0 0), (3, .ptr (.L 3) 0 0)] [(3, [.sl (y1.map Cell.enc), .mf 0, .mf 1, .nilsl]), (2, [.nilsl, .nilsl, .nilsl, .nilsl]), (1, (Cand.enc c))] [.arr true 1 (t2.map (eSl Event.enc)), .arr true 1 (tt.map eI)] 0
def law_spread_L3_out (c : Cand) (y1 : (List Cell)) (t2 : ((List (List Event)))) (tt : ((List Int))) : Ex × St := (.ex 4, law_spread_L3_T0 c y1 t2 tt)
theorem law_spread_L3_sim (n : Nat) (c : Cand) (y1 : (List Cell)) (t2 : ((List (List Event)))) : ∀ sa r, law_spread_L3 n c y1 t2 sa = some r → CodeD Try.prog c_law_spread_L3 (law_spread_L3_S c y1 t2 sa) (rk (law_spread_L3_S c y1 t2) (law_spread_L3_out c y1 t2) r) := by
 intro sa r h
 unfold law_spread_L3 at h
 rcases iteN h with ⟨ha1, h⟩ | ⟨ha1, h⟩
 ·
  obtain rfl := soI h
  exact kR ⟨ord18, [rV 15 [(79, (vI (c.From.length : Int))), (80, vF)]], [], [], []⟩ [(6, ⟨[1, 2, 3], [], 2, [], [], []⟩, ⟨[], [], []⟩)] ordB_law_spread_L3 (rkE rfl neE) (fun z => (aL eI c.From (aB ha1 z))) (by kernel_rfl)
 obtain ⟨xa2, gxa2, h⟩ := bindE h
 rcases iteN h with ⟨ha3, h⟩ | ⟨ha3, h⟩
 ·
  obtain ⟨ha4, h⟩ := grdE h
  obtain rfl := soI h
  exact kR ⟨ord18, [rV 15 [(79, (vI (c.From.length : Int))), (80, vT)], (17, ⟨[], [], [(86, [(vI xa2)])], [], [], [], [], []⟩), rV 18 [(89, vF)], (20, ⟨[], [96], [], [], [], [], [(96, (1, (sa.1 ++ ([xa2, (-1)] : List Int)).map eI))], []⟩)], [], [], []⟩ [(0, ⟨[1, 2, 3, 8], [], 2, [], [], []⟩, ⟨[], [], []⟩)] ordB_law_spread_L3 rkN (fun z => (aL eI c.From (aB ha1 (aM eI gxa2 (aB ha3 (aI (rfl : szOk 1 [[(vI xa2)], [(vI (-1))]] = true) (aI (rfl : okRows [[(vI xa2)], [(vI (-1))]] = true) (aI (ble_maps1 ha4 : Nat.ble (((sa.1.map eI).length + 2) * 8) 140737488355328 = true) (aI (app_map eI sa.1 ([xa2, (-1)] : List Int)) z))))))))) (by kernel_rfl)
 obtain ⟨ha4, h⟩ := grdE h
 obtain rfl := soI h
 exact kR ⟨ord18, [rV 15 [(79, (vI (c.From.length : Int))), (80, vT)], (17, ⟨[], [], [(86, [(vI xa2)])], [], [], [], [], []⟩), rV 18 [(89, vT)], (20, ⟨[], [96], [], [], [], [], [(96, (1, (sa.1 ++ ([(mulW .i64 2 xa2), (-1)] : List Int)).map eI))], []⟩)], [], [], []⟩ [(0, ⟨[1, 2, 3, 8], [], 2, [], [], []⟩, ⟨[], [], []⟩)] ordB_law_spread_L3 rkN (fun z => (aL eI c.From (aB ha1 (aM eI gxa2 (aB ha3 (aI (rfl : szOk 1 [[(vI (mulW .i64 2 xa2))], [(vI (-1))]] = true) (aI (rfl : okRows [[(vI (mulW .i64 2 xa2))], [(vI (-1))]] = true) (aI (ble_maps1 ha4 : Nat.ble (((sa.1.map eI).length + 2) * 8) 140737488355328 = true) (aI (app_map eI sa.1 ([(mulW .i64 2 xa2), (-1)] : List Int)) z))))))))) (by kernel_rfl)

theorem law_spread_sim (n : Nat) (c : Cand) (r : Cand) (h : law_spread n c = some r) : PCall Try.prog 18 [(aAgg Cand.enc c)] (eqA ((aAgg Cand.enc r))) := by
 unfold law_spread at h
 obtain ⟨y1, gy1, h⟩ := bindE h
 obtain ⟨t2, gt2, h⟩ := bindE h
 obtain ⟨t3, gt3, h⟩ := bindE h
 obtain ⟨y4, gy4, h⟩ := bindE h
 obtain rfl := soI h
 exact kP ⟨ord18, [rVC 1 [] [(12, .sl (y1.map Cell.enc))], rVC 21 [] [(100, .sl (y4.map eI))]], [], [(3, (⟨[1, 2, 3, 4], [], 0, [], [(3, 1, 1)], []⟩, ⟨[], [], []⟩, (.ex 0), law_spread_L1_T0 c y1 t2)), (15, (⟨[1, 2, 3, 8], [], 1, [], [(3, 2, 1)], []⟩, ⟨[], [], []⟩, (.ex 4), law_spread_L3_T0 c y1 t2 t3))], []⟩ ordB18 (fun z => (aI (kit_Own_Cell_sim n c.First y1 gy1) (aI (okL (pl := polF 18) (law_spread_L1_S c y1) (law_spread_L1_out c y1) (law_spread_L1_sim n c y1) n _ t2 gt2) (aI (okL (pl := polF 18) (law_spread_L3_S c y1 t2) (law_spread_L3_out c y1 t2) (law_spread_L3_sim n c y1 t2) n _ t3 gt3) (aI (law_twice_sim n c.Order y4 gy4) z))))) (by kernel_rfl)

def ord14 : List (Nat × PT) := [(9, (ptS [0, 1, 2, 3, 4, 5, 6, 7, 8, 9, 10, 11, 12, 13, 14, 15, 16, 17, 18, 19]))]
theorem ordB14 : ordB (polF 14) ord14 (bodyOf Try.prog 14) = true := by kernel_rfl
noncomputable def c_ppo_Pairs_L1 : Code := sub (bodyOf Try.prog 14) [1, 1, 1, 1, 0, 1, 0, 0]
noncomputable def c_ppo_Pairs_L2 : Code := sub c_ppo_Pairs_L1 [1, 1, 0, 0, 1, 1, 0, 0]
theorem ordB_ppo_Pairs_L2 : ordB (polF 14) ord14 c_ppo_Pairs_L2 = true := by kernel_rfl
def ppo_Pairs_L2_S (z2 : ppo_view) (xa2 : Event) (sb : (List (Arr2 Int)) × Int × Int × Int) : St := mkS 58 [(3, .fptr (ppo_view.enc z2) 0), (4, .mf 0), (5, (vI sb.2.2.1)), (6, .ptr (.L 6) 0 0), (7, (vI sb.2.2.2)), (14, .sl (z2.all.map Event.enc)), (15, (vI (z2.all.length : Int))), (16, (vI sb.2.1))] [(6, (Event.enc xa2))] [.arr true 2 (sb.1.map (eArr2 eI))] 0
def ppo_Pairs_L2_T0 (z2 : ppo_view) (xa2 : Event) (tt : (List (Arr2 Int)) × Int) : St := mkS 58 [(3, .fptr (ppo_view.enc z2) 0), (4, .mf 0), (14, .sl (z2.all.map Event.enc)), (15, (vI (z2.all.length : Int))), (16, (vI tt.2))] [] [.arr true 2 (tt.1.map (eArr2 eI))] 0
def ppo_Pairs_L2_out (z2 : ppo_view) (xa2 : Event) (tt : ((List (Arr2 Int)) × Int)) : Ex × St := (.ex 2, ppo_Pairs_L2_T0 z2 xa2 tt)
theorem ppo_Pairs_L2_sim (n : Nat) (z2 : ppo_view) (xa2 : Event) : ∀ sb r, ppo_Pairs_L2 n z2 xa2 sb = some r → CodeD Try.prog c_ppo_Pairs_L2 (ppo_Pairs_L2_S z2 xa2 sb) (rk (ppo_Pairs_L2_S z2 xa2) (ppo_Pairs_L2_out z2 xa2) r) := by
 intro sb r h
 unfold ppo_Pairs_L2 at h
 rcases iteN h with ⟨hb1, h⟩ | ⟨hb1, h⟩
 ·
  obtain rfl := soI h
  exact kR ⟨ord14, [rV 9 [(28, (vI (z2.all.length : Int))), (30, vF)]], [], [], []⟩ [(4, ⟨[3, 4, 14, 15, 16], [6], 1, [], [], []⟩, ⟨[], [], []⟩)] ordB_ppo_Pairs_L2 (rkE rfl neE) (fun z => (aL Event.enc z2.all (aB hb1 z))) (by kernel_rfl)
 obtain ⟨xb2, gxb2, h⟩ := bindE h
 rcases iteN h with ⟨hb3, h⟩ | ⟨hb3, h⟩
 ·
  obtain rfl := soI h
  exact kR ⟨ord14, [(9, ⟨[], [], [(36, (Event.enc xb2))], [(28, (vI (z2.all.length : Int))), (30, vT), (42, vF)], [], [], [], []⟩)], [], [], []⟩ [(4, ⟨[3, 4, 14, 15, 16], [6], 1, [], [], []⟩, ⟨[], [], []⟩)] ordB_ppo_Pairs_L2 (rkE rfl neE) (fun z => (aL Event.enc z2.all (aB hb1 (aM Event.enc gxb2 (aB hb3 z))))) (by kernel_rfl)
 obtain ⟨yb4, gyb4, h⟩ := bindE h
 rcases iteN h with ⟨hb5, h⟩ | ⟨hb5, h⟩
 ·
  obtain rfl := soI h
  exact kR ⟨ord14, [(9, ⟨[], [], [(36, (Event.enc xb2))], [(28, (vI (z2.all.length : Int))), (30, vT), (42, vT)], [], [], [], []⟩), rVC 11 [(49, vF)] [(48, (vI yb4))]], [], [], []⟩ [(0, ⟨[3, 4, 5, 6, 7, 14, 15, 16], [], 1, [], [], []⟩, ⟨[], [], []⟩)] ordB_ppo_Pairs_L2 rkN (fun z => (aL Event.enc z2.all (aB hb1 (aM Event.enc gxb2 (aB hb3 (aI (ppo_view_rule2_sim n z2 sb.2.2.1 sb.2.2.2 yb4 gyb4) (aB hb5 z))))))) (by kernel_rfl)
 obtain ⟨hb6, h⟩ := grdE h
 obtain rfl := soI h
 exact kR ⟨ord14, [(9, ⟨[], [], [(36, (Event.enc xb2))], [(28, (vI (z2.all.length : Int))), (30, vT), (42, vT)], [], [], [], []⟩), rVC 11 [(49, vT)] [(48, (vI yb4))], (12, ⟨[], [55], [], [], [], [], [(55, (0, (sb.1 ++ ([(Arr2.mk sb.2.2.1 sb.2.2.2)] : List (Arr2 Int))).map (eArr2 eI)))], []⟩)], [], [], []⟩ [(0, ⟨[3, 4, 5, 6, 7, 14, 15, 16], [], 1, [], [], []⟩, ⟨[], [], []⟩)] ordB_ppo_Pairs_L2 rkN (fun z => (aL Event.enc z2.all (aB hb1 (aM Event.enc gxb2 (aB hb3 (aI (ppo_view_rule2_sim n z2 sb.2.2.1 sb.2.2.2 yb4 gyb4) (aB hb5 (aI (rfl : szOk 2 [[(vI sb.2.2.1), (vI sb.2.2.2)]] = true) (aI (rfl : okRows [[(vI sb.2.2.1), (vI sb.2.2.2)]] = true) (aI (ble_maps1 hb6 : Nat.ble (((sb.1.map (eArr2 eI)).length + 1) * 16) 140737488355328 = true) (aI (app_map (eArr2 eI) sb.1 ([(Arr2.mk sb.2.2.1 sb.2.2.2)] : List (Arr2 Int))) z))))))))))) (by kernel_rfl)

theorem ordB_ppo_Pairs_L1 : ordB (polF 14) ord14 c_ppo_Pairs_L1 = true := by kernel_rfl
def ppo_Pairs_L1_S (z2 : ppo_view) (sa : (List (Arr2 Int)) × Int) : St := mkS 58 [(3, .fptr (ppo_view.enc z2) 0), (4, .mf 0), (14, .sl (z2.all.map Event.enc)), (15, (vI (z2.all.length : Int))), (16, (vI sa.2))] [] [.arr true 2 (sa.1.map (eArr2 eI))] 0
def ppo_Pairs_L1_T0 (z2 : ppo_view) (tt : (List (Arr2 Int))) : St := mkS 58 [(4, .mf 0)] [] [.arr true 2 (tt.map (eArr2 eI))] 0
def ppo_Pairs_L1_out (z2 : ppo_view) (tt : ((List (Arr2 Int)))) : Ex × St := (.ex 0, ppo_Pairs_L1_T0 z2 tt)
theorem ppo_Pairs_L1_sim (n : Nat) (z2 : ppo_view) : ∀ sa r, ppo_Pairs_L1 n z2 sa = some r → CodeD Try.prog c_ppo_Pairs_L1 (ppo_Pairs_L1_S z2 sa) (rk (ppo_Pairs_L1_S z2) (ppo_Pairs_L1_out z2) r) := by
 intro sa r h
 unfold ppo_Pairs_L1 at h
 rcases iteN h with ⟨ha1, h⟩ | ⟨ha1, h⟩
 ·
  obtain rfl := soI h
  exact kR ⟨ord14, [rV 6 [(17, vF)]], [], [], []⟩ [(2, ⟨[4], [], 1, [], [], []⟩, ⟨[], [], []⟩)] ordB_ppo_Pairs_L1 (rkE rfl neE) (fun z => (aB ha1 z)) (by kernel_rfl)
 obtain ⟨xa2, gxa2, h⟩ := bindE h
 obtain ⟨ta3, gta3, h⟩ := bindE h
 obtain rfl := soI h
 exact kR ⟨ord14, [rV 6 [(17, vT)], (7, ⟨[], [], [(19, (Event.enc xa2))], [], [], [], [], []⟩)], [], [(9, (⟨[3, 4, 5, 6, 7, 14, 15, 16], [], 1, [], [], []⟩, ⟨[], [], []⟩, (.ex 2), ppo_Pairs_L2_T0 z2 xa2 ta3))], []⟩ [(0, ⟨[3, 4, 14, 15, 16], [], 1, [], [], []⟩, ⟨[], [], []⟩)] ordB_ppo_Pairs_L1 rkN (fun z => (aB ha1 (aM Event.enc gxa2 (aI (okL (pl := polF 14) (ppo_Pairs_L2_S z2 xa2) (ppo_Pairs_L2_out z2 xa2) (ppo_Pairs_L2_sim n z2 xa2) n _ ta3 gta3) z)))) (by kernel_rfl)

theorem ppo_Pairs_sim (n : Nat) (c : Cand) (r : (List (Arr2 Int))) (h : ppo_Pairs n c = some r) : PCall Try.prog 14 [(aAgg Cand.enc c)] (eqA (.sl (r.map (eArr2 eI)))) := by
 unfold ppo_Pairs at h
 obtain ⟨y1, gy1, h⟩ := bindE h
 rcases y1 with _ | z2
 ·
  obtain rfl := soI h
  exact kP ⟨ord14, [rVC 1 [] [(8, .nilp)]], [], [], []⟩ ordB14 (fun z => (aI (ppo_of_sim n c none gy1) (LeA.nil : LeA .nilsl (.sl (([] : List (Arr2 Int)).map (eArr2 eI)))))) (by kernel_rfl)
 ·
  obtain ⟨t3, gt3, h⟩ := bindE h
  obtain rfl := soI h
  exact kP ⟨ord14, [rVC 1 [] [(8, .fptr (ppo_view.enc z2) 0)], rV 5 [(15, (vI (z2.all.length : Int)))]], [], [(6, (⟨[3, 4, 14, 15, 16], [], 0, [(4, 2)], [], []⟩, ⟨[], [], []⟩, (.ex 0), ppo_Pairs_L1_T0 z2 t3))], []⟩ ordB14 (fun z => (aI (ppo_of_sim n c (some z2) gy1) (aL Event.enc z2.all (aI (okL (pl := polF 14) (ppo_Pairs_L1_S z2) (ppo_Pairs_L1_out z2) (ppo_Pairs_L1_sim n z2) n _ t3 gt3) z)))) (by kernel_rfl)

def ord10 : List (Nat × PT) := []
theorem ordB10 : ordB (polF 10) ord10 (bodyOf Try.prog 10) = true := by kernel_rfl
theorem ref_All_sim (n : Nat) (c : Cand) (r : (List Event)) (h : ref_All n c = some r) : PCall Try.prog 10 [(aAgg Cand.enc c)] (eqA (.sl (r.map Event.enc))) := by
 unfold ref_All at h
 obtain ⟨y1, gy1, h⟩ := bindE h
 rcases iteE h with ⟨h2, h⟩ | ⟨h2, h⟩
 ·
  obtain rfl := soI h
  exact kP ⟨ord10, [rVC 1 [(5, vT)] [(4, (vI y1))]], [], [], []⟩ ordB10 (fun z => (aI (ref_Check_sim n c y1 gy1) (aB h2 (LeA.nil : LeA .nilsl (.sl (([] : List Event).map Event.enc)))))) (by kernel_rfl)
 obtain ⟨y3, gy3, h⟩ := bindE h
 obtain rfl := soI h
 exact kP ⟨ord10, [rVC 1 [(5, vF)] [(4, (vI y1))], rVC 3 [] [(7, .sl (y3.map Event.enc))]], [], [], []⟩ ordB10 (fun z => (aI (ref_Check_sim n c y1 gy1) (aB h2 (aI (ref_flat_sim n c y3 gy3) z)))) (by kernel_rfl)

def ord33 : List (Nat × PT) := []
theorem ordB33 : ordB (polF 33) ord33 (bodyOf Try.prog 33) = true := by kernel_rfl
theorem ppo_view_leads_sim (n : Nat) (a : Int) (b : Int) (r : Bool) (h : ppo_view_leads n a b = some r) : PCall Try.prog 33 [.nilp, (vI a), (vI b)] (eqA (.v (.bool r))) := by
 unfold ppo_view_leads at h
 obtain ⟨y1, gy1, h⟩ := bindE h
 rcases iteN h with ⟨h2, h⟩ | ⟨h2, h⟩
 ·
  cases h
 obtain rfl := soI h
 exact kP ⟨ord33, [rVC 1 [(15, vT)] [(14, .v (.bool y1))]], [], [], []⟩ ordB33 (fun z => (aI (ppo_view_ahead_sim n a b y1 gy1) (aB h2 z))) (by kernel_rfl)

def ord46 : List (Nat × PT) := [(0, (ptS [0, 1, 2, 3, 4, 5, 6, 7, 8, 9, 10]))]
theorem ordB46 : ordB (polF 46) ord46 (bodyOf Try.prog 46) = true := by kernel_rfl
def ppo_set_put_S_R (n_ : Int) (ob : (List Int)) (y : (List Int)) : AV × List Ob := (.tup [], [.arr true 1 (y.map (eInt .u64))])
theorem ppo_set_put_S_sim (n : Nat) (n_ : Int) (ob : (List Int)) (y : (List Int)) (h : ppo_set_put_S n n_ ob = some y) : SD Try.prog 46 [.mf 0, (vI n_)] [.arr true 1 (ob.map (eInt .u64))] (fun r' o' => r' = (ppo_set_put_S_R n_ ob y).1 ∧ o' = (ppo_set_put_S_R n_ ob y).2) := by
 unfold ppo_set_put_S at h
 obtain ⟨x1, gx1, h⟩ := bindE h
 obtain ⟨h2, h⟩ := grdE h
 obtain rfl := soI h
 exact kS ⟨ord46, [(0, ⟨[], [11], [(7, [(vU x1)]), (8, [(vU x1)]), (13, [(vU x1)]), (1000013, [(vU x1)])], [], [], [], [(1000013, (0, (ob.set ((quoW .i64 n_ 64)).toNat (orW .u64 x1 (shlW .u64 1 (remW .i64 n_ 64)))).map (eInt .u64)))], []⟩)], [], [], []⟩ ordB46 ⟨rfl, rfl⟩ (fun z => (aM (eInt .u64) gx1 (aN (eInt .u64) gx1 (aI h2 (aM (eInt .u64) gx1 (aN (eInt .u64) gx1 (aI (set_map (eInt .u64) ob (((quoW .i64 n_ 64)).toNat) (orW .u64 x1 (shlW .u64 1 (remW .i64 n_ 64)))) z))))))) (by kernel_rfl)

def ord77 : List (Nat × PT) := []
theorem ordB77 : ordB (polF 77) ord77 (bodyOf Try.prog 77) = true := by kernel_rfl
theorem math_bits_OnesCount64_sim (n : Nat) (x : Int) (r : Int) (h : math_bits_OnesCount64 n x = some r) : PCall Try.prog 77 [(vU x)] (eqA ((vI r))) := by
 unfold math_bits_OnesCount64 at h
 obtain rfl := soI h
 exact kP ⟨ord77, [], [], [], []⟩ ordB77 (fun z => z) (by kernel_rfl)

def ord47 : List (Nat × PT) := []
theorem ordB47 : ordB (polF 47) ord47 (bodyOf Try.prog 47) = true := by kernel_rfl
noncomputable def c_ppo_set_count_L1 : Code := sub (bodyOf Try.prog 47) [1, 0, 1, 0, 0]
theorem ordB_ppo_set_count_L1 : ordB (polF 47) ord47 c_ppo_set_count_L1 = true := by kernel_rfl
def ppo_set_count_L1_S (s_ : (List Int)) (sa : Int × Int) : St := mkS 17 [(2, (vI sa.1)), (5, .sl (s_.map (eInt .u64))), (6, (vI (s_.length : Int))), (7, (vI sa.2))] [] [] 0
def ppo_set_count_L1_T0 (s_ : (List Int)) (tt : Int) : St := mkS 17 [(2, (vI tt))] [] [] 0
def ppo_set_count_L1_out (s_ : (List Int)) (tt : Int) : Ex × St := (.ex 0, ppo_set_count_L1_T0 s_ tt)
theorem ppo_set_count_L1_sim (n : Nat) (s_ : (List Int)) : ∀ sa r, ppo_set_count_L1 n s_ sa = some r → CodeD Try.prog c_ppo_set_count_L1 (ppo_set_count_L1_S s_ sa) (rk (ppo_set_count_L1_S s_) (ppo_set_count_L1_out s_) r) := by
 intro sa r h
 unfold ppo_set_count_L1 at h
 rcases iteN h with ⟨ha1, h⟩ | ⟨ha1, h⟩
 ·
  obtain rfl := soI h
  exact kR ⟨ord47, [rV 2 [(8, vF)]], [], [], []⟩ [(2, ⟨[2], [], 0, [], [], []⟩, ⟨[], [], []⟩)] ordB_ppo_set_count_L1 (rkE rfl neE) (fun z => (aB ha1 z)) (by kernel_rfl)
 obtain ⟨xa2, gxa2, h⟩ := bindE h
 obtain ⟨ya3, gya3, h⟩ := bindE h
 obtain rfl := soI h
 exact kR ⟨ord47, [rV 2 [(8, vT)], (3, ⟨[], [], [(9, [(vU xa2)])], [], [], [], [], []⟩), rVC 4 [] [(13, (vI ya3))]], [], [], []⟩ [(0, ⟨[2, 5, 6, 7], [], 0, [], [], []⟩, ⟨[], [], []⟩)] ordB_ppo_set_count_L1 rkN (fun z => (aB ha1 (aM (eInt .u64) gxa2 (aI (math_bits_OnesCount64_sim n xa2 ya3 gya3) z)))) (by kernel_rfl)

theorem ppo_set_count_sim (n : Nat) (s_ : (List Int)) (r : Int) (h : ppo_set_count n s_ = some r) : PCall Try.prog 47 [.sl (s_.map (eInt .u64))] (eqA ((vI r))) := by
 unfold ppo_set_count at h
 obtain ⟨t1, gt1, h⟩ := bindE h
 obtain rfl := soI h
 exact kP ⟨ord47, [rV 1 [(6, (vI (s_.length : Int)))]], [], [(2, (⟨[2, 5, 6, 7], [], 0, [], [], []⟩, ⟨[], [], []⟩, (.ex 0), ppo_set_count_L1_T0 s_ t1))], []⟩ ordB47 (fun z => (aL (eInt .u64) s_ (aI (okL (pl := polF 47) (ppo_set_count_L1_S s_) (ppo_set_count_L1_out s_) (ppo_set_count_L1_sim n s_) n _ t1 gt1) z))) (by kernel_rfl)

def ord48 : List (Nat × PT) := []
theorem ordB48 : ordB (polF 48) ord48 (bodyOf Try.prog 48) = true := by kernel_rfl
theorem ppo_set_has_sim (n : Nat) (s_ : (List Int)) (n_ : Int) (r : Bool) (h : ppo_set_has n s_ n_ = some r) : PCall Try.prog 48 [.sl (s_.map (eInt .u64)), (vI n_)] (eqA (.v (.bool r))) := by
 unfold ppo_set_has at h
 obtain ⟨x1, gx1, h⟩ := bindE h
 obtain ⟨h2, h⟩ := grdE h
 obtain rfl := soI h
 exact kP ⟨ord48, [(1, ⟨[], [12], [(8, [(vU x1)])], [], [], [], [], []⟩)], [], [], []⟩ ordB48 (fun z => (aM (eInt .u64) gx1 (aI h2 z))) (by kernel_rfl)

noncomputable def c_ppo_view_leads2_L1 : Code := sub (bodyOf Try.prog 33) [1, 1, 1, 1, 0, 1, 0, 0]
noncomputable def c_ppo_view_leads2_L2 : Code := sub c_ppo_view_leads2_L1 [1, 0, 1, 1, 0, 0]
noncomputable def c_ppo_view_leads2_L3 : Code := sub c_ppo_view_leads2_L2 [1, 0, 0, 1, 0, 0]
theorem ordB_ppo_view_leads2_L3 : ordB (polF 33) ord33 c_ppo_view_leads2_L3 = true := by kernel_rfl
def ppo_view_leads2_L3_S (v : ppo_view) (a : Int) (b : Int) (ya3 : Int) (sd : (List Int) × Int × Int) : St := mkS 68 [(0, .fptr (ppo_view.enc v) 0), (1, (vI a)), (2, (vI b)), (7, .mf 0), (8, (vI ya3)), (9, (vI sd.2.2)), (10, (vI sd.2.1))] [] [.arr true 1 (sd.1.map (eInt .u64))] 0
def ppo_view_leads2_L3_T0 (v : ppo_view) (a : Int) (b : Int) (ya3 : Int) (tt : (List Int) × Int) : St := mkS 68 [(0, .fptr (ppo_view.enc v) 0), (1, (vI a)), (2, (vI b)), (7, .mf 0), (8, (vI ya3)), (9, (vI tt.2))] [] [.arr true 1 (tt.1.map (eInt .u64))] 0
def ppo_view_leads2_L3_out (v : ppo_view) (a : Int) (b : Int) (ya3 : Int) (tt : ((List Int) × Int)) : Ex × St := (.ex 4, ppo_view_leads2_L3_T0 v a b ya3 tt)
theorem ppo_view_leads2_L3_sim (n : Nat) (v : ppo_view) (a : Int) (b : Int) (ya3 : Int) : ∀ sd r, ppo_view_leads2_L3 n v a b ya3 sd = some r → CodeD Try.prog c_ppo_view_leads2_L3 (ppo_view_leads2_L3_S v a b ya3 sd) (rk (ppo_view_leads2_L3_S v a b ya3) (ppo_view_leads2_L3_out v a b ya3) r) := by
 intro sd r h
 unfold ppo_view_leads2_L3 at h
 rcases iteN h with ⟨hd1, h⟩ | ⟨hd1, h⟩
 ·
  obtain rfl := soI h
  exact kR ⟨ord33, [rV 12 [(44, vF)]], [], [], []⟩ [(6, ⟨[0, 1, 2, 7, 8, 9], [], 1, [], [], []⟩, ⟨[], [], []⟩)] ordB_ppo_view_leads2_L3 (rkE rfl neE) (fun z => (aB hd1 z)) (by kernel_rfl)
 obtain ⟨yd2, gyd2, h⟩ := bindE h
 rcases iteN h with ⟨hd3, h⟩ | ⟨hd3, h⟩
 ·
  obtain rfl := soI h
  exact kR ⟨ord33, [rVC 12 [(44, vT), (48, vF)] [(47, .v (.bool yd2))]], [], [], []⟩ [(6, ⟨[0, 1, 2, 7, 8, 9], [], 1, [], [], []⟩, ⟨[], [], []⟩)] ordB_ppo_view_leads2_L3 (rkE rfl neE) (fun z => (aB hd1 (aI (ppo_set_has_sim n sd.1 sd.2.2 yd2 gyd2) (aB hd3 z)))) (by kernel_rfl)
 obtain ⟨yd4, gyd4, h⟩ := bindE h
 rcases iteN h with ⟨hd5, h⟩ | ⟨hd5, h⟩
 ·
  obtain rfl := soI h
  exact kR ⟨ord33, [rVC 12 [(44, vT), (48, vT)] [(47, .v (.bool yd2))], rVC 14 [(55, vF)] [(53, .v (.bool yd4))]], [], [], []⟩ [(0, ⟨[0, 1, 2, 7, 8, 9, 10], [], 1, [], [], []⟩, ⟨[], [], []⟩)] ordB_ppo_view_leads2_L3 rkN (fun z => (aB hd1 (aI (ppo_set_has_sim n sd.1 sd.2.2 yd2 gyd2) (aB hd3 (aI (ppo_set_has_sim n sd.1 sd.2.1 yd4 gyd4) (aB hd5 z)))))) (by kernel_rfl)
 obtain ⟨yd6, gyd6, h⟩ := bindE h
 rcases iteN h with ⟨hd7, h⟩ | ⟨hd7, h⟩
 ·
  obtain rfl := soI h
  exact kR ⟨ord33, [rVC 12 [(44, vT), (48, vT)] [(47, .v (.bool yd2))], rVC 14 [(55, vT), (61, vF)] [(53, .v (.bool yd4)), (59, (vI yd6))]], [], [], []⟩ [(0, ⟨[0, 1, 2, 7, 8, 9, 10], [], 1, [], [], []⟩, ⟨[], [], []⟩)] ordB_ppo_view_leads2_L3 rkN (fun z => (aB hd1 (aI (ppo_set_has_sim n sd.1 sd.2.2 yd2 gyd2) (aB hd3 (aI (ppo_set_has_sim n sd.1 sd.2.1 yd4 gyd4) (aB hd5 (aI (ppo_view_rule2_sim n v sd.2.2 sd.2.1 yd6 gyd6) (aB hd7 z)))))))) (by kernel_rfl)
 obtain ⟨yd8, gyd8, h⟩ := bindE h
 obtain rfl := soI h
 exact kR ⟨ord33, [rVC 12 [(44, vT), (48, vT)] [(47, .v (.bool yd2))], rVC 14 [(55, vT), (61, vT)] [(53, .v (.bool yd4)), (59, (vI yd6))], (15, ⟨[], [], [], [], [], [(64, (.tup [], [.arr true 1 (yd8.map (eInt .u64))]))], [], []⟩)], [], [], []⟩ [(0, ⟨[0, 1, 2, 7, 8, 9, 10], [], 1, [], [], []⟩, ⟨[], [], []⟩)] ordB_ppo_view_leads2_L3 rkN (fun z => (aB hd1 (aI (ppo_set_has_sim n sd.1 sd.2.2 yd2 gyd2) (aB hd3 (aI (ppo_set_has_sim n sd.1 sd.2.1 yd4 gyd4) (aB hd5 (aI (ppo_view_rule2_sim n v sd.2.2 sd.2.1 yd6 gyd6) (aB hd7 (aI (ppo_set_put_S_sim n sd.2.1 sd.1 yd8 gyd8) z))))))))) (by kernel_rfl)

theorem ordB_ppo_view_leads2_L2 : ordB (polF 33) ord33 c_ppo_view_leads2_L2 = true := by kernel_rfl
def ppo_view_leads2_L2_S (v : ppo_view) (a : Int) (b : Int) (ya3 : Int) (sb : (List Int) × Int) : St := mkS 68 [(0, .fptr (ppo_view.enc v) 0), (1, (vI a)), (2, (vI b)), (7, .mf 0), (8, (vI ya3)), (9, (vI sb.2))] [] [.arr true 1 (sb.1.map (eInt .u64))] 0
def ppo_view_leads2_L2_T0 (v : ppo_view) (a : Int) (b : Int) (ya3 : Int) (tt : (List Int)) : St := mkS 68 [(0, .fptr (ppo_view.enc v) 0), (1, (vI a)), (2, (vI b)), (7, .mf 0), (8, (vI ya3))] [] [.arr true 1 (tt.map (eInt .u64))] 0
def ppo_view_leads2_L2_out (v : ppo_view) (a : Int) (b : Int) (ya3 : Int) (tt : ((List Int))) : Ex × St := (.ex 2, ppo_view_leads2_L2_T0 v a b ya3 tt)
theorem ppo_view_leads2_L2_sim (n : Nat) (v : ppo_view) (a : Int) (b : Int) (ya3 : Int) : ∀ sb r, ppo_view_leads2_L2 n v a b ya3 sb = some r → CodeD Try.prog c_ppo_view_leads2_L2 (ppo_view_leads2_L2_S v a b ya3 sb) (rk (ppo_view_leads2_L2_S v a b ya3) (ppo_view_leads2_L2_out v a b ya3) r) := by
 intro sb r h
 unfold ppo_view_leads2_L2 at h
 rcases iteN h with ⟨hb1, h⟩ | ⟨hb1, h⟩
 ·
  obtain rfl := soI h
  exact kR ⟨ord33, [rV 9 [(36, vF)]], [], [], []⟩ [(4, ⟨[0, 1, 2, 7, 8], [], 1, [], [], []⟩, ⟨[], [], []⟩)] ordB_ppo_view_leads2_L2 (rkE rfl neE) (fun z => (aB hb1 z)) (by kernel_rfl)
 obtain ⟨tb2, gtb2, h⟩ := bindE h
 obtain rfl := soI h
 exact kR ⟨ord33, [rV 9 [(36, vT)]], [], [(12, (⟨[0, 1, 2, 7, 8, 9, 10], [], 1, [], [], []⟩, ⟨[], [], []⟩, (.ex 4), ppo_view_leads2_L3_T0 v a b ya3 tb2))], []⟩ [(0, ⟨[0, 1, 2, 7, 8, 9], [], 1, [], [], []⟩, ⟨[], [], []⟩)] ordB_ppo_view_leads2_L2 rkN (fun z => (aB hb1 (aI (okL (pl := polF 33) (ppo_view_leads2_L3_S v a b ya3) (ppo_view_leads2_L3_out v a b ya3) (ppo_view_leads2_L3_sim n v a b ya3) n _ tb2 gtb2) z))) (by kernel_rfl)

theorem ordB_ppo_view_leads2_L1 : ordB (polF 33) ord33 c_ppo_view_leads2_L1 = true := by kernel_rfl
def ppo_view_leads2_L1_S (v : ppo_view) (a : Int) (b : Int) (sa : (List Int) × Int) : St := mkS 68 [(0, .fptr (ppo_view.enc v) 0), (1, (vI a)), (2, (vI b)), (7, .mf 0), (8, (vI sa.2))] [] [.arr true 1 (sa.1.map (eInt .u64))] 0
def ppo_view_leads2_L1_T0 (v : ppo_view) (a : Int) (b : Int) (tt : (List Int)) : St := mkS 68 [(2, (vI b)), (7, .mf 0)] [] [.arr true 1 (tt.map (eInt .u64))] 0
def ppo_view_leads2_L1_out (v : ppo_view) (a : Int) (b : Int) (tt : ((List Int))) : Ex × St := (.ex 0, ppo_view_leads2_L1_T0 v a b tt)
theorem ppo_view_leads2_L1_sim (n : Nat) (v : ppo_view) (a : Int) (b : Int) : ∀ sa r, ppo_view_leads2_L1 n v a b sa = some r → CodeD Try.prog c_ppo_view_leads2_L1 (ppo_view_leads2_L1_S v a b sa) (rk (ppo_view_leads2_L1_S v a b) (ppo_view_leads2_L1_out v a b) r) := by
 intro sa r h
 unfold ppo_view_leads2_L1 at h
 obtain ⟨ya1, gya1, h⟩ := bindE h
 rcases iteN h with ⟨ha2, h⟩ | ⟨ha2, h⟩
 ·
  obtain rfl := soI h
  exact kR ⟨ord33, [rVC 6 [(30, vF)] [(29, (vI ya1))]], [], [], []⟩ [(2, ⟨[2, 7], [], 1, [], [], []⟩, ⟨[], [], []⟩)] ordB_ppo_view_leads2_L1 (rkE rfl neE) (fun z => (aI (ppo_set_count_sim n sa.1 ya1 gya1) (aB ha2 z))) (by kernel_rfl)
 obtain ⟨ya3, gya3, h⟩ := bindE h
 obtain ⟨ta4, gta4, h⟩ := bindE h
 obtain rfl := soI h
 exact kR ⟨ord33, [rVC 6 [(30, vT)] [(29, (vI ya1))], rVC 7 [] [(32, (vI ya3))]], [], [(9, (⟨[0, 1, 2, 7, 8, 9], [], 1, [], [], []⟩, ⟨[], [], []⟩, (.ex 2), ppo_view_leads2_L2_T0 v a b ya3 ta4))], []⟩ [(0, ⟨[0, 1, 2, 7, 8], [], 1, [], [], []⟩, ⟨[], [], []⟩)] ordB_ppo_view_leads2_L1 rkN (fun z => (aI (ppo_set_count_sim n sa.1 ya1 gya1) (aB ha2 (aI (ppo_set_count_sim n sa.1 ya3 gya3) (aI (okL (pl := polF 33) (ppo_view_leads2_L2_S v a b ya3) (ppo_view_leads2_L2_out v a b ya3) (ppo_view_leads2_L2_sim n v a b ya3) n _ ta4 gta4) z))))) (by kernel_rfl)

theorem ppo_view_leads2_sim (n : Nat) (v : ppo_view) (a : Int) (b : Int) (r : Bool) (h : ppo_view_leads2 n v a b = some r) : PCall Try.prog 33 [.fptr (ppo_view.enc v) 0, (vI a), (vI b)] (eqA (.v (.bool r))) := by
 unfold ppo_view_leads2 at h
 obtain ⟨y1, gy1, h⟩ := bindE h
 rcases iteE h with ⟨h2, h⟩ | ⟨h2, h⟩
 ·
  obtain rfl := soI h
  exact kP ⟨ord33, [rVC 1 [(15, vT)] [(14, .v (.bool y1))]], [], [], []⟩ ordB33 (fun z => (aI (ppo_view_ahead2_sim n v a b y1 gy1) (aB h2 z))) (by kernel_rfl)
 obtain ⟨h3, h⟩ := grdE h
 obtain ⟨y4, gy4, h⟩ := bindE h
 obtain ⟨t5, gt5, h⟩ := bindE h
 obtain ⟨y6, gy6, h⟩ := bindE h
 obtain rfl := soI h
 exact kP ⟨ord33, [rVC 1 [(15, vF)] [(14, .v (.bool y1))], (3, ⟨[], [23], [], [(20, (vI (v.all.length : Int)))], [], [], [(23, (0, (List.replicate ((addW .i64 (quoW .i64 (v.all.length : Int) 64) 1)).toNat 0).map (eInt .u64)))], []⟩), (4, ⟨[], [], [], [], [], [(26, (.tup [], [.arr true 1 (y4.map (eInt .u64))]))], [], []⟩), rVC 16 [] [(67, .v (.bool y6))]], [], [(6, (⟨[0, 1, 2, 7, 8], [], 1, [], [], []⟩, ⟨[], [], []⟩, (.ex 0), ppo_view_leads2_L1_T0 v a b t5))], []⟩ ordB33 (fun z => (aI (ppo_view_ahead2_sim n v a b y1 gy1) (aB h2 (aL Event.enc v.all (aI h3 (aI (rep_map (eInt .u64) _ 0 : List.replicate ((addW .i64 (quoW .i64 (v.all.length : Int) 64) 1)).toNat [(vU 0)] = (List.replicate ((addW .i64 (quoW .i64 (v.all.length : Int) 64) 1)).toNat 0).map (eInt .u64)) (aI (ppo_set_put_S_sim n a (List.replicate ((addW .i64 (quoW .i64 (v.all.length : Int) 64) 1)).toNat 0) y4 gy4) (aI (okL (pl := polF 33) (ppo_view_leads2_L1_S v a b) (ppo_view_leads2_L1_out v a b) (ppo_view_leads2_L1_sim n v a b) n _ t5 gt5) (aI (ppo_set_has_sim n t5 b y6 gy6) z))))))))) (by kernel_rfl)

def ord16 : List (Nat × PT) := []
theorem ordB16 : ordB (polF 16) ord16 (bodyOf Try.prog 16) = true := by kernel_rfl
theorem ppo_Whole_sim (n : Nat) (c : Cand) (a : Int) (b : Int) (r : Bool) (h : ppo_Whole n c a b = some r) : PCall Try.prog 16 [(aAgg Cand.enc c), (vI a), (vI b)] (eqA (.v (.bool r))) := by
 unfold ppo_Whole at h
 obtain ⟨y1, gy1, h⟩ := bindE h
 rcases y1 with _ | z2
 ·
  obtain ⟨y2, gy2, h⟩ := bindE h
  obtain rfl := soI h
  exact kP ⟨ord16, [rVC 1 [] [(7, .nilp), (10, .v (.bool y2))]], [], [], []⟩ ordB16 (fun z => (aI (ppo_of_sim n c none gy1) (aI (ppo_view_leads_sim n a b y2 gy2) z))) (by kernel_rfl)
 ·
  obtain ⟨y3, gy3, h⟩ := bindE h
  obtain rfl := soI h
  exact kP ⟨ord16, [rVC 1 [] [(7, .fptr (ppo_view.enc z2) 0), (10, .v (.bool y3))]], [], [], []⟩ ordB16 (fun z => (aI (ppo_of_sim n c (some z2) gy1) (aI (ppo_view_leads2_sim n z2 a b y3 gy3) z))) (by kernel_rfl)

def ord19 : List (Nat × PT) := [(9, (ptS [0, 1, 2, 3, 4, 5, 6, 7, 8, 9, 10, 11, 12, 13, 14, 15, 16, 17, 18, 19, 20, 21]))]
theorem ordB19 : ordB (polF 19) ord19 (bodyOf Try.prog 19) = true := by kernel_rfl
noncomputable def c_ppo_Full_L1 : Code := sub (bodyOf Try.prog 19) [1, 1, 1, 1, 0, 1, 0, 0]
theorem ordB_ppo_Full_L1 : ordB (polF 19) ord19 c_ppo_Full_L1 = true := by kernel_rfl
def ppo_Full_L1_S (z2 : ppo_view) (sa : Int × Int) : St := mkS 47 [(3, .fptr (ppo_view.enc z2) 0), (4, (vI sa.2)), (13, .sl (z2.all.map Event.enc)), (14, (vI (z2.all.length : Int))), (15, (vI sa.1))] [] [] 0
def ppo_Full_L1_T0 (z2 : ppo_view) (tt : Unit) : St := mkS 47 [] [] [] 0
def ppo_Full_L1_T1 (z2 : ppo_view) (tt : Unit) : St := mkS 47 [(2, vF)] [] [] 0
def ppo_Full_L1_out (z2 : ppo_view) (t0 : (Unit ⊕ Unit)) : Ex × St := match t0 with | .inl tt => (.ex 0, ppo_Full_L1_T0 z2 tt) | .inr tt => (.ret, ppo_Full_L1_T1 z2 tt)
theorem ppo_Full_L1_sim (n : Nat) (z2 : ppo_view) : ∀ sa r, ppo_Full_L1 n z2 sa = some r → CodeD Try.prog c_ppo_Full_L1 (ppo_Full_L1_S z2 sa) (rk (ppo_Full_L1_S z2) (ppo_Full_L1_out z2) r) := by
 intro sa r h
 unfold ppo_Full_L1 at h
 rcases iteN h with ⟨ha1, h⟩ | ⟨ha1, h⟩
 ·
  obtain rfl := soI h
  exact kR ⟨ord19, [rV 6 [(16, vF)]], [], [], []⟩ [(2, ⟨[], [], 0, [], [], []⟩, ⟨[], [], []⟩)] ordB_ppo_Full_L1 (rkE rfl neE) (fun z => (aB ha1 z)) (by kernel_rfl)
 obtain ⟨xa2, gxa2, h⟩ := bindE h
 obtain ⟨ya3, gya3, h⟩ := bindE h
 rcases iteE h with ⟨ha4, h⟩ | ⟨ha4, h⟩
 ·
  obtain rfl := soI h
  exact kR ⟨ord19, [rV 6 [(16, vT)], (7, ⟨[], [], [(18, (Event.enc xa2))], [], [], [], [], []⟩), rVC 8 [(22, vT)] [(21, .v (.bool ya3))]], [], [], []⟩ [(0, ⟨[3, 4, 13, 14, 15], [6], 0, [], [], []⟩, ⟨[], [], []⟩)] ordB_ppo_Full_L1 rkN (fun z => (aB ha1 (aM Event.enc gxa2 (aI (event_Memory_sim n xa2 ya3 gya3) (aB ha4 z))))) (by kernel_rfl)
 rcases iteN h with ⟨ha5, h⟩ | ⟨ha5, h⟩
 ·
  obtain rfl := soI h
  exact kR ⟨ord19, [rV 6 [(16, vT)], (7, ⟨[], [], [(18, (Event.enc xa2))], [], [], [], [], []⟩), rVC 8 [(22, vF)] [(21, .v (.bool ya3))], rV 9 [(25, vF)]], [], [], []⟩ [(0, ⟨[3, 4, 13, 14, 15], [6], 0, [], [], []⟩, ⟨[], [], []⟩)] ordB_ppo_Full_L1 rkN (fun z => (aB ha1 (aM Event.enc gxa2 (aI (event_Memory_sim n xa2 ya3 gya3) (aB ha4 (aB ha5 z)))))) (by kernel_rfl)
 obtain ⟨xa6, gxa6, h⟩ := bindE h
 rcases iteN h with ⟨ha7, h⟩ | ⟨ha7, h⟩
 ·
  obtain rfl := soI h
  exact kR ⟨ord19, [rV 6 [(16, vT)], (7, ⟨[], [], [(18, (Event.enc xa2))], [], [], [], [], []⟩), rVC 8 [(22, vF)] [(21, .v (.bool ya3))], (9, ⟨[], [], [(31, (Event.enc xa6))], [(25, vT), (38, vF)], [], [], [], []⟩)], [], [], []⟩ [(0, ⟨[3, 4, 13, 14, 15], [6], 0, [], [], []⟩, ⟨[], [], []⟩)] ordB_ppo_Full_L1 rkN (fun z => (aB ha1 (aM Event.enc gxa2 (aI (event_Memory_sim n xa2 ya3 gya3) (aB ha4 (aB ha5 (aM Event.enc gxa6 (aB ha7 z)))))))) (by kernel_rfl)
 obtain ⟨ya8, gya8, h⟩ := bindE h
 rcases iteE h with ⟨ha9, h⟩ | ⟨ha9, h⟩
 ·
  obtain rfl := soI h
  exact kR ⟨ord19, [rV 6 [(16, vT)], (7, ⟨[], [], [(18, (Event.enc xa2))], [], [], [], [], []⟩), rVC 8 [(22, vF)] [(21, .v (.bool ya3))], (9, ⟨[], [], [(31, (Event.enc xa6))], [(25, vT), (38, vT), (44, vT)], [(42, .v (.bool ya8))], [], [], []⟩)], [], [], []⟩ [(1, ⟨[2], [6], 0, [], [], []⟩, ⟨[], [], []⟩)] ordB_ppo_Full_L1 (rkE rfl neR) (fun z => (aB ha1 (aM Event.enc gxa2 (aI (event_Memory_sim n xa2 ya3 gya3) (aB ha4 (aB ha5 (aM Event.enc gxa6 (aB ha7 (aI (ppo_view_leads2_sim n z2 sa.2 sa.1 ya8 gya8) (aB ha9 z)))))))))) (by kernel_rfl)
 obtain rfl := soI h
 exact kR ⟨ord19, [rV 6 [(16, vT)], (7, ⟨[], [], [(18, (Event.enc xa2))], [], [], [], [], []⟩), rVC 8 [(22, vF)] [(21, .v (.bool ya3))], (9, ⟨[], [], [(31, (Event.enc xa6))], [(25, vT), (38, vT), (44, vF)], [(42, .v (.bool ya8))], [], [], []⟩)], [], [], []⟩ [(0, ⟨[3, 4, 13, 14, 15], [6], 0, [], [], []⟩, ⟨[], [], []⟩)] ordB_ppo_Full_L1 rkN (fun z => (aB ha1 (aM Event.enc gxa2 (aI (event_Memory_sim n xa2 ya3 gya3) (aB ha4 (aB ha5 (aM Event.enc gxa6 (aB ha7 (aI (ppo_view_leads2_sim n z2 sa.2 sa.1 ya8 gya8) (aB ha9 z)))))))))) (by kernel_rfl)

theorem ppo_Full_sim (n : Nat) (c : Cand) (r : Bool) (h : ppo_Full n c = some r) : PCall Try.prog 19 [(aAgg Cand.enc c)] (eqA (.v (.bool r))) := by
 unfold ppo_Full at h
 obtain ⟨y1, gy1, h⟩ := bindE h
 rcases y1 with _ | z2
 ·
  obtain rfl := soI h
  exact kP ⟨ord19, [rVC 1 [] [(7, .nilp)]], [], [], []⟩ ordB19 (fun z => (aI (ppo_of_sim n c none gy1) z)) (by kernel_rfl)
 ·
  obtain ⟨t3, gt3, h⟩ := bindE h
  rcases t3 with w4 | w4
  ·
   obtain rfl := soI h
   exact kP ⟨ord19, [rVC 1 [] [(7, .fptr (ppo_view.enc z2) 0)], rV 5 [(14, (vI (z2.all.length : Int)))]], [], [(6, (⟨[3, 4, 13, 14, 15], [], 0, [], [], []⟩, ⟨[], [], []⟩, (.ex 0), ppo_Full_L1_T0 z2 w4))], []⟩ ordB19 (fun z => (aI (ppo_of_sim n c (some z2) gy1) (aL Event.enc z2.all (aI (okL (pl := polF 19) (ppo_Full_L1_S z2) (ppo_Full_L1_out z2) (ppo_Full_L1_sim n z2) n _ (.inl w4) gt3) z)))) (by kernel_rfl)
  ·
   obtain rfl := soI h
   exact kP ⟨ord19, [rVC 1 [] [(7, .fptr (ppo_view.enc z2) 0)], rV 5 [(14, (vI (z2.all.length : Int)))]], [], [(6, (⟨[3, 4, 13, 14, 15], [], 0, [], [], []⟩, ⟨[], [], []⟩, .ret, ppo_Full_L1_T1 z2 w4))], []⟩ ordB19 (fun z => (aI (ppo_of_sim n c (some z2) gy1) (aL Event.enc z2.all (aI (okL (pl := polF 19) (ppo_Full_L1_S z2) (ppo_Full_L1_out z2) (ppo_Full_L1_sim n z2) n _ (.inr w4) gt3) z)))) (by kernel_rfl)

end
end Go.Proofs.Ytigcbjbaibcgfaa
