/- What the functions compute, they compute: printed by a program, path by path. No conditions. -/
import Derived.Test.YtomahedcdcnnhaaDoorP2
import Derived.KernelRfl
namespace Go.Proofs.YtomahedcdcnnhaaDoor
open Go A
set_option linter.unusedVariables false
set_option maxRecDepth 100000
set_option maxHeartbeats 0
section
variable (pc:Nat→List AV→(AV→Prop)→Prop) (sc:Nat→List AV→List Ob→(AV→List Ob→Prop)→Prop) (lp:Pol→Code→St→(Ex→St→Prop)→Prop) (cd:CutP)

def ord40:List (Nat×PT):=[(6,(ptS [0,1,2,3,4,5,6,7,8,9,10,11,12,13,14,15,16]))]
theorem ordB40:ordB (polF 40) ord40 (bodyOf Tryd.prog 40)=true:=by kernel_rfl
noncomputable def Z198:Code:=sub (bodyOf Tryd.prog 40) [1,1,0,1,0,0]
theorem Z199:ordB (polF 40) ord40 Z198=true:=by kernel_rfl
def Z200 (v:ppo_view) (a:Int) (b:Int) (sa:Int):St:=mkS 39 [(0,.fptr (ppo_view.enc v) 0),(1,(vI a)),(2,(vI b)),(14,.agg [.fn 62 [] [],.fn 63 [] [],.fn 66 [] [],.fn 67 [] [],.fn 69 [] [],.fn 70 [] [],.fn 71 [] [],.fn 72 [] [],.fn 73 [] [],.fn 75 [] [],.fn 76 [] [],.fn 77 [] [],.fn 78 [] []]),(15,(vI sa))] [] [] 0
def Z201 (v:ppo_view) (a:Int) (b:Int) (tt:Unit):St:=mkS 39 [] [] [] 0
def Z202 (v:ppo_view) (a:Int) (b:Int) (tt:Int):St:=mkS 39 [(6,(vI tt))] [] [] 0
def Z203 (v:ppo_view) (a:Int) (b:Int) (t0:(Unit⊕Int)):Ex×St:=match t0 with | .inl tt=>(.ex 0,Z201 v a b tt) | .inr tt=>(.ret,Z202 v a b tt)
theorem Z204 (n:Nat) (v:ppo_view) (a:Int) (b:Int):∀ sa r,ppo_view_rule_L1 n v a b sa=some r→CodeD Tryd.prog Z198 (Z200 v a b sa) (rk (Z200 v a b) (Z203 v a b) r):=by
 intro sa r h
 unfold ppo_view_rule_L1 at h
 rcases iteN h with ⟨ha1,h⟩ | ⟨ha1,h⟩
 ·
  exact kQ h (nA ord40 [rV 4 [(16,vF)]]) [wK 2 [] [] 0] Z199 (rkE rfl neE) (fun z=>(aB ha1 z)) (by kernel_rfl)
 rcases iteE h with ⟨ha2,h⟩ | ⟨ha2,h⟩
 ·
  obtain ⟨xa3,gxa3,h⟩:=bindE h
  obtain ⟨xa4,gxa4,h⟩:=bindE h
  obtain ⟨ya5,gya5,h⟩:=bindE h
  have c106_:=fun (R:Prop) (z:R)=>(aB ha1 (aI ((LeA.ofEq (eqI ha2)):LeA ((vI sa)) ((vI 0))) (aM Event.enc gxa3 (aM Event.enc gxa4 (aI (ppo_rules_1_sim n v a b xa3 xa4 ya5 gya5) z)))))
  rcases iteE h with ⟨ha6,h⟩ | ⟨ha6,h⟩
  ·
   exact kQ h ⟨ord40,[rV 4 [(16,vT)],(6,⟨[],[],[(28,(Event.enc xa3)),(34,(Event.enc xa4))],[(35,vT)],[(35,.v (.bool ya5))],[],[],[],[]⟩)],[(4,⟨[(15,(vI 0))],[],[]⟩)],[],[]⟩ [wK 1 [6] [] 0] Z199 (rkE rfl neR) (fun z=>(c106_ _ (aB ha6 z))) (by kernel_rfl)
  exact kQ h ⟨ord40,[rV 4 [(16,vT)],(6,⟨[],[],[(28,(Event.enc xa3)),(34,(Event.enc xa4))],[(35,vF)],[(35,.v (.bool ya5))],[],[],[],[]⟩)],[(4,⟨[(15,(vI 0))],[],[]⟩)],[],[]⟩ [wK 0 [0,1,2,14,15] [] 0] Z199 rkN (fun z=>(c106_ _ (aB ha6 z))) (by kernel_rfl)
 rcases iteE h with ⟨ha2,h⟩ | ⟨ha2,h⟩
 ·
  obtain ⟨xa3,gxa3,h⟩:=bindE h
  obtain ⟨xa4,gxa4,h⟩:=bindE h
  obtain ⟨ya5,gya5,h⟩:=bindE h
  have c107_:=fun (R:Prop) (z:R)=>(aB ha1 (aI ((LeA.ofEq (eqI ha2)):LeA ((vI sa)) ((vI 1))) (aM Event.enc gxa3 (aM Event.enc gxa4 (aI (ppo_rules_2_sim n v a b xa3 xa4 ya5 gya5) z)))))
  rcases iteE h with ⟨ha6,h⟩ | ⟨ha6,h⟩
  ·
   exact kQ h ⟨ord40,[rV 4 [(16,vT)],(6,⟨[],[],[(28,(Event.enc xa3)),(34,(Event.enc xa4))],[(35,vT)],[(35,.v (.bool ya5))],[],[],[],[]⟩)],[(4,⟨[(15,(vI 1))],[],[]⟩)],[],[]⟩ [wK 1 [6] [] 0] Z199 (rkE rfl neR) (fun z=>(c107_ _ (aB ha6 z))) (by kernel_rfl)
  exact kQ h ⟨ord40,[rV 4 [(16,vT)],(6,⟨[],[],[(28,(Event.enc xa3)),(34,(Event.enc xa4))],[(35,vF)],[(35,.v (.bool ya5))],[],[],[],[]⟩)],[(4,⟨[(15,(vI 1))],[],[]⟩)],[],[]⟩ [wK 0 [0,1,2,14,15] [] 0] Z199 rkN (fun z=>(c107_ _ (aB ha6 z))) (by kernel_rfl)
 rcases iteE h with ⟨ha2,h⟩ | ⟨ha2,h⟩
 ·
  obtain ⟨xa3,gxa3,h⟩:=bindE h
  obtain ⟨xa4,gxa4,h⟩:=bindE h
  obtain ⟨ya5,gya5,h⟩:=bindE h
  have c108_:=fun (R:Prop) (z:R)=>(aB ha1 (aI ((LeA.ofEq (eqI ha2)):LeA ((vI sa)) ((vI 2))) (aM Event.enc gxa3 (aM Event.enc gxa4 (aI (ppo_rules_3_sim n v a b xa3 xa4 ya5 gya5) z)))))
  rcases iteE h with ⟨ha6,h⟩ | ⟨ha6,h⟩
  ·
   exact kQ h ⟨ord40,[rV 4 [(16,vT)],(6,⟨[],[],[(28,(Event.enc xa3)),(34,(Event.enc xa4))],[(35,vT)],[(35,.v (.bool ya5))],[],[],[],[]⟩)],[(4,⟨[(15,(vI 2))],[],[]⟩)],[],[]⟩ [wK 1 [6] [] 0] Z199 (rkE rfl neR) (fun z=>(c108_ _ (aB ha6 z))) (by kernel_rfl)
  exact kQ h ⟨ord40,[rV 4 [(16,vT)],(6,⟨[],[],[(28,(Event.enc xa3)),(34,(Event.enc xa4))],[(35,vF)],[(35,.v (.bool ya5))],[],[],[],[]⟩)],[(4,⟨[(15,(vI 2))],[],[]⟩)],[],[]⟩ [wK 0 [0,1,2,14,15] [] 0] Z199 rkN (fun z=>(c108_ _ (aB ha6 z))) (by kernel_rfl)
 rcases iteE h with ⟨ha2,h⟩ | ⟨ha2,h⟩
 ·
  obtain ⟨xa3,gxa3,h⟩:=bindE h
  obtain ⟨xa4,gxa4,h⟩:=bindE h
  obtain ⟨ya5,gya5,h⟩:=bindE h
  have c109_:=fun (R:Prop) (z:R)=>(aB ha1 (aI ((LeA.ofEq (eqI ha2)):LeA ((vI sa)) ((vI 3))) (aM Event.enc gxa3 (aM Event.enc gxa4 (aI (ppo_rules_4_sim n v a b xa3 xa4 ya5 gya5) z)))))
  rcases iteE h with ⟨ha6,h⟩ | ⟨ha6,h⟩
  ·
   exact kQ h ⟨ord40,[rV 4 [(16,vT)],(6,⟨[],[],[(28,(Event.enc xa3)),(34,(Event.enc xa4))],[(35,vT)],[(35,.v (.bool ya5))],[],[],[],[]⟩)],[(4,⟨[(15,(vI 3))],[],[]⟩)],[],[]⟩ [wK 1 [6] [] 0] Z199 (rkE rfl neR) (fun z=>(c109_ _ (aB ha6 z))) (by kernel_rfl)
  exact kQ h ⟨ord40,[rV 4 [(16,vT)],(6,⟨[],[],[(28,(Event.enc xa3)),(34,(Event.enc xa4))],[(35,vF)],[(35,.v (.bool ya5))],[],[],[],[]⟩)],[(4,⟨[(15,(vI 3))],[],[]⟩)],[],[]⟩ [wK 0 [0,1,2,14,15] [] 0] Z199 rkN (fun z=>(c109_ _ (aB ha6 z))) (by kernel_rfl)
 rcases iteE h with ⟨ha2,h⟩ | ⟨ha2,h⟩
 ·
  obtain ⟨xa3,gxa3,h⟩:=bindE h
  obtain ⟨xa4,gxa4,h⟩:=bindE h
  obtain ⟨ya5,gya5,h⟩:=bindE h
  have c110_:=fun (R:Prop) (z:R)=>(aB ha1 (aI ((LeA.ofEq (eqI ha2)):LeA ((vI sa)) ((vI 4))) (aM Event.enc gxa3 (aM Event.enc gxa4 (aI (ppo_rules_5_sim n v a b xa3 xa4 ya5 gya5) z)))))
  rcases iteE h with ⟨ha6,h⟩ | ⟨ha6,h⟩
  ·
   exact kQ h ⟨ord40,[rV 4 [(16,vT)],(6,⟨[],[],[(28,(Event.enc xa3)),(34,(Event.enc xa4))],[(35,vT)],[(35,.v (.bool ya5))],[],[],[],[]⟩)],[(4,⟨[(15,(vI 4))],[],[]⟩)],[],[]⟩ [wK 1 [6] [] 0] Z199 (rkE rfl neR) (fun z=>(c110_ _ (aB ha6 z))) (by kernel_rfl)
  exact kQ h ⟨ord40,[rV 4 [(16,vT)],(6,⟨[],[],[(28,(Event.enc xa3)),(34,(Event.enc xa4))],[(35,vF)],[(35,.v (.bool ya5))],[],[],[],[]⟩)],[(4,⟨[(15,(vI 4))],[],[]⟩)],[],[]⟩ [wK 0 [0,1,2,14,15] [] 0] Z199 rkN (fun z=>(c110_ _ (aB ha6 z))) (by kernel_rfl)
 rcases iteE h with ⟨ha2,h⟩ | ⟨ha2,h⟩
 ·
  obtain ⟨xa3,gxa3,h⟩:=bindE h
  obtain ⟨xa4,gxa4,h⟩:=bindE h
  obtain ⟨ya5,gya5,h⟩:=bindE h
  have c111_:=fun (R:Prop) (z:R)=>(aB ha1 (aI ((LeA.ofEq (eqI ha2)):LeA ((vI sa)) ((vI 5))) (aM Event.enc gxa3 (aM Event.enc gxa4 (aI (ppo_rules_6_sim n v a b xa3 xa4 ya5 gya5) z)))))
  rcases iteE h with ⟨ha6,h⟩ | ⟨ha6,h⟩
  ·
   exact kQ h ⟨ord40,[rV 4 [(16,vT)],(6,⟨[],[],[(28,(Event.enc xa3)),(34,(Event.enc xa4))],[(35,vT)],[(35,.v (.bool ya5))],[],[],[],[]⟩)],[(4,⟨[(15,(vI 5))],[],[]⟩)],[],[]⟩ [wK 1 [6] [] 0] Z199 (rkE rfl neR) (fun z=>(c111_ _ (aB ha6 z))) (by kernel_rfl)
  exact kQ h ⟨ord40,[rV 4 [(16,vT)],(6,⟨[],[],[(28,(Event.enc xa3)),(34,(Event.enc xa4))],[(35,vF)],[(35,.v (.bool ya5))],[],[],[],[]⟩)],[(4,⟨[(15,(vI 5))],[],[]⟩)],[],[]⟩ [wK 0 [0,1,2,14,15] [] 0] Z199 rkN (fun z=>(c111_ _ (aB ha6 z))) (by kernel_rfl)
 rcases iteE h with ⟨ha2,h⟩ | ⟨ha2,h⟩
 ·
  obtain ⟨xa3,gxa3,h⟩:=bindE h
  obtain ⟨xa4,gxa4,h⟩:=bindE h
  obtain ⟨ya5,gya5,h⟩:=bindE h
  have c112_:=fun (R:Prop) (z:R)=>(aB ha1 (aI ((LeA.ofEq (eqI ha2)):LeA ((vI sa)) ((vI 6))) (aM Event.enc gxa3 (aM Event.enc gxa4 (aI (ppo_rules_7_sim n v a b xa3 xa4 ya5 gya5) z)))))
  rcases iteE h with ⟨ha6,h⟩ | ⟨ha6,h⟩
  ·
   exact kQ h ⟨ord40,[rV 4 [(16,vT)],(6,⟨[],[],[(28,(Event.enc xa3)),(34,(Event.enc xa4))],[(35,vT)],[(35,.v (.bool ya5))],[],[],[],[]⟩)],[(4,⟨[(15,(vI 6))],[],[]⟩)],[],[]⟩ [wK 1 [6] [] 0] Z199 (rkE rfl neR) (fun z=>(c112_ _ (aB ha6 z))) (by kernel_rfl)
  exact kQ h ⟨ord40,[rV 4 [(16,vT)],(6,⟨[],[],[(28,(Event.enc xa3)),(34,(Event.enc xa4))],[(35,vF)],[(35,.v (.bool ya5))],[],[],[],[]⟩)],[(4,⟨[(15,(vI 6))],[],[]⟩)],[],[]⟩ [wK 0 [0,1,2,14,15] [] 0] Z199 rkN (fun z=>(c112_ _ (aB ha6 z))) (by kernel_rfl)
 rcases iteE h with ⟨ha2,h⟩ | ⟨ha2,h⟩
 ·
  obtain ⟨xa3,gxa3,h⟩:=bindE h
  obtain ⟨xa4,gxa4,h⟩:=bindE h
  obtain ⟨ya5,gya5,h⟩:=bindE h
  have c113_:=fun (R:Prop) (z:R)=>(aB ha1 (aI ((LeA.ofEq (eqI ha2)):LeA ((vI sa)) ((vI 7))) (aM Event.enc gxa3 (aM Event.enc gxa4 (aI (ppo_rules_8_sim n v a b xa3 xa4 ya5 gya5) z)))))
  rcases iteE h with ⟨ha6,h⟩ | ⟨ha6,h⟩
  ·
   exact kQ h ⟨ord40,[rV 4 [(16,vT)],(6,⟨[],[],[(28,(Event.enc xa3)),(34,(Event.enc xa4))],[(35,vT)],[(35,.v (.bool ya5))],[],[],[],[]⟩)],[(4,⟨[(15,(vI 7))],[],[]⟩)],[],[]⟩ [wK 1 [6] [] 0] Z199 (rkE rfl neR) (fun z=>(c113_ _ (aB ha6 z))) (by kernel_rfl)
  exact kQ h ⟨ord40,[rV 4 [(16,vT)],(6,⟨[],[],[(28,(Event.enc xa3)),(34,(Event.enc xa4))],[(35,vF)],[(35,.v (.bool ya5))],[],[],[],[]⟩)],[(4,⟨[(15,(vI 7))],[],[]⟩)],[],[]⟩ [wK 0 [0,1,2,14,15] [] 0] Z199 rkN (fun z=>(c113_ _ (aB ha6 z))) (by kernel_rfl)
 rcases iteE h with ⟨ha2,h⟩ | ⟨ha2,h⟩
 ·
  obtain ⟨xa3,gxa3,h⟩:=bindE h
  obtain ⟨xa4,gxa4,h⟩:=bindE h
  obtain ⟨ya5,gya5,h⟩:=bindE h
  have c114_:=fun (R:Prop) (z:R)=>(aB ha1 (aI ((LeA.ofEq (eqI ha2)):LeA ((vI sa)) ((vI 8))) (aM Event.enc gxa3 (aM Event.enc gxa4 (aI (ppo_rules_9_sim n v a b xa3 xa4 ya5 gya5) z)))))
  rcases iteE h with ⟨ha6,h⟩ | ⟨ha6,h⟩
  ·
   exact kQ h ⟨ord40,[rV 4 [(16,vT)],(6,⟨[],[],[(28,(Event.enc xa3)),(34,(Event.enc xa4))],[(35,vT)],[(35,.v (.bool ya5))],[],[],[],[]⟩)],[(4,⟨[(15,(vI 8))],[],[]⟩)],[],[]⟩ [wK 1 [6] [] 0] Z199 (rkE rfl neR) (fun z=>(c114_ _ (aB ha6 z))) (by kernel_rfl)
  exact kQ h ⟨ord40,[rV 4 [(16,vT)],(6,⟨[],[],[(28,(Event.enc xa3)),(34,(Event.enc xa4))],[(35,vF)],[(35,.v (.bool ya5))],[],[],[],[]⟩)],[(4,⟨[(15,(vI 8))],[],[]⟩)],[],[]⟩ [wK 0 [0,1,2,14,15] [] 0] Z199 rkN (fun z=>(c114_ _ (aB ha6 z))) (by kernel_rfl)
 rcases iteE h with ⟨ha2,h⟩ | ⟨ha2,h⟩
 ·
  obtain ⟨xa3,gxa3,h⟩:=bindE h
  obtain ⟨xa4,gxa4,h⟩:=bindE h
  obtain ⟨ya5,gya5,h⟩:=bindE h
  have c115_:=fun (R:Prop) (z:R)=>(aB ha1 (aI ((LeA.ofEq (eqI ha2)):LeA ((vI sa)) ((vI 9))) (aM Event.enc gxa3 (aM Event.enc gxa4 (aI (ppo_rules_10_sim n v a b xa3 xa4 ya5 gya5) z)))))
  rcases iteE h with ⟨ha6,h⟩ | ⟨ha6,h⟩
  ·
   exact kQ h ⟨ord40,[rV 4 [(16,vT)],(6,⟨[],[],[(28,(Event.enc xa3)),(34,(Event.enc xa4))],[(35,vT)],[(35,.v (.bool ya5))],[],[],[],[]⟩)],[(4,⟨[(15,(vI 9))],[],[]⟩)],[],[]⟩ [wK 1 [6] [] 0] Z199 (rkE rfl neR) (fun z=>(c115_ _ (aB ha6 z))) (by kernel_rfl)
  exact kQ h ⟨ord40,[rV 4 [(16,vT)],(6,⟨[],[],[(28,(Event.enc xa3)),(34,(Event.enc xa4))],[(35,vF)],[(35,.v (.bool ya5))],[],[],[],[]⟩)],[(4,⟨[(15,(vI 9))],[],[]⟩)],[],[]⟩ [wK 0 [0,1,2,14,15] [] 0] Z199 rkN (fun z=>(c115_ _ (aB ha6 z))) (by kernel_rfl)
 rcases iteE h with ⟨ha2,h⟩ | ⟨ha2,h⟩
 ·
  obtain ⟨xa3,gxa3,h⟩:=bindE h
  obtain ⟨xa4,gxa4,h⟩:=bindE h
  obtain ⟨ya5,gya5,h⟩:=bindE h
  have c116_:=fun (R:Prop) (z:R)=>(aB ha1 (aI ((LeA.ofEq (eqI ha2)):LeA ((vI sa)) ((vI 10))) (aM Event.enc gxa3 (aM Event.enc gxa4 (aI (ppo_rules_11_sim n v a b xa3 xa4 ya5 gya5) z)))))
  rcases iteE h with ⟨ha6,h⟩ | ⟨ha6,h⟩
  ·
   exact kQ h ⟨ord40,[rV 4 [(16,vT)],(6,⟨[],[],[(28,(Event.enc xa3)),(34,(Event.enc xa4))],[(35,vT)],[(35,.v (.bool ya5))],[],[],[],[]⟩)],[(4,⟨[(15,(vI 10))],[],[]⟩)],[],[]⟩ [wK 1 [6] [] 0] Z199 (rkE rfl neR) (fun z=>(c116_ _ (aB ha6 z))) (by kernel_rfl)
  exact kQ h ⟨ord40,[rV 4 [(16,vT)],(6,⟨[],[],[(28,(Event.enc xa3)),(34,(Event.enc xa4))],[(35,vF)],[(35,.v (.bool ya5))],[],[],[],[]⟩)],[(4,⟨[(15,(vI 10))],[],[]⟩)],[],[]⟩ [wK 0 [0,1,2,14,15] [] 0] Z199 rkN (fun z=>(c116_ _ (aB ha6 z))) (by kernel_rfl)
 rcases iteE h with ⟨ha2,h⟩ | ⟨ha2,h⟩
 ·
  obtain ⟨xa3,gxa3,h⟩:=bindE h
  obtain ⟨xa4,gxa4,h⟩:=bindE h
  obtain ⟨ya5,gya5,h⟩:=bindE h
  have c117_:=fun (R:Prop) (z:R)=>(aB ha1 (aI ((LeA.ofEq (eqI ha2)):LeA ((vI sa)) ((vI 11))) (aM Event.enc gxa3 (aM Event.enc gxa4 (aI (ppo_rules_12_sim n v a b xa3 xa4 ya5 gya5) z)))))
  rcases iteE h with ⟨ha6,h⟩ | ⟨ha6,h⟩
  ·
   exact kQ h ⟨ord40,[rV 4 [(16,vT)],(6,⟨[],[],[(28,(Event.enc xa3)),(34,(Event.enc xa4))],[(35,vT)],[(35,.v (.bool ya5))],[],[],[],[]⟩)],[(4,⟨[(15,(vI 11))],[],[]⟩)],[],[]⟩ [wK 1 [6] [] 0] Z199 (rkE rfl neR) (fun z=>(c117_ _ (aB ha6 z))) (by kernel_rfl)
  exact kQ h ⟨ord40,[rV 4 [(16,vT)],(6,⟨[],[],[(28,(Event.enc xa3)),(34,(Event.enc xa4))],[(35,vF)],[(35,.v (.bool ya5))],[],[],[],[]⟩)],[(4,⟨[(15,(vI 11))],[],[]⟩)],[],[]⟩ [wK 0 [0,1,2,14,15] [] 0] Z199 rkN (fun z=>(c117_ _ (aB ha6 z))) (by kernel_rfl)
 rcases iteE h with ⟨ha2,h⟩ | ⟨ha2,h⟩
 ·
  obtain ⟨xa3,gxa3,h⟩:=bindE h
  obtain ⟨xa4,gxa4,h⟩:=bindE h
  obtain ⟨ya5,gya5,h⟩:=bindE h
  have c118_:=fun (R:Prop) (z:R)=>(aB ha1 (aI ((LeA.ofEq (eqI ha2)):LeA ((vI sa)) ((vI 12))) (aM Event.enc gxa3 (aM Event.enc gxa4 (aI (ppo_rules_13_sim n v a b xa3 xa4 ya5 gya5) z)))))
  rcases iteE h with ⟨ha6,h⟩ | ⟨ha6,h⟩
  ·
   exact kQ h ⟨ord40,[rV 4 [(16,vT)],(6,⟨[],[],[(28,(Event.enc xa3)),(34,(Event.enc xa4))],[(35,vT)],[(35,.v (.bool ya5))],[],[],[],[]⟩)],[(4,⟨[(15,(vI 12))],[],[]⟩)],[],[]⟩ [wK 1 [6] [] 0] Z199 (rkE rfl neR) (fun z=>(c118_ _ (aB ha6 z))) (by kernel_rfl)
  exact kQ h ⟨ord40,[rV 4 [(16,vT)],(6,⟨[],[],[(28,(Event.enc xa3)),(34,(Event.enc xa4))],[(35,vF)],[(35,.v (.bool ya5))],[],[],[],[]⟩)],[(4,⟨[(15,(vI 12))],[],[]⟩)],[],[]⟩ [wK 0 [0,1,2,14,15] [] 0] Z199 rkN (fun z=>(c118_ _ (aB ha6 z))) (by kernel_rfl)
 rcases iteE h with ⟨ha2,h⟩ | ⟨ha2,h⟩
 ·
  cases h
 cases h

theorem ppo_view_rule_sim (n:Nat) (v:ppo_view) (a:Int) (b:Int) (r:Int) (h:ppo_view_rule n v a b=some r):PCall Tryd.prog 40 [.fptr (ppo_view.enc v) 0,(vI a),(vI b)] (eqA ((vI r))):=by
 unfold ppo_view_rule at h
 obtain ⟨y1,gy1,h⟩:=bindE h
 have c119_:=fun (R:Prop) (z:R)=>(aI (ppo_view_ahead_sim n v a b y1 gy1) z)
 rcases iteE h with ⟨h2,h⟩ | ⟨h2,h⟩
 ·
  obtain rfl:=soI h
  exact kP (nA ord40 [rVC 1 [(13,vT)] [(12,.v (.bool y1))]]) ordB40 (fun z=>(c119_ _ (aB h2 z))) (by kernel_rfl)
 obtain ⟨y3,gy3,h⟩:=bindE h
 obtain ⟨t4,gt4,h⟩:=bindE h
 have c120_:=fun (R:Prop) (z:R)=>(aB h2 (aI (ppo_rules_sim n y3 gy3) z))
 rcases t4 with w5 | w5
 ·
  obtain rfl:=soI h
  exact kP ⟨ord40,[rVC 1 [(13,vF)] [(12,.v (.bool y1))],(3,⟨[],[],[],[],[(14,.agg [.fn 62 [] [],.fn 63 [] [],.fn 66 [] [],.fn 67 [] [],.fn 69 [] [],.fn 70 [] [],.fn 71 [] [],.fn 72 [] [],.fn 73 [] [],.fn 75 [] [],.fn 76 [] [],.fn 77 [] [],.fn 78 [] []])],[],[],[],[]⟩)],[],[(4,(⟨[0,1,2,14,15],[],0,[],[],[]⟩,l0,(.ex 0),Z201 v a b w5))],[]⟩ ordB40 (fun z=>(c119_ _ (c120_ _ (aI (okL (pl:=polF 40) (Z200 v a b) (Z203 v a b) (Z204 n v a b) n _ (.inl w5) gt4) z)))) (by kernel_rfl)
 ·
  obtain rfl:=soI h
  exact kP ⟨ord40,[rVC 1 [(13,vF)] [(12,.v (.bool y1))],(3,⟨[],[],[],[],[(14,.agg [.fn 62 [] [],.fn 63 [] [],.fn 66 [] [],.fn 67 [] [],.fn 69 [] [],.fn 70 [] [],.fn 71 [] [],.fn 72 [] [],.fn 73 [] [],.fn 75 [] [],.fn 76 [] [],.fn 77 [] [],.fn 78 [] []])],[],[],[],[]⟩)],[],[(4,(⟨[0,1,2,14,15],[],0,[],[],[]⟩,l0,.ret,Z202 v a b w5))],[]⟩ ordB40 (fun z=>(c119_ _ (c120_ _ (aI (okL (pl:=polF 40) (Z200 v a b) (Z203 v a b) (Z204 n v a b) n _ (.inr w5) gt4) z)))) (by kernel_rfl)

def ord28:List (Nat×PT):=[(9,(ptS [0,1,2,3,4,5,6,7,8,9,10,11,12,13,14,15,16,17,18,19]))]
theorem ordB28:ordB (polF 28) ord28 (bodyOf Tryd.prog 28)=true:=by kernel_rfl
noncomputable def Z205:Code:=sub (bodyOf Tryd.prog 28) [1,1,1,1,0,1,0,0]
noncomputable def Z206:Code:=sub Z205 [1,1,0,0,1,1,0,0]
theorem Z207:ordB (polF 28) ord28 Z206=true:=by kernel_rfl
def Z208 (z2:ppo_view) (xa2:Event) (sb:(List (Arr2 Int))×Int×Int×Int):St:=mkS 58 [(3,.fptr (ppo_view.enc z2) 0),(4,.mf 0),(5,(vI sb.2.2.1)),(6,.ptr (.L 6) 0 0),(7,(vI sb.2.2.2)),(14,.sl (z2.all.map Event.enc)),(15,(vI (z2.all.length:Int))),(16,(vI sb.2.1))] [(6,(Event.enc xa2))] [.arr true 2 (sb.1.map (eArr2 eI))] 0
def Z209 (z2:ppo_view) (xa2:Event) (tt:(List (Arr2 Int))×Int):St:=mkS 58 [(3,.fptr (ppo_view.enc z2) 0),(4,.mf 0),(14,.sl (z2.all.map Event.enc)),(15,(vI (z2.all.length:Int))),(16,(vI tt.2))] [] [.arr true 2 (tt.1.map (eArr2 eI))] 0
def Z210 (z2:ppo_view) (xa2:Event) (tt:((List (Arr2 Int))×Int)):Ex×St:=(.ex 2,Z209 z2 xa2 tt)
theorem Z211 (n:Nat) (z2:ppo_view) (xa2:Event):∀ sb r,ppo_Pairs_L2 n z2 xa2 sb=some r→CodeD Tryd.prog Z206 (Z208 z2 xa2 sb) (rk (Z208 z2 xa2) (Z210 z2 xa2) r):=by
 intro sb r h
 unfold ppo_Pairs_L2 at h
 rcases iteN h with ⟨hb1,h⟩ | ⟨hb1,h⟩
 ·
  exact kQ h (nA ord28 [rV 9 [(28,(vI (z2.all.length:Int))),(30,vF)]]) [wK 4 [3,4,14,15,16] [6] 1] Z207 (rkE rfl neE) (fun z=>(aL Event.enc z2.all (aB hb1 z))) (by kernel_rfl)
 obtain ⟨xb2,gxb2,h⟩:=bindE h
 have c121_:=fun (R:Prop) (z:R)=>(aL Event.enc z2.all (aB hb1 (aM Event.enc gxb2 z)))
 rcases iteN h with ⟨hb3,h⟩ | ⟨hb3,h⟩
 ·
  exact kQ h (nA ord28 [(9,⟨[],[],[(36,(Event.enc xb2))],[(28,(vI (z2.all.length:Int))),(30,vT),(42,vF)],[],[],[],[],[]⟩)]) [wK 4 [3,4,14,15,16] [6] 1] Z207 (rkE rfl neE) (fun z=>(c121_ _ (aB hb3 z))) (by kernel_rfl)
 obtain ⟨yb4,gyb4,h⟩:=bindE h
 have c122_:=fun (R:Prop) (z:R)=>(aB hb3 (aI (ppo_view_rule_sim n z2 sb.2.2.1 sb.2.2.2 yb4 gyb4) z))
 rcases iteN h with ⟨hb5,h⟩ | ⟨hb5,h⟩
 ·
  exact kQ h (nA ord28 [(9,⟨[],[],[(36,(Event.enc xb2))],[(28,(vI (z2.all.length:Int))),(30,vT),(42,vT)],[],[],[],[],[]⟩),rVC 11 [(49,vF)] [(48,(vI yb4))]]) [wK 0 [3,4,5,6,7,14,15,16] [] 1] Z207 rkN (fun z=>(c121_ _ (c122_ _ (aB hb5 z)))) (by kernel_rfl)
 obtain ⟨hb6,h⟩:=grdE h
 exact kQ h (nA ord28 [(9,⟨[],[],[(36,(Event.enc xb2))],[(28,(vI (z2.all.length:Int))),(30,vT),(42,vT)],[],[],[],[],[]⟩),rVC 11 [(49,vT)] [(48,(vI yb4))],(12,⟨[],[55],[],[],[],[],[(55,(0,(sb.1++([(Arr2.mk sb.2.2.1 sb.2.2.2)]:List (Arr2 Int))).map (eArr2 eI)))],[],[]⟩)]) [wK 0 [3,4,5,6,7,14,15,16] [] 1] Z207 rkN (fun z=>(c121_ _ (c122_ _ (aB hb5 (aI (rfl:szOk 2 [[(vI sb.2.2.1),(vI sb.2.2.2)]]=true) (aI (rfl:okRows [[(vI sb.2.2.1),(vI sb.2.2.2)]]=true) (aI (ble_maps1 hb6:Nat.ble (((sb.1.map (eArr2 eI)).length + 1) * 16) 140737488355328=true) (aI (app_map (eArr2 eI) sb.1 ([(Arr2.mk sb.2.2.1 sb.2.2.2)]:List (Arr2 Int))) z)))))))) (by kernel_rfl)

theorem Z212:ordB (polF 28) ord28 Z205=true:=by kernel_rfl
def Z213 (z2:ppo_view) (sa:(List (Arr2 Int))×Int):St:=mkS 58 [(3,.fptr (ppo_view.enc z2) 0),(4,.mf 0),(14,.sl (z2.all.map Event.enc)),(15,(vI (z2.all.length:Int))),(16,(vI sa.2))] [] [.arr true 2 (sa.1.map (eArr2 eI))] 0
def Z214 (z2:ppo_view) (tt:(List (Arr2 Int))):St:=mkS 58 [(4,.mf 0)] [] [.arr true 2 (tt.map (eArr2 eI))] 0
def Z215 (z2:ppo_view) (tt:((List (Arr2 Int)))):Ex×St:=(.ex 0,Z214 z2 tt)
theorem Z216 (n:Nat) (z2:ppo_view):∀ sa r,ppo_Pairs_L1 n z2 sa=some r→CodeD Tryd.prog Z205 (Z213 z2 sa) (rk (Z213 z2) (Z215 z2) r):=by
 intro sa r h
 unfold ppo_Pairs_L1 at h
 rcases iteN h with ⟨ha1,h⟩ | ⟨ha1,h⟩
 ·
  exact kQ h (nA ord28 [rV 6 [(17,vF)]]) [wK 2 [4] [] 1] Z212 (rkE rfl neE) (fun z=>(aB ha1 z)) (by kernel_rfl)
 obtain ⟨xa2,gxa2,h⟩:=bindE h
 obtain ⟨ta3,gta3,h⟩:=bindE h
 exact kQ h ⟨ord28,[rV 6 [(17,vT)],rR 7 [(19,(Event.enc xa2))]],[],[(9,(⟨[3,4,5,6,7,14,15,16],[],1,[],[],[]⟩,l0,(.ex 2),Z209 z2 xa2 ta3))],[]⟩ [wK 0 [3,4,14,15,16] [] 1] Z212 rkN (fun z=>(aB ha1 (aM Event.enc gxa2 (aI (okL (pl:=polF 28) (Z208 z2 xa2) (Z210 z2 xa2) (Z211 n z2 xa2) n _ ta3 gta3) z)))) (by kernel_rfl)

theorem ppo_Pairs_sim (n:Nat) (c:Cand) (r:(List (Arr2 Int))) (h:ppo_Pairs n c=some r):PCall Tryd.prog 28 [(aAgg Cand.enc c)] (eqA (.sl (r.map (eArr2 eI)))):=by
 unfold ppo_Pairs at h
 obtain ⟨y1,gy1,h⟩:=bindE h
 rcases y1 with _ | z2
 ·
  obtain rfl:=soI h
  exact kP (nA ord28 [rVC 1 [] [(8,.nilp)]]) ordB28 (fun z=>(aI (ppo_of_sim n c none gy1) (LeA.nil:LeA .nilsl (.sl (([]:List (Arr2 Int)).map (eArr2 eI)))))) (by kernel_rfl)
 ·
  obtain ⟨t3,gt3,h⟩:=bindE h
  obtain rfl:=soI h
  exact kP ⟨ord28,[rVC 1 [] [(8,.fptr (ppo_view.enc z2) 0)],rV 5 [(15,(vI (z2.all.length:Int)))]],[],[(6,(⟨[3,4,14,15,16],[],0,[(4,2)],[],[]⟩,l0,(.ex 0),Z214 z2 t3))],[]⟩ ordB28 (fun z=>(aI (ppo_of_sim n c (some z2) gy1) (aL Event.enc z2.all (aI (okL (pl:=polF 28) (Z213 z2) (Z215 z2) (Z216 n z2) n _ t3 gt3) z)))) (by kernel_rfl)

def ord19:List (Nat×PT):=[]
theorem ordB19:ordB (polF 19) ord19 (bodyOf Tryd.prog 19)=true:=by kernel_rfl
theorem axiom_good_sim (n:Nat) (r:Judged) (h:axiom_good n=some r):PCall Tryd.prog 19 [] (eqA ((aAgg Judged.enc r))):=by
 unfold axiom_good at h
 obtain rfl:=soI h
 exact kP (nA ord19 []) ordB19 (fun z=>z) (by kernel_rfl)

def ord16:List (Nat×PT):=[(4,(ptS [0,1,2,3,4,5,6,7,8,9,10,11,12,13,14,15,16]))]
theorem ordB16:ordB (polF 16) ord16 (bodyOf Tryd.prog 16)=true:=by kernel_rfl
noncomputable def Z217:Code:=sub (bodyOf Tryd.prog 16) [1,0,1,0,0]
theorem Z218:ordB (polF 16) ord16 Z217=true:=by kernel_rfl
def Z219 (oA:(List Cell)) (oB:(List (List Event))) (oC:(List Int)) (oD:(List Int)) (oE:(List (Int×(List Int)))) (oF:(List Event)) (oG:(List Int)) (y1:(List (Arr2 Int))) (sa:Int):St:=mkS 41 [(0,.ptr (.O 2) 0 0),(2,.ptr (.L 2) 0 0),(11,.sl (y1.map (eArr2 eI))),(12,(vI (y1.length:Int))),(13,(vI sa))] [(2,[vF,(vI 0),(vI 0),(vI 0)])] [.arr true 4 [[.sl (oA.map Cell.enc),.sl (oB.map (eSl Event.enc)),.sl (oC.map eI),.sl (oD.map eI)]],.mapo true (oE.map (eKV (aInt .u64) (aSl eI))),.arr false 4 [[.ptr (.O 0) 0 0,.sl (oF.map Event.enc),.sl (oG.map eI),.mp 1]],.arr false 1 [[.fn 16 [.ptr (.O 2) 0 0] []],[.fn 17 [.ptr (.O 2) 0 0] []],[.fn 18 [.ptr (.O 2) 0 0] []]]] 4
def Z220 (oA:(List Cell)) (oB:(List (List Event))) (oC:(List Int)) (oD:(List Int)) (oE:(List (Int×(List Int)))) (oF:(List Event)) (oG:(List Int)) (y1:(List (Arr2 Int))) (tt:Unit):St:=mkS 41 [(2,.ptr (.L 2) 0 0)] [(2,[vF,(vI 0),(vI 0),(vI 0)])] [.arr true 4 [[.sl (oA.map Cell.enc),.sl (oB.map (eSl Event.enc)),.sl (oC.map eI),.sl (oD.map eI)]],.mapo true (oE.map (eKV (aInt .u64) (aSl eI))),.arr false 4 [[.ptr (.O 0) 0 0,.sl (oF.map Event.enc),.sl (oG.map eI),.mp 1]],.arr false 1 [[.fn 16 [.ptr (.O 2) 0 0] []],[.fn 17 [.ptr (.O 2) 0 0] []],[.fn 18 [.ptr (.O 2) 0 0] []]]] 4
def Z221 (oA:(List Cell)) (oB:(List (List Event))) (oC:(List Int)) (oD:(List Int)) (oE:(List (Int×(List Int)))) (oF:(List Event)) (oG:(List Int)) (y1:(List (Arr2 Int))) (tt:Bool×Int×Int×Int):St:=mkS 41 [(2,.ptr (.L 2) 0 0)] [(2,[.v (.bool tt.1),(vI tt.2.1),(vI tt.2.2.1),(vI tt.2.2.2)])] [.arr true 4 [[.sl (oA.map Cell.enc),.sl (oB.map (eSl Event.enc)),.sl (oC.map eI),.sl (oD.map eI)]],.mapo true (oE.map (eKV (aInt .u64) (aSl eI))),.arr false 4 [[.ptr (.O 0) 0 0,.sl (oF.map Event.enc),.sl (oG.map eI),.mp 1]],.arr false 1 [[.fn 16 [.ptr (.O 2) 0 0] []],[.fn 17 [.ptr (.O 2) 0 0] []],[.fn 18 [.ptr (.O 2) 0 0] []]]] 4
def Z222 (oA:(List Cell)) (oB:(List (List Event))) (oC:(List Int)) (oD:(List Int)) (oE:(List (Int×(List Int)))) (oF:(List Event)) (oG:(List Int)) (y1:(List (Arr2 Int))) (t0:(Unit⊕(Bool×Int×Int×Int))):Ex×St:=match t0 with | .inl tt=>(.ex 0,Z220 oA oB oC oD oE oF oG y1 tt) | .inr tt=>(.ret,Z221 oA oB oC oD oE oF oG y1 tt)
theorem Z223 (n:Nat) (oA:(List Cell)) (oB:(List (List Event))) (oC:(List Int)) (oD:(List Int)) (oE:(List (Int×(List Int)))) (oF:(List Event)) (oG:(List Int)) (y1:(List (Arr2 Int))):∀ sa r,axiom_court_order_S_L1 n oA oB oC oD oE oF oG y1 sa=some r→CodeD Tryd.prog Z217 (Z219 oA oB oC oD oE oF oG y1 sa) (rk (Z219 oA oB oC oD oE oF oG y1) (Z222 oA oB oC oD oE oF oG y1) r):=by
 intro sa r h
 unfold axiom_court_order_S_L1 at h
 rcases iteN h with ⟨ha1,h⟩ | ⟨ha1,h⟩
 ·
  exact kQ h (nA ord16 [rV 2 [(14,vF)]]) [wK 2 [2] [] 4] Z218 (rkE rfl neE) (fun z=>(aB ha1 z)) (by kernel_rfl)
 obtain ⟨xa2,gxa2,h⟩:=bindE h
 obtain ⟨xa3,gxa3,h⟩:=bindE h
 obtain ⟨xa4,gxa4,h⟩:=bindE h
 have c123_:=fun (R:Prop) (z:R)=>(aB ha1 (aI (at_map (eArr2 eI) gxa2:at? (y1.map (eArr2 eI)) sa=some [(vI xa2.e0),(vI xa2.e1)]) (aM eI gxa3 (aM eI gxa4 z))))
 rcases iteN h with ⟨ha5,h⟩ | ⟨ha5,h⟩
 ·
  exact kQ h (nA ord16 [rV 2 [(14,vT)],rR 3 [(15,[(vI xa2.e0),(vI xa2.e1)])],(4,⟨[],[],[(23,[(vI xa3)]),(31,[(vI xa4)])],[(33,vF)],[],[],[],[],[]⟩)]) [wK 0 [0,2,11,12,13] [4] 4] Z218 rkN (fun z=>(c123_ _ (aB ha5 z))) (by kernel_rfl)
 obtain ⟨ya6,gya6,h⟩:=bindE h
 exact kQ h (nA ord16 [rV 2 [(14,vT)],rR 3 [(15,[(vI xa2.e0),(vI xa2.e1)])],(4,⟨[],[],[(23,[(vI xa3)]),(31,[(vI xa4)])],[(33,vT)],[],[],[],[],[]⟩),rVC 5 [] [(38,(aAgg Judged.enc ya6))]]) [wK 1 [2] [4] 4] Z218 (rkE rfl neR) (fun z=>(c123_ _ (aB ha5 (aI (axiom_bad_sim n 2 xa2.e0 xa2.e1 ya6 gya6) z)))) (by kernel_rfl)

def axiom_court_order_S_R (oA:(List Cell)) (oB:(List (List Event))) (oC:(List Int)) (oD:(List Int)) (oE:(List (Int×(List Int)))) (oF:(List Event)) (oG:(List Int)) (y:(Bool×Int×Int×Int)):AV×List Ob:=(.agg [.v (.bool y.1),(vI y.2.1),(vI y.2.2.1),(vI y.2.2.2)],[.arr true 4 [[.sl (oA.map Cell.enc),.sl (oB.map (eSl Event.enc)),.sl (oC.map eI),.sl (oD.map eI)]],.mapo true (oE.map (eKV (aInt .u64) (aSl eI))),.arr false 4 [[.ptr (.O 0) 0 0,.sl (oF.map Event.enc),.sl (oG.map eI),.mp 1]],.arr false 1 [[.fn 16 [.ptr (.O 2) 0 0] []],[.fn 17 [.ptr (.O 2) 0 0] []],[.fn 18 [.ptr (.O 2) 0 0] []]]])
theorem axiom_court_order_S_sim (n:Nat) (oA:(List Cell)) (oB:(List (List Event))) (oC:(List Int)) (oD:(List Int)) (oE:(List (Int×(List Int)))) (oF:(List Event)) (oG:(List Int)) (y:(Bool×Int×Int×Int)) (h:axiom_court_order_S n oA oB oC oD oE oF oG=some y):SD Tryd.prog 16 [.ptr (.O 2) 0 0] [.arr true 4 [[.sl (oA.map Cell.enc),.sl (oB.map (eSl Event.enc)),.sl (oC.map eI),.sl (oD.map eI)]],.mapo true (oE.map (eKV (aInt .u64) (aSl eI))),.arr false 4 [[.ptr (.O 0) 0 0,.sl (oF.map Event.enc),.sl (oG.map eI),.mp 1]],.arr false 1 [[.fn 16 [.ptr (.O 2) 0 0] []],[.fn 17 [.ptr (.O 2) 0 0] []],[.fn 18 [.ptr (.O 2) 0 0] []]]] (fun r' o'=>r'=(axiom_court_order_S_R oA oB oC oD oE oF oG y).1∧o'=(axiom_court_order_S_R oA oB oC oD oE oF oG y).2):=by
 unfold axiom_court_order_S at h
 obtain ⟨y1,gy1,h⟩:=bindE h
 obtain ⟨t2,gt2,h⟩:=bindE h
 have c124_:=fun (R:Prop) (z:R)=>(aI (ppo_Pairs_sim n (Cand.mk oA oB oC oD) y1 gy1) (aL (eArr2 eI) y1 z))
 rcases t2 with w3 | w3
 ·
  obtain ⟨y4,gy4,h⟩:=bindE h
  obtain rfl:=soI h
  exact kS ⟨ord16,[rVC 1 [(12,(vI (y1.length:Int)))] [(11,.sl (y1.map (eArr2 eI)))],rVC 7 [] [(40,(aAgg Judged.enc y4))]],[],[(2,(⟨[0,2,11,12,13],[],4,[],[],[]⟩,l0,(.ex 0),Z220 oA oB oC oD oE oF oG y1 w3))],[]⟩ ordB16 ⟨rfl,rfl⟩ (fun z=>(c124_ _ (aI (okL (pl:=polF 16) (Z219 oA oB oC oD oE oF oG y1) (Z222 oA oB oC oD oE oF oG y1) (Z223 n oA oB oC oD oE oF oG y1) n _ (.inl w3) gt2) (aI (axiom_good_sim n y4 gy4) z)))) (by kernel_rfl)
 ·
  obtain rfl:=soI h
  exact kS ⟨ord16,[rVC 1 [(12,(vI (y1.length:Int)))] [(11,.sl (y1.map (eArr2 eI)))]],[],[(2,(⟨[0,2,11,12,13],[],4,[],[],[]⟩,l0,.ret,Z221 oA oB oC oD oE oF oG y1 w3))],[]⟩ ordB16 ⟨rfl,rfl⟩ (fun z=>(c124_ _ (aI (okL (pl:=polF 16) (Z219 oA oB oC oD oE oF oG y1) (Z222 oA oB oC oD oE oF oG y1) (Z223 n oA oB oC oD oE oF oG y1) n _ (.inr w3) gt2) z))) (by kernel_rfl)

def ord21:List (Nat×PT):=[(2,(ptS [0,1,2,3,4,5,6,7])),(6,(ptS [0,1,2,3,4,5,6,7,8,9,10,11])),(7,(ptS [0,1,2,3,4,5,6,7,8,9,10,11,12,13,14,15,16,17,18,19,20,21,22,23,24,25,26,27,28,29,30,31,32,33,34,35,36,37,38,39]))]
theorem ordB21:ordB (polF 21) ord21 (bodyOf Tryd.prog 21)=true:=by kernel_rfl
noncomputable def Z224:Code:=sub (bodyOf Tryd.prog 21) [1,1,1,0,1,0,0]
theorem Z225:ordB (polF 21) ord21 Z224=true:=by kernel_rfl
def Z226 (n_:Int) (oA:(List Cell)) (oB:(List (List Event))) (oC:(List Int)) (oD:(List Int)) (oE:(List (Int×(List Int)))) (oF:(List Event)) (oG:(List Int)) (x1:Event) (sa:(List Int)×Int):St:=mkS 84 [(0,.ptr (.O 2) 0 0),(1,(vI n_)),(5,.ptr (.L 5) 0 0),(6,.sl (sa.1.map eI)),(7,(vI sa.2))] [(5,(Event.enc x1))] [.arr true 4 [[.sl (oA.map Cell.enc),.sl (oB.map (eSl Event.enc)),.sl (oC.map eI),.sl (oD.map eI)]],.mapo true (oE.map (eKV (aInt .u64) (aSl eI))),.arr false 4 [[.ptr (.O 0) 0 0,.sl (oF.map Event.enc),.sl (oG.map eI),.mp 1]],.arr false 1 [[.fn 16 [.ptr (.O 2) 0 0] []],[.fn 17 [.ptr (.O 2) 0 0] []],[.fn 18 [.ptr (.O 2) 0 0] []]]] 4
def Z227 (n_:Int) (oA:(List Cell)) (oB:(List (List Event))) (oC:(List Int)) (oD:(List Int)) (oE:(List (Int×(List Int)))) (oF:(List Event)) (oG:(List Int)) (x1:Event) (tt:Unit):St:=mkS 84 [] [] [.arr true 4 [[.sl (oA.map Cell.enc),.sl (oB.map (eSl Event.enc)),.sl (oC.map eI),.sl (oD.map eI)]],.mapo true (oE.map (eKV (aInt .u64) (aSl eI))),.arr false 4 [[.ptr (.O 0) 0 0,.sl (oF.map Event.enc),.sl (oG.map eI),.mp 1]],.arr false 1 [[.fn 16 [.ptr (.O 2) 0 0] []],[.fn 17 [.ptr (.O 2) 0 0] []],[.fn 18 [.ptr (.O 2) 0 0] []]]] 4
def Z228 (n_:Int) (oA:(List Cell)) (oB:(List (List Event))) (oC:(List Int)) (oD:(List Int)) (oE:(List (Int×(List Int)))) (oF:(List Event)) (oG:(List Int)) (x1:Event) (tt:Int):St:=mkS 84 [(4,(vI tt))] [] [.arr true 4 [[.sl (oA.map Cell.enc),.sl (oB.map (eSl Event.enc)),.sl (oC.map eI),.sl (oD.map eI)]],.mapo true (oE.map (eKV (aInt .u64) (aSl eI))),.arr false 4 [[.ptr (.O 0) 0 0,.sl (oF.map Event.enc),.sl (oG.map eI),.mp 1]],.arr false 1 [[.fn 16 [.ptr (.O 2) 0 0] []],[.fn 17 [.ptr (.O 2) 0 0] []],[.fn 18 [.ptr (.O 2) 0 0] []]]] 4
def Z229 (n_:Int) (oA:(List Cell)) (oB:(List (List Event))) (oC:(List Int)) (oD:(List Int)) (oE:(List (Int×(List Int)))) (oF:(List Event)) (oG:(List Int)) (x1:Event) (t0:(Unit⊕Int)):Ex×St:=match t0 with | .inl tt=>(.ex 0,Z227 n_ oA oB oC oD oE oF oG x1 tt) | .inr tt=>(.ret,Z228 n_ oA oB oC oD oE oF oG x1 tt)
theorem Z230 (n:Nat) (n_:Int) (oA:(List Cell)) (oB:(List (List Event))) (oC:(List Int)) (oD:(List Int)) (oE:(List (Int×(List Int)))) (oF:(List Event)) (oG:(List Int)) (x1:Event):∀ sa r,axiom_court_source_S_L1 n n_ oA oB oC oD oE oF oG x1 sa=some r→CodeD Tryd.prog Z224 (Z226 n_ oA oB oC oD oE oF oG x1 sa) (rk (Z226 n_ oA oB oC oD oE oF oG x1) (Z229 n_ oA oB oC oD oE oF oG x1) r):=by
 intro sa r h
 unfold axiom_court_source_S_L1 at h
 rcases iteN h with ⟨ha1,h⟩ | ⟨ha1,h⟩
 ·
  exact kQ h (nA ord21 [rV 4 [(27,vF)]]) [wK 2 [] [5] 4] Z225 (rkE rfl neE) (fun z=>(aB ha1 z)) (by kernel_rfl)
 obtain ⟨xa2,gxa2,h⟩:=bindE h
 obtain ⟨xa3,gxa3,h⟩:=bindE h
 have d0_:at? (sa.1.map eI) sa.2=some [(vI xa2)]:=at_map eI gxa2
 have c125_:=fun (R:Prop) (z:R)=>(aB ha1 (aI d0_ (aM Event.enc gxa3 (aI d0_ z))))
 rcases iteN h with ⟨ha4,h⟩ | ⟨ha4,h⟩
 ·
  exact kQ h (nA ord21 [rV 4 [(27,vT)],rR 6 [(36,[(vI xa2)]),(38,(Event.enc xa3))],(7,⟨[],[],[(42,[(vI xa2)])],[(46,vF)],[],[],[],[],[]⟩)]) [wK 0 [0,1,5,6,7] [8] 4] Z225 rkN (fun z=>(c125_ _ (aB ha4 z))) (by kernel_rfl)
 obtain ⟨xa5,gxa5,h⟩:=bindE h
 obtain ⟨xa6,gxa6,h⟩:=bindE h
 have c126_:=fun (R:Prop) (z:R)=>(aB ha4 (aM eI gxa2 (aM eI gxa5 (aM eI gxa6 z))))
 rcases iteE h with ⟨ha7,h⟩ | ⟨ha7,h⟩
 ·
  exact kQ h (nA ord21 [rV 4 [(27,vT)],rR 6 [(36,[(vI xa2)]),(38,(Event.enc xa3))],(7,⟨[],[],[(42,[(vI xa2)]),(53,[(vI xa2)]),(55,[(vI xa5)]),(62,[(vI xa6)])],[(46,vT),(65,vT)],[],[],[],[],[]⟩),rR 8 [(82,[(vI xa2)])]]) [wK 1 [4] [8,5] 4] Z225 (rkE rfl neR) (fun z=>(c125_ _ (c126_ _ (aB ha7 (aM eI gxa2 z))))) (by kernel_rfl)
 rcases iteN h with ⟨ha8,h⟩ | ⟨ha8,h⟩
 ·
  exact kQ h (nA ord21 [rV 4 [(27,vT)],rR 6 [(36,[(vI xa2)]),(38,(Event.enc xa3))],(7,⟨[],[],[(42,[(vI xa2)]),(53,[(vI xa2)]),(55,[(vI xa5)]),(62,[(vI xa6)])],[(46,vT),(65,vF),(71,vF)],[],[],[],[],[]⟩)]) [wK 0 [0,1,5,6,7] [8] 4] Z225 rkN (fun z=>(c125_ _ (c126_ _ (aB ha7 (aB ha8 z))))) (by kernel_rfl)
 have c127_:=fun (R:Prop) (z:R)=>(aB ha7 (aB ha8 z))
 rcases iteN h with ⟨ha9,h⟩ | ⟨ha9,h⟩
 ·
  exact kQ h (nA ord21 [rV 4 [(27,vT)],rR 6 [(36,[(vI xa2)]),(38,(Event.enc xa3))],(7,⟨[],[],[(42,[(vI xa2)]),(53,[(vI xa2)]),(55,[(vI xa5)]),(62,[(vI xa6)])],[(46,vT),(65,vF),(71,vT),(79,vF)],[],[],[],[],[]⟩)]) [wK 0 [0,1,5,6,7] [8] 4] Z225 rkN (fun z=>(c125_ _ (c126_ _ (c127_ _ (aB ha9 z))))) (by kernel_rfl)
 exact kQ h (nA ord21 [rV 4 [(27,vT)],rR 6 [(36,[(vI xa2)]),(38,(Event.enc xa3))],(7,⟨[],[],[(42,[(vI xa2)]),(53,[(vI xa2)]),(55,[(vI xa5)]),(62,[(vI xa6)])],[(46,vT),(65,vF),(71,vT),(79,vT)],[],[],[],[],[]⟩),rR 8 [(82,[(vI xa2)])]]) [wK 1 [4] [8,5] 4] Z225 (rkE rfl neR) (fun z=>(c125_ _ (c126_ _ (c127_ _ (aB ha9 (aM eI gxa2 z)))))) (by kernel_rfl)

def axiom_court_source_S_R (n_:Int) (oA:(List Cell)) (oB:(List (List Event))) (oC:(List Int)) (oD:(List Int)) (oE:(List (Int×(List Int)))) (oF:(List Event)) (oG:(List Int)) (y:Int):AV×List Ob:=((vI y),[.arr true 4 [[.sl (oA.map Cell.enc),.sl (oB.map (eSl Event.enc)),.sl (oC.map eI),.sl (oD.map eI)]],.mapo true (oE.map (eKV (aInt .u64) (aSl eI))),.arr false 4 [[.ptr (.O 0) 0 0,.sl (oF.map Event.enc),.sl (oG.map eI),.mp 1]],.arr false 1 [[.fn 16 [.ptr (.O 2) 0 0] []],[.fn 17 [.ptr (.O 2) 0 0] []],[.fn 18 [.ptr (.O 2) 0 0] []]]])
theorem axiom_court_source_S_sim (n:Nat) (n_:Int) (oA:(List Cell)) (oB:(List (List Event))) (oC:(List Int)) (oD:(List Int)) (oE:(List (Int×(List Int)))) (oF:(List Event)) (oG:(List Int)) (y:Int) (h:axiom_court_source_S n n_ oA oB oC oD oE oF oG=some y):SD Tryd.prog 21 [.ptr (.O 2) 0 0,(vI n_)] [.arr true 4 [[.sl (oA.map Cell.enc),.sl (oB.map (eSl Event.enc)),.sl (oC.map eI),.sl (oD.map eI)]],.mapo true (oE.map (eKV (aInt .u64) (aSl eI))),.arr false 4 [[.ptr (.O 0) 0 0,.sl (oF.map Event.enc),.sl (oG.map eI),.mp 1]],.arr false 1 [[.fn 16 [.ptr (.O 2) 0 0] []],[.fn 17 [.ptr (.O 2) 0 0] []],[.fn 18 [.ptr (.O 2) 0 0] []]]] (fun r' o'=>r'=(axiom_court_source_S_R n_ oA oB oC oD oE oF oG y).1∧o'=(axiom_court_source_S_R n_ oA oB oC oD oE oF oG y).2):=by
 unfold axiom_court_source_S at h
 obtain ⟨x1,gx1,h⟩:=bindE h
 rcases matchOE h with ⟨h2,h⟩ | ⟨z2,h3,h⟩
 ·
  obtain ⟨t3,gt3,h⟩:=bindE h
  have c128_:=fun (R:Prop) (z:R)=>(aM Event.enc gx1 (aI (mapGetN_53 oE x1.Addr h2:∀ k':AV→Prop,k' (.nilsl)→findK Tryd.prog 28 ((vU x1.Addr)) (oE.map (eKV (aInt .u64) (aSl eI))) fun _ r=>foundOk Tryd.prog 24 false (oE.map (eKV (aInt .u64) (aSl eI))) r k') z))
  rcases t3 with w4 | w4
  ·
   obtain rfl:=soI h
   exact kS ⟨ord21,[rR 1 [(14,(Event.enc x1))],rVC 2 [] [(22,.nilsl)]],[],[(4,(⟨[0,1,5,6,7],[],4,[],[],[]⟩,⟨[(6,.sl (([]:List Int).map eI))],[],[]⟩,(.ex 0),Z227 n_ oA oB oC oD oE oF oG x1 w4))],[]⟩ ordB21 ⟨rfl,rfl⟩ (fun z=>(c128_ _ (aI (LeA.nil:LeA (.nilsl) (.sl (([]:List Int).map eI))) (aI (okL (pl:=polF 21) (Z226 n_ oA oB oC oD oE oF oG x1) (Z229 n_ oA oB oC oD oE oF oG x1) (Z230 n n_ oA oB oC oD oE oF oG x1) n _ (.inl w4) gt3) z)))) (by kernel_rfl)
  ·
   obtain rfl:=soI h
   exact kS ⟨ord21,[rR 1 [(14,(Event.enc x1))],rVC 2 [] [(22,.nilsl)]],[],[(4,(⟨[0,1,5,6,7],[],4,[],[],[]⟩,⟨[(6,.sl (([]:List Int).map eI))],[],[]⟩,.ret,Z228 n_ oA oB oC oD oE oF oG x1 w4))],[]⟩ ordB21 ⟨rfl,rfl⟩ (fun z=>(c128_ _ (aI (LeA.nil:LeA (.nilsl) (.sl (([]:List Int).map eI))) (aI (okL (pl:=polF 21) (Z226 n_ oA oB oC oD oE oF oG x1) (Z229 n_ oA oB oC oD oE oF oG x1) (Z230 n n_ oA oB oC oD oE oF oG x1) n _ (.inr w4) gt3) z)))) (by kernel_rfl)
 ·
  obtain ⟨t4,gt4,h⟩:=bindE h
  have c129_:=fun (R:Prop) (z:R)=>(aM Event.enc gx1 (aI (mapGetS_53 oE x1.Addr h3:∀ k':AV→Prop,k' (.sl (z2.map eI))→findK Tryd.prog 28 ((vU x1.Addr)) (oE.map (eKV (aInt .u64) (aSl eI))) fun _ r=>foundOk Tryd.prog 24 false (oE.map (eKV (aInt .u64) (aSl eI))) r k') (aL eI z2 z)))
  rcases t4 with w5 | w5
  ·
   obtain rfl:=soI h
   exact kS ⟨ord21,[rR 1 [(14,(Event.enc x1))],rVC 2 [] [(22,.sl (z2.map eI))],rV 3 [(24,(vI (z2.length:Int)))]],[],[(4,(⟨[0,1,5,6,7],[],4,[],[],[]⟩,l0,(.ex 0),Z227 n_ oA oB oC oD oE oF oG x1 w5))],[]⟩ ordB21 ⟨rfl,rfl⟩ (fun z=>(c129_ _ (aI (okL (pl:=polF 21) (Z226 n_ oA oB oC oD oE oF oG x1) (Z229 n_ oA oB oC oD oE oF oG x1) (Z230 n n_ oA oB oC oD oE oF oG x1) n _ (.inl w5) gt4) z))) (by kernel_rfl)
  ·
   obtain rfl:=soI h
   exact kS ⟨ord21,[rR 1 [(14,(Event.enc x1))],rVC 2 [] [(22,.sl (z2.map eI))],rV 3 [(24,(vI (z2.length:Int)))]],[],[(4,(⟨[0,1,5,6,7],[],4,[],[],[]⟩,l0,.ret,Z228 n_ oA oB oC oD oE oF oG x1 w5))],[]⟩ ordB21 ⟨rfl,rfl⟩ (fun z=>(c129_ _ (aI (okL (pl:=polF 21) (Z226 n_ oA oB oC oD oE oF oG x1) (Z229 n_ oA oB oC oD oE oF oG x1) (Z230 n n_ oA oB oC oD oE oF oG x1) n _ (.inr w5) gt4) z))) (by kernel_rfl)

def ord17:List (Nat×PT):=[]
theorem ordB17:ordB (polF 17) ord17 (bodyOf Tryd.prog 17)=true:=by kernel_rfl
noncomputable def Z231:Code:=sub (bodyOf Tryd.prog 17) [1,0,1,0,0]
theorem Z232:ordB (polF 17) ord17 Z231=true:=by kernel_rfl
def Z233 (oA:(List Cell)) (oB:(List (List Event))) (oC:(List Int)) (oD:(List Int)) (oE:(List (Int×(List Int)))) (oF:(List Event)) (oG:(List Int)) (sa:Int):St:=mkS 39 [(0,.ptr (.O 2) 0 0),(2,.ptr (.L 2) 0 0),(9,.sl (oF.map Event.enc)),(10,(vI (oF.length:Int))),(11,(vI sa))] [(2,[vF,(vI 0),(vI 0),(vI 0)])] [.arr true 4 [[.sl (oA.map Cell.enc),.sl (oB.map (eSl Event.enc)),.sl (oC.map eI),.sl (oD.map eI)]],.mapo true (oE.map (eKV (aInt .u64) (aSl eI))),.arr false 4 [[.ptr (.O 0) 0 0,.sl (oF.map Event.enc),.sl (oG.map eI),.mp 1]],.arr false 1 [[.fn 16 [.ptr (.O 2) 0 0] []],[.fn 17 [.ptr (.O 2) 0 0] []],[.fn 18 [.ptr (.O 2) 0 0] []]]] 4
def Z234 (oA:(List Cell)) (oB:(List (List Event))) (oC:(List Int)) (oD:(List Int)) (oE:(List (Int×(List Int)))) (oF:(List Event)) (oG:(List Int)) (tt:Unit):St:=mkS 39 [(2,.ptr (.L 2) 0 0)] [(2,[vF,(vI 0),(vI 0),(vI 0)])] [.arr true 4 [[.sl (oA.map Cell.enc),.sl (oB.map (eSl Event.enc)),.sl (oC.map eI),.sl (oD.map eI)]],.mapo true (oE.map (eKV (aInt .u64) (aSl eI))),.arr false 4 [[.ptr (.O 0) 0 0,.sl (oF.map Event.enc),.sl (oG.map eI),.mp 1]],.arr false 1 [[.fn 16 [.ptr (.O 2) 0 0] []],[.fn 17 [.ptr (.O 2) 0 0] []],[.fn 18 [.ptr (.O 2) 0 0] []]]] 4
def Z235 (oA:(List Cell)) (oB:(List (List Event))) (oC:(List Int)) (oD:(List Int)) (oE:(List (Int×(List Int)))) (oF:(List Event)) (oG:(List Int)) (tt:Bool×Int×Int×Int):St:=mkS 39 [(2,.ptr (.L 2) 0 0)] [(2,[.v (.bool tt.1),(vI tt.2.1),(vI tt.2.2.1),(vI tt.2.2.2)])] [.arr true 4 [[.sl (oA.map Cell.enc),.sl (oB.map (eSl Event.enc)),.sl (oC.map eI),.sl (oD.map eI)]],.mapo true (oE.map (eKV (aInt .u64) (aSl eI))),.arr false 4 [[.ptr (.O 0) 0 0,.sl (oF.map Event.enc),.sl (oG.map eI),.mp 1]],.arr false 1 [[.fn 16 [.ptr (.O 2) 0 0] []],[.fn 17 [.ptr (.O 2) 0 0] []],[.fn 18 [.ptr (.O 2) 0 0] []]]] 4
def Z236 (oA:(List Cell)) (oB:(List (List Event))) (oC:(List Int)) (oD:(List Int)) (oE:(List (Int×(List Int)))) (oF:(List Event)) (oG:(List Int)) (t0:(Unit⊕(Bool×Int×Int×Int))):Ex×St:=match t0 with | .inl tt=>(.ex 0,Z234 oA oB oC oD oE oF oG tt) | .inr tt=>(.ret,Z235 oA oB oC oD oE oF oG tt)
theorem Z237 (n:Nat) (oA:(List Cell)) (oB:(List (List Event))) (oC:(List Int)) (oD:(List Int)) (oE:(List (Int×(List Int)))) (oF:(List Event)) (oG:(List Int)):∀ sa r,axiom_court_value_S_L1 n oA oB oC oD oE oF oG sa=some r→CodeD Tryd.prog Z231 (Z233 oA oB oC oD oE oF oG sa) (rk (Z233 oA oB oC oD oE oF oG) (Z236 oA oB oC oD oE oF oG) r):=by
 intro sa r h
 unfold axiom_court_value_S_L1 at h
 rcases iteN h with ⟨ha1,h⟩ | ⟨ha1,h⟩
 ·
  exact kQ h (nA ord17 [rV 2 [(12,vF)]]) [wK 2 [2] [] 4] Z232 (rkE rfl neE) (fun z=>(aB ha1 z)) (by kernel_rfl)
 obtain ⟨xa2,gxa2,h⟩:=bindE h
 obtain ⟨ya3,gya3,h⟩:=bindE h
 have c130_:=fun (R:Prop) (z:R)=>(aB ha1 (aM Event.enc gxa2 (aI (event_Reads_sim n xa2 ya3 gya3) z)))
 rcases iteE h with ⟨ha4,h⟩ | ⟨ha4,h⟩
 ·
  exact kQ h (nA ord17 [rV 2 [(12,vT)],rR 3 [(14,(Event.enc xa2))],rVC 4 [(18,vT)] [(17,.v (.bool ya3))]]) [wK 0 [0,2,9,10,11] [4] 4] Z232 rkN (fun z=>(c130_ _ (aB ha4 z))) (by kernel_rfl)
 obtain ⟨ya5,gya5,h⟩:=bindE h
 obtain ⟨xa6,gxa6,h⟩:=bindE h
 have c131_:=fun (R:Prop) (z:R)=>(aB ha4 (aI (axiom_court_source_S_sim n sa oA oB oC oD oE oF oG ya5 gya5) (aM eI gxa6 z)))
 rcases iteN h with ⟨ha7,h⟩ | ⟨ha7,h⟩
 ·
  exact kQ h (nA ord17 [rV 2 [(12,vT)],rR 3 [(14,(Event.enc xa2))],rVC 4 [(18,vF)] [(17,.v (.bool ya3))],(5,⟨[],[],[],[],[],[(21,((vI ya5),[.arr true 4 [[.sl (oA.map Cell.enc),.sl (oB.map (eSl Event.enc)),.sl (oC.map eI),.sl (oD.map eI)]],.mapo true (oE.map (eKV (aInt .u64) (aSl eI))),.arr false 4 [[.ptr (.O 0) 0 0,.sl (oF.map Event.enc),.sl (oG.map eI),.mp 1]],.arr false 1 [[.fn 16 [.ptr (.O 2) 0 0] []],[.fn 17 [.ptr (.O 2) 0 0] []],[.fn 18 [.ptr (.O 2) 0 0] []]]]))],[],[],[]⟩),(6,⟨[],[],[(31,[(vI xa6)])],[(33,vF)],[],[],[],[],[]⟩)]) [wK 0 [0,2,9,10,11] [4] 4] Z232 rkN (fun z=>(c130_ _ (c131_ _ (aB ha7 z)))) (by kernel_rfl)
 obtain ⟨ya8,gya8,h⟩:=bindE h
 exact kQ h (nA ord17 [rV 2 [(12,vT)],rR 3 [(14,(Event.enc xa2))],rVC 4 [(18,vF)] [(17,.v (.bool ya3))],(5,⟨[],[],[],[],[],[(21,((vI ya5),[.arr true 4 [[.sl (oA.map Cell.enc),.sl (oB.map (eSl Event.enc)),.sl (oC.map eI),.sl (oD.map eI)]],.mapo true (oE.map (eKV (aInt .u64) (aSl eI))),.arr false 4 [[.ptr (.O 0) 0 0,.sl (oF.map Event.enc),.sl (oG.map eI),.mp 1]],.arr false 1 [[.fn 16 [.ptr (.O 2) 0 0] []],[.fn 17 [.ptr (.O 2) 0 0] []],[.fn 18 [.ptr (.O 2) 0 0] []]]]))],[],[],[]⟩),(6,⟨[],[],[(31,[(vI xa6)])],[(33,vT)],[],[],[],[],[]⟩),rVC 7 [] [(36,(aAgg Judged.enc ya8))]]) [wK 1 [2] [4] 4] Z232 (rkE rfl neR) (fun z=>(c130_ _ (c131_ _ (aB ha7 (aI (axiom_bad_sim n 3 sa ya5 ya8 gya8) z))))) (by kernel_rfl)

def axiom_court_value_S_R (oA:(List Cell)) (oB:(List (List Event))) (oC:(List Int)) (oD:(List Int)) (oE:(List (Int×(List Int)))) (oF:(List Event)) (oG:(List Int)) (y:(Bool×Int×Int×Int)):AV×List Ob:=(.agg [.v (.bool y.1),(vI y.2.1),(vI y.2.2.1),(vI y.2.2.2)],[.arr true 4 [[.sl (oA.map Cell.enc),.sl (oB.map (eSl Event.enc)),.sl (oC.map eI),.sl (oD.map eI)]],.mapo true (oE.map (eKV (aInt .u64) (aSl eI))),.arr false 4 [[.ptr (.O 0) 0 0,.sl (oF.map Event.enc),.sl (oG.map eI),.mp 1]],.arr false 1 [[.fn 16 [.ptr (.O 2) 0 0] []],[.fn 17 [.ptr (.O 2) 0 0] []],[.fn 18 [.ptr (.O 2) 0 0] []]]])
theorem axiom_court_value_S_sim (n:Nat) (oA:(List Cell)) (oB:(List (List Event))) (oC:(List Int)) (oD:(List Int)) (oE:(List (Int×(List Int)))) (oF:(List Event)) (oG:(List Int)) (y:(Bool×Int×Int×Int)) (h:axiom_court_value_S n oA oB oC oD oE oF oG=some y):SD Tryd.prog 17 [.ptr (.O 2) 0 0] [.arr true 4 [[.sl (oA.map Cell.enc),.sl (oB.map (eSl Event.enc)),.sl (oC.map eI),.sl (oD.map eI)]],.mapo true (oE.map (eKV (aInt .u64) (aSl eI))),.arr false 4 [[.ptr (.O 0) 0 0,.sl (oF.map Event.enc),.sl (oG.map eI),.mp 1]],.arr false 1 [[.fn 16 [.ptr (.O 2) 0 0] []],[.fn 17 [.ptr (.O 2) 0 0] []],[.fn 18 [.ptr (.O 2) 0 0] []]]] (fun r' o'=>r'=(axiom_court_value_S_R oA oB oC oD oE oF oG y).1∧o'=(axiom_court_value_S_R oA oB oC oD oE oF oG y).2):=by
 unfold axiom_court_value_S at h
 obtain ⟨t1,gt1,h⟩:=bindE h
 rcases t1 with w2 | w2
 ·
  obtain ⟨y3,gy3,h⟩:=bindE h
  obtain rfl:=soI h
  exact kS ⟨ord17,[rV 1 [(10,(vI (oF.length:Int)))],rVC 9 [] [(38,(aAgg Judged.enc y3))]],[],[(2,(⟨[0,2,9,10,11],[],4,[],[],[]⟩,l0,(.ex 0),Z234 oA oB oC oD oE oF oG w2))],[]⟩ ordB17 ⟨rfl,rfl⟩ (fun z=>(aL Event.enc oF (aI (okL (pl:=polF 17) (Z233 oA oB oC oD oE oF oG) (Z236 oA oB oC oD oE oF oG) (Z237 n oA oB oC oD oE oF oG) n _ (.inl w2) gt1) (aI (axiom_good_sim n y3 gy3) z)))) (by kernel_rfl)
 ·
  obtain rfl:=soI h
  exact kS ⟨ord17,[rV 1 [(10,(vI (oF.length:Int)))]],[],[(2,(⟨[0,2,9,10,11],[],4,[],[],[]⟩,l0,.ret,Z235 oA oB oC oD oE oF oG w2))],[]⟩ ordB17 ⟨rfl,rfl⟩ (fun z=>(aL Event.enc oF (aI (okL (pl:=polF 17) (Z233 oA oB oC oD oE oF oG) (Z236 oA oB oC oD oE oF oG) (Z237 n oA oB oC oD oE oF oG) n _ (.inr w2) gt1) z))) (by kernel_rfl)

def ord18:List (Nat×PT):=[(12,(ptS [0,1,2,3,4,5,6,7,8])),(16,(ptS [0,1,2,3,4,5,6,7,8,9,10,11,12,13,14,15,16,17,18,19,20,21,22,23,24,25,26]))]
theorem ordB18:ordB (polF 18) ord18 (bodyOf Tryd.prog 18)=true:=by kernel_rfl
noncomputable def Z238:Code:=sub (bodyOf Tryd.prog 18) [1,0,1,0,0]
noncomputable def Z239:Code:=sub Z238 [1,1,0,0,1,1,1,1,1,1,0,0]
theorem Z240:ordB (polF 18) ord18 Z239=true:=by kernel_rfl
def Z241 (oA:(List Cell)) (oB:(List (List Event))) (oC:(List Int)) (oD:(List Int)) (oE:(List (Int×(List Int)))) (oF:(List Event)) (oG:(List Int)) (xa2:Event) (sb:Int×Int×Int×Int×(List Int)×Int×Int):St:=mkS 114 [(0,.ptr (.O 2) 0 0),(2,.ptr (.L 2) 0 0),(3,(vI sb.2.1)),(4,.ptr (.L 4) 0 0),(5,(vI sb.2.2.1)),(6,(vI sb.2.2.2.1)),(14,.sl (oF.map Event.enc)),(15,(vI (oF.length:Int))),(16,(vI sb.1)),(68,.sl (sb.2.2.2.2.1.map eI)),(69,(vI sb.2.2.2.2.2.1)),(70,(vI sb.2.2.2.2.2.2))] [(4,(Event.enc xa2)),(2,[vF,(vI 0),(vI 0),(vI 0)])] [.arr true 4 [[.sl (oA.map Cell.enc),.sl (oB.map (eSl Event.enc)),.sl (oC.map eI),.sl (oD.map eI)]],.mapo true (oE.map (eKV (aInt .u64) (aSl eI))),.arr false 4 [[.ptr (.O 0) 0 0,.sl (oF.map Event.enc),.sl (oG.map eI),.mp 1]],.arr false 1 [[.fn 16 [.ptr (.O 2) 0 0] []],[.fn 17 [.ptr (.O 2) 0 0] []],[.fn 18 [.ptr (.O 2) 0 0] []]]] 4
def Z242 (oA:(List Cell)) (oB:(List (List Event))) (oC:(List Int)) (oD:(List Int)) (oE:(List (Int×(List Int)))) (oF:(List Event)) (oG:(List Int)) (xa2:Event) (tt:Int):St:=mkS 114 [(0,.ptr (.O 2) 0 0),(2,.ptr (.L 2) 0 0),(14,.sl (oF.map Event.enc)),(15,(vI (oF.length:Int))),(16,(vI tt))] [(2,[vF,(vI 0),(vI 0),(vI 0)])] [.arr true 4 [[.sl (oA.map Cell.enc),.sl (oB.map (eSl Event.enc)),.sl (oC.map eI),.sl (oD.map eI)]],.mapo true (oE.map (eKV (aInt .u64) (aSl eI))),.arr false 4 [[.ptr (.O 0) 0 0,.sl (oF.map Event.enc),.sl (oG.map eI),.mp 1]],.arr false 1 [[.fn 16 [.ptr (.O 2) 0 0] []],[.fn 17 [.ptr (.O 2) 0 0] []],[.fn 18 [.ptr (.O 2) 0 0] []]]] 4
def Z243 (oA:(List Cell)) (oB:(List (List Event))) (oC:(List Int)) (oD:(List Int)) (oE:(List (Int×(List Int)))) (oF:(List Event)) (oG:(List Int)) (xa2:Event) (tt:Bool×Int×Int×Int):St:=mkS 114 [(2,.ptr (.L 2) 0 0)] [(2,[.v (.bool tt.1),(vI tt.2.1),(vI tt.2.2.1),(vI tt.2.2.2)])] [.arr true 4 [[.sl (oA.map Cell.enc),.sl (oB.map (eSl Event.enc)),.sl (oC.map eI),.sl (oD.map eI)]],.mapo true (oE.map (eKV (aInt .u64) (aSl eI))),.arr false 4 [[.ptr (.O 0) 0 0,.sl (oF.map Event.enc),.sl (oG.map eI),.mp 1]],.arr false 1 [[.fn 16 [.ptr (.O 2) 0 0] []],[.fn 17 [.ptr (.O 2) 0 0] []],[.fn 18 [.ptr (.O 2) 0 0] []]]] 4
def Z244 (oA:(List Cell)) (oB:(List (List Event))) (oC:(List Int)) (oD:(List Int)) (oE:(List (Int×(List Int)))) (oF:(List Event)) (oG:(List Int)) (xa2:Event) (t0:(Int⊕(Bool×Int×Int×Int))):Ex×St:=match t0 with | .inl tt=>(.ex 2,Z242 oA oB oC oD oE oF oG xa2 tt) | .inr tt=>(.ret,Z243 oA oB oC oD oE oF oG xa2 tt)
theorem Z245 (n:Nat) (oA:(List Cell)) (oB:(List (List Event))) (oC:(List Int)) (oD:(List Int)) (oE:(List (Int×(List Int)))) (oF:(List Event)) (oG:(List Int)) (xa2:Event):∀ sb r,axiom_court_pair_S_L2 n oA oB oC oD oE oF oG xa2 sb=some r→CodeD Tryd.prog Z239 (Z241 oA oB oC oD oE oF oG xa2 sb) (rk (Z241 oA oB oC oD oE oF oG xa2) (Z244 oA oB oC oD oE oF oG xa2) r):=by
 intro sb r h
 unfold axiom_court_pair_S_L2 at h
 rcases iteN h with ⟨hb1,h⟩ | ⟨hb1,h⟩
 ·
  exact kQ h (nA ord18 [rV 13 [(71,vF)]]) [wK 4 [0,2,14,15,16] [4] 4] Z240 (rkE rfl neE) (fun z=>(aB hb1 z)) (by kernel_rfl)
 obtain ⟨xb2,gxb2,h⟩:=bindE h
 obtain ⟨xb3,gxb3,h⟩:=bindE h
 have c132_:=fun (R:Prop) (z:R)=>(aB hb1 (aM eI gxb2 (aM eI gxb3 z)))
 rcases iteN h with ⟨hb4,h⟩ | ⟨hb4,h⟩
 ·
  exact kQ h (nA ord18 [rV 13 [(71,vT)],rR 14 [(72,[(vI xb2)])],rR 15 [(79,[(vI xb3)])],rV 16 [(84,vF)]]) [wK 0 [0,2,3,4,5,6,14,15,16,68,69,70] [] 4] Z240 rkN (fun z=>(c132_ _ (aB hb4 z))) (by kernel_rfl)
 obtain ⟨xb5,gxb5,h⟩:=bindE h
 have c133_:=fun (R:Prop) (z:R)=>(aB hb4 (aM eI gxb5 z))
 rcases iteN h with ⟨hb6,h⟩ | ⟨hb6,h⟩
 ·
  exact kQ h (nA ord18 [rV 13 [(71,vT)],rR 14 [(72,[(vI xb2)])],rR 15 [(79,[(vI xb3)])],(16,⟨[],[],[(91,[(vI xb5)])],[(84,vT),(95,vF)],[],[],[],[],[]⟩)]) [wK 0 [0,2,3,4,5,6,14,15,16,68,69,70] [] 4] Z240 rkN (fun z=>(c132_ _ (c133_ _ (aB hb6 z)))) (by kernel_rfl)
 obtain ⟨xb7,gxb7,h⟩:=bindE h
 have c134_:=fun (R:Prop) (z:R)=>(aB hb6 (aM Event.enc gxb7 z))
 rcases iteN h with ⟨hb8,h⟩ | ⟨hb8,h⟩
 ·
  exact kQ h (nA ord18 [rV 13 [(71,vT)],rR 14 [(72,[(vI xb2)])],rR 15 [(79,[(vI xb3)])],(16,⟨[],[],[(91,[(vI xb5)]),(101,(Event.enc xb7))],[(84,vT),(95,vT),(107,vF)],[],[],[],[],[]⟩)]) [wK 0 [0,2,3,4,5,6,14,15,16,68,69,70] [] 4] Z240 rkN (fun z=>(c132_ _ (c133_ _ (c134_ _ (aB hb8 z))))) (by kernel_rfl)
 obtain ⟨yb9,gyb9,h⟩:=bindE h
 exact kQ h (nA ord18 [rV 13 [(71,vT)],rR 14 [(72,[(vI xb2)])],rR 15 [(79,[(vI xb3)])],(16,⟨[],[],[(91,[(vI xb5)]),(101,(Event.enc xb7))],[(84,vT),(95,vT),(107,vT)],[],[],[],[],[]⟩),rVC 17 [] [(110,(aAgg Judged.enc yb9))]]) [wK 1 [2] [4] 4] Z240 (rkE rfl neR) (fun z=>(c132_ _ (c133_ _ (c134_ _ (aB hb8 (aI (axiom_bad_sim n 4 sb.2.2.1 xb2 yb9 gyb9) z)))))) (by kernel_rfl)

theorem Z246:ordB (polF 18) ord18 Z238=true:=by kernel_rfl
def Z247 (oA:(List Cell)) (oB:(List (List Event))) (oC:(List Int)) (oD:(List Int)) (oE:(List (Int×(List Int)))) (oF:(List Event)) (oG:(List Int)) (sa:Int):St:=mkS 114 [(0,.ptr (.O 2) 0 0),(2,.ptr (.L 2) 0 0),(14,.sl (oF.map Event.enc)),(15,(vI (oF.length:Int))),(16,(vI sa))] [(2,[vF,(vI 0),(vI 0),(vI 0)])] [.arr true 4 [[.sl (oA.map Cell.enc),.sl (oB.map (eSl Event.enc)),.sl (oC.map eI),.sl (oD.map eI)]],.mapo true (oE.map (eKV (aInt .u64) (aSl eI))),.arr false 4 [[.ptr (.O 0) 0 0,.sl (oF.map Event.enc),.sl (oG.map eI),.mp 1]],.arr false 1 [[.fn 16 [.ptr (.O 2) 0 0] []],[.fn 17 [.ptr (.O 2) 0 0] []],[.fn 18 [.ptr (.O 2) 0 0] []]]] 4
def Z248 (oA:(List Cell)) (oB:(List (List Event))) (oC:(List Int)) (oD:(List Int)) (oE:(List (Int×(List Int)))) (oF:(List Event)) (oG:(List Int)) (tt:Unit):St:=mkS 114 [(2,.ptr (.L 2) 0 0)] [(2,[vF,(vI 0),(vI 0),(vI 0)])] [.arr true 4 [[.sl (oA.map Cell.enc),.sl (oB.map (eSl Event.enc)),.sl (oC.map eI),.sl (oD.map eI)]],.mapo true (oE.map (eKV (aInt .u64) (aSl eI))),.arr false 4 [[.ptr (.O 0) 0 0,.sl (oF.map Event.enc),.sl (oG.map eI),.mp 1]],.arr false 1 [[.fn 16 [.ptr (.O 2) 0 0] []],[.fn 17 [.ptr (.O 2) 0 0] []],[.fn 18 [.ptr (.O 2) 0 0] []]]] 4
def Z249 (oA:(List Cell)) (oB:(List (List Event))) (oC:(List Int)) (oD:(List Int)) (oE:(List (Int×(List Int)))) (oF:(List Event)) (oG:(List Int)) (tt:Bool×Int×Int×Int):St:=mkS 114 [(2,.ptr (.L 2) 0 0)] [(2,[.v (.bool tt.1),(vI tt.2.1),(vI tt.2.2.1),(vI tt.2.2.2)])] [.arr true 4 [[.sl (oA.map Cell.enc),.sl (oB.map (eSl Event.enc)),.sl (oC.map eI),.sl (oD.map eI)]],.mapo true (oE.map (eKV (aInt .u64) (aSl eI))),.arr false 4 [[.ptr (.O 0) 0 0,.sl (oF.map Event.enc),.sl (oG.map eI),.mp 1]],.arr false 1 [[.fn 16 [.ptr (.O 2) 0 0] []],[.fn 17 [.ptr (.O 2) 0 0] []],[.fn 18 [.ptr (.O 2) 0 0] []]]] 4
def Z250 (oA:(List Cell)) (oB:(List (List Event))) (oC:(List Int)) (oD:(List Int)) (oE:(List (Int×(List Int)))) (oF:(List Event)) (oG:(List Int)) (t0:(Unit⊕(Bool×Int×Int×Int))):Ex×St:=match t0 with | .inl tt=>(.ex 0,Z248 oA oB oC oD oE oF oG tt) | .inr tt=>(.ret,Z249 oA oB oC oD oE oF oG tt)
theorem Z251 (n:Nat) (oA:(List Cell)) (oB:(List (List Event))) (oC:(List Int)) (oD:(List Int)) (oE:(List (Int×(List Int)))) (oF:(List Event)) (oG:(List Int)):∀ sa r,axiom_court_pair_S_L1 n oA oB oC oD oE oF oG sa=some r→CodeD Tryd.prog Z238 (Z247 oA oB oC oD oE oF oG sa) (rk (Z247 oA oB oC oD oE oF oG) (Z250 oA oB oC oD oE oF oG) r):=by
 intro sa r h
 unfold axiom_court_pair_S_L1 at h
 rcases iteN h with ⟨ha1,h⟩ | ⟨ha1,h⟩
 ·
  exact kQ h (nA ord18 [rV 2 [(17,vF)]]) [wK 2 [2] [] 4] Z246 (rkE rfl neE) (fun z=>(aB ha1 z)) (by kernel_rfl)
 obtain ⟨xa2,gxa2,h⟩:=bindE h
 have c135_:=fun (R:Prop) (z:R)=>(aB ha1 (aM Event.enc gxa2 z))
 rcases iteE h with ⟨ha3,h⟩ | ⟨ha3,h⟩
 ·
  exact kQ h (nA ord18 [rV 2 [(17,vT)],rR 3 [(19,(Event.enc xa2))],rV 4 [(23,vT)]]) [wK 0 [0,2,14,15,16] [4] 4] Z246 rkN (fun z=>(c135_ _ (aB ha3 z))) (by kernel_rfl)
 obtain ⟨xa4,gxa4,h⟩:=bindE h
 have c136_:=fun (R:Prop) (z:R)=>(aB ha3 (aM eI gxa4 z))
 rcases iteN h with ⟨ha5,h⟩ | ⟨ha5,h⟩
 ·
  rcases matchOE h with ⟨ha6,h⟩ | ⟨za6,ha7,h⟩
  ·
   obtain ⟨ta7,gta7,h⟩:=bindE h
   have c140_:=fun (R:Prop) (z:R)=>(aB ha5 (aI (mapGetN_53 oE xa2.Addr ha6:∀ k':AV→Prop,k' (.nilsl)→findK Tryd.prog 28 ((vU xa2.Addr)) (oE.map (eKV (aInt .u64) (aSl eI))) fun _ r=>foundOk Tryd.prog 24 false (oE.map (eKV (aInt .u64) (aSl eI))) r k') z))
   rcases ta7 with wa8 | wa8
   ·
    exact kQ h ⟨ord18,[rV 2 [(17,vT)],rR 3 [(19,(Event.enc xa2))],rV 4 [(23,vF)],rR 7 [(39,[(vI xa4)])],rV 8 [(42,vF)],rVC 12 [] [(68,.nilsl)]],[],[(13,(⟨[0,2,3,4,5,6,14,15,16,68,69,70],[],4,[],[],[]⟩,⟨[(68,.sl (([]:List Int).map eI))],[],[]⟩,(.ex 2),Z242 oA oB oC oD oE oF oG xa2 wa8))],[]⟩ [wK 0 [0,2,14,15,16] [] 4] Z246 rkN (fun z=>(c135_ _ (c136_ _ (c140_ _ (aI (LeA.nil:LeA (.nilsl) (.sl (([]:List Int).map eI))) (aI (okL (pl:=polF 18) (Z241 oA oB oC oD oE oF oG xa2) (Z244 oA oB oC oD oE oF oG xa2) (Z245 n oA oB oC oD oE oF oG xa2) n _ (.inl wa8) gta7) z)))))) (by kernel_rfl)
   ·
    exact kQ h ⟨ord18,[rV 2 [(17,vT)],rR 3 [(19,(Event.enc xa2))],rV 4 [(23,vF)],rR 7 [(39,[(vI xa4)])],rV 8 [(42,vF)],rVC 12 [] [(68,.nilsl)]],[],[(13,(⟨[0,2,3,4,5,6,14,15,16,68,69,70],[],4,[],[],[]⟩,⟨[(68,.sl (([]:List Int).map eI))],[],[]⟩,.ret,Z243 oA oB oC oD oE oF oG xa2 wa8))],[]⟩ [wK 1 [2] [] 4] Z246 (rkE rfl neR) (fun z=>(c135_ _ (c136_ _ (c140_ _ (aI (LeA.nil:LeA (.nilsl) (.sl (([]:List Int).map eI))) (aI (okL (pl:=polF 18) (Z241 oA oB oC oD oE oF oG xa2) (Z244 oA oB oC oD oE oF oG xa2) (Z245 n oA oB oC oD oE oF oG xa2) n _ (.inr wa8) gta7) z)))))) (by kernel_rfl)
  ·
   obtain ⟨ta8,gta8,h⟩:=bindE h
   have c141_:=fun (R:Prop) (z:R)=>(aB ha5 (aI (mapGetS_53 oE xa2.Addr ha7:∀ k':AV→Prop,k' (.sl (za6.map eI))→findK Tryd.prog 28 ((vU xa2.Addr)) (oE.map (eKV (aInt .u64) (aSl eI))) fun _ r=>foundOk Tryd.prog 24 false (oE.map (eKV (aInt .u64) (aSl eI))) r k') (aL eI za6 z)))
   rcases ta8 with wa9 | wa9
   ·
    exact kQ h ⟨ord18,[rV 2 [(17,vT)],rR 3 [(19,(Event.enc xa2))],rV 4 [(23,vF)],rR 7 [(39,[(vI xa4)])],rV 8 [(42,vF)],rVC 12 [(69,(vI (za6.length:Int)))] [(68,.sl (za6.map eI))]],[],[(13,(⟨[0,2,3,4,5,6,14,15,16,68,69,70],[],4,[],[],[]⟩,l0,(.ex 2),Z242 oA oB oC oD oE oF oG xa2 wa9))],[]⟩ [wK 0 [0,2,14,15,16] [] 4] Z246 rkN (fun z=>(c135_ _ (c136_ _ (c141_ _ (aI (okL (pl:=polF 18) (Z241 oA oB oC oD oE oF oG xa2) (Z244 oA oB oC oD oE oF oG xa2) (Z245 n oA oB oC oD oE oF oG xa2) n _ (.inl wa9) gta8) z))))) (by kernel_rfl)
   ·
    exact kQ h ⟨ord18,[rV 2 [(17,vT)],rR 3 [(19,(Event.enc xa2))],rV 4 [(23,vF)],rR 7 [(39,[(vI xa4)])],rV 8 [(42,vF)],rVC 12 [(69,(vI (za6.length:Int)))] [(68,.sl (za6.map eI))]],[],[(13,(⟨[0,2,3,4,5,6,14,15,16,68,69,70],[],4,[],[],[]⟩,l0,.ret,Z243 oA oB oC oD oE oF oG xa2 wa9))],[]⟩ [wK 1 [2] [] 4] Z246 (rkE rfl neR) (fun z=>(c135_ _ (c136_ _ (c141_ _ (aI (okL (pl:=polF 18) (Z241 oA oB oC oD oE oF oG xa2) (Z244 oA oB oC oD oE oF oG xa2) (Z245 n oA oB oC oD oE oF oG xa2) n _ (.inr wa9) gta8) z))))) (by kernel_rfl)
 obtain ⟨xa6,gxa6,h⟩:=bindE h
 obtain ⟨xa7,gxa7,h⟩:=bindE h
 have c137_:=fun (R:Prop) (z:R)=>(aB ha5 (aM eI gxa6 (aM eI gxa7 z)))
 rcases iteE h with ⟨ha8,h⟩ | ⟨ha8,h⟩
 ·
  obtain ⟨ya9,gya9,h⟩:=bindE h
  exact kQ h (nA ord18 [rV 2 [(17,vT)],rR 3 [(19,(Event.enc xa2))],rV 4 [(23,vF)],rR 7 [(39,[(vI xa4)])],rV 8 [(42,vT)],rR 9 [(48,[(vI xa6)])],(10,⟨[],[],[(56,[(vI xa7)])],[(58,vT)],[],[],[],[],[]⟩),rVC 11 [] [(61,(aAgg Judged.enc ya9))]]) [wK 1 [2] [4] 4] Z246 (rkE rfl neR) (fun z=>(c135_ _ (c136_ _ (c137_ _ (aB ha8 (aI (axiom_bad_sim n 4 (addW .i64 (subW .i64 sa xa2.At) xa2.Pair) xa4 ya9 gya9) z)))))) (by kernel_rfl)
 rcases matchOE h with ⟨ha9,h⟩ | ⟨za9,ha10,h⟩
 ·
  obtain ⟨ta10,gta10,h⟩:=bindE h
  have c138_:=fun (R:Prop) (z:R)=>(aB ha8 (aI (mapGetN_53 oE xa2.Addr ha9:∀ k':AV→Prop,k' (.nilsl)→findK Tryd.prog 28 ((vU xa2.Addr)) (oE.map (eKV (aInt .u64) (aSl eI))) fun _ r=>foundOk Tryd.prog 24 false (oE.map (eKV (aInt .u64) (aSl eI))) r k') z))
  rcases ta10 with wa11 | wa11
  ·
   exact kQ h ⟨ord18,[rV 2 [(17,vT)],rR 3 [(19,(Event.enc xa2))],rV 4 [(23,vF)],rR 7 [(39,[(vI xa4)])],rV 8 [(42,vT)],rR 9 [(48,[(vI xa6)])],(10,⟨[],[],[(56,[(vI xa7)])],[(58,vF)],[],[],[],[],[]⟩),rVC 12 [] [(68,.nilsl)]],[],[(13,(⟨[0,2,3,4,5,6,14,15,16,68,69,70],[],4,[],[],[]⟩,⟨[(68,.sl (([]:List Int).map eI))],[],[]⟩,(.ex 2),Z242 oA oB oC oD oE oF oG xa2 wa11))],[]⟩ [wK 0 [0,2,14,15,16] [] 4] Z246 rkN (fun z=>(c135_ _ (c136_ _ (c137_ _ (c138_ _ (aI (LeA.nil:LeA (.nilsl) (.sl (([]:List Int).map eI))) (aI (okL (pl:=polF 18) (Z241 oA oB oC oD oE oF oG xa2) (Z244 oA oB oC oD oE oF oG xa2) (Z245 n oA oB oC oD oE oF oG xa2) n _ (.inl wa11) gta10) z))))))) (by kernel_rfl)
  ·
   exact kQ h ⟨ord18,[rV 2 [(17,vT)],rR 3 [(19,(Event.enc xa2))],rV 4 [(23,vF)],rR 7 [(39,[(vI xa4)])],rV 8 [(42,vT)],rR 9 [(48,[(vI xa6)])],(10,⟨[],[],[(56,[(vI xa7)])],[(58,vF)],[],[],[],[],[]⟩),rVC 12 [] [(68,.nilsl)]],[],[(13,(⟨[0,2,3,4,5,6,14,15,16,68,69,70],[],4,[],[],[]⟩,⟨[(68,.sl (([]:List Int).map eI))],[],[]⟩,.ret,Z243 oA oB oC oD oE oF oG xa2 wa11))],[]⟩ [wK 1 [2] [] 4] Z246 (rkE rfl neR) (fun z=>(c135_ _ (c136_ _ (c137_ _ (c138_ _ (aI (LeA.nil:LeA (.nilsl) (.sl (([]:List Int).map eI))) (aI (okL (pl:=polF 18) (Z241 oA oB oC oD oE oF oG xa2) (Z244 oA oB oC oD oE oF oG xa2) (Z245 n oA oB oC oD oE oF oG xa2) n _ (.inr wa11) gta10) z))))))) (by kernel_rfl)
 ·
  obtain ⟨ta11,gta11,h⟩:=bindE h
  have c139_:=fun (R:Prop) (z:R)=>(aB ha8 (aI (mapGetS_53 oE xa2.Addr ha10:∀ k':AV→Prop,k' (.sl (za9.map eI))→findK Tryd.prog 28 ((vU xa2.Addr)) (oE.map (eKV (aInt .u64) (aSl eI))) fun _ r=>foundOk Tryd.prog 24 false (oE.map (eKV (aInt .u64) (aSl eI))) r k') (aL eI za9 z)))
  rcases ta11 with wa12 | wa12
  ·
   exact kQ h ⟨ord18,[rV 2 [(17,vT)],rR 3 [(19,(Event.enc xa2))],rV 4 [(23,vF)],rR 7 [(39,[(vI xa4)])],rV 8 [(42,vT)],rR 9 [(48,[(vI xa6)])],(10,⟨[],[],[(56,[(vI xa7)])],[(58,vF)],[],[],[],[],[]⟩),rVC 12 [(69,(vI (za9.length:Int)))] [(68,.sl (za9.map eI))]],[],[(13,(⟨[0,2,3,4,5,6,14,15,16,68,69,70],[],4,[],[],[]⟩,l0,(.ex 2),Z242 oA oB oC oD oE oF oG xa2 wa12))],[]⟩ [wK 0 [0,2,14,15,16] [] 4] Z246 rkN (fun z=>(c135_ _ (c136_ _ (c137_ _ (c139_ _ (aI (okL (pl:=polF 18) (Z241 oA oB oC oD oE oF oG xa2) (Z244 oA oB oC oD oE oF oG xa2) (Z245 n oA oB oC oD oE oF oG xa2) n _ (.inl wa12) gta11) z)))))) (by kernel_rfl)
  ·
   exact kQ h ⟨ord18,[rV 2 [(17,vT)],rR 3 [(19,(Event.enc xa2))],rV 4 [(23,vF)],rR 7 [(39,[(vI xa4)])],rV 8 [(42,vT)],rR 9 [(48,[(vI xa6)])],(10,⟨[],[],[(56,[(vI xa7)])],[(58,vF)],[],[],[],[],[]⟩),rVC 12 [(69,(vI (za9.length:Int)))] [(68,.sl (za9.map eI))]],[],[(13,(⟨[0,2,3,4,5,6,14,15,16,68,69,70],[],4,[],[],[]⟩,l0,.ret,Z243 oA oB oC oD oE oF oG xa2 wa12))],[]⟩ [wK 1 [2] [] 4] Z246 (rkE rfl neR) (fun z=>(c135_ _ (c136_ _ (c137_ _ (c139_ _ (aI (okL (pl:=polF 18) (Z241 oA oB oC oD oE oF oG xa2) (Z244 oA oB oC oD oE oF oG xa2) (Z245 n oA oB oC oD oE oF oG xa2) n _ (.inr wa12) gta11) z)))))) (by kernel_rfl)

def axiom_court_pair_S_R (oA:(List Cell)) (oB:(List (List Event))) (oC:(List Int)) (oD:(List Int)) (oE:(List (Int×(List Int)))) (oF:(List Event)) (oG:(List Int)) (y:(Bool×Int×Int×Int)):AV×List Ob:=(.agg [.v (.bool y.1),(vI y.2.1),(vI y.2.2.1),(vI y.2.2.2)],[.arr true 4 [[.sl (oA.map Cell.enc),.sl (oB.map (eSl Event.enc)),.sl (oC.map eI),.sl (oD.map eI)]],.mapo true (oE.map (eKV (aInt .u64) (aSl eI))),.arr false 4 [[.ptr (.O 0) 0 0,.sl (oF.map Event.enc),.sl (oG.map eI),.mp 1]],.arr false 1 [[.fn 16 [.ptr (.O 2) 0 0] []],[.fn 17 [.ptr (.O 2) 0 0] []],[.fn 18 [.ptr (.O 2) 0 0] []]]])
theorem axiom_court_pair_S_sim (n:Nat) (oA:(List Cell)) (oB:(List (List Event))) (oC:(List Int)) (oD:(List Int)) (oE:(List (Int×(List Int)))) (oF:(List Event)) (oG:(List Int)) (y:(Bool×Int×Int×Int)) (h:axiom_court_pair_S n oA oB oC oD oE oF oG=some y):SD Tryd.prog 18 [.ptr (.O 2) 0 0] [.arr true 4 [[.sl (oA.map Cell.enc),.sl (oB.map (eSl Event.enc)),.sl (oC.map eI),.sl (oD.map eI)]],.mapo true (oE.map (eKV (aInt .u64) (aSl eI))),.arr false 4 [[.ptr (.O 0) 0 0,.sl (oF.map Event.enc),.sl (oG.map eI),.mp 1]],.arr false 1 [[.fn 16 [.ptr (.O 2) 0 0] []],[.fn 17 [.ptr (.O 2) 0 0] []],[.fn 18 [.ptr (.O 2) 0 0] []]]] (fun r' o'=>r'=(axiom_court_pair_S_R oA oB oC oD oE oF oG y).1∧o'=(axiom_court_pair_S_R oA oB oC oD oE oF oG y).2):=by
 unfold axiom_court_pair_S at h
 obtain ⟨t1,gt1,h⟩:=bindE h
 rcases t1 with w2 | w2
 ·
  obtain ⟨y3,gy3,h⟩:=bindE h
  obtain rfl:=soI h
  exact kS ⟨ord18,[rV 1 [(15,(vI (oF.length:Int)))],rVC 20 [] [(113,(aAgg Judged.enc y3))]],[],[(2,(⟨[0,2,14,15,16],[],4,[],[],[]⟩,l0,(.ex 0),Z248 oA oB oC oD oE oF oG w2))],[]⟩ ordB18 ⟨rfl,rfl⟩ (fun z=>(aL Event.enc oF (aI (okL (pl:=polF 18) (Z247 oA oB oC oD oE oF oG) (Z250 oA oB oC oD oE oF oG) (Z251 n oA oB oC oD oE oF oG) n _ (.inl w2) gt1) (aI (axiom_good_sim n y3 gy3) z)))) (by kernel_rfl)
 ·
  obtain rfl:=soI h
  exact kS ⟨ord18,[rV 1 [(15,(vI (oF.length:Int)))]],[],[(2,(⟨[0,2,14,15,16],[],4,[],[],[]⟩,l0,.ret,Z249 oA oB oC oD oE oF oG w2))],[]⟩ ordB18 ⟨rfl,rfl⟩ (fun z=>(aL Event.enc oF (aI (okL (pl:=polF 18) (Z247 oA oB oC oD oE oF oG) (Z250 oA oB oC oD oE oF oG) (Z251 n oA oB oC oD oE oF oG) n _ (.inr w2) gt1) z))) (by kernel_rfl)

def ord7:List (Nat×PT):=[]
theorem ordB7:ordB (polF 7) ord7 (bodyOf Tryd.prog 7)=true:=by kernel_rfl
noncomputable def Z252:Code:=sub (bodyOf Tryd.prog 7) [1,1,1,0,1,0,0]
theorem Z253:ordB (polF 7) ord7 Z252=true:=by kernel_rfl
theorem axiom_Judge_U1_0_axiom_Judge_1 (c:Cand) (wb2:(List (Int×(List Int)))×(List Event)×(List Int)) (y3:(Bool×Int×Int×Int)) (K:Ex→St→Prop):oR pc sc lp cd (nA ord7 [(7,⟨[],[],[],[],[],[(24,(.agg [.v (.bool y3.1),(vI y3.2.1),(vI y3.2.2.1),(vI y3.2.2.2)],[.arr true 4 [(Cand.enc c)],.mapo true (wb2.1.map (eKV (aInt .u64) (aSl eI))),.arr false 4 [[.ptr (.O 0) 0 0,.sl (wb2.2.1.map Event.enc),.sl (wb2.2.2.map eI),.mp 1]],.arr false 1 [[.fn 16 [.ptr (.O 2) 0 0] []],[.fn 17 [.ptr (.O 2) 0 0] []],[.fn 18 [.ptr (.O 2) 0 0] []]]]))],[],[],[]⟩),rV 8 [(27,vT)]]) (polF 7) [wK 1 [2] [6] 0] Z252 (mkS 31 [(2,.ptr (.L 2) 0 0),(17,.mf 3),(18,(vI 3)),(19,(vI 0))] [(2,[vF,(vI 0),(vI 0),(vI 0)])] [.arr true 4 [(Cand.enc c)],.mapo true (wb2.1.map (eKV (aInt .u64) (aSl eI))),.arr false 4 [[.ptr (.O 0) 0 0,.sl (wb2.2.1.map Event.enc),.sl (wb2.2.2.map eI),.mp 1]],.arr false 1 [[.fn 16 [.ptr (.O 2) 0 0] []],[.fn 17 [.ptr (.O 2) 0 0] []],[.fn 18 [.ptr (.O 2) 0 0] []]]] 0) K
  = ((sc 16 [.ptr (.O 2) 0 0] [.arr true 4 [(Cand.enc c)],.mapo true (wb2.1.map (eKV (aInt .u64) (aSl eI))),.arr false 4 [[.ptr (.O 0) 0 0,.sl (wb2.2.1.map Event.enc),.sl (wb2.2.2.map eI),.mp 1]],.arr false 1 [[.fn 16 [.ptr (.O 2) 0 0] []],[.fn 17 [.ptr (.O 2) 0 0] []],[.fn 18 [.ptr (.O 2) 0 0] []]]] (fun r' o'=>r'=.agg [.v (.bool y3.1),(vI y3.2.1),(vI y3.2.2.1),(vI y3.2.2.2)]∧o'=[.arr true 4 [(Cand.enc c)],.mapo true (wb2.1.map (eKV (aInt .u64) (aSl eI))),.arr false 4 [[.ptr (.O 0) 0 0,.sl (wb2.2.1.map Event.enc),.sl (wb2.2.2.map eI),.mp 1]],.arr false 1 [[.fn 16 [.ptr (.O 2) 0 0] []],[.fn 17 [.ptr (.O 2) 0 0] []],[.fn 18 [.ptr (.O 2) 0 0] []]]]))∧(eqB (!y3.1) true)∧K .ret (mkS 31 [(2,.ptr (.L 2) 0 0)] [(2,[.v (.bool y3.1),(vI y3.2.1),(vI y3.2.2.1),(vI y3.2.2.2)])] [] 0)):=by kernel_rfl
theorem axiom_Judge_U1_0_axiom_Judge_2 (c:Cand) (wb2:(List (Int×(List Int)))×(List Event)×(List Int)) (y3:(Bool×Int×Int×Int)) (K:Ex→St→Prop):oR pc sc lp cd (nA ord7 [(7,⟨[],[],[],[],[],[(24,(.agg [.v (.bool y3.1),(vI y3.2.1),(vI y3.2.2.1),(vI y3.2.2.2)],[.arr true 4 [(Cand.enc c)],.mapo true (wb2.1.map (eKV (aInt .u64) (aSl eI))),.arr false 4 [[.ptr (.O 0) 0 0,.sl (wb2.2.1.map Event.enc),.sl (wb2.2.2.map eI),.mp 1]],.arr false 1 [[.fn 16 [.ptr (.O 2) 0 0] []],[.fn 17 [.ptr (.O 2) 0 0] []],[.fn 18 [.ptr (.O 2) 0 0] []]]]))],[],[],[]⟩),rV 8 [(27,vF)]]) (polF 7) [wK 0 [2,17,18,19] [6] 4] Z252 (mkS 31 [(2,.ptr (.L 2) 0 0),(17,.mf 3),(18,(vI 3)),(19,(vI 0))] [(2,[vF,(vI 0),(vI 0),(vI 0)])] [.arr true 4 [(Cand.enc c)],.mapo true (wb2.1.map (eKV (aInt .u64) (aSl eI))),.arr false 4 [[.ptr (.O 0) 0 0,.sl (wb2.2.1.map Event.enc),.sl (wb2.2.2.map eI),.mp 1]],.arr false 1 [[.fn 16 [.ptr (.O 2) 0 0] []],[.fn 17 [.ptr (.O 2) 0 0] []],[.fn 18 [.ptr (.O 2) 0 0] []]]] 0) K
  = ((sc 16 [.ptr (.O 2) 0 0] [.arr true 4 [(Cand.enc c)],.mapo true (wb2.1.map (eKV (aInt .u64) (aSl eI))),.arr false 4 [[.ptr (.O 0) 0 0,.sl (wb2.2.1.map Event.enc),.sl (wb2.2.2.map eI),.mp 1]],.arr false 1 [[.fn 16 [.ptr (.O 2) 0 0] []],[.fn 17 [.ptr (.O 2) 0 0] []],[.fn 18 [.ptr (.O 2) 0 0] []]]] (fun r' o'=>r'=.agg [.v (.bool y3.1),(vI y3.2.1),(vI y3.2.2.1),(vI y3.2.2.2)]∧o'=[.arr true 4 [(Cand.enc c)],.mapo true (wb2.1.map (eKV (aInt .u64) (aSl eI))),.arr false 4 [[.ptr (.O 0) 0 0,.sl (wb2.2.1.map Event.enc),.sl (wb2.2.2.map eI),.mp 1]],.arr false 1 [[.fn 16 [.ptr (.O 2) 0 0] []],[.fn 17 [.ptr (.O 2) 0 0] []],[.fn 18 [.ptr (.O 2) 0 0] []]]]))∧(eqB (!y3.1) false)∧K .nrm (mkS 31 [(2,.ptr (.L 2) 0 0),(17,.mf 3),(18,(vI 3)),(19,(vI 1))] [(2,[vF,(vI 0),(vI 0),(vI 0)])] [.arr true 4 [(Cand.enc c)],.mapo true (wb2.1.map (eKV (aInt .u64) (aSl eI))),.arr false 4 [[.ptr (.O 0) 0 0,.sl (wb2.2.1.map Event.enc),.sl (wb2.2.2.map eI),.mp 1]],.arr false 1 [[.fn 16 [.ptr (.O 2) 0 0] []],[.fn 17 [.ptr (.O 2) 0 0] []],[.fn 18 [.ptr (.O 2) 0 0] []]]] 0)):=by kernel_rfl
theorem axiom_Judge_U1_1_axiom_Judge_2 (c:Cand) (wb2:(List (Int×(List Int)))×(List Event)×(List Int)) (y5:(Bool×Int×Int×Int)) (K:Ex→St→Prop):oR pc sc lp cd (nA ord7 [(7,⟨[],[],[],[],[],[(24,(.agg [.v (.bool y5.1),(vI y5.2.1),(vI y5.2.2.1),(vI y5.2.2.2)],[.arr true 4 [(Cand.enc c)],.mapo true (wb2.1.map (eKV (aInt .u64) (aSl eI))),.arr false 4 [[.ptr (.O 0) 0 0,.sl (wb2.2.1.map Event.enc),.sl (wb2.2.2.map eI),.mp 1]],.arr false 1 [[.fn 16 [.ptr (.O 2) 0 0] []],[.fn 17 [.ptr (.O 2) 0 0] []],[.fn 18 [.ptr (.O 2) 0 0] []]]]))],[],[],[]⟩),rV 8 [(27,vT)]]) (polF 7) [wK 1 [2] [6] 0] Z252 (mkS 31 [(2,.ptr (.L 2) 0 0),(17,.mf 3),(18,(vI 3)),(19,(vI 1))] [(2,[vF,(vI 0),(vI 0),(vI 0)])] [.arr true 4 [(Cand.enc c)],.mapo true (wb2.1.map (eKV (aInt .u64) (aSl eI))),.arr false 4 [[.ptr (.O 0) 0 0,.sl (wb2.2.1.map Event.enc),.sl (wb2.2.2.map eI),.mp 1]],.arr false 1 [[.fn 16 [.ptr (.O 2) 0 0] []],[.fn 17 [.ptr (.O 2) 0 0] []],[.fn 18 [.ptr (.O 2) 0 0] []]]] 0) K
  = ((sc 17 [.ptr (.O 2) 0 0] [.arr true 4 [(Cand.enc c)],.mapo true (wb2.1.map (eKV (aInt .u64) (aSl eI))),.arr false 4 [[.ptr (.O 0) 0 0,.sl (wb2.2.1.map Event.enc),.sl (wb2.2.2.map eI),.mp 1]],.arr false 1 [[.fn 16 [.ptr (.O 2) 0 0] []],[.fn 17 [.ptr (.O 2) 0 0] []],[.fn 18 [.ptr (.O 2) 0 0] []]]] (fun r' o'=>r'=.agg [.v (.bool y5.1),(vI y5.2.1),(vI y5.2.2.1),(vI y5.2.2.2)]∧o'=[.arr true 4 [(Cand.enc c)],.mapo true (wb2.1.map (eKV (aInt .u64) (aSl eI))),.arr false 4 [[.ptr (.O 0) 0 0,.sl (wb2.2.1.map Event.enc),.sl (wb2.2.2.map eI),.mp 1]],.arr false 1 [[.fn 16 [.ptr (.O 2) 0 0] []],[.fn 17 [.ptr (.O 2) 0 0] []],[.fn 18 [.ptr (.O 2) 0 0] []]]]))∧(eqB (!y5.1) true)∧K .ret (mkS 31 [(2,.ptr (.L 2) 0 0)] [(2,[.v (.bool y5.1),(vI y5.2.1),(vI y5.2.2.1),(vI y5.2.2.2)])] [] 0)):=by kernel_rfl
theorem axiom_Judge_U1_0_axiom_Judge_3 (c:Cand) (wb2:(List (Int×(List Int)))×(List Event)×(List Int)) (y3:(Bool×Int×Int×Int)) (K:Ex→St→Prop):oR pc sc lp cd (nA ord7 [(7,⟨[],[],[],[],[],[(24,(.agg [.v (.bool y3.1),(vI y3.2.1),(vI y3.2.2.1),(vI y3.2.2.2)],[.arr true 4 [(Cand.enc c)],.mapo true (wb2.1.map (eKV (aInt .u64) (aSl eI))),.arr false 4 [[.ptr (.O 0) 0 0,.sl (wb2.2.1.map Event.enc),.sl (wb2.2.2.map eI),.mp 1]],.arr false 1 [[.fn 16 [.ptr (.O 2) 0 0] []],[.fn 17 [.ptr (.O 2) 0 0] []],[.fn 18 [.ptr (.O 2) 0 0] []]]]))],[],[],[]⟩),rV 8 [(27,vF)]]) (polF 7) [wK 0 [2,17,18,19] [6] 4] Z252 (mkS 31 [(2,.ptr (.L 2) 0 0),(17,.mf 3),(18,(vI 3)),(19,(vI 0))] [(2,[vF,(vI 0),(vI 0),(vI 0)])] [.arr true 4 [(Cand.enc c)],.mapo true (wb2.1.map (eKV (aInt .u64) (aSl eI))),.arr false 4 [[.ptr (.O 0) 0 0,.sl (wb2.2.1.map Event.enc),.sl (wb2.2.2.map eI),.mp 1]],.arr false 1 [[.fn 16 [.ptr (.O 2) 0 0] []],[.fn 17 [.ptr (.O 2) 0 0] []],[.fn 18 [.ptr (.O 2) 0 0] []]]] 0) K
  = ((sc 16 [.ptr (.O 2) 0 0] [.arr true 4 [(Cand.enc c)],.mapo true (wb2.1.map (eKV (aInt .u64) (aSl eI))),.arr false 4 [[.ptr (.O 0) 0 0,.sl (wb2.2.1.map Event.enc),.sl (wb2.2.2.map eI),.mp 1]],.arr false 1 [[.fn 16 [.ptr (.O 2) 0 0] []],[.fn 17 [.ptr (.O 2) 0 0] []],[.fn 18 [.ptr (.O 2) 0 0] []]]] (fun r' o'=>r'=.agg [.v (.bool y3.1),(vI y3.2.1),(vI y3.2.2.1),(vI y3.2.2.2)]∧o'=[.arr true 4 [(Cand.enc c)],.mapo true (wb2.1.map (eKV (aInt .u64) (aSl eI))),.arr false 4 [[.ptr (.O 0) 0 0,.sl (wb2.2.1.map Event.enc),.sl (wb2.2.2.map eI),.mp 1]],.arr false 1 [[.fn 16 [.ptr (.O 2) 0 0] []],[.fn 17 [.ptr (.O 2) 0 0] []],[.fn 18 [.ptr (.O 2) 0 0] []]]]))∧(eqB (!y3.1) false)∧K .nrm (mkS 31 [(2,.ptr (.L 2) 0 0),(17,.mf 3),(18,(vI 3)),(19,(vI 1))] [(2,[vF,(vI 0),(vI 0),(vI 0)])] [.arr true 4 [(Cand.enc c)],.mapo true (wb2.1.map (eKV (aInt .u64) (aSl eI))),.arr false 4 [[.ptr (.O 0) 0 0,.sl (wb2.2.1.map Event.enc),.sl (wb2.2.2.map eI),.mp 1]],.arr false 1 [[.fn 16 [.ptr (.O 2) 0 0] []],[.fn 17 [.ptr (.O 2) 0 0] []],[.fn 18 [.ptr (.O 2) 0 0] []]]] 0)):=by kernel_rfl
theorem axiom_Judge_U1_1_axiom_Judge_3 (c:Cand) (wb2:(List (Int×(List Int)))×(List Event)×(List Int)) (y5:(Bool×Int×Int×Int)) (K:Ex→St→Prop):oR pc sc lp cd (nA ord7 [(7,⟨[],[],[],[],[],[(24,(.agg [.v (.bool y5.1),(vI y5.2.1),(vI y5.2.2.1),(vI y5.2.2.2)],[.arr true 4 [(Cand.enc c)],.mapo true (wb2.1.map (eKV (aInt .u64) (aSl eI))),.arr false 4 [[.ptr (.O 0) 0 0,.sl (wb2.2.1.map Event.enc),.sl (wb2.2.2.map eI),.mp 1]],.arr false 1 [[.fn 16 [.ptr (.O 2) 0 0] []],[.fn 17 [.ptr (.O 2) 0 0] []],[.fn 18 [.ptr (.O 2) 0 0] []]]]))],[],[],[]⟩),rV 8 [(27,vF)]]) (polF 7) [wK 0 [2,17,18,19] [6] 4] Z252 (mkS 31 [(2,.ptr (.L 2) 0 0),(17,.mf 3),(18,(vI 3)),(19,(vI 1))] [(2,[vF,(vI 0),(vI 0),(vI 0)])] [.arr true 4 [(Cand.enc c)],.mapo true (wb2.1.map (eKV (aInt .u64) (aSl eI))),.arr false 4 [[.ptr (.O 0) 0 0,.sl (wb2.2.1.map Event.enc),.sl (wb2.2.2.map eI),.mp 1]],.arr false 1 [[.fn 16 [.ptr (.O 2) 0 0] []],[.fn 17 [.ptr (.O 2) 0 0] []],[.fn 18 [.ptr (.O 2) 0 0] []]]] 0) K
  = ((sc 17 [.ptr (.O 2) 0 0] [.arr true 4 [(Cand.enc c)],.mapo true (wb2.1.map (eKV (aInt .u64) (aSl eI))),.arr false 4 [[.ptr (.O 0) 0 0,.sl (wb2.2.1.map Event.enc),.sl (wb2.2.2.map eI),.mp 1]],.arr false 1 [[.fn 16 [.ptr (.O 2) 0 0] []],[.fn 17 [.ptr (.O 2) 0 0] []],[.fn 18 [.ptr (.O 2) 0 0] []]]] (fun r' o'=>r'=.agg [.v (.bool y5.1),(vI y5.2.1),(vI y5.2.2.1),(vI y5.2.2.2)]∧o'=[.arr true 4 [(Cand.enc c)],.mapo true (wb2.1.map (eKV (aInt .u64) (aSl eI))),.arr false 4 [[.ptr (.O 0) 0 0,.sl (wb2.2.1.map Event.enc),.sl (wb2.2.2.map eI),.mp 1]],.arr false 1 [[.fn 16 [.ptr (.O 2) 0 0] []],[.fn 17 [.ptr (.O 2) 0 0] []],[.fn 18 [.ptr (.O 2) 0 0] []]]]))∧(eqB (!y5.1) false)∧K .nrm (mkS 31 [(2,.ptr (.L 2) 0 0),(17,.mf 3),(18,(vI 3)),(19,(vI 2))] [(2,[vF,(vI 0),(vI 0),(vI 0)])] [.arr true 4 [(Cand.enc c)],.mapo true (wb2.1.map (eKV (aInt .u64) (aSl eI))),.arr false 4 [[.ptr (.O 0) 0 0,.sl (wb2.2.1.map Event.enc),.sl (wb2.2.2.map eI),.mp 1]],.arr false 1 [[.fn 16 [.ptr (.O 2) 0 0] []],[.fn 17 [.ptr (.O 2) 0 0] []],[.fn 18 [.ptr (.O 2) 0 0] []]]] 0)):=by kernel_rfl
theorem axiom_Judge_U1_2_axiom_Judge_3 (c:Cand) (wb2:(List (Int×(List Int)))×(List Event)×(List Int)) (y7:(Bool×Int×Int×Int)) (K:Ex→St→Prop):oR pc sc lp cd (nA ord7 [(7,⟨[],[],[],[],[],[(24,(.agg [.v (.bool y7.1),(vI y7.2.1),(vI y7.2.2.1),(vI y7.2.2.2)],[.arr true 4 [(Cand.enc c)],.mapo true (wb2.1.map (eKV (aInt .u64) (aSl eI))),.arr false 4 [[.ptr (.O 0) 0 0,.sl (wb2.2.1.map Event.enc),.sl (wb2.2.2.map eI),.mp 1]],.arr false 1 [[.fn 16 [.ptr (.O 2) 0 0] []],[.fn 17 [.ptr (.O 2) 0 0] []],[.fn 18 [.ptr (.O 2) 0 0] []]]]))],[],[],[]⟩),rV 8 [(27,vT)]]) (polF 7) [wK 1 [2] [6] 0] Z252 (mkS 31 [(2,.ptr (.L 2) 0 0),(17,.mf 3),(18,(vI 3)),(19,(vI 2))] [(2,[vF,(vI 0),(vI 0),(vI 0)])] [.arr true 4 [(Cand.enc c)],.mapo true (wb2.1.map (eKV (aInt .u64) (aSl eI))),.arr false 4 [[.ptr (.O 0) 0 0,.sl (wb2.2.1.map Event.enc),.sl (wb2.2.2.map eI),.mp 1]],.arr false 1 [[.fn 16 [.ptr (.O 2) 0 0] []],[.fn 17 [.ptr (.O 2) 0 0] []],[.fn 18 [.ptr (.O 2) 0 0] []]]] 0) K
  = ((sc 18 [.ptr (.O 2) 0 0] [.arr true 4 [(Cand.enc c)],.mapo true (wb2.1.map (eKV (aInt .u64) (aSl eI))),.arr false 4 [[.ptr (.O 0) 0 0,.sl (wb2.2.1.map Event.enc),.sl (wb2.2.2.map eI),.mp 1]],.arr false 1 [[.fn 16 [.ptr (.O 2) 0 0] []],[.fn 17 [.ptr (.O 2) 0 0] []],[.fn 18 [.ptr (.O 2) 0 0] []]]] (fun r' o'=>r'=.agg [.v (.bool y7.1),(vI y7.2.1),(vI y7.2.2.1),(vI y7.2.2.2)]∧o'=[.arr true 4 [(Cand.enc c)],.mapo true (wb2.1.map (eKV (aInt .u64) (aSl eI))),.arr false 4 [[.ptr (.O 0) 0 0,.sl (wb2.2.1.map Event.enc),.sl (wb2.2.2.map eI),.mp 1]],.arr false 1 [[.fn 16 [.ptr (.O 2) 0 0] []],[.fn 17 [.ptr (.O 2) 0 0] []],[.fn 18 [.ptr (.O 2) 0 0] []]]]))∧(eqB (!y7.1) true)∧K .ret (mkS 31 [(2,.ptr (.L 2) 0 0)] [(2,[.v (.bool y7.1),(vI y7.2.1),(vI y7.2.2.1),(vI y7.2.2.2)])] [] 0)):=by kernel_rfl
theorem axiom_Judge_U1_0_axiom_Judge_4 (c:Cand) (wb2:(List (Int×(List Int)))×(List Event)×(List Int)) (y3:(Bool×Int×Int×Int)) (K:Ex→St→Prop):oR pc sc lp cd (nA ord7 [(7,⟨[],[],[],[],[],[(24,(.agg [.v (.bool y3.1),(vI y3.2.1),(vI y3.2.2.1),(vI y3.2.2.2)],[.arr true 4 [(Cand.enc c)],.mapo true (wb2.1.map (eKV (aInt .u64) (aSl eI))),.arr false 4 [[.ptr (.O 0) 0 0,.sl (wb2.2.1.map Event.enc),.sl (wb2.2.2.map eI),.mp 1]],.arr false 1 [[.fn 16 [.ptr (.O 2) 0 0] []],[.fn 17 [.ptr (.O 2) 0 0] []],[.fn 18 [.ptr (.O 2) 0 0] []]]]))],[],[],[]⟩),rV 8 [(27,vF)]]) (polF 7) [wK 0 [2,17,18,19] [6] 4] Z252 (mkS 31 [(2,.ptr (.L 2) 0 0),(17,.mf 3),(18,(vI 3)),(19,(vI 0))] [(2,[vF,(vI 0),(vI 0),(vI 0)])] [.arr true 4 [(Cand.enc c)],.mapo true (wb2.1.map (eKV (aInt .u64) (aSl eI))),.arr false 4 [[.ptr (.O 0) 0 0,.sl (wb2.2.1.map Event.enc),.sl (wb2.2.2.map eI),.mp 1]],.arr false 1 [[.fn 16 [.ptr (.O 2) 0 0] []],[.fn 17 [.ptr (.O 2) 0 0] []],[.fn 18 [.ptr (.O 2) 0 0] []]]] 0) K
  = ((sc 16 [.ptr (.O 2) 0 0] [.arr true 4 [(Cand.enc c)],.mapo true (wb2.1.map (eKV (aInt .u64) (aSl eI))),.arr false 4 [[.ptr (.O 0) 0 0,.sl (wb2.2.1.map Event.enc),.sl (wb2.2.2.map eI),.mp 1]],.arr false 1 [[.fn 16 [.ptr (.O 2) 0 0] []],[.fn 17 [.ptr (.O 2) 0 0] []],[.fn 18 [.ptr (.O 2) 0 0] []]]] (fun r' o'=>r'=.agg [.v (.bool y3.1),(vI y3.2.1),(vI y3.2.2.1),(vI y3.2.2.2)]∧o'=[.arr true 4 [(Cand.enc c)],.mapo true (wb2.1.map (eKV (aInt .u64) (aSl eI))),.arr false 4 [[.ptr (.O 0) 0 0,.sl (wb2.2.1.map Event.enc),.sl (wb2.2.2.map eI),.mp 1]],.arr false 1 [[.fn 16 [.ptr (.O 2) 0 0] []],[.fn 17 [.ptr (.O 2) 0 0] []],[.fn 18 [.ptr (.O 2) 0 0] []]]]))∧(eqB (!y3.1) false)∧K .nrm (mkS 31 [(2,.ptr (.L 2) 0 0),(17,.mf 3),(18,(vI 3)),(19,(vI 1))] [(2,[vF,(vI 0),(vI 0),(vI 0)])] [.arr true 4 [(Cand.enc c)],.mapo true (wb2.1.map (eKV (aInt .u64) (aSl eI))),.arr false 4 [[.ptr (.O 0) 0 0,.sl (wb2.2.1.map Event.enc),.sl (wb2.2.2.map eI),.mp 1]],.arr false 1 [[.fn 16 [.ptr (.O 2) 0 0] []],[.fn 17 [.ptr (.O 2) 0 0] []],[.fn 18 [.ptr (.O 2) 0 0] []]]] 0)):=by kernel_rfl
theorem axiom_Judge_U1_1_axiom_Judge_4 (c:Cand) (wb2:(List (Int×(List Int)))×(List Event)×(List Int)) (y5:(Bool×Int×Int×Int)) (K:Ex→St→Prop):oR pc sc lp cd (nA ord7 [(7,⟨[],[],[],[],[],[(24,(.agg [.v (.bool y5.1),(vI y5.2.1),(vI y5.2.2.1),(vI y5.2.2.2)],[.arr true 4 [(Cand.enc c)],.mapo true (wb2.1.map (eKV (aInt .u64) (aSl eI))),.arr false 4 [[.ptr (.O 0) 0 0,.sl (wb2.2.1.map Event.enc),.sl (wb2.2.2.map eI),.mp 1]],.arr false 1 [[.fn 16 [.ptr (.O 2) 0 0] []],[.fn 17 [.ptr (.O 2) 0 0] []],[.fn 18 [.ptr (.O 2) 0 0] []]]]))],[],[],[]⟩),rV 8 [(27,vF)]]) (polF 7) [wK 0 [2,17,18,19] [6] 4] Z252 (mkS 31 [(2,.ptr (.L 2) 0 0),(17,.mf 3),(18,(vI 3)),(19,(vI 1))] [(2,[vF,(vI 0),(vI 0),(vI 0)])] [.arr true 4 [(Cand.enc c)],.mapo true (wb2.1.map (eKV (aInt .u64) (aSl eI))),.arr false 4 [[.ptr (.O 0) 0 0,.sl (wb2.2.1.map Event.enc),.sl (wb2.2.2.map eI),.mp 1]],.arr false 1 [[.fn 16 [.ptr (.O 2) 0 0] []],[.fn 17 [.ptr (.O 2) 0 0] []],[.fn 18 [.ptr (.O 2) 0 0] []]]] 0) K
  = ((sc 17 [.ptr (.O 2) 0 0] [.arr true 4 [(Cand.enc c)],.mapo true (wb2.1.map (eKV (aInt .u64) (aSl eI))),.arr false 4 [[.ptr (.O 0) 0 0,.sl (wb2.2.1.map Event.enc),.sl (wb2.2.2.map eI),.mp 1]],.arr false 1 [[.fn 16 [.ptr (.O 2) 0 0] []],[.fn 17 [.ptr (.O 2) 0 0] []],[.fn 18 [.ptr (.O 2) 0 0] []]]] (fun r' o'=>r'=.agg [.v (.bool y5.1),(vI y5.2.1),(vI y5.2.2.1),(vI y5.2.2.2)]∧o'=[.arr true 4 [(Cand.enc c)],.mapo true (wb2.1.map (eKV (aInt .u64) (aSl eI))),.arr false 4 [[.ptr (.O 0) 0 0,.sl (wb2.2.1.map Event.enc),.sl (wb2.2.2.map eI),.mp 1]],.arr false 1 [[.fn 16 [.ptr (.O 2) 0 0] []],[.fn 17 [.ptr (.O 2) 0 0] []],[.fn 18 [.ptr (.O 2) 0 0] []]]]))∧(eqB (!y5.1) false)∧K .nrm (mkS 31 [(2,.ptr (.L 2) 0 0),(17,.mf 3),(18,(vI 3)),(19,(vI 2))] [(2,[vF,(vI 0),(vI 0),(vI 0)])] [.arr true 4 [(Cand.enc c)],.mapo true (wb2.1.map (eKV (aInt .u64) (aSl eI))),.arr false 4 [[.ptr (.O 0) 0 0,.sl (wb2.2.1.map Event.enc),.sl (wb2.2.2.map eI),.mp 1]],.arr false 1 [[.fn 16 [.ptr (.O 2) 0 0] []],[.fn 17 [.ptr (.O 2) 0 0] []],[.fn 18 [.ptr (.O 2) 0 0] []]]] 0)):=by kernel_rfl
theorem axiom_Judge_U1_2_axiom_Judge_4 (c:Cand) (wb2:(List (Int×(List Int)))×(List Event)×(List Int)) (y7:(Bool×Int×Int×Int)) (K:Ex→St→Prop):oR pc sc lp cd (nA ord7 [(7,⟨[],[],[],[],[],[(24,(.agg [.v (.bool y7.1),(vI y7.2.1),(vI y7.2.2.1),(vI y7.2.2.2)],[.arr true 4 [(Cand.enc c)],.mapo true (wb2.1.map (eKV (aInt .u64) (aSl eI))),.arr false 4 [[.ptr (.O 0) 0 0,.sl (wb2.2.1.map Event.enc),.sl (wb2.2.2.map eI),.mp 1]],.arr false 1 [[.fn 16 [.ptr (.O 2) 0 0] []],[.fn 17 [.ptr (.O 2) 0 0] []],[.fn 18 [.ptr (.O 2) 0 0] []]]]))],[],[],[]⟩),rV 8 [(27,vF)]]) (polF 7) [wK 0 [2,17,18,19] [6] 4] Z252 (mkS 31 [(2,.ptr (.L 2) 0 0),(17,.mf 3),(18,(vI 3)),(19,(vI 2))] [(2,[vF,(vI 0),(vI 0),(vI 0)])] [.arr true 4 [(Cand.enc c)],.mapo true (wb2.1.map (eKV (aInt .u64) (aSl eI))),.arr false 4 [[.ptr (.O 0) 0 0,.sl (wb2.2.1.map Event.enc),.sl (wb2.2.2.map eI),.mp 1]],.arr false 1 [[.fn 16 [.ptr (.O 2) 0 0] []],[.fn 17 [.ptr (.O 2) 0 0] []],[.fn 18 [.ptr (.O 2) 0 0] []]]] 0) K
  = ((sc 18 [.ptr (.O 2) 0 0] [.arr true 4 [(Cand.enc c)],.mapo true (wb2.1.map (eKV (aInt .u64) (aSl eI))),.arr false 4 [[.ptr (.O 0) 0 0,.sl (wb2.2.1.map Event.enc),.sl (wb2.2.2.map eI),.mp 1]],.arr false 1 [[.fn 16 [.ptr (.O 2) 0 0] []],[.fn 17 [.ptr (.O 2) 0 0] []],[.fn 18 [.ptr (.O 2) 0 0] []]]] (fun r' o'=>r'=.agg [.v (.bool y7.1),(vI y7.2.1),(vI y7.2.2.1),(vI y7.2.2.2)]∧o'=[.arr true 4 [(Cand.enc c)],.mapo true (wb2.1.map (eKV (aInt .u64) (aSl eI))),.arr false 4 [[.ptr (.O 0) 0 0,.sl (wb2.2.1.map Event.enc),.sl (wb2.2.2.map eI),.mp 1]],.arr false 1 [[.fn 16 [.ptr (.O 2) 0 0] []],[.fn 17 [.ptr (.O 2) 0 0] []],[.fn 18 [.ptr (.O 2) 0 0] []]]]))∧(eqB (!y7.1) false)∧K .nrm (mkS 31 [(2,.ptr (.L 2) 0 0),(17,.mf 3),(18,(vI 3)),(19,(vI 3))] [(2,[vF,(vI 0),(vI 0),(vI 0)])] [.arr true 4 [(Cand.enc c)],.mapo true (wb2.1.map (eKV (aInt .u64) (aSl eI))),.arr false 4 [[.ptr (.O 0) 0 0,.sl (wb2.2.1.map Event.enc),.sl (wb2.2.2.map eI),.mp 1]],.arr false 1 [[.fn 16 [.ptr (.O 2) 0 0] []],[.fn 17 [.ptr (.O 2) 0 0] []],[.fn 18 [.ptr (.O 2) 0 0] []]]] 0)):=by kernel_rfl
theorem axiom_Judge_U1_3_axiom_Judge_4 (c:Cand) (wb2:(List (Int×(List Int)))×(List Event)×(List Int)) (K:Ex→St→Prop):oR pc sc lp cd (nA ord7 []) (polF 7) [wK 2 [2] [] 0] Z252 (mkS 31 [(2,.ptr (.L 2) 0 0),(17,.mf 3),(18,(vI 3)),(19,(vI 3))] [(2,[vF,(vI 0),(vI 0),(vI 0)])] [.arr true 4 [(Cand.enc c)],.mapo true (wb2.1.map (eKV (aInt .u64) (aSl eI))),.arr false 4 [[.ptr (.O 0) 0 0,.sl (wb2.2.1.map Event.enc),.sl (wb2.2.2.map eI),.mp 1]],.arr false 1 [[.fn 16 [.ptr (.O 2) 0 0] []],[.fn 17 [.ptr (.O 2) 0 0] []],[.fn 18 [.ptr (.O 2) 0 0] []]]] 0) K
  = (K (.ex 0) (mkS 31 [(2,.ptr (.L 2) 0 0)] [(2,[vF,(vI 0),(vI 0),(vI 0)])] [] 0)):=by kernel_rfl
theorem axiom_Judge_sim (n:Nat) (c:Cand) (r:Judged) (h:axiom_Judge n c=some r):PCall Tryd.prog 7 [(aAgg Cand.enc c)] (eqA ((aAgg Judged.enc r))):=by
 unfold axiom_Judge at h
 obtain ⟨y1,gy1,h⟩:=bindE h
 rcases y1 with wa2 | wb2
 ·
  obtain ⟨y3,gy3,h⟩:=bindE h
  obtain rfl:=soI h
  exact kP (nA ord7 [(1,⟨[],[],[],[],[],[(7,(.nilp,[.arr true 4 [(Cand.enc c)]]))],[],[],[]⟩),rVC 3 [] [(10,(aAgg Judged.enc y3))]]) ordB7 (fun z=>(aI (axiom_of_S_sim n c.First c.Harts c.From c.Order (.inl wa2) gy1) (aI (axiom_bad_sim n 1 (-1) (-1) y3 gy3) z))) (by kernel_rfl)
 ·
  obtain ⟨y3,gy3,h⟩:=bindE h
  have c142_:=fun (R:Prop) (z:R)=>(aI (axiom_of_S_sim n c.First c.Harts c.From c.Order (.inr wb2) gy1) z)
  rcases iteE h with ⟨h4,h⟩ | ⟨h4,h⟩
  ·
   obtain rfl:=soI h
   exact kP ⟨ord7,[(1,⟨[],[],[],[],[],[(7,(.ptr (.O 2) 0 0,[.arr true 4 [(Cand.enc c)],.mapo true (wb2.1.map (eKV (aInt .u64) (aSl eI))),.arr false 4 [[.ptr (.O 0) 0 0,.sl (wb2.2.1.map Event.enc),.sl (wb2.2.2.map eI),.mp 1]]]))],[],[],[]⟩)],[],[(5,(⟨[2,17,18,19],[],4,[],[],[]⟩,l0,.ret,mkS 31 [(2,.ptr (.L 2) 0 0)] [(2,[.v (.bool y3.1),(vI y3.2.1),(vI y3.2.2.1),(vI y3.2.2.2)])] [] 0))],[]⟩ ordB7 (fun z=>(c142_ _ (aI ((LoopD.round (cfg:=cfg) (okR Z253 (Eq.mpr (axiom_Judge_U1_0_axiom_Judge_1 pP sP lP dP c wb2 y3 _) ⟨axiom_court_order_S_sim n c.First c.Harts c.From c.Order wb2.1 wb2.2.1 wb2.2.2 y3 gy3,cB h4,⟨rfl,rfl⟩⟩) ⟨rfl,rfl⟩)):lP (polF 7) Z252 (mkS 31 [(2,.ptr (.L 2) 0 0),(17,.mf 3),(18,(vI 3)),(19,(vI 0))] [(2,[vF,(vI 0),(vI 0),(vI 0)])] [.arr true 4 [(Cand.enc c)],.mapo true (wb2.1.map (eKV (aInt .u64) (aSl eI))),.arr false 4 [[.ptr (.O 0) 0 0,.sl (wb2.2.1.map Event.enc),.sl (wb2.2.2.map eI),.mp 1]],.arr false 1 [[.fn 16 [.ptr (.O 2) 0 0] []],[.fn 17 [.ptr (.O 2) 0 0] []],[.fn 18 [.ptr (.O 2) 0 0] []]]] 0) (fun e' S'=>e'=.ret∧S'=mkS 31 [(2,.ptr (.L 2) 0 0)] [(2,[.v (.bool y3.1),(vI y3.2.1),(vI y3.2.2.1),(vI y3.2.2.2)])] [] 0)) z))) (by kernel_rfl)
  obtain ⟨y5,gy5,h⟩:=bindE h
  rcases iteE h with ⟨h6,h⟩ | ⟨h6,h⟩
  ·
   obtain rfl:=soI h
   exact kP ⟨ord7,[(1,⟨[],[],[],[],[],[(7,(.ptr (.O 2) 0 0,[.arr true 4 [(Cand.enc c)],.mapo true (wb2.1.map (eKV (aInt .u64) (aSl eI))),.arr false 4 [[.ptr (.O 0) 0 0,.sl (wb2.2.1.map Event.enc),.sl (wb2.2.2.map eI),.mp 1]]]))],[],[],[]⟩)],[],[(5,(⟨[2,17,18,19],[],4,[],[],[]⟩,l0,.ret,mkS 31 [(2,.ptr (.L 2) 0 0)] [(2,[.v (.bool y5.1),(vI y5.2.1),(vI y5.2.2.1),(vI y5.2.2.2)])] [] 0))],[]⟩ ordB7 (fun z=>(c142_ _ (aI ((LoopD.round (cfg:=cfg) (okR Z253 (Eq.mpr (axiom_Judge_U1_0_axiom_Judge_2 pP sP lP dP c wb2 y3 _) ⟨axiom_court_order_S_sim n c.First c.Harts c.From c.Order wb2.1 wb2.2.1 wb2.2.2 y3 gy3,cB h4,⟨rfl,rfl⟩⟩) (LoopD.round (cfg:=cfg) (okR Z253 (Eq.mpr (axiom_Judge_U1_1_axiom_Judge_2 pP sP lP dP c wb2 y5 _) ⟨axiom_court_value_S_sim n c.First c.Harts c.From c.Order wb2.1 wb2.2.1 wb2.2.2 y5 gy5,cB h6,⟨rfl,rfl⟩⟩) ⟨rfl,rfl⟩)))):lP (polF 7) Z252 (mkS 31 [(2,.ptr (.L 2) 0 0),(17,.mf 3),(18,(vI 3)),(19,(vI 0))] [(2,[vF,(vI 0),(vI 0),(vI 0)])] [.arr true 4 [(Cand.enc c)],.mapo true (wb2.1.map (eKV (aInt .u64) (aSl eI))),.arr false 4 [[.ptr (.O 0) 0 0,.sl (wb2.2.1.map Event.enc),.sl (wb2.2.2.map eI),.mp 1]],.arr false 1 [[.fn 16 [.ptr (.O 2) 0 0] []],[.fn 17 [.ptr (.O 2) 0 0] []],[.fn 18 [.ptr (.O 2) 0 0] []]]] 0) (fun e' S'=>e'=.ret∧S'=mkS 31 [(2,.ptr (.L 2) 0 0)] [(2,[.v (.bool y5.1),(vI y5.2.1),(vI y5.2.2.1),(vI y5.2.2.2)])] [] 0)) z))) (by kernel_rfl)
  obtain ⟨y7,gy7,h⟩:=bindE h
  rcases iteE h with ⟨h8,h⟩ | ⟨h8,h⟩
  ·
   obtain rfl:=soI h
   exact kP ⟨ord7,[(1,⟨[],[],[],[],[],[(7,(.ptr (.O 2) 0 0,[.arr true 4 [(Cand.enc c)],.mapo true (wb2.1.map (eKV (aInt .u64) (aSl eI))),.arr false 4 [[.ptr (.O 0) 0 0,.sl (wb2.2.1.map Event.enc),.sl (wb2.2.2.map eI),.mp 1]]]))],[],[],[]⟩)],[],[(5,(⟨[2,17,18,19],[],4,[],[],[]⟩,l0,.ret,mkS 31 [(2,.ptr (.L 2) 0 0)] [(2,[.v (.bool y7.1),(vI y7.2.1),(vI y7.2.2.1),(vI y7.2.2.2)])] [] 0))],[]⟩ ordB7 (fun z=>(c142_ _ (aI ((LoopD.round (cfg:=cfg) (okR Z253 (Eq.mpr (axiom_Judge_U1_0_axiom_Judge_3 pP sP lP dP c wb2 y3 _) ⟨axiom_court_order_S_sim n c.First c.Harts c.From c.Order wb2.1 wb2.2.1 wb2.2.2 y3 gy3,cB h4,⟨rfl,rfl⟩⟩) (LoopD.round (cfg:=cfg) (okR Z253 (Eq.mpr (axiom_Judge_U1_1_axiom_Judge_3 pP sP lP dP c wb2 y5 _) ⟨axiom_court_value_S_sim n c.First c.Harts c.From c.Order wb2.1 wb2.2.1 wb2.2.2 y5 gy5,cB h6,⟨rfl,rfl⟩⟩) (LoopD.round (cfg:=cfg) (okR Z253 (Eq.mpr (axiom_Judge_U1_2_axiom_Judge_3 pP sP lP dP c wb2 y7 _) ⟨axiom_court_pair_S_sim n c.First c.Harts c.From c.Order wb2.1 wb2.2.1 wb2.2.2 y7 gy7,cB h8,⟨rfl,rfl⟩⟩) ⟨rfl,rfl⟩)))))):lP (polF 7) Z252 (mkS 31 [(2,.ptr (.L 2) 0 0),(17,.mf 3),(18,(vI 3)),(19,(vI 0))] [(2,[vF,(vI 0),(vI 0),(vI 0)])] [.arr true 4 [(Cand.enc c)],.mapo true (wb2.1.map (eKV (aInt .u64) (aSl eI))),.arr false 4 [[.ptr (.O 0) 0 0,.sl (wb2.2.1.map Event.enc),.sl (wb2.2.2.map eI),.mp 1]],.arr false 1 [[.fn 16 [.ptr (.O 2) 0 0] []],[.fn 17 [.ptr (.O 2) 0 0] []],[.fn 18 [.ptr (.O 2) 0 0] []]]] 0) (fun e' S'=>e'=.ret∧S'=mkS 31 [(2,.ptr (.L 2) 0 0)] [(2,[.v (.bool y7.1),(vI y7.2.1),(vI y7.2.2.1),(vI y7.2.2.2)])] [] 0)) z))) (by kernel_rfl)
  obtain ⟨y9,gy9,h⟩:=bindE h
  obtain rfl:=soI h
  exact kP ⟨ord7,[(1,⟨[],[],[],[],[],[(7,(.ptr (.O 2) 0 0,[.arr true 4 [(Cand.enc c)],.mapo true (wb2.1.map (eKV (aInt .u64) (aSl eI))),.arr false 4 [[.ptr (.O 0) 0 0,.sl (wb2.2.1.map Event.enc),.sl (wb2.2.2.map eI),.mp 1]]]))],[],[],[]⟩),rVC 11 [] [(30,(aAgg Judged.enc y9))]],[],[(5,(⟨[2,17,18,19],[],4,[],[],[]⟩,l0,(.ex 0),mkS 31 [(2,.ptr (.L 2) 0 0)] [(2,[vF,(vI 0),(vI 0),(vI 0)])] [] 0))],[]⟩ ordB7 (fun z=>(c142_ _ (aI ((LoopD.round (cfg:=cfg) (okR Z253 (Eq.mpr (axiom_Judge_U1_0_axiom_Judge_4 pP sP lP dP c wb2 y3 _) ⟨axiom_court_order_S_sim n c.First c.Harts c.From c.Order wb2.1 wb2.2.1 wb2.2.2 y3 gy3,cB h4,⟨rfl,rfl⟩⟩) (LoopD.round (cfg:=cfg) (okR Z253 (Eq.mpr (axiom_Judge_U1_1_axiom_Judge_4 pP sP lP dP c wb2 y5 _) ⟨axiom_court_value_S_sim n c.First c.Harts c.From c.Order wb2.1 wb2.2.1 wb2.2.2 y5 gy5,cB h6,⟨rfl,rfl⟩⟩) (LoopD.round (cfg:=cfg) (okR Z253 (Eq.mpr (axiom_Judge_U1_2_axiom_Judge_4 pP sP lP dP c wb2 y7 _) ⟨axiom_court_pair_S_sim n c.First c.Harts c.From c.Order wb2.1 wb2.2.1 wb2.2.2 y7 gy7,cB h8,⟨rfl,rfl⟩⟩) (LoopD.round (cfg:=cfg) (okR Z253 (Eq.mpr (axiom_Judge_U1_3_axiom_Judge_4 pP sP lP dP c wb2 _) ⟨rfl,rfl⟩) ⟨rfl,rfl⟩)))))))):lP (polF 7) Z252 (mkS 31 [(2,.ptr (.L 2) 0 0),(17,.mf 3),(18,(vI 3)),(19,(vI 0))] [(2,[vF,(vI 0),(vI 0),(vI 0)])] [.arr true 4 [(Cand.enc c)],.mapo true (wb2.1.map (eKV (aInt .u64) (aSl eI))),.arr false 4 [[.ptr (.O 0) 0 0,.sl (wb2.2.1.map Event.enc),.sl (wb2.2.2.map eI),.mp 1]],.arr false 1 [[.fn 16 [.ptr (.O 2) 0 0] []],[.fn 17 [.ptr (.O 2) 0 0] []],[.fn 18 [.ptr (.O 2) 0 0] []]]] 0) (fun e' S'=>e'=(.ex 0)∧S'=mkS 31 [(2,.ptr (.L 2) 0 0)] [(2,[vF,(vI 0),(vI 0),(vI 0)])] [] 0)) (aI (axiom_good_sim n y9 gy9) z)))) (by kernel_rfl)

def stL:List Nat:=[2,3,4,5,6,7,8,9,10,14,15,16,17,18,19,21,22,23,24,28,29,30,31,32,33,34,35,36,37,38,39,40,41,42,43,47,48,49,50,51,52,53,54,55,56,57,59,60,61,64,68,79,80,81,82,83,84,86,87,88,89,90,91,92,93,94,95,117]
noncomputable def cfgL:A.Cfg:={ P:=Tryd.prog,pure:=fun f=>!(hasN stL f),pol:=fun f=>{ esc:=match f with | 7=>[1] | 9=>[2] | 14=>[23] | 24=>[1] | 25=>[1] | 28=>[1] | 39=>[24] | 41=>[7] | 53=>[12] | 63=>[8] | _=>[],ms:=match f with | 3=>[8,15,17,18,19,20,24] | 4=>[7,10,15,16,17,43,44,45] | 7=>[17] | 28=>[54] | 30=>[13] | 39=>[32] | 89=>[6,11] | _=>[],bx:=match f with | 3=>[1,2,3,4,5,6] | 4=>[2] | 5=>[1,2,3] | 7=>[2,6] | 8=>[1] | 10=>[1,3] | 14=>[6] | 15=>[6] | 16=>[2,4] | 17=>[2,4] | 18=>[2,4] | 19=>[0] | 20=>[1] | 21=>[5,8] | 23=>[1,2] | 25=>[5] | 26=>[1] | 27=>[1] | 28=>[6] | 31=>[1,2] | 32=>[4] | 33=>[7] | 35=>[7,9] | 36=>[8] | 37=>[1,2] | 39=>[7] | 42=>[1,4,5] | 45=>[1] | 49=>[0] | 54=>[2,3,5,6] | 58=>[2] | 65=>[2] | 85=>[1,2] | 89=>[1] | _=>[],st:=stL } }
set_option maxRecDepth 1000000 in
set_option maxHeartbeats 0 in
theorem line_run0:A.Gives cfgL 2000 10 [.agg [vF,(vI 2),(vI 0),(vI 2)]] (.v (.string ⟨#[111,114,100,101,114,32,48,32,50]⟩))=(AV.v (.string ⟨#[111,114,100,101,114,32,48,32,50]⟩)=AV.v (.string ⟨#[111,114,100,101,114,32,48,32,50]⟩)):=by kernel_rfl
set_option maxRecDepth 1000000 in
set_option maxHeartbeats 0 in
theorem line_run1:A.Gives cfgL 2000 10 [.agg [vT,(vI 0),(vI 0),(vI 0)]] (.v (.string ⟨#[111,107]⟩))=(AV.v (.string ⟨#[111,107]⟩)=AV.v (.string ⟨#[111,107]⟩)):=by kernel_rfl
set_option maxRecDepth 1000000 in
set_option maxHeartbeats 0 in
theorem line_run2:A.Gives cfgL 2000 10 [.agg [vF,(vI 9),(vI (-3)),(vI 12)]] (.v (.string ⟨#[111,116,104,101,114,32,45,51,32,49,50]⟩))=(AV.v (.string ⟨#[111,116,104,101,114,32,45,51,32,49,50]⟩)=AV.v (.string ⟨#[111,116,104,101,114,32,45,51,32,49,50]⟩)):=by kernel_rfl
theorem cfgL_mix:cfgL.P.follows .mixedOrders=true:=by kernel_rfl
set_option maxRecDepth 1000000 in
theorem axiom_Line_sim (n:Nat) (j:Judged) (r:ByteArray) (h:axiom_Line n j=some r):PCall Tryd.prog 10 [.agg (Judged.enc j)] (eqA (.v (.string r))):=by
  unfold axiom_Line at h
  split at h
  · rename_i hb
    have e:=Judged.beq_eq hb
    subst e
    have e:=Option.some.inj h
    subst e
    exact PCall.ofN (.none rfl rfl) (cfg:=cfgL) (n:=2000) (noNum_of names0) cfgL_mix (Eq.mpr line_run0 rfl)
  split at h
  · rename_i hb
    have e:=Judged.beq_eq hb
    subst e
    have e:=Option.some.inj h
    subst e
    exact PCall.ofN (.none rfl rfl) (cfg:=cfgL) (n:=2000) (noNum_of names0) cfgL_mix (Eq.mpr line_run1 rfl)
  split at h
  · rename_i hb
    have e:=Judged.beq_eq hb
    subst e
    have e:=Option.some.inj h
    subst e
    exact PCall.ofN (.none rfl rfl) (cfg:=cfgL) (n:=2000) (noNum_of names0) cfgL_mix (Eq.mpr line_run2 rfl)
  cases h

def ord6:List (Nat×PT):=[]
theorem ordB6:ordB (polF 6) ord6 (bodyOf Tryd.prog 6)=true:=by kernel_rfl
theorem law_lives_sim (n:Nat) (r:Bool) (h:law_lives n=some r):PCall Tryd.prog 6 [] (eqA (.v (.bool r))):=by
 unfold law_lives at h
 obtain ⟨y1,gy1,h⟩:=bindE h
 obtain ⟨y2,gy2,h⟩:=bindE h
 have c143_:=fun (R:Prop) (z:R)=>(aI (law_message_sim n false y1 gy1) (aI (axiom_Judge_sim n y1 y2 gy2) z))
 rcases iteN h with ⟨h3,h⟩ | ⟨h3,h⟩
 ·
  obtain rfl:=soI h
  exact kP (nA ord6 [(1,⟨[],[4],[],[(4,vF)],[(1,(aAgg Cand.enc y1)),(2,(aAgg Judged.enc y2))],[],[],[],[]⟩)]) ordB6 (fun z=>(c143_ _ (aI ((aggEq_Judged_eql y2 (Judged.mk true 0 (-1) (-1))).trans (congrArg (fun b=>some (Value.bool b)) h3):aggEq Tryd.prog .eql 37 [(.bool y2.OK),(.int .i64 y2.Why),(.int .i64 y2.A_),(.int .i64 y2.B)] [(.bool true),(.int .i64 0),(.int .i64 (-1)),(.int .i64 (-1))]=some (.bool false)) (aI (rfl:AV.v (.bool false)=AV.v (.bool false)) z)))) (by kernel_rfl)
 obtain ⟨y4,gy4,h⟩:=bindE h
 obtain ⟨y5,gy5,h⟩:=bindE h
 obtain ⟨y6,gy6,h⟩:=bindE h
 obtain rfl:=soI h
 exact kP (nA ord6 [(1,⟨[],[4],[],[(4,vT)],[(1,(aAgg Cand.enc y1)),(2,(aAgg Judged.enc y2)),(6,(aAgg Cand.enc y4)),(7,(aAgg Judged.enc y5)),(8,.v (.string y6))],[],[],[],[]⟩)]) ordB6 (fun z=>(c143_ _ (aI ((aggEq_Judged_eql y2 (Judged.mk true 0 (-1) (-1))).trans (congrArg (fun b=>some (Value.bool b)) h3):aggEq Tryd.prog .eql 37 [(.bool y2.OK),(.int .i64 y2.Why),(.int .i64 y2.A_),(.int .i64 y2.B)] [(.bool true),(.int .i64 0),(.int .i64 (-1)),(.int .i64 (-1))]=some (.bool true)) (aI (rfl:AV.v (.bool true)=AV.v (.bool true)) (aI (law_message_sim n true y4 gy4) (aI (axiom_Judge_sim n y4 y5 gy5) (aI (axiom_Line_sim n y5 y6 gy6) z))))))) (by kernel_rfl)

def ord8:List (Nat×PT):=[]
theorem ordB8:ordB (polF 8) ord8 (bodyOf Tryd.prog 8)=true:=by kernel_rfl
theorem axiom_Ok_sim (n:Nat) (c:Cand) (r:Bool) (h:axiom_Ok n c=some r):PCall Tryd.prog 8 [(aAgg Cand.enc c)] (eqA (.v (.bool r))):=by
 unfold axiom_Ok at h
 obtain ⟨y1,gy1,h⟩:=bindE h
 obtain rfl:=soI h
 exact kP (nA ord8 [rVC 1 [] [(4,(aAgg Judged.enc y1))]]) ordB8 (fun z=>(aI (axiom_Judge_sim n c y1 gy1) z)) (by kernel_rfl)

noncomputable def Z254:Code:=sub (bodyOf Tryd.prog 21) [1,1,1,0,1,0,0]
theorem Z255:ordB (polF 21) ord21 Z254=true:=by kernel_rfl
def Z256 (n_:Int) (oA:(List Cell)) (oB:(List (List Event))) (oC:(List Int)) (oD:(List Int)) (oE:(List (Int×(List Int)))) (oF:(List Event)) (oG:(List Int)) (x1:Event) (sa:(List Int)×Int):St:=mkS 84 [(0,.ptr (.O 2) 0 0),(1,(vI n_)),(5,.ptr (.L 5) 0 0),(6,.sl (sa.1.map eI)),(7,(vI sa.2))] [(5,(Event.enc x1))] [.arr true 4 [[.sl (oA.map Cell.enc),.sl (oB.map (eSl Event.enc)),.sl (oC.map eI),.sl (oD.map eI)]],.mapo true (oE.map (eKV (aInt .u64) (aSl eI))),.arr false 4 [[.ptr (.O 0) 0 0,.sl (oF.map Event.enc),.sl (oG.map eI),.mp 1]]] 3
def Z257 (n_:Int) (oA:(List Cell)) (oB:(List (List Event))) (oC:(List Int)) (oD:(List Int)) (oE:(List (Int×(List Int)))) (oF:(List Event)) (oG:(List Int)) (x1:Event) (tt:Unit):St:=mkS 84 [] [] [.arr true 4 [[.sl (oA.map Cell.enc),.sl (oB.map (eSl Event.enc)),.sl (oC.map eI),.sl (oD.map eI)]],.mapo true (oE.map (eKV (aInt .u64) (aSl eI))),.arr false 4 [[.ptr (.O 0) 0 0,.sl (oF.map Event.enc),.sl (oG.map eI),.mp 1]]] 3
def Z258 (n_:Int) (oA:(List Cell)) (oB:(List (List Event))) (oC:(List Int)) (oD:(List Int)) (oE:(List (Int×(List Int)))) (oF:(List Event)) (oG:(List Int)) (x1:Event) (tt:Int):St:=mkS 84 [(4,(vI tt))] [] [.arr true 4 [[.sl (oA.map Cell.enc),.sl (oB.map (eSl Event.enc)),.sl (oC.map eI),.sl (oD.map eI)]],.mapo true (oE.map (eKV (aInt .u64) (aSl eI))),.arr false 4 [[.ptr (.O 0) 0 0,.sl (oF.map Event.enc),.sl (oG.map eI),.mp 1]]] 3
def Z259 (n_:Int) (oA:(List Cell)) (oB:(List (List Event))) (oC:(List Int)) (oD:(List Int)) (oE:(List (Int×(List Int)))) (oF:(List Event)) (oG:(List Int)) (x1:Event) (t0:(Unit⊕Int)):Ex×St:=match t0 with | .inl tt=>(.ex 0,Z257 n_ oA oB oC oD oE oF oG x1 tt) | .inr tt=>(.ret,Z258 n_ oA oB oC oD oE oF oG x1 tt)
theorem Z260 (n:Nat) (n_:Int) (oA:(List Cell)) (oB:(List (List Event))) (oC:(List Int)) (oD:(List Int)) (oE:(List (Int×(List Int)))) (oF:(List Event)) (oG:(List Int)) (x1:Event):∀ sa r,axiom_court_source_S2_L1 n n_ oA oB oC oD oE oF oG x1 sa=some r→CodeD Tryd.prog Z254 (Z256 n_ oA oB oC oD oE oF oG x1 sa) (rk (Z256 n_ oA oB oC oD oE oF oG x1) (Z259 n_ oA oB oC oD oE oF oG x1) r):=by
 intro sa r h
 unfold axiom_court_source_S2_L1 at h
 rcases iteN h with ⟨ha1,h⟩ | ⟨ha1,h⟩
 ·
  exact kQ h (nA ord21 [rV 4 [(27,vF)]]) [wK 2 [] [5] 3] Z255 (rkE rfl neE) (fun z=>(aB ha1 z)) (by kernel_rfl)
 obtain ⟨xa2,gxa2,h⟩:=bindE h
 obtain ⟨xa3,gxa3,h⟩:=bindE h
 have d0_:at? (sa.1.map eI) sa.2=some [(vI xa2)]:=at_map eI gxa2
 have c144_:=fun (R:Prop) (z:R)=>(aB ha1 (aI d0_ (aM Event.enc gxa3 (aI d0_ z))))
 rcases iteN h with ⟨ha4,h⟩ | ⟨ha4,h⟩
 ·
  exact kQ h (nA ord21 [rV 4 [(27,vT)],rR 6 [(36,[(vI xa2)]),(38,(Event.enc xa3))],(7,⟨[],[],[(42,[(vI xa2)])],[(46,vF)],[],[],[],[],[]⟩)]) [wK 0 [0,1,5,6,7] [8] 3] Z255 rkN (fun z=>(c144_ _ (aB ha4 z))) (by kernel_rfl)
 obtain ⟨xa5,gxa5,h⟩:=bindE h
 obtain ⟨xa6,gxa6,h⟩:=bindE h
 have c145_:=fun (R:Prop) (z:R)=>(aB ha4 (aM eI gxa2 (aM eI gxa5 (aM eI gxa6 z))))
 rcases iteE h with ⟨ha7,h⟩ | ⟨ha7,h⟩
 ·
  exact kQ h (nA ord21 [rV 4 [(27,vT)],rR 6 [(36,[(vI xa2)]),(38,(Event.enc xa3))],(7,⟨[],[],[(42,[(vI xa2)]),(53,[(vI xa2)]),(55,[(vI xa5)]),(62,[(vI xa6)])],[(46,vT),(65,vT)],[],[],[],[],[]⟩),rR 8 [(82,[(vI xa2)])]]) [wK 1 [4] [8,5] 3] Z255 (rkE rfl neR) (fun z=>(c144_ _ (c145_ _ (aB ha7 (aM eI gxa2 z))))) (by kernel_rfl)
 rcases iteN h with ⟨ha8,h⟩ | ⟨ha8,h⟩
 ·
  exact kQ h (nA ord21 [rV 4 [(27,vT)],rR 6 [(36,[(vI xa2)]),(38,(Event.enc xa3))],(7,⟨[],[],[(42,[(vI xa2)]),(53,[(vI xa2)]),(55,[(vI xa5)]),(62,[(vI xa6)])],[(46,vT),(65,vF),(71,vF)],[],[],[],[],[]⟩)]) [wK 0 [0,1,5,6,7] [8] 3] Z255 rkN (fun z=>(c144_ _ (c145_ _ (aB ha7 (aB ha8 z))))) (by kernel_rfl)
 have c146_:=fun (R:Prop) (z:R)=>(aB ha7 (aB ha8 z))
 rcases iteN h with ⟨ha9,h⟩ | ⟨ha9,h⟩
 ·
  exact kQ h (nA ord21 [rV 4 [(27,vT)],rR 6 [(36,[(vI xa2)]),(38,(Event.enc xa3))],(7,⟨[],[],[(42,[(vI xa2)]),(53,[(vI xa2)]),(55,[(vI xa5)]),(62,[(vI xa6)])],[(46,vT),(65,vF),(71,vT),(79,vF)],[],[],[],[],[]⟩)]) [wK 0 [0,1,5,6,7] [8] 3] Z255 rkN (fun z=>(c144_ _ (c145_ _ (c146_ _ (aB ha9 z))))) (by kernel_rfl)
 exact kQ h (nA ord21 [rV 4 [(27,vT)],rR 6 [(36,[(vI xa2)]),(38,(Event.enc xa3))],(7,⟨[],[],[(42,[(vI xa2)]),(53,[(vI xa2)]),(55,[(vI xa5)]),(62,[(vI xa6)])],[(46,vT),(65,vF),(71,vT),(79,vT)],[],[],[],[],[]⟩),rR 8 [(82,[(vI xa2)])]]) [wK 1 [4] [8,5] 3] Z255 (rkE rfl neR) (fun z=>(c144_ _ (c145_ _ (c146_ _ (aB ha9 (aM eI gxa2 z)))))) (by kernel_rfl)

def axiom_court_source_S2_R (n_:Int) (oA:(List Cell)) (oB:(List (List Event))) (oC:(List Int)) (oD:(List Int)) (oE:(List (Int×(List Int)))) (oF:(List Event)) (oG:(List Int)) (y:Int):AV×List Ob:=((vI y),[.arr true 4 [[.sl (oA.map Cell.enc),.sl (oB.map (eSl Event.enc)),.sl (oC.map eI),.sl (oD.map eI)]],.mapo true (oE.map (eKV (aInt .u64) (aSl eI))),.arr false 4 [[.ptr (.O 0) 0 0,.sl (oF.map Event.enc),.sl (oG.map eI),.mp 1]]])
theorem axiom_court_source_S2_sim (n:Nat) (n_:Int) (oA:(List Cell)) (oB:(List (List Event))) (oC:(List Int)) (oD:(List Int)) (oE:(List (Int×(List Int)))) (oF:(List Event)) (oG:(List Int)) (y:Int) (h:axiom_court_source_S2 n n_ oA oB oC oD oE oF oG=some y):SD Tryd.prog 21 [.ptr (.O 2) 0 0,(vI n_)] [.arr true 4 [[.sl (oA.map Cell.enc),.sl (oB.map (eSl Event.enc)),.sl (oC.map eI),.sl (oD.map eI)]],.mapo true (oE.map (eKV (aInt .u64) (aSl eI))),.arr false 4 [[.ptr (.O 0) 0 0,.sl (oF.map Event.enc),.sl (oG.map eI),.mp 1]]] (fun r' o'=>r'=(axiom_court_source_S2_R n_ oA oB oC oD oE oF oG y).1∧o'=(axiom_court_source_S2_R n_ oA oB oC oD oE oF oG y).2):=by
 unfold axiom_court_source_S2 at h
 obtain ⟨x1,gx1,h⟩:=bindE h
 rcases matchOE h with ⟨h2,h⟩ | ⟨z2,h3,h⟩
 ·
  obtain ⟨t3,gt3,h⟩:=bindE h
  have c147_:=fun (R:Prop) (z:R)=>(aM Event.enc gx1 (aI (mapGetN_53 oE x1.Addr h2:∀ k':AV→Prop,k' (.nilsl)→findK Tryd.prog 28 ((vU x1.Addr)) (oE.map (eKV (aInt .u64) (aSl eI))) fun _ r=>foundOk Tryd.prog 24 false (oE.map (eKV (aInt .u64) (aSl eI))) r k') z))
  rcases t3 with w4 | w4
  ·
   obtain rfl:=soI h
   exact kS ⟨ord21,[rR 1 [(14,(Event.enc x1))],rVC 2 [] [(22,.nilsl)]],[],[(4,(⟨[0,1,5,6,7],[],3,[],[],[]⟩,⟨[(6,.sl (([]:List Int).map eI))],[],[]⟩,(.ex 0),Z257 n_ oA oB oC oD oE oF oG x1 w4))],[]⟩ ordB21 ⟨rfl,rfl⟩ (fun z=>(c147_ _ (aI (LeA.nil:LeA (.nilsl) (.sl (([]:List Int).map eI))) (aI (okL (pl:=polF 21) (Z256 n_ oA oB oC oD oE oF oG x1) (Z259 n_ oA oB oC oD oE oF oG x1) (Z260 n n_ oA oB oC oD oE oF oG x1) n _ (.inl w4) gt3) z)))) (by kernel_rfl)
  ·
   obtain rfl:=soI h
   exact kS ⟨ord21,[rR 1 [(14,(Event.enc x1))],rVC 2 [] [(22,.nilsl)]],[],[(4,(⟨[0,1,5,6,7],[],3,[],[],[]⟩,⟨[(6,.sl (([]:List Int).map eI))],[],[]⟩,.ret,Z258 n_ oA oB oC oD oE oF oG x1 w4))],[]⟩ ordB21 ⟨rfl,rfl⟩ (fun z=>(c147_ _ (aI (LeA.nil:LeA (.nilsl) (.sl (([]:List Int).map eI))) (aI (okL (pl:=polF 21) (Z256 n_ oA oB oC oD oE oF oG x1) (Z259 n_ oA oB oC oD oE oF oG x1) (Z260 n n_ oA oB oC oD oE oF oG x1) n _ (.inr w4) gt3) z)))) (by kernel_rfl)
 ·
  obtain ⟨t4,gt4,h⟩:=bindE h
  have c148_:=fun (R:Prop) (z:R)=>(aM Event.enc gx1 (aI (mapGetS_53 oE x1.Addr h3:∀ k':AV→Prop,k' (.sl (z2.map eI))→findK Tryd.prog 28 ((vU x1.Addr)) (oE.map (eKV (aInt .u64) (aSl eI))) fun _ r=>foundOk Tryd.prog 24 false (oE.map (eKV (aInt .u64) (aSl eI))) r k') (aL eI z2 z)))
  rcases t4 with w5 | w5
  ·
   obtain rfl:=soI h
   exact kS ⟨ord21,[rR 1 [(14,(Event.enc x1))],rVC 2 [] [(22,.sl (z2.map eI))],rV 3 [(24,(vI (z2.length:Int)))]],[],[(4,(⟨[0,1,5,6,7],[],3,[],[],[]⟩,l0,(.ex 0),Z257 n_ oA oB oC oD oE oF oG x1 w5))],[]⟩ ordB21 ⟨rfl,rfl⟩ (fun z=>(c148_ _ (aI (okL (pl:=polF 21) (Z256 n_ oA oB oC oD oE oF oG x1) (Z259 n_ oA oB oC oD oE oF oG x1) (Z260 n n_ oA oB oC oD oE oF oG x1) n _ (.inl w5) gt4) z))) (by kernel_rfl)
  ·
   obtain rfl:=soI h
   exact kS ⟨ord21,[rR 1 [(14,(Event.enc x1))],rVC 2 [] [(22,.sl (z2.map eI))],rV 3 [(24,(vI (z2.length:Int)))]],[],[(4,(⟨[0,1,5,6,7],[],3,[],[],[]⟩,l0,.ret,Z258 n_ oA oB oC oD oE oF oG x1 w5))],[]⟩ ordB21 ⟨rfl,rfl⟩ (fun z=>(c148_ _ (aI (okL (pl:=polF 21) (Z256 n_ oA oB oC oD oE oF oG x1) (Z259 n_ oA oB oC oD oE oF oG x1) (Z260 n n_ oA oB oC oD oE oF oG x1) n _ (.inr w5) gt4) z))) (by kernel_rfl)

def ord9:List (Nat×PT):=[]
theorem ordB9:ordB (polF 9) ord9 (bodyOf Tryd.prog 9)=true:=by kernel_rfl
theorem axiom_Source_sim (n:Nat) (c:Cand) (n_:Int) (r:Int) (h:axiom_Source n c n_=some r):PCall Tryd.prog 9 [(aAgg Cand.enc c),(vI n_)] (eqA ((vI r))):=by
 unfold axiom_Source at h
 obtain ⟨y1,gy1,h⟩:=bindE h
 rcases y1 with wa2 | wb2
 ·
  obtain rfl:=soI h
  exact kP (nA ord9 [(1,⟨[],[],[],[],[],[(6,(.nilp,[.arr true 4 [(Cand.enc c)]]))],[],[],[]⟩)]) ordB9 (fun z=>(aI (axiom_of_S_sim n c.First c.Harts c.From c.Order (.inl wa2) gy1) z)) (by kernel_rfl)
 ·
  have c149_:=fun (R:Prop) (z:R)=>(aI (axiom_of_S_sim n c.First c.Harts c.From c.Order (.inr wb2) gy1) z)
  rcases iteE h with ⟨h3,h⟩ | ⟨h3,h⟩
  ·
   obtain rfl:=soI h
   exact kP (nA ord9 [(1,⟨[],[],[],[],[],[(6,(.ptr (.O 2) 0 0,[.arr true 4 [(Cand.enc c)],.mapo true (wb2.1.map (eKV (aInt .u64) (aSl eI))),.arr false 4 [[.ptr (.O 0) 0 0,.sl (wb2.2.1.map Event.enc),.sl (wb2.2.2.map eI),.mp 1]]]))],[],[],[]⟩),rV 2 [(13,vT)]]) ordB9 (fun z=>(c149_ _ (aB h3 z))) (by kernel_rfl)
  have c150_:=fun (R:Prop) (z:R)=>(aB h3 (aL Event.enc wb2.2.1 z))
  rcases iteE h with ⟨h4,h⟩ | ⟨h4,h⟩
  ·
   obtain rfl:=soI h
   exact kP (nA ord9 [(1,⟨[],[],[],[],[],[(6,(.ptr (.O 2) 0 0,[.arr true 4 [(Cand.enc c)],.mapo true (wb2.1.map (eKV (aInt .u64) (aSl eI))),.arr false 4 [[.ptr (.O 0) 0 0,.sl (wb2.2.1.map Event.enc),.sl (wb2.2.2.map eI),.mp 1]]]))],[],[],[]⟩),rV 2 [(13,vF),(19,(vI (wb2.2.1.length:Int))),(22,vT)]]) ordB9 (fun z=>(c149_ _ (c150_ _ (aB h4 z)))) (by kernel_rfl)
  obtain ⟨x5,gx5,h⟩:=bindE h
  obtain ⟨y6,gy6,h⟩:=bindE h
  have c151_:=fun (R:Prop) (z:R)=>(aB h4 (aM Event.enc gx5 (aI (event_Reads_sim n x5 y6 gy6) z)))
  rcases iteE h with ⟨h7,h⟩ | ⟨h7,h⟩
  ·
   obtain rfl:=soI h
   exact kP (nA ord9 [(1,⟨[],[],[],[],[],[(6,(.ptr (.O 2) 0 0,[.arr true 4 [(Cand.enc c)],.mapo true (wb2.1.map (eKV (aInt .u64) (aSl eI))),.arr false 4 [[.ptr (.O 0) 0 0,.sl (wb2.2.1.map Event.enc),.sl (wb2.2.2.map eI),.mp 1]]]))],[],[],[]⟩),(2,⟨[],[],[(28,(Event.enc x5))],[(13,vF),(19,(vI (wb2.2.1.length:Int))),(22,vF),(32,vT)],[(30,.v (.bool y6))],[],[],[],[]⟩)]) ordB9 (fun z=>(c149_ _ (c150_ _ (c151_ _ (aB h7 z))))) (by kernel_rfl)
  obtain ⟨y8,gy8,h⟩:=bindE h
  obtain rfl:=soI h
  exact kP (nA ord9 [(1,⟨[],[],[],[],[],[(6,(.ptr (.O 2) 0 0,[.arr true 4 [(Cand.enc c)],.mapo true (wb2.1.map (eKV (aInt .u64) (aSl eI))),.arr false 4 [[.ptr (.O 0) 0 0,.sl (wb2.2.1.map Event.enc),.sl (wb2.2.2.map eI),.mp 1]]]))],[],[],[]⟩),(2,⟨[],[],[(28,(Event.enc x5))],[(13,vF),(19,(vI (wb2.2.1.length:Int))),(22,vF),(32,vF)],[(30,.v (.bool y6))],[],[],[],[]⟩),(4,⟨[],[],[],[],[],[(35,((vI y8),[.arr true 4 [(Cand.enc c)],.mapo true (wb2.1.map (eKV (aInt .u64) (aSl eI))),.arr false 4 [[.ptr (.O 0) 0 0,.sl (wb2.2.1.map Event.enc),.sl (wb2.2.2.map eI),.mp 1]]]))],[],[],[]⟩)]) ordB9 (fun z=>(c149_ _ (c150_ _ (c151_ _ (aB h7 (aI (axiom_court_source_S2_sim n n_ c.First c.Harts c.From c.Order wb2.1 wb2.2.1 wb2.2.2 y8 gy8) z)))))) (by kernel_rfl)

end
end Go.Proofs.YtomahedcdcnnhaaDoor
