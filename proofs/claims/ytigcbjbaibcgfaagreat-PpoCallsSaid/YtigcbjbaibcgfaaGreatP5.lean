/- What the functions compute, they compute: printed by a program, path by path. No conditions. -/
import Derived.Test.YtigcbjbaibcgfaaGreatP4
import Derived.KernelRfl
namespace Go.Proofs.YtigcbjbaibcgfaaGreat
open Go A
set_option linter.unusedVariables false
set_option maxRecDepth 100000
set_option maxHeartbeats 0
section
variable (pc:Nat→List AV→(AV→Prop)→Prop) (sc:Nat→List AV→List Ob→(AV→List Ob→Prop)→Prop) (lp:Pol→Code→St→(Ex→St→Prop)→Prop) (cd:CutP)

def ord3:List (Nat×PT):=[(6,(ptS [0,1,2,3,4,5,6,7,8,9,10,11,12,13,14,15])),(8,(ptS [0,1,2,3,4,5])),(9,(ptS [0,1,2,3,4,5,6,7,8,9,10,11,12,13,14,15,16,17,18,19,20,21,22,23,24,25,26,27,28,29,30,31,32,33,34,35,36,37,38,39,40,41,42,43,44,45]))]
theorem ordB3:ordB (polF 3) ord3 (bodyOf Tryz.prog 3)=true:=by kernel_rfl
theorem law_PpoCalls_sim (n:Nat) (c:Cand) (a:Int) (b:Int) (rule:Int) (r:Bool) (h:law_PpoCalls n c a b rule=some r):PCall Tryz.prog 3 [(aAgg Cand.enc c),(vI a),(vI b),(vI rule)] (eqA (.v (.bool r))):=by
 unfold law_PpoCalls at h
 obtain ⟨y1,gy1,h⟩:=bindE h
 rcases iteE h with ⟨h2,h⟩ | ⟨h2,h⟩
 ·
  obtain rfl:=soI h
  exact kP ⟨ord3,[rVC 1 [(13,vT)] [(12,.v (.bool y1))]],[],[],[]⟩ ordB3 (fun z=>(aI (law_lives_sim n y1 gy1) (aB h2 z))) (by kernel_rfl)
 obtain ⟨y3,gy3,h⟩:=bindE h
 rcases iteE h with ⟨h4,h⟩ | ⟨h4,h⟩
 ·
  obtain rfl:=soI h
  exact kP ⟨ord3,[rVC 1 [(13,vF)] [(12,.v (.bool y1))],rVC 3 [(16,vT)] [(15,.v (.bool y3))]],[],[],[]⟩ ordB3 (fun z=>(aI (law_lives_sim n y1 gy1) (aB h2 (aI (kit_LightCand_sim n c 30 y3 gy3) (aB h4 z))))) (by kernel_rfl)
 obtain ⟨y5,gy5,h⟩:=bindE h
 rcases iteN h with ⟨h6,h⟩ | ⟨h6,h⟩
 ·
  obtain ⟨y7,gy7,h⟩:=bindE h
  obtain ⟨y8,gy8,h⟩:=bindE h
  obtain ⟨y9,gy9,h⟩:=bindE h
  obtain ⟨y10,gy10,h⟩:=bindE h
  rcases iteN h with ⟨h11,h⟩ | ⟨h11,h⟩
  ·
   obtain rfl:=soI h
   exact kP ⟨ord3,[rVC 1 [(13,vF)] [(12,.v (.bool y1))],rVC 3 [(16,vF)] [(15,.v (.bool y3))],rVC 5 [(19,vF)] [(18,(vI y5))],rVC 7 [] [(35,(aAgg Cand.enc y7))],rVC 8 [] [(37,.sl (y8.map (eArr2 eI))),(39,.sl (y9.map (eArr2 eI)))],rVC 9 [(43,vF)] [(42,.v (.bool y10))]],[],[],[]⟩ ordB3 (fun z=>(aI (law_lives_sim n y1 gy1) (aB h2 (aI (kit_LightCand_sim n c 30 y3 gy3) (aB h4 (aI (ref_Check_sim n c y5 gy5) (aB h6 (aI (kit_OwnCand_sim n c y7 gy7) (aI (ppo_Pairs_sim n y7 y8 gy8) (aI (ref_Pairs_sim n c y9 gy9) (aI (kit_Same_2_int_sim n y8 y9 y10 gy10) (aB h11 z)))))))))))) (by kernel_rfl)
  obtain ⟨y12,gy12,h⟩:=bindE h
  obtain ⟨y13,gy13,h⟩:=bindE h
  rcases iteN h with ⟨h14,h⟩ | ⟨h14,h⟩
  ·
   obtain rfl:=soI h
   exact kP ⟨ord3,[rVC 1 [(13,vF)] [(12,.v (.bool y1))],rVC 3 [(16,vF)] [(15,.v (.bool y3))],rVC 5 [(19,vF)] [(18,(vI y5))],rVC 7 [] [(35,(aAgg Cand.enc y7))],rVC 8 [] [(37,.sl (y8.map (eArr2 eI))),(39,.sl (y9.map (eArr2 eI)))],rVC 9 [(43,vT),(54,vF)] [(42,.v (.bool y10)),(47,(vI y12)),(51,(vI y13))]],[],[],[]⟩ ordB3 (fun z=>(aI (law_lives_sim n y1 gy1) (aB h2 (aI (kit_LightCand_sim n c 30 y3 gy3) (aB h4 (aI (ref_Check_sim n c y5 gy5) (aB h6 (aI (kit_OwnCand_sim n c y7 gy7) (aI (ppo_Pairs_sim n y7 y8 gy8) (aI (ref_Pairs_sim n c y9 gy9) (aI (kit_Same_2_int_sim n y8 y9 y10 gy10) (aB h11 (aI (ppo_Rule_sim n y7 a b y12 gy12) (aI (ref_Rule_sim n c a b y13 gy13) (aB h14 z))))))))))))))) (by kernel_rfl)
  obtain ⟨y15,gy15,h⟩:=bindE h
  obtain ⟨y16,gy16,h⟩:=bindE h
  rcases iteN h with ⟨h17,h⟩ | ⟨h17,h⟩
  ·
   obtain rfl:=soI h
   exact kP ⟨ord3,[rVC 1 [(13,vF)] [(12,.v (.bool y1))],rVC 3 [(16,vF)] [(15,.v (.bool y3))],rVC 5 [(19,vF)] [(18,(vI y5))],rVC 7 [] [(35,(aAgg Cand.enc y7))],rVC 8 [] [(37,.sl (y8.map (eArr2 eI))),(39,.sl (y9.map (eArr2 eI)))],rVC 9 [(43,vT),(54,vT),(67,vF)] [(42,.v (.bool y10)),(47,(vI y12)),(51,(vI y13)),(59,.v (.bool y15)),(64,.v (.bool y16))]],[],[],[]⟩ ordB3 (fun z=>(aI (law_lives_sim n y1 gy1) (aB h2 (aI (kit_LightCand_sim n c 30 y3 gy3) (aB h4 (aI (ref_Check_sim n c y5 gy5) (aB h6 (aI (kit_OwnCand_sim n c y7 gy7) (aI (ppo_Pairs_sim n y7 y8 gy8) (aI (ref_Pairs_sim n c y9 gy9) (aI (kit_Same_2_int_sim n y8 y9 y10 gy10) (aB h11 (aI (ppo_Rule_sim n y7 a b y12 gy12) (aI (ref_Rule_sim n c a b y13 gy13) (aB h14 (aI (ppo_Holds_sim n y7 a b rule y15 gy15) (aI (ref_Holds_sim n c a b rule y16 gy16) (aB h17 z)))))))))))))))))) (by kernel_rfl)
  obtain ⟨y18,gy18,h⟩:=bindE h
  obtain ⟨y19,gy19,h⟩:=bindE h
  rcases iteN h with ⟨h20,h⟩ | ⟨h20,h⟩
  ·
   obtain rfl:=soI h
   exact kP ⟨ord3,[rVC 1 [(13,vF)] [(12,.v (.bool y1))],rVC 3 [(16,vF)] [(15,.v (.bool y3))],rVC 5 [(19,vF)] [(18,(vI y5))],rVC 7 [] [(35,(aAgg Cand.enc y7))],rVC 8 [] [(37,.sl (y8.map (eArr2 eI))),(39,.sl (y9.map (eArr2 eI)))],rVC 9 [(43,vT),(54,vT),(67,vT),(78,vF)] [(42,.v (.bool y10)),(47,(vI y12)),(51,(vI y13)),(59,.v (.bool y15)),(64,.v (.bool y16)),(71,.v (.bool y18)),(75,.v (.bool y19))]],[],[],[]⟩ ordB3 (fun z=>(aI (law_lives_sim n y1 gy1) (aB h2 (aI (kit_LightCand_sim n c 30 y3 gy3) (aB h4 (aI (ref_Check_sim n c y5 gy5) (aB h6 (aI (kit_OwnCand_sim n c y7 gy7) (aI (ppo_Pairs_sim n y7 y8 gy8) (aI (ref_Pairs_sim n c y9 gy9) (aI (kit_Same_2_int_sim n y8 y9 y10 gy10) (aB h11 (aI (ppo_Rule_sim n y7 a b y12 gy12) (aI (ref_Rule_sim n c a b y13 gy13) (aB h14 (aI (ppo_Holds_sim n y7 a b rule y15 gy15) (aI (ref_Holds_sim n c a b rule y16 gy16) (aB h17 (aI (ppo_Whole_sim n y7 a b y18 gy18) (aI (ref_Whole_sim n c a b y19 gy19) (aB h20 z))))))))))))))))))))) (by kernel_rfl)
  obtain ⟨y21,gy21,h⟩:=bindE h
  obtain ⟨y22,gy22,h⟩:=bindE h
  obtain rfl:=soI h
  exact kP ⟨ord3,[rVC 1 [(13,vF)] [(12,.v (.bool y1))],rVC 3 [(16,vF)] [(15,.v (.bool y3))],rVC 5 [(19,vF)] [(18,(vI y5))],rVC 7 [] [(35,(aAgg Cand.enc y7))],rVC 8 [] [(37,.sl (y8.map (eArr2 eI))),(39,.sl (y9.map (eArr2 eI)))],rVC 9 [(43,vT),(54,vT),(67,vT),(78,vT)] [(42,.v (.bool y10)),(47,(vI y12)),(51,(vI y13)),(59,.v (.bool y15)),(64,.v (.bool y16)),(71,.v (.bool y18)),(75,.v (.bool y19)),(80,.v (.bool y21)),(82,.v (.bool y22))]],[],[],[]⟩ ordB3 (fun z=>(aI (law_lives_sim n y1 gy1) (aB h2 (aI (kit_LightCand_sim n c 30 y3 gy3) (aB h4 (aI (ref_Check_sim n c y5 gy5) (aB h6 (aI (kit_OwnCand_sim n c y7 gy7) (aI (ppo_Pairs_sim n y7 y8 gy8) (aI (ref_Pairs_sim n c y9 gy9) (aI (kit_Same_2_int_sim n y8 y9 y10 gy10) (aB h11 (aI (ppo_Rule_sim n y7 a b y12 gy12) (aI (ref_Rule_sim n c a b y13 gy13) (aB h14 (aI (ppo_Holds_sim n y7 a b rule y15 gy15) (aI (ref_Holds_sim n c a b rule y16 gy16) (aB h17 (aI (ppo_Whole_sim n y7 a b y18 gy18) (aI (ref_Whole_sim n c a b y19 gy19) (aB h20 (aI (ppo_Full_sim n y7 y21 gy21) (aI (ref_Full_sim n c y22 gy22) z))))))))))))))))))))))) (by kernel_rfl)
 obtain ⟨y7,gy7,h⟩:=bindE h
 obtain ⟨y8,gy8,h⟩:=bindE h
 obtain ⟨y9,gy9,h⟩:=bindE h
 obtain ⟨y10,gy10,h⟩:=bindE h
 obtain ⟨y11,gy11,h⟩:=bindE h
 obtain ⟨y12,gy12,h⟩:=bindE h
 rcases iteN h with ⟨h13,h⟩ | ⟨h13,h⟩
 ·
  obtain rfl:=soI h
  exact kP ⟨ord3,[rVC 1 [(13,vF)] [(12,.v (.bool y1))],rVC 3 [(16,vF)] [(15,.v (.bool y3))],rVC 5 [(19,vT)] [(18,(vI y5))],rVC 6 [(23,(vI (c.From.length:Int))),(30,(vI (c.From.length:Int)))] [(25,(vI y7)),(32,(vI y8))],rVC 7 [] [(35,(aAgg Cand.enc y9))],rVC 8 [] [(37,.sl (y10.map (eArr2 eI))),(39,.sl (y11.map (eArr2 eI)))],rVC 9 [(43,vF)] [(42,.v (.bool y12))]],[],[],[]⟩ ordB3 (fun z=>(aI (law_lives_sim n y1 gy1) (aB h2 (aI (kit_LightCand_sim n c 30 y3 gy3) (aB h4 (aI (ref_Check_sim n c y5 gy5) (aB h6 (aL eI c.From (aI (kit_Pick_sim n a (addW .i64 (c.From.length:Int) 2) y7 gy7) (aL eI c.From (aI (kit_Pick_sim n b (addW .i64 (c.From.length:Int) 2) y8 gy8) (aI (kit_OwnCand_sim n c y9 gy9) (aI (ppo_Pairs_sim n y9 y10 gy10) (aI (ref_Pairs_sim n c y11 gy11) (aI (kit_Same_2_int_sim n y10 y11 y12 gy12) (aB h13 z)))))))))))))))) (by kernel_rfl)
 obtain ⟨y14,gy14,h⟩:=bindE h
 obtain ⟨y15,gy15,h⟩:=bindE h
 rcases iteN h with ⟨h16,h⟩ | ⟨h16,h⟩
 ·
  obtain rfl:=soI h
  exact kP ⟨ord3,[rVC 1 [(13,vF)] [(12,.v (.bool y1))],rVC 3 [(16,vF)] [(15,.v (.bool y3))],rVC 5 [(19,vT)] [(18,(vI y5))],rVC 6 [(23,(vI (c.From.length:Int))),(30,(vI (c.From.length:Int)))] [(25,(vI y7)),(32,(vI y8))],rVC 7 [] [(35,(aAgg Cand.enc y9))],rVC 8 [] [(37,.sl (y10.map (eArr2 eI))),(39,.sl (y11.map (eArr2 eI)))],rVC 9 [(43,vT),(54,vF)] [(42,.v (.bool y12)),(47,(vI y14)),(51,(vI y15))]],[],[],[]⟩ ordB3 (fun z=>(aI (law_lives_sim n y1 gy1) (aB h2 (aI (kit_LightCand_sim n c 30 y3 gy3) (aB h4 (aI (ref_Check_sim n c y5 gy5) (aB h6 (aL eI c.From (aI (kit_Pick_sim n a (addW .i64 (c.From.length:Int) 2) y7 gy7) (aL eI c.From (aI (kit_Pick_sim n b (addW .i64 (c.From.length:Int) 2) y8 gy8) (aI (kit_OwnCand_sim n c y9 gy9) (aI (ppo_Pairs_sim n y9 y10 gy10) (aI (ref_Pairs_sim n c y11 gy11) (aI (kit_Same_2_int_sim n y10 y11 y12 gy12) (aB h13 (aI (ppo_Rule_sim n y9 (subW .i64 y7 1) (subW .i64 y8 1) y14 gy14) (aI (ref_Rule_sim n c (subW .i64 y7 1) (subW .i64 y8 1) y15 gy15) (aB h16 z))))))))))))))))))) (by kernel_rfl)
 obtain ⟨y17,gy17,h⟩:=bindE h
 obtain ⟨y18,gy18,h⟩:=bindE h
 rcases iteN h with ⟨h19,h⟩ | ⟨h19,h⟩
 ·
  obtain rfl:=soI h
  exact kP ⟨ord3,[rVC 1 [(13,vF)] [(12,.v (.bool y1))],rVC 3 [(16,vF)] [(15,.v (.bool y3))],rVC 5 [(19,vT)] [(18,(vI y5))],rVC 6 [(23,(vI (c.From.length:Int))),(30,(vI (c.From.length:Int)))] [(25,(vI y7)),(32,(vI y8))],rVC 7 [] [(35,(aAgg Cand.enc y9))],rVC 8 [] [(37,.sl (y10.map (eArr2 eI))),(39,.sl (y11.map (eArr2 eI)))],rVC 9 [(43,vT),(54,vT),(67,vF)] [(42,.v (.bool y12)),(47,(vI y14)),(51,(vI y15)),(59,.v (.bool y17)),(64,.v (.bool y18))]],[],[],[]⟩ ordB3 (fun z=>(aI (law_lives_sim n y1 gy1) (aB h2 (aI (kit_LightCand_sim n c 30 y3 gy3) (aB h4 (aI (ref_Check_sim n c y5 gy5) (aB h6 (aL eI c.From (aI (kit_Pick_sim n a (addW .i64 (c.From.length:Int) 2) y7 gy7) (aL eI c.From (aI (kit_Pick_sim n b (addW .i64 (c.From.length:Int) 2) y8 gy8) (aI (kit_OwnCand_sim n c y9 gy9) (aI (ppo_Pairs_sim n y9 y10 gy10) (aI (ref_Pairs_sim n c y11 gy11) (aI (kit_Same_2_int_sim n y10 y11 y12 gy12) (aB h13 (aI (ppo_Rule_sim n y9 (subW .i64 y7 1) (subW .i64 y8 1) y14 gy14) (aI (ref_Rule_sim n c (subW .i64 y7 1) (subW .i64 y8 1) y15 gy15) (aB h16 (aI (ppo_Holds_sim n y9 (subW .i64 y7 1) (subW .i64 y8 1) rule y17 gy17) (aI (ref_Holds_sim n c (subW .i64 y7 1) (subW .i64 y8 1) rule y18 gy18) (aB h19 z)))))))))))))))))))))) (by kernel_rfl)
 obtain ⟨y20,gy20,h⟩:=bindE h
 obtain ⟨y21,gy21,h⟩:=bindE h
 rcases iteN h with ⟨h22,h⟩ | ⟨h22,h⟩
 ·
  obtain rfl:=soI h
  exact kP ⟨ord3,[rVC 1 [(13,vF)] [(12,.v (.bool y1))],rVC 3 [(16,vF)] [(15,.v (.bool y3))],rVC 5 [(19,vT)] [(18,(vI y5))],rVC 6 [(23,(vI (c.From.length:Int))),(30,(vI (c.From.length:Int)))] [(25,(vI y7)),(32,(vI y8))],rVC 7 [] [(35,(aAgg Cand.enc y9))],rVC 8 [] [(37,.sl (y10.map (eArr2 eI))),(39,.sl (y11.map (eArr2 eI)))],rVC 9 [(43,vT),(54,vT),(67,vT),(78,vF)] [(42,.v (.bool y12)),(47,(vI y14)),(51,(vI y15)),(59,.v (.bool y17)),(64,.v (.bool y18)),(71,.v (.bool y20)),(75,.v (.bool y21))]],[],[],[]⟩ ordB3 (fun z=>(aI (law_lives_sim n y1 gy1) (aB h2 (aI (kit_LightCand_sim n c 30 y3 gy3) (aB h4 (aI (ref_Check_sim n c y5 gy5) (aB h6 (aL eI c.From (aI (kit_Pick_sim n a (addW .i64 (c.From.length:Int) 2) y7 gy7) (aL eI c.From (aI (kit_Pick_sim n b (addW .i64 (c.From.length:Int) 2) y8 gy8) (aI (kit_OwnCand_sim n c y9 gy9) (aI (ppo_Pairs_sim n y9 y10 gy10) (aI (ref_Pairs_sim n c y11 gy11) (aI (kit_Same_2_int_sim n y10 y11 y12 gy12) (aB h13 (aI (ppo_Rule_sim n y9 (subW .i64 y7 1) (subW .i64 y8 1) y14 gy14) (aI (ref_Rule_sim n c (subW .i64 y7 1) (subW .i64 y8 1) y15 gy15) (aB h16 (aI (ppo_Holds_sim n y9 (subW .i64 y7 1) (subW .i64 y8 1) rule y17 gy17) (aI (ref_Holds_sim n c (subW .i64 y7 1) (subW .i64 y8 1) rule y18 gy18) (aB h19 (aI (ppo_Whole_sim n y9 (subW .i64 y7 1) (subW .i64 y8 1) y20 gy20) (aI (ref_Whole_sim n c (subW .i64 y7 1) (subW .i64 y8 1) y21 gy21) (aB h22 z))))))))))))))))))))))))) (by kernel_rfl)
 obtain ⟨y23,gy23,h⟩:=bindE h
 obtain ⟨y24,gy24,h⟩:=bindE h
 obtain rfl:=soI h
 exact kP ⟨ord3,[rVC 1 [(13,vF)] [(12,.v (.bool y1))],rVC 3 [(16,vF)] [(15,.v (.bool y3))],rVC 5 [(19,vT)] [(18,(vI y5))],rVC 6 [(23,(vI (c.From.length:Int))),(30,(vI (c.From.length:Int)))] [(25,(vI y7)),(32,(vI y8))],rVC 7 [] [(35,(aAgg Cand.enc y9))],rVC 8 [] [(37,.sl (y10.map (eArr2 eI))),(39,.sl (y11.map (eArr2 eI)))],rVC 9 [(43,vT),(54,vT),(67,vT),(78,vT)] [(42,.v (.bool y12)),(47,(vI y14)),(51,(vI y15)),(59,.v (.bool y17)),(64,.v (.bool y18)),(71,.v (.bool y20)),(75,.v (.bool y21)),(80,.v (.bool y23)),(82,.v (.bool y24))]],[],[],[]⟩ ordB3 (fun z=>(aI (law_lives_sim n y1 gy1) (aB h2 (aI (kit_LightCand_sim n c 30 y3 gy3) (aB h4 (aI (ref_Check_sim n c y5 gy5) (aB h6 (aL eI c.From (aI (kit_Pick_sim n a (addW .i64 (c.From.length:Int) 2) y7 gy7) (aL eI c.From (aI (kit_Pick_sim n b (addW .i64 (c.From.length:Int) 2) y8 gy8) (aI (kit_OwnCand_sim n c y9 gy9) (aI (ppo_Pairs_sim n y9 y10 gy10) (aI (ref_Pairs_sim n c y11 gy11) (aI (kit_Same_2_int_sim n y10 y11 y12 gy12) (aB h13 (aI (ppo_Rule_sim n y9 (subW .i64 y7 1) (subW .i64 y8 1) y14 gy14) (aI (ref_Rule_sim n c (subW .i64 y7 1) (subW .i64 y8 1) y15 gy15) (aB h16 (aI (ppo_Holds_sim n y9 (subW .i64 y7 1) (subW .i64 y8 1) rule y17 gy17) (aI (ref_Holds_sim n c (subW .i64 y7 1) (subW .i64 y8 1) rule y18 gy18) (aB h19 (aI (ppo_Whole_sim n y9 (subW .i64 y7 1) (subW .i64 y8 1) y20 gy20) (aI (ref_Whole_sim n c (subW .i64 y7 1) (subW .i64 y8 1) y21 gy21) (aB h22 (aI (ppo_Full_sim n y9 y23 gy23) (aI (ref_Full_sim n c y24 gy24) z))))))))))))))))))))))))))) (by kernel_rfl)

end
end Go.Proofs.YtigcbjbaibcgfaaGreat
