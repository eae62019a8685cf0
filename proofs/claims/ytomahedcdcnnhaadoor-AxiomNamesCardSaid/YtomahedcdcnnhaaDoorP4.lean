/- What the functions compute, they compute: printed by a program, path by path. No conditions. -/
import Derived.Test.YtomahedcdcnnhaaDoorP3
import Derived.KernelRfl
namespace Go.Proofs.YtomahedcdcnnhaaDoor
open Go A
set_option linter.unusedVariables false
set_option maxRecDepth 100000
set_option maxHeartbeats 0
section
variable (pc:Nat→List AV→(AV→Prop)→Prop) (sc:Nat→List AV→List Ob→(AV→List Ob→Prop)→Prop) (lp:Pol→Code→St→(Ex→St→Prop)→Prop) (cd:CutP)

def ord3:List (Nat×PT):=[]
theorem ordB3:ordB (polF 3) ord3 (bodyOf Tryd.prog 3)=true:=by kernel_rfl
theorem law_AxiomNames_sim (n:Nat) (r:Bool) (h:law_AxiomNames n=some r):PCall Tryd.prog 3 [] (eqA (.v (.bool r))):=by
 unfold law_AxiomNames at h
 obtain ⟨y1,gy1,h⟩:=bindE h
 obtain ⟨y2,gy2,h⟩:=bindE h
 obtain ⟨y3,gy3,h⟩:=bindE h
 have c152_:=fun (R:Prop) (z:R)=>(aI (law_message_sim n false y1 gy1) (aI ((kit_OwnCand_sim n (Cand.mk ([]:List Cell) ([([(Event.mk 0 0 3 8 0 0 false false 0 0 0 (Deps.mk ([]:List Int) ([]:List Int) ([]:List Int))),(Event.mk 0 1 4 8 0 5 false false 0 0 0 (Deps.mk ([]:List Int) ([]:List Int) ([]:List Int)))]:List Event),([(Event.mk 1 0 2 8 0 7 false false 0 0 0 (Deps.mk ([]:List Int) ([]:List Int) ([]:List Int)))]:List Event)]:List (List Event)) ([(-1),(-1),(-1)]:List Int) ([0,2,1]:List Int)) y2 gy2).le (LeR.cons (LeA.agg (LeR.cons LeA.nil (LeR.cons (LeA.sl (LeRs.cons (LeR.cons (LeA.sl (LeRs.cons (LeR.cons (LeA.refl _) (LeR.cons (LeA.refl _) (LeR.cons (LeA.refl _) (LeR.cons (LeA.refl _) (LeR.cons (LeA.refl _) (LeR.cons (LeA.refl _) (LeR.cons (LeA.refl _) (LeR.cons (LeA.refl _) (LeR.cons (LeA.refl _) (LeR.cons (LeA.refl _) (LeR.cons (LeA.refl _) (LeR.cons LeA.nil (LeR.cons LeA.nil (LeR.cons LeA.nil LeR.nil)))))))))))))) (LeRs.cons (LeR.cons (LeA.refl _) (LeR.cons (LeA.refl _) (LeR.cons (LeA.refl _) (LeR.cons (LeA.refl _) (LeR.cons (LeA.refl _) (LeR.cons (LeA.refl _) (LeR.cons (LeA.refl _) (LeR.cons (LeA.refl _) (LeR.cons (LeA.refl _) (LeR.cons (LeA.refl _) (LeR.cons (LeA.refl _) (LeR.cons LeA.nil (LeR.cons LeA.nil (LeR.cons LeA.nil LeR.nil)))))))))))))) LeRs.nil))) LeR.nil) (LeRs.cons (LeR.cons (LeA.sl (LeRs.cons (LeR.cons (LeA.refl _) (LeR.cons (LeA.refl _) (LeR.cons (LeA.refl _) (LeR.cons (LeA.refl _) (LeR.cons (LeA.refl _) (LeR.cons (LeA.refl _) (LeR.cons (LeA.refl _) (LeR.cons (LeA.refl _) (LeR.cons (LeA.refl _) (LeR.cons (LeA.refl _) (LeR.cons (LeA.refl _) (LeR.cons LeA.nil (LeR.cons LeA.nil (LeR.cons LeA.nil LeR.nil)))))))))))))) LeRs.nil)) LeR.nil) LeRs.nil))) (LeR.cons (LeA.refl _) (LeR.cons (LeA.refl _) LeR.nil))))) LeR.nil)) (aI (law_lives_sim n y3 gy3) z)))
 rcases iteN h with ⟨h4,h⟩ | ⟨h4,h⟩
 ·
  obtain rfl:=soI h
  exact kP (nA ord3 [rVC 1 [] [(7,(aAgg Cand.enc y1))],rVC 6 [] [(23,(aAgg Cand.enc y2))],rVC 8 [(27,vF)] [(26,.v (.bool y3))]]) ordB3 (fun z=>(c152_ _ (aB h4 z))) (by kernel_rfl)
 obtain ⟨y5,gy5,h⟩:=bindE h
 have c153_:=fun (R:Prop) (z:R)=>(aB h4 (aI (axiom_Judge_sim n (Cand.mk y1.First y1.Harts y1.From ([0,1,2,3]:List Int)) y5 gy5) z))
 rcases iteN h with ⟨h6,h⟩ | ⟨h6,h⟩
 ·
  obtain rfl:=soI h
  exact kP (nA ord3 [rVC 1 [] [(7,(aAgg Cand.enc y1))],rVC 6 [] [(23,(aAgg Cand.enc y2))],(8,⟨[],[31],[],[(27,vT),(31,vF)],[(26,.v (.bool y3)),(29,(aAgg Judged.enc y5))],[],[],[],[]⟩)]) ordB3 (fun z=>(c152_ _ (c153_ _ (aI ((aggEq_Judged_eql y5 (Judged.mk false 3 3 0)).trans (congrArg (fun b=>some (Value.bool b)) h6):aggEq Tryd.prog .eql 37 [(.bool y5.OK),(.int .i64 y5.Why),(.int .i64 y5.A_),(.int .i64 y5.B)] [(.bool false),(.int .i64 3),(.int .i64 3),(.int .i64 0)]=some (.bool false)) (aI (rfl:AV.v (.bool false)=AV.v (.bool false)) z))))) (by kernel_rfl)
 obtain ⟨y7,gy7,h⟩:=bindE h
 have c154_:=fun (R:Prop) (z:R)=>(aI ((aggEq_Judged_eql y5 (Judged.mk false 3 3 0)).trans (congrArg (fun b=>some (Value.bool b)) h6):aggEq Tryd.prog .eql 37 [(.bool y5.OK),(.int .i64 y5.Why),(.int .i64 y5.A_),(.int .i64 y5.B)] [(.bool false),(.int .i64 3),(.int .i64 3),(.int .i64 0)]=some (.bool true)) (aI (rfl:AV.v (.bool true)=AV.v (.bool true)) (aI ((axiom_Judge_sim n (Cand.mk ([]:List Cell) ([([(Event.mk 0 0 3 8 0 0 false false 0 0 0 (Deps.mk ([]:List Int) ([]:List Int) ([]:List Int))),(Event.mk 0 1 4 8 0 5 false false 0 0 0 (Deps.mk ([]:List Int) ([]:List Int) ([]:List Int)))]:List Event),([(Event.mk 1 0 2 8 0 7 false false 0 0 0 (Deps.mk ([]:List Int) ([]:List Int) ([]:List Int)))]:List Event)]:List (List Event)) ([(-1),(-1),(-1)]:List Int) ([0,2,1]:List Int)) y7 gy7).le (LeR.cons (LeA.agg (LeR.cons LeA.nil (LeR.cons (LeA.sl (LeRs.cons (LeR.cons (LeA.sl (LeRs.cons (LeR.cons (LeA.refl _) (LeR.cons (LeA.refl _) (LeR.cons (LeA.refl _) (LeR.cons (LeA.refl _) (LeR.cons (LeA.refl _) (LeR.cons (LeA.refl _) (LeR.cons (LeA.refl _) (LeR.cons (LeA.refl _) (LeR.cons (LeA.refl _) (LeR.cons (LeA.refl _) (LeR.cons (LeA.refl _) (LeR.cons LeA.nil (LeR.cons LeA.nil (LeR.cons LeA.nil LeR.nil)))))))))))))) (LeRs.cons (LeR.cons (LeA.refl _) (LeR.cons (LeA.refl _) (LeR.cons (LeA.refl _) (LeR.cons (LeA.refl _) (LeR.cons (LeA.refl _) (LeR.cons (LeA.refl _) (LeR.cons (LeA.refl _) (LeR.cons (LeA.refl _) (LeR.cons (LeA.refl _) (LeR.cons (LeA.refl _) (LeR.cons (LeA.refl _) (LeR.cons LeA.nil (LeR.cons LeA.nil (LeR.cons LeA.nil LeR.nil)))))))))))))) LeRs.nil))) LeR.nil) (LeRs.cons (LeR.cons (LeA.sl (LeRs.cons (LeR.cons (LeA.refl _) (LeR.cons (LeA.refl _) (LeR.cons (LeA.refl _) (LeR.cons (LeA.refl _) (LeR.cons (LeA.refl _) (LeR.cons (LeA.refl _) (LeR.cons (LeA.refl _) (LeR.cons (LeA.refl _) (LeR.cons (LeA.refl _) (LeR.cons (LeA.refl _) (LeR.cons (LeA.refl _) (LeR.cons LeA.nil (LeR.cons LeA.nil (LeR.cons LeA.nil LeR.nil)))))))))))))) LeRs.nil)) LeR.nil) LeRs.nil))) (LeR.cons (LeA.refl _) (LeR.cons (LeA.refl _) LeR.nil))))) LeR.nil)) z)))
 rcases iteN h with ⟨h8,h⟩ | ⟨h8,h⟩
 ·
  obtain rfl:=soI h
  exact kP (nA ord3 [rVC 1 [] [(7,(aAgg Cand.enc y1))],rVC 6 [] [(23,(aAgg Cand.enc y2))],(8,⟨[],[31,37],[],[(27,vT),(31,vT),(37,vF)],[(26,.v (.bool y3)),(29,(aAgg Judged.enc y5)),(35,(aAgg Judged.enc y7))],[],[],[],[]⟩)]) ordB3 (fun z=>(c152_ _ (c153_ _ (c154_ _ (aI ((aggEq_Judged_eql y7 (Judged.mk false 4 0 2)).trans (congrArg (fun b=>some (Value.bool b)) h8):aggEq Tryd.prog .eql 37 [(.bool y7.OK),(.int .i64 y7.Why),(.int .i64 y7.A_),(.int .i64 y7.B)] [(.bool false),(.int .i64 4),(.int .i64 0),(.int .i64 2)]=some (.bool false)) (aI (rfl:AV.v (.bool false)=AV.v (.bool false)) z)))))) (by kernel_rfl)
 obtain ⟨y9,gy9,h⟩:=bindE h
 have c155_:=fun (R:Prop) (z:R)=>(aI ((aggEq_Judged_eql y7 (Judged.mk false 4 0 2)).trans (congrArg (fun b=>some (Value.bool b)) h8):aggEq Tryd.prog .eql 37 [(.bool y7.OK),(.int .i64 y7.Why),(.int .i64 y7.A_),(.int .i64 y7.B)] [(.bool false),(.int .i64 4),(.int .i64 0),(.int .i64 2)]=some (.bool true)) (aI (rfl:AV.v (.bool true)=AV.v (.bool true)) (aI (axiom_Ok_sim n (Cand.mk y2.First y2.Harts y2.From ([0,1,2]:List Int)) y9 gy9) z)))
 rcases iteN h with ⟨h10,h⟩ | ⟨h10,h⟩
 ·
  obtain rfl:=soI h
  exact kP (nA ord3 [rVC 1 [] [(7,(aAgg Cand.enc y1))],rVC 6 [] [(23,(aAgg Cand.enc y2))],(8,⟨[],[31,37],[],[(27,vT),(31,vT),(37,vT),(43,vF)],[(26,.v (.bool y3)),(29,(aAgg Judged.enc y5)),(35,(aAgg Judged.enc y7)),(41,.v (.bool y9))],[],[],[],[]⟩)]) ordB3 (fun z=>(c152_ _ (c153_ _ (c154_ _ (c155_ _ (aB h10 z)))))) (by kernel_rfl)
 obtain ⟨y11,gy11,h⟩:=bindE h
 have c156_:=fun (R:Prop) (z:R)=>(aB h10 (aI ((axiom_Judge_sim n (Cand.mk ([]:List Cell) ([]:List (List Event)) ([]:List Int) ([]:List Int)) y11 gy11).le (LeR.cons (LeA.agg (LeR.cons LeA.nil (LeR.cons LeA.nil (LeR.cons LeA.nil (LeR.cons LeA.nil LeR.nil))))) LeR.nil)) z))
 rcases iteN h with ⟨h12,h⟩ | ⟨h12,h⟩
 ·
  obtain rfl:=soI h
  exact kP (nA ord3 [rVC 1 [] [(7,(aAgg Cand.enc y1))],rVC 6 [] [(23,(aAgg Cand.enc y2))],(8,⟨[],[31,37,47],[],[(27,vT),(31,vT),(37,vT),(43,vT),(47,vF)],[(26,.v (.bool y3)),(29,(aAgg Judged.enc y5)),(35,(aAgg Judged.enc y7)),(41,.v (.bool y9)),(45,(aAgg Judged.enc y11))],[],[],[],[]⟩)]) ordB3 (fun z=>(c152_ _ (c153_ _ (c154_ _ (c155_ _ (c156_ _ (aI ((aggEq_Judged_eql y11 (Judged.mk false 1 (-1) (-1))).trans (congrArg (fun b=>some (Value.bool b)) h12):aggEq Tryd.prog .eql 37 [(.bool y11.OK),(.int .i64 y11.Why),(.int .i64 y11.A_),(.int .i64 y11.B)] [(.bool false),(.int .i64 1),(.int .i64 (-1)),(.int .i64 (-1))]=some (.bool false)) (aI (rfl:AV.v (.bool false)=AV.v (.bool false)) z)))))))) (by kernel_rfl)
 obtain ⟨y13,gy13,h⟩:=bindE h
 have c157_:=fun (R:Prop) (z:R)=>(aI ((aggEq_Judged_eql y11 (Judged.mk false 1 (-1) (-1))).trans (congrArg (fun b=>some (Value.bool b)) h12):aggEq Tryd.prog .eql 37 [(.bool y11.OK),(.int .i64 y11.Why),(.int .i64 y11.A_),(.int .i64 y11.B)] [(.bool false),(.int .i64 1),(.int .i64 (-1)),(.int .i64 (-1))]=some (.bool true)) (aI (rfl:AV.v (.bool true)=AV.v (.bool true)) (aI (axiom_Source_sim n (Cand.mk y1.First y1.Harts y1.From ([0,1,2,3]:List Int)) 3 y13 gy13) z)))
 rcases iteN h with ⟨h14,h⟩ | ⟨h14,h⟩
 ·
  obtain rfl:=soI h
  exact kP (nA ord3 [rVC 1 [] [(7,(aAgg Cand.enc y1))],rVC 6 [] [(23,(aAgg Cand.enc y2))],(8,⟨[],[31,37,47],[],[(27,vT),(31,vT),(37,vT),(43,vT),(47,vT),(54,vF)],[(26,.v (.bool y3)),(29,(aAgg Judged.enc y5)),(35,(aAgg Judged.enc y7)),(41,.v (.bool y9)),(45,(aAgg Judged.enc y11)),(51,(vI y13))],[],[],[],[]⟩)]) ordB3 (fun z=>(c152_ _ (c153_ _ (c154_ _ (c155_ _ (c156_ _ (c157_ _ (aB h14 z)))))))) (by kernel_rfl)
 obtain ⟨y15,gy15,h⟩:=bindE h
 have c158_:=fun (R:Prop) (z:R)=>(aB h14 (aI (axiom_Source_sim n (Cand.mk y1.First y1.Harts y1.From ([0,1,2,3]:List Int)) 0 y15 gy15) z))
 rcases iteN h with ⟨h16,h⟩ | ⟨h16,h⟩
 ·
  obtain rfl:=soI h
  exact kP (nA ord3 [rVC 1 [] [(7,(aAgg Cand.enc y1))],rVC 6 [] [(23,(aAgg Cand.enc y2))],(8,⟨[],[31,37,47],[],[(27,vT),(31,vT),(37,vT),(43,vT),(47,vT),(54,vT),(59,vF)],[(26,.v (.bool y3)),(29,(aAgg Judged.enc y5)),(35,(aAgg Judged.enc y7)),(41,.v (.bool y9)),(45,(aAgg Judged.enc y11)),(51,(vI y13)),(56,(vI y15))],[],[],[],[]⟩)]) ordB3 (fun z=>(c152_ _ (c153_ _ (c154_ _ (c155_ _ (c156_ _ (c157_ _ (c158_ _ (aB h16 z))))))))) (by kernel_rfl)
 obtain ⟨y17,gy17,h⟩:=bindE h
 have c159_:=fun (R:Prop) (z:R)=>(aB h16 (aI (axiom_Source_sim n (Cand.mk y1.First y1.Harts y1.From ([0,1,2,3]:List Int)) 9 y17 gy17) z))
 rcases iteN h with ⟨h18,h⟩ | ⟨h18,h⟩
 ·
  obtain rfl:=soI h
  exact kP (nA ord3 [rVC 1 [] [(7,(aAgg Cand.enc y1))],rVC 6 [] [(23,(aAgg Cand.enc y2))],(8,⟨[],[31,37,47],[],[(27,vT),(31,vT),(37,vT),(43,vT),(47,vT),(54,vT),(59,vT),(64,vF)],[(26,.v (.bool y3)),(29,(aAgg Judged.enc y5)),(35,(aAgg Judged.enc y7)),(41,.v (.bool y9)),(45,(aAgg Judged.enc y11)),(51,(vI y13)),(56,(vI y15)),(61,(vI y17))],[],[],[],[]⟩)]) ordB3 (fun z=>(c152_ _ (c153_ _ (c154_ _ (c155_ _ (c156_ _ (c157_ _ (c158_ _ (c159_ _ (aB h18 z)))))))))) (by kernel_rfl)
 obtain ⟨y19,gy19,h⟩:=bindE h
 have c160_:=fun (R:Prop) (z:R)=>(aB h18 (aI (axiom_Line_sim n (Judged.mk true 0 0 0) y19 gy19) z))
 rcases iteN h with ⟨h20,h⟩ | ⟨h20,h⟩
 ·
  obtain rfl:=soI h
  exact kP (nA ord3 [rVC 1 [] [(7,(aAgg Cand.enc y1))],rVC 6 [] [(23,(aAgg Cand.enc y2))],(8,⟨[],[31,37,47],[],[(27,vT),(31,vT),(37,vT),(43,vT),(47,vT),(54,vT),(59,vT),(64,vT),(69,vF)],[(26,.v (.bool y3)),(29,(aAgg Judged.enc y5)),(35,(aAgg Judged.enc y7)),(41,.v (.bool y9)),(45,(aAgg Judged.enc y11)),(51,(vI y13)),(56,(vI y15)),(61,(vI y17)),(66,.v (.string y19))],[],[],[],[]⟩)]) ordB3 (fun z=>(c152_ _ (c153_ _ (c154_ _ (c155_ _ (c156_ _ (c157_ _ (c158_ _ (c159_ _ (c160_ _ (aB h20 z))))))))))) (by kernel_rfl)
 obtain ⟨y21,gy21,h⟩:=bindE h
 obtain rfl:=soI h
 exact kP (nA ord3 [rVC 1 [] [(7,(aAgg Cand.enc y1))],rVC 6 [] [(23,(aAgg Cand.enc y2))],(8,⟨[],[31,37,47],[],[(27,vT),(31,vT),(37,vT),(43,vT),(47,vT),(54,vT),(59,vT),(64,vT),(69,vT)],[(26,.v (.bool y3)),(29,(aAgg Judged.enc y5)),(35,(aAgg Judged.enc y7)),(41,.v (.bool y9)),(45,(aAgg Judged.enc y11)),(51,(vI y13)),(56,(vI y15)),(61,(vI y17)),(66,.v (.string y19)),(71,.v (.string y21))],[],[],[],[]⟩)]) ordB3 (fun z=>(c152_ _ (c153_ _ (c154_ _ (c155_ _ (c156_ _ (c157_ _ (c158_ _ (c159_ _ (c160_ _ (aB h20 (aI (axiom_Line_sim n (Judged.mk false 9 (-3) 12) y21 gy21) z)))))))))))) (by kernel_rfl)

end
end Go.Proofs.YtomahedcdcnnhaaDoor
