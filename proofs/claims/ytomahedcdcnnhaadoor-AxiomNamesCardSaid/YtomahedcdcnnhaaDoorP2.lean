/- What the functions compute, they compute: printed by a program, path by path. No conditions. -/
import Derived.Test.YtomahedcdcnnhaaDoorP1
import Derived.KernelRfl
namespace Go.Proofs.YtomahedcdcnnhaaDoor
open Go A
set_option linter.unusedVariables false
set_option maxRecDepth 100000
set_option maxHeartbeats 0
section
variable (pc:Nat→List AV→(AV→Prop)→Prop) (sc:Nat→List AV→List Ob→(AV→List Ob→Prop)→Prop) (lp:Pol→Code→St→(Ex→St→Prop)→Prop) (cd:CutP)

def ord14:List (Nat×PT):=[(3,(.go 0 (.go 1 (.go 2 (.go 5 (.go 6 (.alt 3 (.alt 4 (.alt 7 (.alt 8 (ptS [9,10,11,12]) (.alt 9 (ptS [8,10,11,12]) (ptS []))) (.alt 9 (ptS [7,8,10,11,12]) (ptS []))) (.alt 7 (.alt 4 (.alt 8 (ptS [9,10,11,12]) (.alt 9 (ptS [8,10,11,12]) (ptS []))) (.alt 9 (ptS [4,8,10,11,12]) (ptS []))) (.alt 9 (ptS [4,7,8,10,11,12]) (ptS [])))) (.alt 7 (.alt 3 (.alt 4 (.alt 8 (ptS [9,10,11,12]) (.alt 9 (ptS [8,10,11,12]) (ptS []))) (.alt 9 (ptS [4,8,10,11,12]) (ptS []))) (.alt 9 (ptS [3,4,8,10,11,12]) (ptS []))) (.alt 9 (ptS [3,4,7,8,10,11,12]) (ptS [])))))))))),(9,(.go 0 (.go 1 (.go 2 (.go 4 (.go 6 (.go 7 (.go 8 (.go 10 (.go 13 (.go 9 (.go 11 (.go 14 (.alt 3 (.go 12 (.alt 5 (ptS [15,16]) (.alt 15 (ptS [5,16]) (ptS [])))) (.alt 5 (.alt 3 (ptS [12,15,16]) (.alt 12 (.alt 3 (ptS [15,16]) (.alt 15 (ptS [3,16]) (ptS []))) (ptS []))) (.alt 12 (.alt 3 (.alt 5 (ptS [15,16]) (.alt 15 (ptS [5,16]) (ptS []))) (.alt 5 (.alt 3 (ptS [15,16]) (.alt 15 (ptS [3,16]) (ptS []))) (.alt 15 (ptS [3,5,16]) (ptS [])))) (ptS [])))))))))))))))))]
theorem ordB14:ordB (polF 14) ord14 (bodyOf Tryd.prog 14)=true:=by kernel_rfl
noncomputable def Z139:Code:=sub (bodyOf Tryd.prog 14) [1,1,1,0,1,0,0]
theorem Z140:ordB (polF 14) ord14 Z139=true:=by kernel_rfl
def Z141 (oA:(List Cell)) (oB:(List (List Event))) (oC:(List Int)) (oD:(List Int)) (y3:(List Event)) (y4:(List Int)) (sa:(List Int×(List (Option (List Int))))×Int):St:=mkS 60 [(3,.ptr (.O 2) 0 0),(27,.sl (oD.map eI)),(28,(vI (oD.length:Int))),(29,(vI sa.2))] [] [.arr true 4 [[.sl (oA.map Cell.enc),.sl (oB.map (eSl Event.enc)),.sl (oC.map eI),.sl (oD.map eI)]],.own (some (sa.1.1.map (aInt .u64))) 1 (sa.1.2.map (oCl eI)) none,.arr false 4 [[.ptr (.O 0) 0 0,.sl (y3.map Event.enc),.sl (y4.map eI),.mp 1]]] 1
def Z142 (oA:(List Cell)) (oB:(List (List Event))) (oC:(List Int)) (oD:(List Int)) (y3:(List Event)) (y4:(List Int)) (tt:(List Int×(List (Option (List Int))))):St:=mkS 60 [(3,.ptr (.O 2) 0 0)] [] [.arr true 4 [[.sl (oA.map Cell.enc),.sl (oB.map (eSl Event.enc)),.sl (oC.map eI),.sl (oD.map eI)]],.own (some (tt.1.map (aInt .u64))) 1 (tt.2.map (oCl eI)) none,.arr false 4 [[.ptr (.O 0) 0 0,.sl (y3.map Event.enc),.sl (y4.map eI),.mp 1]]] 1
def Z143 (oA:(List Cell)) (oB:(List (List Event))) (oC:(List Int)) (oD:(List Int)) (y3:(List Event)) (y4:(List Int)) (tt:((List Int×(List (Option (List Int)))))):Ex×St:=(.ex 0,Z142 oA oB oC oD y3 y4 tt)
theorem Z144 (n:Nat) (oA:(List Cell)) (oB:(List (List Event))) (oC:(List Int)) (oD:(List Int)) (y3:(List Event)) (y4:(List Int)):∀ sa r,axiom_of_S_L1 n oA oB oC oD y3 y4 sa=some r→CodeD Tryd.prog Z139 (Z141 oA oB oC oD y3 y4 sa) (rk (Z141 oA oB oC oD y3 y4) (Z143 oA oB oC oD y3 y4) r):=by
 intro sa r h
 unfold axiom_of_S_L1 at h
 rcases iteN h with ⟨ha1,h⟩ | ⟨ha1,h⟩
 ·
  exact kQ h (nA ord14 [rV 5 [(30,vF)]]) [wK 2 [3] [] 3] Z140 (rkE rfl neE) (fun z=>(aB ha1 z)) (by kernel_rfl)
 obtain ⟨xa2,gxa2,h⟩:=bindE h
 obtain ⟨xa3,gxa3,h⟩:=bindE h
 obtain ⟨ya4,gya4,h⟩:=bindE h
 have c60_:=fun (R:Prop) (z:R)=>(aB ha1 (aM eI gxa2 (aM Event.enc gxa3 (aI (event_Writes_sim n xa3 ya4 gya4) z))))
 rcases iteN h with ⟨ha5,h⟩ | ⟨ha5,h⟩
 ·
  exact kQ h (nA ord14 [rV 5 [(30,vT)],rR 6 [(31,[(vI xa2)])],rR 7 [(38,(Event.enc xa3))],rVC 8 [(41,vF)] [(41,.v (.bool ya4))]]) [wK 0 [3,27,28,29] [6] 3] Z140 rkN (fun z=>(c60_ _ (aB ha5 z))) (by kernel_rfl)
 rcases matchOE h with ⟨ha6,h⟩ | ⟨za6,ha7,h⟩
 ·
  have d0_:∀ K':Option Nat→Prop,K' none→findK Tryd.prog 28 ((vU xa3.Addr)) (keyEs (sa.1.1.map (aInt .u64))) fun _ r=>K' r:=ownFind_53 sa.1.1 xa3.Addr ha6
  have d1_:∀ K':Option Nat→List AV→Prop,K' none ((sa.1.1++[xa3.Addr]).map (aInt .u64))→findK Tryd.prog 28 ((vU xa3.Addr)) (keyEs (sa.1.1.map (aInt .u64))) fun kv r=>Chk (ckOk Tryd.prog 28 kv) (match r with | some i=>Chk (Instr.sameBits 10000 (((sa.1.1.map (aInt .u64))[i]?.bind toK).getD (.bool false)) kv) (K' (some i) ((sa.1.1.map (aInt .u64)).set i ((vU xa3.Addr)))) | none=>K' none ((sa.1.1.map (aInt .u64))++[(vU xa3.Addr)])):=ownUpdN_53 sa.1.1 xa3.Addr ha6
  have d2_:mkS 60 [(3,.ptr (.O 2) 0 0),(5,(vI xa2)),(6,.ptr (.L 6) 0 0),(27,.sl (oD.map eI)),(28,(vI (oD.length:Int))),(29,(vI sa.2)),(30,vT),(31,.fptr [(vI xa2)] 0),(32,(vI xa2)),(33,.ptr (.O 2) 0 0),(34,.ptr (.O 2) 0 0),(35,.ptr (.O 2) 0 1),(36,.sl (y3.map Event.enc)),(37,(vI xa2)),(38,.fptr (Event.enc xa3) 0),(39,(aAgg Event.enc xa3)),(40,(aAgg Event.enc xa3)),(41,vT),(42,.ptr (.O 2) 0 0),(43,.ptr (.O 2) 0 0),(44,.ptr (.O 2) 0 3),(45,.mp 1),(46,.ptr (.L 6) 0 3),(47,(vU xa3.Addr)),(48,.ptr (.O 2) 0 0),(49,.ptr (.O 2) 0 0),(50,.ptr (.O 2) 0 3),(51,.mp 1),(52,.ptr (.L 6) 0 3),(53,(vU xa3.Addr)),(54,.nilsl),(55,(vI xa2)),(56,.sl [[(vI xa2)]]),(57,.mf 3)] [(6,(Event.enc xa3))] [.arr true 4 [[.sl (oA.map Cell.enc),.sl (oB.map (eSl Event.enc)),.sl (oC.map eI),.sl (oD.map eI)]],.own (some ((sa.1.1++[xa3.Addr]).map (aInt .u64))) 1 ((sa.1.2.map (oCl eI))++[none]) (some ((sa.1.2.map (oCl eI)).length,.mf 3)),.arr false 4 [[.ptr (.O 0) 0 0,.sl (y3.map Event.enc),.sl (y4.map eI),.mp 1]],.arr true 1 (([xa2]:List Int).map eI)] 1=mkS 60 [(3,.ptr (.O 2) 0 0),(5,(vI xa2)),(6,.ptr (.L 6) 0 0),(27,.sl (oD.map eI)),(28,(vI (oD.length:Int))),(29,(vI sa.2)),(30,vT),(31,.fptr [(vI xa2)] 0),(32,(vI xa2)),(33,.ptr (.O 2) 0 0),(34,.ptr (.O 2) 0 0),(35,.ptr (.O 2) 0 1),(36,.sl (y3.map Event.enc)),(37,(vI xa2)),(38,.fptr (Event.enc xa3) 0),(39,(aAgg Event.enc xa3)),(40,(aAgg Event.enc xa3)),(41,vT),(42,.ptr (.O 2) 0 0),(43,.ptr (.O 2) 0 0),(44,.ptr (.O 2) 0 3),(45,.mp 1),(46,.ptr (.L 6) 0 3),(47,(vU xa3.Addr)),(48,.ptr (.O 2) 0 0),(49,.ptr (.O 2) 0 0),(50,.ptr (.O 2) 0 3),(51,.mp 1),(52,.ptr (.L 6) 0 3),(53,(vU xa3.Addr)),(54,.nilsl),(55,(vI xa2)),(56,.sl [[(vI xa2)]]),(57,.mf 3)] [(6,(Event.enc xa3))] [.arr true 4 [[.sl (oA.map Cell.enc),.sl (oB.map (eSl Event.enc)),.sl (oC.map eI),.sl (oD.map eI)]],.own (some ((sa.1.1++[xa3.Addr]).map (aInt .u64))) 1 ((sa.1.2.map (oCl eI))++[none]) (some ((sa.1.2.map (oCl eI)).length,.mf 3)),.arr false 4 [[.ptr (.O 0) 0 0,.sl (y3.map Event.enc),.sl (y4.map eI),.mp 1]],.arr true 1 (([xa2]:List Int).map eI)] 1:=rfl
  exact kQ h (nA ord14 [rV 5 [(30,vT)],rR 6 [(31,[(vI xa2)])],rR 7 [(38,(Event.enc xa3))],rVC 8 [(41,vT)] [(41,.v (.bool ya4))],(9,⟨[],[57],[],[],[],[],[],[],[(54,⟨none,none,[],[]⟩),(1000045,⟨none,none,(sa.1.1++[xa3.Addr]).map (aInt .u64),[]⟩),(2000001,⟨none,none,[],(sa.1.2++[some ([xa2]:List Int)]).map (oCl eI)⟩)]⟩)]) [wK 0 [3,27,28,29] [6] 3] Z140 rkN (fun z=>(c60_ _ (aB ha5 (aI d0_ (aI (rfl:szOk 1 [[(vI xa2)]]=true) (aI (rfl:okRows [[(vI xa2)]]=true) (aI (rfl:Nat.ble (1 * 8) 140737488355328=true) (aI d1_ (aI (rfl:szOk 1 [[(vI xa2)]]=true) (aI (rfl:okRows [[(vI xa2)]]=true) (aI (rfl:Nat.ble (1 * 8) 140737488355328=true) (aI d1_ (aI d2_ (aI d0_ (aI (rfl:szOk 1 [[(vI xa2)]]=true) (aI (rfl:okRows [[(vI xa2)]]=true) (aI (rfl:Nat.ble (1 * 8) 140737488355328=true) (aI d1_ (aI d0_ (aI (rfl:szOk 1 [[(vI xa2)]]=true) (aI (rfl:okRows [[(vI xa2)]]=true) (aI (rfl:Nat.ble (1 * 8) 140737488355328=true) (aI d1_ (aI (rfl:szOk 1 [[(vI xa2)]]=true) (aI (rfl:okRows [[(vI xa2)]]=true) (aI (rfl:Nat.ble (1 * 8) 140737488355328=true) (aI d1_ (aI d2_ (aI d2_ (aI d2_ (aI d0_ (aI (rfl:szOk 1 [[(vI xa2)]]=true) (aI (rfl:okRows [[(vI xa2)]]=true) (aI (rfl:Nat.ble (1 * 8) 140737488355328=true) (aI d1_ (aI (rfl:szOk 1 [[(vI xa2)]]=true) (aI (rfl:okRows [[(vI xa2)]]=true) (aI (rfl:Nat.ble (1 * 8) 140737488355328=true) (aI d1_ (aI d2_ (aI (rfl:szOk 1 [[(vI xa2)]]=true) (aI (rfl:okRows [[(vI xa2)]]=true) (aI (rfl:Nat.ble (1 * 8) 140737488355328=true) (aI d1_ (aI (rfl:szOk 1 [[(vI xa2)]]=true) (aI (rfl:okRows [[(vI xa2)]]=true) (aI (rfl:Nat.ble (1 * 8) 140737488355328=true) (aI d1_ (aI d2_ (aI d2_ (aI (rfl:szOk 1 [[(vI xa2)]]=true) (aI (rfl:okRows [[(vI xa2)]]=true) (aI (rfl:Nat.ble (1 * 8) 140737488355328=true) (aI d1_ (aI d2_ (aI d2_ (aI (oapp_b eI sa.1.2:Nat.blt (sa.1.2.map (oCl eI)).length ((sa.1.2.map (oCl eI))++[none]).length=true) (aI (oapp_s eI sa.1.2 ([xa2]:List Int):((sa.1.2.map (oCl eI))++[none]).set (sa.1.2.map (oCl eI)).length (some (([xa2]:List Int).map eI))=(sa.1.2++[some ([xa2]:List Int)]).map (oCl eI)) z)))))))))))))))))))))))))))))))))))))))))))))))))))))))))) (by kernel_rfl)
 ·
  obtain ⟨xa8,gxa8,h⟩:=bindE h
  rcases matchOE h with ⟨ha9,h⟩ | ⟨za9,ha10,h⟩
  ·
   have d0_:∀ K':Option Nat→Prop,K' (some za6)→findK Tryd.prog 28 ((vU xa3.Addr)) (keyEs (sa.1.1.map (aInt .u64))) fun _ r=>K' r:=ownFind_53 sa.1.1 xa3.Addr ha7
   have d1_:(sa.1.2.map (oCl eI))[za6]?=some none:=oat_n' eI gxa8 ha9
   have d2_:∀ K':Option Nat→List AV→Prop,K' (some za6) (sa.1.1.map (aInt .u64))→findK Tryd.prog 28 ((vU xa3.Addr)) (keyEs (sa.1.1.map (aInt .u64))) fun kv r=>Chk (ckOk Tryd.prog 28 kv) (match r with | some i=>Chk (Instr.sameBits 10000 (((sa.1.1.map (aInt .u64))[i]?.bind toK).getD (.bool false)) kv) (K' (some i) ((sa.1.1.map (aInt .u64)).set i ((vU xa3.Addr)))) | none=>K' none ((sa.1.1.map (aInt .u64))++[(vU xa3.Addr)])):=ownUpdS_53 sa.1.1 xa3.Addr ha7
   have d3_:mkS 60 [(3,.ptr (.O 2) 0 0),(5,(vI xa2)),(6,.ptr (.L 6) 0 0),(27,.sl (oD.map eI)),(28,(vI (oD.length:Int))),(29,(vI sa.2)),(30,vT),(31,.fptr [(vI xa2)] 0),(32,(vI xa2)),(33,.ptr (.O 2) 0 0),(34,.ptr (.O 2) 0 0),(35,.ptr (.O 2) 0 1),(36,.sl (y3.map Event.enc)),(37,(vI xa2)),(38,.fptr (Event.enc xa3) 0),(39,(aAgg Event.enc xa3)),(40,(aAgg Event.enc xa3)),(41,vT),(42,.ptr (.O 2) 0 0),(43,.ptr (.O 2) 0 0),(44,.ptr (.O 2) 0 3),(45,.mp 1),(46,.ptr (.L 6) 0 3),(47,(vU xa3.Addr)),(48,.ptr (.O 2) 0 0),(49,.ptr (.O 2) 0 0),(50,.ptr (.O 2) 0 3),(51,.mp 1),(52,.ptr (.L 6) 0 3),(53,(vU xa3.Addr)),(54,.nilsl),(55,(vI xa2)),(56,.sl [[(vI xa2)]]),(57,.mf 3)] [(6,(Event.enc xa3))] [.arr true 4 [[.sl (oA.map Cell.enc),.sl (oB.map (eSl Event.enc)),.sl (oC.map eI),.sl (oD.map eI)]],.own (some (sa.1.1.map (aInt .u64))) 1 (sa.1.2.map (oCl eI)) (some (za6,.mf 3)),.arr false 4 [[.ptr (.O 0) 0 0,.sl (y3.map Event.enc),.sl (y4.map eI),.mp 1]],.arr true 1 (([xa2]:List Int).map eI)] 1=mkS 60 [(3,.ptr (.O 2) 0 0),(5,(vI xa2)),(6,.ptr (.L 6) 0 0),(27,.sl (oD.map eI)),(28,(vI (oD.length:Int))),(29,(vI sa.2)),(30,vT),(31,.fptr [(vI xa2)] 0),(32,(vI xa2)),(33,.ptr (.O 2) 0 0),(34,.ptr (.O 2) 0 0),(35,.ptr (.O 2) 0 1),(36,.sl (y3.map Event.enc)),(37,(vI xa2)),(38,.fptr (Event.enc xa3) 0),(39,(aAgg Event.enc xa3)),(40,(aAgg Event.enc xa3)),(41,vT),(42,.ptr (.O 2) 0 0),(43,.ptr (.O 2) 0 0),(44,.ptr (.O 2) 0 3),(45,.mp 1),(46,.ptr (.L 6) 0 3),(47,(vU xa3.Addr)),(48,.ptr (.O 2) 0 0),(49,.ptr (.O 2) 0 0),(50,.ptr (.O 2) 0 3),(51,.mp 1),(52,.ptr (.L 6) 0 3),(53,(vU xa3.Addr)),(54,.nilsl),(55,(vI xa2)),(56,.sl [[(vI xa2)]]),(57,.mf 3)] [(6,(Event.enc xa3))] [.arr true 4 [[.sl (oA.map Cell.enc),.sl (oB.map (eSl Event.enc)),.sl (oC.map eI),.sl (oD.map eI)]],.own (some (sa.1.1.map (aInt .u64))) 1 (sa.1.2.map (oCl eI)) (some (za6,.mf 3)),.arr false 4 [[.ptr (.O 0) 0 0,.sl (y3.map Event.enc),.sl (y4.map eI),.mp 1]],.arr true 1 (([xa2]:List Int).map eI)] 1:=rfl
   exact kQ h (nA ord14 [rV 5 [(30,vT)],rR 6 [(31,[(vI xa2)])],rR 7 [(38,(Event.enc xa3))],rVC 8 [(41,vT)] [(41,.v (.bool ya4))],(9,⟨[],[57],[],[],[],[],[],[],[(54,⟨some za6,none,[],[]⟩),(1000045,⟨some za6,none,sa.1.1.map (aInt .u64),[]⟩),(2000001,⟨none,none,[],(sa.1.2.set za6 (some ([xa2]:List Int))).map (oCl eI)⟩)]⟩)]) [wK 0 [3,27,28,29] [6] 3] Z140 rkN (fun z=>(c60_ _ (aB ha5 (aI d0_ (aI d1_ (aI (rfl:szOk 1 [[(vI xa2)]]=true) (aI (rfl:okRows [[(vI xa2)]]=true) (aI (rfl:Nat.ble (1 * 8) 140737488355328=true) (aI d2_ (aI (rfl:holeIs none za6=true) (aI (rfl:szOk 1 [[(vI xa2)]]=true) (aI (rfl:okRows [[(vI xa2)]]=true) (aI (rfl:Nat.ble (1 * 8) 140737488355328=true) (aI d2_ (aI (rfl:holeIs none za6=true) (aI d3_ (aI d0_ (aI d1_ (aI (rfl:szOk 1 [[(vI xa2)]]=true) (aI (rfl:okRows [[(vI xa2)]]=true) (aI (rfl:Nat.ble (1 * 8) 140737488355328=true) (aI d2_ (aI (rfl:holeIs none za6=true) (aI d0_ (aI d1_ (aI (rfl:szOk 1 [[(vI xa2)]]=true) (aI (rfl:okRows [[(vI xa2)]]=true) (aI (rfl:Nat.ble (1 * 8) 140737488355328=true) (aI d2_ (aI (rfl:holeIs none za6=true) (aI (rfl:szOk 1 [[(vI xa2)]]=true) (aI (rfl:okRows [[(vI xa2)]]=true) (aI (rfl:Nat.ble (1 * 8) 140737488355328=true) (aI d2_ (aI (rfl:holeIs none za6=true) (aI d3_ (aI d3_ (aI d3_ (aI d0_ (aI d1_ (aI (rfl:szOk 1 [[(vI xa2)]]=true) (aI (rfl:okRows [[(vI xa2)]]=true) (aI (rfl:Nat.ble (1 * 8) 140737488355328=true) (aI d2_ (aI (rfl:holeIs none za6=true) (aI (rfl:szOk 1 [[(vI xa2)]]=true) (aI (rfl:okRows [[(vI xa2)]]=true) (aI (rfl:Nat.ble (1 * 8) 140737488355328=true) (aI d2_ (aI (rfl:holeIs none za6=true) (aI d3_ (aI (rfl:szOk 1 [[(vI xa2)]]=true) (aI (rfl:okRows [[(vI xa2)]]=true) (aI (rfl:Nat.ble (1 * 8) 140737488355328=true) (aI d2_ (aI (rfl:holeIs none za6=true) (aI (rfl:szOk 1 [[(vI xa2)]]=true) (aI (rfl:okRows [[(vI xa2)]]=true) (aI (rfl:Nat.ble (1 * 8) 140737488355328=true) (aI d2_ (aI (rfl:holeIs none za6=true) (aI d3_ (aI d3_ (aI (rfl:szOk 1 [[(vI xa2)]]=true) (aI (rfl:okRows [[(vI xa2)]]=true) (aI (rfl:Nat.ble (1 * 8) 140737488355328=true) (aI d2_ (aI (rfl:holeIs none za6=true) (aI d3_ (aI d3_ (aI (oblt' eI gxa8:Nat.blt za6 (sa.1.2.map (oCl eI)).length=true) (aI (oset_s eI sa.1.2 _ ([xa2]:List Int):(sa.1.2.map (oCl eI)).set za6 (some (([xa2]:List Int).map eI))=(sa.1.2.set za6 (some ([xa2]:List Int))).map (oCl eI)) z)))))))))))))))))))))))))))))))))))))))))))))))))))))))))))))))))))))))) (by kernel_rfl)
  ·
   obtain ⟨ha11,h⟩:=grdE h
   have d0_:∀ K':Option Nat→Prop,K' (some za6)→findK Tryd.prog 28 ((vU xa3.Addr)) (keyEs (sa.1.1.map (aInt .u64))) fun _ r=>K' r:=ownFind_53 sa.1.1 xa3.Addr ha7
   have d1_:(sa.1.2.map (oCl eI))[za6]?=some (some (za9.map eI)):=oat_s' eI gxa8 ha10
   have d2_:Nat.ble (((za9.map eI).length + 1) * 8) 140737488355328=true:=ble_maps1 ha11
   have d3_:(za9.map eI)++[[(vI xa2)]]=(za9++([xa2]:List Int)).map eI:=app_map eI za9 ([xa2]:List Int)
   have d4_:∀ K':Option Nat→List AV→Prop,K' (some za6) (sa.1.1.map (aInt .u64))→findK Tryd.prog 28 ((vU xa3.Addr)) (keyEs (sa.1.1.map (aInt .u64))) fun kv r=>Chk (ckOk Tryd.prog 28 kv) (match r with | some i=>Chk (Instr.sameBits 10000 (((sa.1.1.map (aInt .u64))[i]?.bind toK).getD (.bool false)) kv) (K' (some i) ((sa.1.1.map (aInt .u64)).set i ((vU xa3.Addr)))) | none=>K' none ((sa.1.1.map (aInt .u64))++[(vU xa3.Addr)])):=ownUpdS_53 sa.1.1 xa3.Addr ha7
   have d5_:mkS 60 [(3,.ptr (.O 2) 0 0),(5,(vI xa2)),(6,.ptr (.L 6) 0 0),(27,.sl (oD.map eI)),(28,(vI (oD.length:Int))),(29,(vI sa.2)),(30,vT),(31,.fptr [(vI xa2)] 0),(32,(vI xa2)),(33,.ptr (.O 2) 0 0),(34,.ptr (.O 2) 0 0),(35,.ptr (.O 2) 0 1),(36,.sl (y3.map Event.enc)),(37,(vI xa2)),(38,.fptr (Event.enc xa3) 0),(39,(aAgg Event.enc xa3)),(40,(aAgg Event.enc xa3)),(41,vT),(42,.ptr (.O 2) 0 0),(43,.ptr (.O 2) 0 0),(44,.ptr (.O 2) 0 3),(45,.mp 1),(46,.ptr (.L 6) 0 3),(47,(vU xa3.Addr)),(48,.ptr (.O 2) 0 0),(49,.ptr (.O 2) 0 0),(50,.ptr (.O 2) 0 3),(51,.mp 1),(52,.ptr (.L 6) 0 3),(53,(vU xa3.Addr)),(54,.bad),(55,(vI xa2)),(56,.sl [[(vI xa2)]]),(57,.mf 3)] [(6,(Event.enc xa3))] [.arr true 4 [[.sl (oA.map Cell.enc),.sl (oB.map (eSl Event.enc)),.sl (oC.map eI),.sl (oD.map eI)]],.own (some (sa.1.1.map (aInt .u64))) 1 (sa.1.2.map (oCl eI)) (some (za6,.mf 3)),.arr false 4 [[.ptr (.O 0) 0 0,.sl (y3.map Event.enc),.sl (y4.map eI),.mp 1]],.arr true 1 ((za9++([xa2]:List Int)).map eI)] 1=mkS 60 [(3,.ptr (.O 2) 0 0),(5,(vI xa2)),(6,.ptr (.L 6) 0 0),(27,.sl (oD.map eI)),(28,(vI (oD.length:Int))),(29,(vI sa.2)),(30,vT),(31,.fptr [(vI xa2)] 0),(32,(vI xa2)),(33,.ptr (.O 2) 0 0),(34,.ptr (.O 2) 0 0),(35,.ptr (.O 2) 0 1),(36,.sl (y3.map Event.enc)),(37,(vI xa2)),(38,.fptr (Event.enc xa3) 0),(39,(aAgg Event.enc xa3)),(40,(aAgg Event.enc xa3)),(41,vT),(42,.ptr (.O 2) 0 0),(43,.ptr (.O 2) 0 0),(44,.ptr (.O 2) 0 3),(45,.mp 1),(46,.ptr (.L 6) 0 3),(47,(vU xa3.Addr)),(48,.ptr (.O 2) 0 0),(49,.ptr (.O 2) 0 0),(50,.ptr (.O 2) 0 3),(51,.mp 1),(52,.ptr (.L 6) 0 3),(53,(vU xa3.Addr)),(54,.bad),(55,(vI xa2)),(56,.sl [[(vI xa2)]]),(57,.mf 3)] [(6,(Event.enc xa3))] [.arr true 4 [[.sl (oA.map Cell.enc),.sl (oB.map (eSl Event.enc)),.sl (oC.map eI),.sl (oD.map eI)]],.own (some (sa.1.1.map (aInt .u64))) 1 (sa.1.2.map (oCl eI)) (some (za6,.mf 3)),.arr false 4 [[.ptr (.O 0) 0 0,.sl (y3.map Event.enc),.sl (y4.map eI),.mp 1]],.arr true 1 ((za9++([xa2]:List Int)).map eI)] 1:=rfl
   exact kQ h (nA ord14 [rV 5 [(30,vT)],rR 6 [(31,[(vI xa2)])],rR 7 [(38,(Event.enc xa3))],rVC 8 [(41,vT)] [(41,.v (.bool ya4))],(9,⟨[],[57],[],[],[],[],[(57,(3,(za9++([xa2]:List Int)).map eI))],[],[(54,⟨some za6,(some (za9.map eI)),[],[]⟩),(1000045,⟨some za6,none,sa.1.1.map (aInt .u64),[]⟩),(2000001,⟨none,none,[],(sa.1.2.set za6 (some (za9++([xa2]:List Int)))).map (oCl eI)⟩)]⟩)]) [wK 0 [3,27,28,29] [6] 3] Z140 rkN (fun z=>(c60_ _ (aB ha5 (aI d0_ (aI d1_ (aI (rfl:szOk 1 [[(vI xa2)]]=true) (aI (rfl:okRows [[(vI xa2)]]=true) (aI d2_ (aI d3_ (aI d4_ (aI ((obeq _):holeIs (some (za6,.bad)) za6=true) (aI (rfl:szOk 1 [[(vI xa2)]]=true) (aI (rfl:okRows [[(vI xa2)]]=true) (aI d2_ (aI d3_ (aI d4_ (aI ((obeq _):holeIs (some (za6,.bad)) za6=true) (aI d5_ (aI d0_ (aI d1_ (aI (rfl:szOk 1 [[(vI xa2)]]=true) (aI (rfl:okRows [[(vI xa2)]]=true) (aI d2_ (aI d3_ (aI d4_ (aI ((obeq _):holeIs (some (za6,.bad)) za6=true) (aI d0_ (aI d1_ (aI (rfl:szOk 1 [[(vI xa2)]]=true) (aI (rfl:okRows [[(vI xa2)]]=true) (aI d2_ (aI d3_ (aI d4_ (aI ((obeq _):holeIs (some (za6,.bad)) za6=true) (aI (rfl:szOk 1 [[(vI xa2)]]=true) (aI (rfl:okRows [[(vI xa2)]]=true) (aI d2_ (aI d3_ (aI d4_ (aI ((obeq _):holeIs (some (za6,.bad)) za6=true) (aI d5_ (aI d5_ (aI d5_ (aI d0_ (aI d1_ (aI (rfl:szOk 1 [[(vI xa2)]]=true) (aI (rfl:okRows [[(vI xa2)]]=true) (aI d2_ (aI d3_ (aI d4_ (aI ((obeq _):holeIs (some (za6,.bad)) za6=true) (aI (rfl:szOk 1 [[(vI xa2)]]=true) (aI (rfl:okRows [[(vI xa2)]]=true) (aI d2_ (aI d3_ (aI d4_ (aI ((obeq _):holeIs (some (za6,.bad)) za6=true) (aI d5_ (aI (rfl:szOk 1 [[(vI xa2)]]=true) (aI (rfl:okRows [[(vI xa2)]]=true) (aI d2_ (aI d3_ (aI d4_ (aI ((obeq _):holeIs (some (za6,.bad)) za6=true) (aI (rfl:szOk 1 [[(vI xa2)]]=true) (aI (rfl:okRows [[(vI xa2)]]=true) (aI d2_ (aI d3_ (aI d4_ (aI ((obeq _):holeIs (some (za6,.bad)) za6=true) (aI d5_ (aI d5_ (aI (rfl:szOk 1 [[(vI xa2)]]=true) (aI (rfl:okRows [[(vI xa2)]]=true) (aI d2_ (aI d3_ (aI d4_ (aI ((obeq _):holeIs (some (za6,.bad)) za6=true) (aI d5_ (aI d5_ (aI (oblt' eI gxa8:Nat.blt za6 (sa.1.2.map (oCl eI)).length=true) (aI (oset_s eI sa.1.2 _ (za9++([xa2]:List Int)):(sa.1.2.map (oCl eI)).set za6 (some ((za9++([xa2]:List Int)).map eI))=(sa.1.2.set za6 (some (za9++([xa2]:List Int)))).map (oCl eI)) z)))))))))))))))))))))))))))))))))))))))))))))))))))))))))))))))))))))))))))))))))) (by kernel_rfl)

def axiom_of_S_R (oA:(List Cell)) (oB:(List (List Event))) (oC:(List Int)) (oD:(List Int)) (y0:(Unit⊕((List (Int×(List Int)))×(List Event)×(List Int)))):AV×List Ob:=match y0 with | .inl y=>(.nilp,[.arr true 4 [[.sl (oA.map Cell.enc),.sl (oB.map (eSl Event.enc)),.sl (oC.map eI),.sl (oD.map eI)]]]) | .inr y=>(.ptr (.O 2) 0 0,[.arr true 4 [[.sl (oA.map Cell.enc),.sl (oB.map (eSl Event.enc)),.sl (oC.map eI),.sl (oD.map eI)]],.mapo true (y.1.map (eKV (aInt .u64) (aSl eI))),.arr false 4 [[.ptr (.O 0) 0 0,.sl (y.2.1.map Event.enc),.sl (y.2.2.map eI),.mp 1]]])
theorem axiom_of_S_sim (n:Nat) (oA:(List Cell)) (oB:(List (List Event))) (oC:(List Int)) (oD:(List Int)) (y:(Unit⊕((List (Int×(List Int)))×(List Event)×(List Int)))) (h:axiom_of_S n oA oB oC oD=some y):SD Tryd.prog 14 [.ptr (.O 0) 0 0] [.arr true 4 [[.sl (oA.map Cell.enc),.sl (oB.map (eSl Event.enc)),.sl (oC.map eI),.sl (oD.map eI)]]] (fun r' o'=>r'=(axiom_of_S_R oA oB oC oD y).1∧o'=(axiom_of_S_R oA oB oC oD y).2):=by
 unfold axiom_of_S at h
 obtain ⟨y1,gy1,h⟩:=bindE h
 have c61_:=fun (R:Prop) (z:R)=>(aI (cand_Check_sim n (Cand.mk oA oB oC oD) y1 gy1) z)
 rcases iteE h with ⟨h2,h⟩ | ⟨h2,h⟩
 ·
  obtain rfl:=soI h
  exact kS (nA ord14 [rVC 1 [(11,vT)] [(10,(vI y1))]]) ordB14 ⟨rfl,rfl⟩ (fun z=>(c61_ _ (aB h2 z))) (by kernel_rfl)
 obtain ⟨y3,gy3,h⟩:=bindE h
 obtain ⟨y4,gy4,h⟩:=bindE h
 obtain ⟨t23,gt23,h⟩:=bindE h
 obtain ⟨h24,h⟩:=grdE h
 obtain rfl:=soI h
 have d0_:pP 25 [.agg [.sl (oA.map Cell.enc),.sl (oB.map (eSl Event.enc)),.sl (oC.map eI),.sl (oD.map eI)]] (eqA (.sl (y3.map Event.enc))):=(cand_All_sim n (Cand.mk oA oB oC oD) y3 gy3)
 have d1_:pP 26 [.agg [.sl (oA.map Cell.enc),.sl (oB.map (eSl Event.enc)),.sl (oC.map eI),.sl (oD.map eI)]] (eqA (.sl (y4.map eI))):=(cand_Places_sim n (Cand.mk oA oB oC oD) y4 gy4)
 have d2_:mkS 60 [(0,.ptr (.O 0) 0 0),(2,.nilp),(3,.ptr (.O 2) 0 0),(7,.ptr (.O 0) 0 0),(8,.ptr (.O 0) 0 0),(9,.agg [.sl (oA.map Cell.enc),.sl (oB.map (eSl Event.enc)),.sl (oC.map eI),.sl (oD.map eI)]),(10,(vI y1)),(11,vF),(12,.ptr (.O 0) 0 0),(13,.ptr (.O 0) 0 0),(14,.ptr (.O 0) 0 0),(15,.agg [.sl (oA.map Cell.enc),.sl (oB.map (eSl Event.enc)),.sl (oC.map eI),.sl (oD.map eI)]),(16,.sl (y3.map Event.enc)),(17,.ptr (.O 0) 0 0),(18,.ptr (.O 0) 0 0),(19,.agg [.sl (oA.map Cell.enc),.sl (oB.map (eSl Event.enc)),.sl (oC.map eI),.sl (oD.map eI)]),(20,.sl (y4.map eI)),(21,.mp 1),(22,.agg [.ptr (.O 0) 0 0,.sl (y3.map Event.enc),.sl (y4.map eI),.mp 1]),(23,.ptr (.O 2) 0 0)] [] [.arr true 4 [[.sl (oA.map Cell.enc),.sl (oB.map (eSl Event.enc)),.sl (oC.map eI),.sl (oD.map eI)]],.own (some (([]:List Int).map (aInt .u64))) 1 (([]:List (Option (List Int))).map (oCl eI)) none,.arr false 4 [[.ptr (.O 0) 0 0,.sl (y3.map Event.enc),.sl (y4.map eI),.mp 1]]] 1=mkS 60 [(0,.ptr (.O 0) 0 0),(2,.nilp),(3,.ptr (.O 2) 0 0),(7,.ptr (.O 0) 0 0),(8,.ptr (.O 0) 0 0),(9,.agg [.sl (oA.map Cell.enc),.sl (oB.map (eSl Event.enc)),.sl (oC.map eI),.sl (oD.map eI)]),(10,(vI y1)),(11,vF),(12,.ptr (.O 0) 0 0),(13,.ptr (.O 0) 0 0),(14,.ptr (.O 0) 0 0),(15,.agg [.sl (oA.map Cell.enc),.sl (oB.map (eSl Event.enc)),.sl (oC.map eI),.sl (oD.map eI)]),(16,.sl (y3.map Event.enc)),(17,.ptr (.O 0) 0 0),(18,.ptr (.O 0) 0 0),(19,.agg [.sl (oA.map Cell.enc),.sl (oB.map (eSl Event.enc)),.sl (oC.map eI),.sl (oD.map eI)]),(20,.sl (y4.map eI)),(21,.mp 1),(22,.agg [.ptr (.O 0) 0 0,.sl (y3.map Event.enc),.sl (y4.map eI),.mp 1]),(23,.ptr (.O 2) 0 0)] [] [.arr true 4 [[.sl (oA.map Cell.enc),.sl (oB.map (eSl Event.enc)),.sl (oC.map eI),.sl (oD.map eI)]],.own (some (([]:List Int).map (aInt .u64))) 1 (([]:List (Option (List Int))).map (oCl eI)) none,.arr false 4 [[.ptr (.O 0) 0 0,.sl (y3.map Event.enc),.sl (y4.map eI),.mp 1]]] 1:=rfl
 exact kS ⟨ord14,[rVC 1 [(11,vF)] [(10,(vI y1))],rVC 3 [] [(16,.sl (y3.map Event.enc)),(20,.sl (y4.map eI))],rV 4 [(28,(vI (oD.length:Int)))],(11,⟨[],[],[],[],[],[],[],[(2000001,(zipM t23.1 t23.2).map (eKV (aInt .u64) (aSl eI)))],[]⟩)],[],[(5,(⟨[3,27,28,29],[],3,[],[],[]⟩,l0,(.ex 0),Z142 oA oB oC oD y3 y4 t23))],[]⟩ ordB14 ⟨rfl,rfl⟩ (fun z=>(c61_ _ (aB h2 (aI d0_ (aI d1_ (aI d1_ (aI d2_ (aI d1_ (aI d2_ (aI d0_ (aI d1_ (aI d1_ (aI d2_ (aI d0_ (aI d1_ (aI d2_ (aI d2_ (aI d0_ (aI d1_ (aI d2_ (aI d0_ (aI d1_ (aI d1_ (aI d2_ (aI d0_ (aI d1_ (aI d2_ (aI d0_ (aI d1_ (aI d2_ (aI d2_ (aI d0_ (aI d1_ (aI d2_ (aL eI oD (aI (okL (pl:=polF 14) (Z141 oA oB oC oD y3 y4) (Z143 oA oB oC oD y3 y4) (Z144 n oA oB oC oD y3 y4) n _ t23 gt23) (aI (ozip eI (aInt .u64) _ _ h24:zipKV (t23.1.map (aInt .u64)) (t23.2.map (oCl eI))=(zipM t23.1 t23.2).map (eKV (aInt .u64) (aSl eI))) z))))))))))))))))))))))))))))))))))))) (by kernel_rfl)

def ord15:List (Nat×PT):=[]
theorem ordB15:ordB (polF 15) ord15 (bodyOf Tryd.prog 15)=true:=by kernel_rfl
theorem axiom_bad_sim (n:Nat) (why:Int) (a:Int) (b:Int) (r:Judged) (h:axiom_bad n why a b=some r):PCall Tryd.prog 15 [(vI why),(vI a),(vI b)] (eqA ((aAgg Judged.enc r))):=by
 unfold axiom_bad at h
 obtain rfl:=soI h
 exact kP (nA ord15 []) ordB15 (fun z=>z) (by kernel_rfl)

noncomputable def Z145:Code:=sub (bodyOf Tryd.prog 38) [1,1,1,1,1,1,0,0,0]
theorem Z146:ordB (polF 38) ord38 Z145=true:=by kernel_rfl
def Z147 (oA:(List Cell)) (oB:(List (List Event))) (oC:(List Int)) (oD:(List Int)) (oE:(List Event)) (sa:(List Int)×Int):St:=mkS 48 [(7,.mf 1),(8,(vI sa.2))] [] [.arr true 7 [[.fptr [.sl (oA.map Cell.enc),.sl (oB.map (eSl Event.enc)),.sl (oC.map eI),.sl (oD.map eI)] 0,.sl (oE.map Event.enc),.nilsl,.nilsl,.nilsl,.nilsl,.nilsl]],.arr true 1 (sa.1.map eI)] 1
def Z148 (oA:(List Cell)) (oB:(List (List Event))) (oC:(List Int)) (oD:(List Int)) (oE:(List Event)) (tt:(List Int)):St:=mkS 48 [(7,.mf 1)] [] [.arr true 7 [[.fptr [.sl (oA.map Cell.enc),.sl (oB.map (eSl Event.enc)),.sl (oC.map eI),.sl (oD.map eI)] 0,.sl (oE.map Event.enc),.nilsl,.nilsl,.nilsl,.nilsl,.nilsl]],.arr true 1 (tt.map eI)] 1
def Z149 (oA:(List Cell)) (oB:(List (List Event))) (oC:(List Int)) (oD:(List Int)) (oE:(List Event)) (tt:((List Int))):Ex×St:=(.ex 0,Z148 oA oB oC oD oE tt)
theorem Z150 (n:Nat) (oA:(List Cell)) (oB:(List (List Event))) (oC:(List Int)) (oD:(List Int)) (oE:(List Event)):∀ sa r,slices_Repeat_int_int_S2_L1 n oA oB oC oD oE sa=some r→CodeD Tryd.prog Z145 (Z147 oA oB oC oD oE sa) (rk (Z147 oA oB oC oD oE) (Z149 oA oB oC oD oE) r):=by
 intro sa r h
 unfold slices_Repeat_int_int_S2_L1 at h
 rcases iteN h with ⟨ha1,h⟩ | ⟨ha1,h⟩
 ·
  exact kQ h (nA ord38 [rV 8 [(36,(vI (sa.1.length:Int))),(37,vF)]]) [wK 2 [7] [] 2] Z146 (rkE rfl neE) (fun z=>(aL eI sa.1 (aB ha1 z))) (by kernel_rfl)
 obtain ⟨ha2,h⟩:=grdE h
 obtain ⟨ha3,h⟩:=grdE h
 obtain ⟨ha4,h⟩:=grdE h
 have d0_:okRows (((sa.1.map eI).drop 0).take ((sa.2).toNat))=true:=(by rw [← List.map_drop,← List.map_take]; exact okM)
 have d1_:Nat.ble ((sa.2).toNat + (sa.1.length - (sa.2).toNat)) (sa.1.map eI).length=true:=(by rw [List.length_map]; exact ha4)
 have d2_:AV.v (.int .i64 ((min (((sa.1.map eI).drop 0).take ((sa.2).toNat)).length (sa.1.length - (sa.2).toNat):Nat):Int))=AV.v (.int .i64 ((min ((sa.1.drop 0).take ((sa.2).toNat)).length (sa.1.length - (sa.2).toNat):Nat):Int)):=(by simp [List.map_take,List.map_drop])
 have d3_:(sa.1.map eI).take ((sa.2).toNat)++((((sa.1.map eI).drop 0).take ((sa.2).toNat)).take (sa.1.length - (sa.2).toNat)++(sa.1.map eI).drop ((sa.2).toNat + min (((sa.1.map eI).drop 0).take ((sa.2).toNat)).length (sa.1.length - (sa.2).toNat)))=(sa.1.take ((sa.2).toNat)++(((sa.1.drop 0).take ((sa.2).toNat)).take (sa.1.length - (sa.2).toNat)++sa.1.drop ((sa.2).toNat + min ((sa.1.drop 0).take ((sa.2).toNat)).length (sa.1.length - (sa.2).toNat)))).map eI:=(by simp [List.map_take,List.map_drop])
 exact kQ h (nA ord38 [rV 8 [(36,(vI (sa.1.length:Int))),(37,vT)],(9,⟨[],[41,44],[],[(41,.msl 1 ((sa.2).toNat) (sa.1.length - (sa.2).toNat) 0),(44,.msl 1 0 ((sa.2).toNat) (sa.1.length - (sa.2).toNat)),(45,.v (.int .i64 ((min ((sa.1.drop 0).take ((sa.2).toNat)).length (sa.1.length - (sa.2).toNat):Nat):Int)))],[],[],[(45,(1,(sa.1.take ((sa.2).toNat)++(((sa.1.drop 0).take ((sa.2).toNat)).take (sa.1.length - (sa.2).toNat)++sa.1.drop ((sa.2).toNat + min ((sa.1.drop 0).take ((sa.2).toNat)).length (sa.1.length - (sa.2).toNat)))).map eI))],[],[]⟩)]) [wK 0 [7,8] [] 2] Z146 rkN (fun z=>(aL eI sa.1 (aB ha1 (aI (cut_hi ha2:(decide ((0:Int)≤sa.2)&&decide (sa.2≤(((sa.1.map eI).length:Nat):Int)))=true) (aI (msl_len2 eI sa.1 _ _ _ _:AV.msl 1 (sa.2).toNat ((sa.1.map eI).length - (sa.2).toNat) 0=AV.msl 1 ((sa.2).toNat) (sa.1.length - (sa.2).toNat) 0) (aI (cut_hi ha3:(decide ((0:Int)≤sa.2)&&decide (sa.2≤(((sa.1.map eI).length:Nat):Int)))=true) (aI (msl_len eI sa.1 _ _ _ _:AV.msl 1 0 ((sa.2).toNat - 0) ((sa.1.map eI).length - (sa.2).toNat)=AV.msl 1 0 ((sa.2).toNat) (sa.1.length - (sa.2).toNat)) (aI d0_ (aI d1_ (aI d2_ (aI d3_ (aI d0_ (aI d1_ (aI d2_ (aI d3_ (aI (rfl:mkS 48 [(7,.mf 1),(8,.v (.int .i64 (addW .i64 sa.2 ((min ((sa.1.drop 0).take ((sa.2).toNat)).length (sa.1.length - (sa.2).toNat):Nat):Int)))),(34,(vI sa.2)),(35,.mf 1),(36,(vI (sa.1.length:Int))),(37,vT),(38,(vI sa.2)),(39,.mf 1),(40,(vI sa.2)),(41,.msl 1 ((sa.2).toNat) (sa.1.length - (sa.2).toNat) 0),(42,.mf 1),(43,(vI sa.2)),(44,.msl 1 0 ((sa.2).toNat) (sa.1.length - (sa.2).toNat)),(45,.v (.int .i64 ((min ((sa.1.drop 0).take ((sa.2).toNat)).length (sa.1.length - (sa.2).toNat):Nat):Int))),(46,.v (.int .i64 (addW .i64 sa.2 ((min ((sa.1.drop 0).take ((sa.2).toNat)).length (sa.1.length - (sa.2).toNat):Nat):Int))))] [] [.arr true 7 [[.fptr [.sl (oA.map Cell.enc),.sl (oB.map (eSl Event.enc)),.sl (oC.map eI),.sl (oD.map eI)] 0,.sl (oE.map Event.enc),.nilsl,.nilsl,.nilsl,.nilsl,.nilsl]],.arr true 1 ((sa.1.take ((sa.2).toNat)++(((sa.1.drop 0).take ((sa.2).toNat)).take (sa.1.length - (sa.2).toNat)++sa.1.drop ((sa.2).toNat + min ((sa.1.drop 0).take ((sa.2).toNat)).length (sa.1.length - (sa.2).toNat)))).map eI)] 1=mkS 48 [(7,.mf 1),(8,.v (.int .i64 (addW .i64 sa.2 ((min ((sa.1.drop 0).take ((sa.2).toNat)).length (sa.1.length - (sa.2).toNat):Nat):Int)))),(34,(vI sa.2)),(35,.mf 1),(36,(vI (sa.1.length:Int))),(37,vT),(38,(vI sa.2)),(39,.mf 1),(40,(vI sa.2)),(41,.msl 1 ((sa.2).toNat) (sa.1.length - (sa.2).toNat) 0),(42,.mf 1),(43,(vI sa.2)),(44,.msl 1 0 ((sa.2).toNat) (sa.1.length - (sa.2).toNat)),(45,.v (.int .i64 ((min ((sa.1.drop 0).take ((sa.2).toNat)).length (sa.1.length - (sa.2).toNat):Nat):Int))),(46,.v (.int .i64 (addW .i64 sa.2 ((min ((sa.1.drop 0).take ((sa.2).toNat)).length (sa.1.length - (sa.2).toNat):Nat):Int))))] [] [.arr true 7 [[.fptr [.sl (oA.map Cell.enc),.sl (oB.map (eSl Event.enc)),.sl (oC.map eI),.sl (oD.map eI)] 0,.sl (oE.map Event.enc),.nilsl,.nilsl,.nilsl,.nilsl,.nilsl]],.arr true 1 ((sa.1.take ((sa.2).toNat)++(((sa.1.drop 0).take ((sa.2).toNat)).take (sa.1.length - (sa.2).toNat)++sa.1.drop ((sa.2).toNat + min ((sa.1.drop 0).take ((sa.2).toNat)).length (sa.1.length - (sa.2).toNat)))).map eI)] 1) z)))))))))))))))) (by kernel_rfl)

def slices_Repeat_int_int_S2_R (x:(List Int)) (count:Int) (oA:(List Cell)) (oB:(List (List Event))) (oC:(List Int)) (oD:(List Int)) (oE:(List Event)) (y:(List Int)):AV×List Ob:=(.mf 1,[.arr true 7 [[.fptr [.sl (oA.map Cell.enc),.sl (oB.map (eSl Event.enc)),.sl (oC.map eI),.sl (oD.map eI)] 0,.sl (oE.map Event.enc),.nilsl,.nilsl,.nilsl,.nilsl,.nilsl]],.arr true 1 (y.map eI)])
theorem slices_Repeat_int_int_S2_sim (n:Nat) (x:(List Int)) (count:Int) (oA:(List Cell)) (oB:(List (List Event))) (oC:(List Int)) (oD:(List Int)) (oE:(List Event)) (y:(List Int)) (h:slices_Repeat_int_int_S2 n x count oA oB oC oD oE=some y):SD Tryd.prog 38 [.sl (x.map eI),(vI count)] [.arr true 7 [[.fptr [.sl (oA.map Cell.enc),.sl (oB.map (eSl Event.enc)),.sl (oC.map eI),.sl (oD.map eI)] 0,.sl (oE.map Event.enc),.nilsl,.nilsl,.nilsl,.nilsl,.nilsl]]] (fun r' o'=>r'=(slices_Repeat_int_int_S2_R x count oA oB oC oD oE y).1∧o'=(slices_Repeat_int_int_S2_R x count oA oB oC oD oE y).2):=by
 unfold slices_Repeat_int_int_S2 at h
 rcases iteE h with ⟨h1,h⟩ | ⟨h1,h⟩
 ·
  cases h
 obtain ⟨y2,gy2,h⟩:=bindE h
 have c62_:=fun (R:Prop) (z:R)=>(aB h1 (aL eI x (aI (math_bits_Mul_sim n (IntKind.wrap .u64 (x.length:Int)) (IntKind.wrap .u64 count) y2 gy2) z)))
 rcases iteE h with ⟨h3,h⟩ | ⟨h3,h⟩
 ·
  cases h
 rcases iteE h with ⟨h4,h⟩ | ⟨h4,h⟩
 ·
  cases h
 obtain ⟨h5,h⟩:=grdE h
 obtain ⟨t6,gt6,h⟩:=bindE h
 obtain rfl:=soI h
 exact kS ⟨ord38,[rV 1 [(10,vF)],rVC 3 [(14,(vI (x.length:Int)))] [(18,.tup [(vU y2.1),(vU y2.2)])],rV 4 [(23,vF),(26,vF)],(6,⟨[],[30],[],[],[],[],[(30,(1,(List.replicate ((IntKind.wrap .i64 y2.2)).toNat 0).map eI))],[],[]⟩),(7,⟨[],[],[],[(33,.v (.int .i64 ((min x.length (List.replicate ((IntKind.wrap .i64 y2.2)).toNat 0).length:Nat):Int)))],[],[],[(33,(1,(x.take (List.replicate ((IntKind.wrap .i64 y2.2)).toNat 0).length++(List.replicate ((IntKind.wrap .i64 y2.2)).toNat 0).drop x.length).map eI))],[],[]⟩)],[],[(8,(⟨[7,8],[],2,[],[],[]⟩,l0,(.ex 0),Z148 oA oB oC oD oE t6))],[]⟩ ordB38 ⟨rfl,rfl⟩ (fun z=>(c62_ _ (aB h3 (aB h4 (aI h5 (aI (rep_map eI _ 0:List.replicate ((IntKind.wrap .i64 y2.2)).toNat [(vI 0)]=(List.replicate ((IntKind.wrap .i64 y2.2)).toNat 0).map eI) (aI (szM:szOk 1 (x.map eI)=true) (aI (okM:okRows (x.map eI)=true) (aI ((by simp [List.map_take,List.map_drop]):AV.v (.int .i64 ((min (x.map eI).length ((List.replicate ((IntKind.wrap .i64 y2.2)).toNat 0).map eI).length:Nat):Int))=AV.v (.int .i64 ((min x.length (List.replicate ((IntKind.wrap .i64 y2.2)).toNat 0).length:Nat):Int))) (aI ((by simp [List.map_take,List.map_drop]):(x.map eI).take ((List.replicate ((IntKind.wrap .i64 y2.2)).toNat 0).map eI).length++((List.replicate ((IntKind.wrap .i64 y2.2)).toNat 0).map eI).drop (x.map eI).length=(x.take (List.replicate ((IntKind.wrap .i64 y2.2)).toNat 0).length++(List.replicate ((IntKind.wrap .i64 y2.2)).toNat 0).drop x.length).map eI) (aI (okL (pl:=polF 38) (Z147 oA oB oC oD oE) (Z149 oA oB oC oD oE) (Z150 n oA oB oC oD oE) n _ t6 gt6) z))))))))))) (by kernel_rfl)

def ord39:List (Nat×PT):=[(9,(ptS [0,1,2,3,4,5,6,7,8])),(17,(ptS [0,1,2,3,4,5,6,7,8,9,10,11,12,13,14,15,16,17,18])),(25,(ptS [0,1,2,3,4,5,6,7,8,9,10,11,12,13,14,15]))]
theorem ordB39:ordB (polF 39) ord39 (bodyOf Tryd.prog 39)=true:=by kernel_rfl
noncomputable def Z151:Code:=sub (bodyOf Tryd.prog 39) [1,1,1,1,1,1,0,1,0,0]
noncomputable def Z152:Code:=sub Z151 [1,1,0,0,1,0,1,0,0]
noncomputable def Z153:Code:=sub Z151 [1,1,0,0,1,1,1,0,0]
noncomputable def Z154:Code:=sub (bodyOf Tryd.prog 39) [1,1,1,1,1,0,1,0,0]
theorem Z155:ordB (polF 39) ord39 Z154=true:=by kernel_rfl
theorem Z156:ordB (polF 39) ord39 Z152=true:=by kernel_rfl
def Z157 (c:Cand) (y3:(List Event)) (xa2:Event) (sb:(List Int)×(List Int)×(List Int)×(List Int)×(List Int)×Int×Int×Int):St:=mkS 146 [(3,.ptr (.O 0) 0 0),(6,(vI sb.2.2.2.2.2.2.2)),(7,.ptr (.L 7) 0 0),(52,.sl (y3.map Event.enc)),(53,(vI (y3.length:Int))),(54,(vI sb.2.2.2.2.2.1)),(59,(vI sb.2.2.2.2.2.2.1))] [(7,(Event.enc xa2))] [.arr false 7 [[.fptr (Cand.enc c) 0,.sl (y3.map Event.enc),.mf 2,.mf 3,.mf 4,.mf 5,.mf 1]],.arr true 1 (sb.1.map eI),.arr true 1 (sb.2.1.map eI),.arr true 1 (sb.2.2.1.map eI),.arr true 1 (sb.2.2.2.1.map eI),.arr true 1 (sb.2.2.2.2.1.map eI)] 0
def Z158 (c:Cand) (y3:(List Event)) (xa2:Event) (tt:(List Int)×(List Int)×(List Int)×(List Int)×(List Int)×Int×Int):St:=mkS 146 [(3,.ptr (.O 0) 0 0),(6,(vI tt.2.2.2.2.2.2)),(7,.ptr (.L 7) 0 0),(52,.sl (y3.map Event.enc)),(53,(vI (y3.length:Int))),(54,(vI tt.2.2.2.2.2.1))] [(7,(Event.enc xa2))] [.arr false 7 [[.fptr (Cand.enc c) 0,.sl (y3.map Event.enc),.mf 2,.mf 3,.mf 4,.mf 5,.mf 1]],.arr true 1 (tt.1.map eI),.arr true 1 (tt.2.1.map eI),.arr true 1 (tt.2.2.1.map eI),.arr true 1 (tt.2.2.2.1.map eI),.arr true 1 (tt.2.2.2.2.1.map eI)] 0
def Z159 (c:Cand) (y3:(List Event)) (xa2:Event) (tt:((List Int)×(List Int)×(List Int)×(List Int)×(List Int)×Int×Int)):Ex×St:=(.ex 4,Z158 c y3 xa2 tt)
theorem Z160 (n:Nat) (c:Cand) (y3:(List Event)) (xa2:Event):∀ sb r,ppo_of_L2 n c y3 xa2 sb=some r→CodeD Tryd.prog Z152 (Z157 c y3 xa2 sb) (rk (Z157 c y3 xa2) (Z159 c y3 xa2) r):=by
 intro sb r h
 unfold ppo_of_L2 at h
 rcases iteN h with ⟨hb1,h⟩ | ⟨hb1,h⟩
 ·
  exact kQ h (nA ord39 [rV 15 [(60,vF)]]) [wK 6 [3,6,7,52,53,54] [] 6] Z156 (rkE rfl neE) (fun z=>(aB hb1 z)) (by kernel_rfl)
 rcases iteE h with ⟨hb2,h⟩ | ⟨hb2,h⟩
 ·
  obtain ⟨xb3,gxb3,h⟩:=bindE h
  obtain ⟨xb4,gxb4,h⟩:=bindE h
  have d0_:AV.v (.int .i64 sb.2.2.2.2.2.2.1)=AV.v (.int .i64 0):=eqI hb2
  have c63_:=fun (R:Prop) (z:R)=>(aB hb1 (aI d0_ (aI d0_ (aM eI gxb3 (aN eI gxb3 (aM eI gxb4 (aN eI gxb4 (aI (set_map eI sb.2.1 (((addW .i64 sb.2.2.2.2.2.2.2 1)).toNat) xb3) z))))))))
  rcases iteN h with ⟨hb5,h⟩ | ⟨hb5,h⟩
  ·
   exact kQ h (nA ord39 [rV 15 [(60,vT)],(17,⟨[],[],[(77,[(vI xb3)]),(78,[(vI xb3)]),(79,[(vI xb4)]),(1000079,[(vI xb4)])],[(63,(vI 0)),(71,(vI 0))],[],[],[(1000079,(2,(sb.2.1.set ((addW .i64 sb.2.2.2.2.2.2.2 1)).toNat xb3).map eI))],[],[]⟩),rV 18 [(83,vF)]]) [wK 0 [3,6,7,52,53,54,59] [] 6] Z156 rkN (fun z=>(c63_ _ (aB hb5 z))) (by kernel_rfl)
  obtain ⟨hb6,h⟩:=grdE h
  rcases iteN h with ⟨hb7,h⟩ | ⟨hb7,h⟩
  ·
   exact kQ h (nA ord39 [rV 15 [(60,vT)],(17,⟨[],[],[(77,[(vI xb3)]),(78,[(vI xb3)]),(79,[(vI xb4)]),(1000079,[(vI xb4)])],[(63,(vI 0)),(71,(vI 0))],[],[],[(1000079,(2,(sb.2.1.set ((addW .i64 sb.2.2.2.2.2.2.2 1)).toNat xb3).map eI))],[],[]⟩),(18,⟨[],[88],[],[(83,vT),(92,vF)],[],[],[],[],[]⟩)]) [wK 0 [3,6,7,52,53,54,59] [] 6] Z156 rkN (fun z=>(c63_ _ (aB hb5 (aI hb6 (aB hb7 z))))) (by kernel_rfl)
  obtain ⟨hb8,h⟩:=grdE h
  have c64_:=fun (R:Prop) (z:R)=>(aB hb5 (aI hb6 (aB hb7 (aI hb8 z))))
  rcases iteN h with ⟨hb9,h⟩ | ⟨hb9,h⟩
  ·
   exact kQ h (nA ord39 [rV 15 [(60,vT)],(17,⟨[],[],[(77,[(vI xb3)]),(78,[(vI xb3)]),(79,[(vI xb4)]),(1000079,[(vI xb4)])],[(63,(vI 0)),(71,(vI 0))],[],[],[(1000079,(2,(sb.2.1.set ((addW .i64 sb.2.2.2.2.2.2.2 1)).toNat xb3).map eI))],[],[]⟩),(18,⟨[],[88,97],[],[(83,vT),(92,vT),(100,vF)],[],[],[],[],[]⟩)]) [wK 0 [3,6,7,52,53,54,59] [] 6] Z156 rkN (fun z=>(c63_ _ (c64_ _ (aB hb9 z)))) (by kernel_rfl)
  obtain ⟨xb10,gxb10,h⟩:=bindE h
  have d0_:at? ((sb.2.1.set ((addW .i64 sb.2.2.2.2.2.2.2 1)).toNat xb3).map eI) (addW .i64 sb.2.2.2.2.2.2.2 1)=some [(vI xb10)]:=at_map eI gxb10
  have d1_:((sb.2.1.set ((addW .i64 sb.2.2.2.2.2.2.2 1)).toNat xb3).map eI)[((addW .i64 sb.2.2.2.2.2.2.2 1)).toNat]?=some [(vI xb10)]:=at_map' eI gxb10
  exact kQ h (nA ord39 [rV 15 [(60,vT)],(17,⟨[],[],[(77,[(vI xb3)]),(78,[(vI xb3)]),(79,[(vI xb4)]),(1000079,[(vI xb4)])],[(63,(vI 0)),(71,(vI 0))],[],[],[(1000079,(2,(sb.2.1.set ((addW .i64 sb.2.2.2.2.2.2.2 1)).toNat xb3).map eI))],[],[]⟩),(18,⟨[],[88,97],[],[(83,vT),(92,vT),(100,vT)],[],[],[],[],[]⟩),(19,⟨[],[],[(109,[(vI xb10)]),(110,[(vI xb10)]),(112,[(vI xb10)]),(1000112,[(vI xb10)])],[(102,(vI 0))],[],[],[(1000112,(2,((sb.2.1.set ((addW .i64 sb.2.2.2.2.2.2.2 1)).toNat xb3).set ((addW .i64 sb.2.2.2.2.2.2.2 1)).toNat (addW .i64 xb10 1)).map eI))],[],[]⟩)]) [wK 0 [3,6,7,52,53,54,59] [] 6] Z156 rkN (fun z=>(c63_ _ (c64_ _ (aB hb9 (aE .i64 hb2 (aI d0_ (aI d1_ (aI d0_ (aI d1_ (aI (set_map eI (sb.2.1.set ((addW .i64 sb.2.2.2.2.2.2.2 1)).toNat xb3) (((addW .i64 sb.2.2.2.2.2.2.2 1)).toNat) (addW .i64 xb10 1)) z)))))))))) (by kernel_rfl)
 rcases iteE h with ⟨hb2,h⟩ | ⟨hb2,h⟩
 ·
  obtain ⟨xb3,gxb3,h⟩:=bindE h
  obtain ⟨xb4,gxb4,h⟩:=bindE h
  have d0_:AV.v (.int .i64 sb.2.2.2.2.2.2.1)=AV.v (.int .i64 1):=eqI hb2
  have c65_:=fun (R:Prop) (z:R)=>(aB hb1 (aI d0_ (aI d0_ (aM eI gxb3 (aN eI gxb3 (aM eI gxb4 (aN eI gxb4 (aI (set_map eI sb.2.2.1 (((addW .i64 sb.2.2.2.2.2.2.2 1)).toNat) xb3) z))))))))
  rcases iteN h with ⟨hb5,h⟩ | ⟨hb5,h⟩
  ·
   exact kQ h (nA ord39 [rV 15 [(60,vT)],(17,⟨[],[],[(77,[(vI xb3)]),(78,[(vI xb3)]),(79,[(vI xb4)]),(1000079,[(vI xb4)])],[(63,(vI 1)),(71,(vI 1))],[],[],[(1000079,(3,(sb.2.2.1.set ((addW .i64 sb.2.2.2.2.2.2.2 1)).toNat xb3).map eI))],[],[]⟩),rV 18 [(83,vF)]]) [wK 0 [3,6,7,52,53,54,59] [] 6] Z156 rkN (fun z=>(c65_ _ (aB hb5 z))) (by kernel_rfl)
  obtain ⟨hb6,h⟩:=grdE h
  rcases iteN h with ⟨hb7,h⟩ | ⟨hb7,h⟩
  ·
   exact kQ h (nA ord39 [rV 15 [(60,vT)],(17,⟨[],[],[(77,[(vI xb3)]),(78,[(vI xb3)]),(79,[(vI xb4)]),(1000079,[(vI xb4)])],[(63,(vI 1)),(71,(vI 1))],[],[],[(1000079,(3,(sb.2.2.1.set ((addW .i64 sb.2.2.2.2.2.2.2 1)).toNat xb3).map eI))],[],[]⟩),(18,⟨[],[88],[],[(83,vT),(92,vF)],[],[],[],[],[]⟩)]) [wK 0 [3,6,7,52,53,54,59] [] 6] Z156 rkN (fun z=>(c65_ _ (aB hb5 (aI hb6 (aB hb7 z))))) (by kernel_rfl)
  obtain ⟨hb8,h⟩:=grdE h
  have c66_:=fun (R:Prop) (z:R)=>(aB hb5 (aI hb6 (aB hb7 (aI hb8 z))))
  rcases iteN h with ⟨hb9,h⟩ | ⟨hb9,h⟩
  ·
   exact kQ h (nA ord39 [rV 15 [(60,vT)],(17,⟨[],[],[(77,[(vI xb3)]),(78,[(vI xb3)]),(79,[(vI xb4)]),(1000079,[(vI xb4)])],[(63,(vI 1)),(71,(vI 1))],[],[],[(1000079,(3,(sb.2.2.1.set ((addW .i64 sb.2.2.2.2.2.2.2 1)).toNat xb3).map eI))],[],[]⟩),(18,⟨[],[88,97],[],[(83,vT),(92,vT),(100,vF)],[],[],[],[],[]⟩)]) [wK 0 [3,6,7,52,53,54,59] [] 6] Z156 rkN (fun z=>(c65_ _ (c66_ _ (aB hb9 z)))) (by kernel_rfl)
  obtain ⟨xb10,gxb10,h⟩:=bindE h
  have d0_:at? ((sb.2.2.1.set ((addW .i64 sb.2.2.2.2.2.2.2 1)).toNat xb3).map eI) (addW .i64 sb.2.2.2.2.2.2.2 1)=some [(vI xb10)]:=at_map eI gxb10
  have d1_:((sb.2.2.1.set ((addW .i64 sb.2.2.2.2.2.2.2 1)).toNat xb3).map eI)[((addW .i64 sb.2.2.2.2.2.2.2 1)).toNat]?=some [(vI xb10)]:=at_map' eI gxb10
  exact kQ h (nA ord39 [rV 15 [(60,vT)],(17,⟨[],[],[(77,[(vI xb3)]),(78,[(vI xb3)]),(79,[(vI xb4)]),(1000079,[(vI xb4)])],[(63,(vI 1)),(71,(vI 1))],[],[],[(1000079,(3,(sb.2.2.1.set ((addW .i64 sb.2.2.2.2.2.2.2 1)).toNat xb3).map eI))],[],[]⟩),(18,⟨[],[88,97],[],[(83,vT),(92,vT),(100,vT)],[],[],[],[],[]⟩),(19,⟨[],[],[(109,[(vI xb10)]),(110,[(vI xb10)]),(112,[(vI xb10)]),(1000112,[(vI xb10)])],[(102,(vI 1))],[],[],[(1000112,(3,((sb.2.2.1.set ((addW .i64 sb.2.2.2.2.2.2.2 1)).toNat xb3).set ((addW .i64 sb.2.2.2.2.2.2.2 1)).toNat (addW .i64 xb10 1)).map eI))],[],[]⟩)]) [wK 0 [3,6,7,52,53,54,59] [] 6] Z156 rkN (fun z=>(c65_ _ (c66_ _ (aB hb9 (aE .i64 hb2 (aI d0_ (aI d1_ (aI d0_ (aI d1_ (aI (set_map eI (sb.2.2.1.set ((addW .i64 sb.2.2.2.2.2.2.2 1)).toNat xb3) (((addW .i64 sb.2.2.2.2.2.2.2 1)).toNat) (addW .i64 xb10 1)) z)))))))))) (by kernel_rfl)
 rcases iteE h with ⟨hb2,h⟩ | ⟨hb2,h⟩
 ·
  obtain ⟨xb3,gxb3,h⟩:=bindE h
  obtain ⟨xb4,gxb4,h⟩:=bindE h
  have d0_:AV.v (.int .i64 sb.2.2.2.2.2.2.1)=AV.v (.int .i64 2):=eqI hb2
  have c67_:=fun (R:Prop) (z:R)=>(aB hb1 (aI d0_ (aI d0_ (aM eI gxb3 (aN eI gxb3 (aM eI gxb4 (aN eI gxb4 (aI (set_map eI sb.2.2.2.1 (((addW .i64 sb.2.2.2.2.2.2.2 1)).toNat) xb3) z))))))))
  rcases iteN h with ⟨hb5,h⟩ | ⟨hb5,h⟩
  ·
   exact kQ h (nA ord39 [rV 15 [(60,vT)],(17,⟨[],[],[(77,[(vI xb3)]),(78,[(vI xb3)]),(79,[(vI xb4)]),(1000079,[(vI xb4)])],[(63,(vI 2)),(71,(vI 2))],[],[],[(1000079,(4,(sb.2.2.2.1.set ((addW .i64 sb.2.2.2.2.2.2.2 1)).toNat xb3).map eI))],[],[]⟩),rV 18 [(83,vF)]]) [wK 0 [3,6,7,52,53,54,59] [] 6] Z156 rkN (fun z=>(c67_ _ (aB hb5 z))) (by kernel_rfl)
  obtain ⟨hb6,h⟩:=grdE h
  rcases iteN h with ⟨hb7,h⟩ | ⟨hb7,h⟩
  ·
   exact kQ h (nA ord39 [rV 15 [(60,vT)],(17,⟨[],[],[(77,[(vI xb3)]),(78,[(vI xb3)]),(79,[(vI xb4)]),(1000079,[(vI xb4)])],[(63,(vI 2)),(71,(vI 2))],[],[],[(1000079,(4,(sb.2.2.2.1.set ((addW .i64 sb.2.2.2.2.2.2.2 1)).toNat xb3).map eI))],[],[]⟩),(18,⟨[],[88],[],[(83,vT),(92,vF)],[],[],[],[],[]⟩)]) [wK 0 [3,6,7,52,53,54,59] [] 6] Z156 rkN (fun z=>(c67_ _ (aB hb5 (aI hb6 (aB hb7 z))))) (by kernel_rfl)
  obtain ⟨hb8,h⟩:=grdE h
  have c68_:=fun (R:Prop) (z:R)=>(aB hb5 (aI hb6 (aB hb7 (aI hb8 z))))
  rcases iteN h with ⟨hb9,h⟩ | ⟨hb9,h⟩
  ·
   exact kQ h (nA ord39 [rV 15 [(60,vT)],(17,⟨[],[],[(77,[(vI xb3)]),(78,[(vI xb3)]),(79,[(vI xb4)]),(1000079,[(vI xb4)])],[(63,(vI 2)),(71,(vI 2))],[],[],[(1000079,(4,(sb.2.2.2.1.set ((addW .i64 sb.2.2.2.2.2.2.2 1)).toNat xb3).map eI))],[],[]⟩),(18,⟨[],[88,97],[],[(83,vT),(92,vT),(100,vF)],[],[],[],[],[]⟩)]) [wK 0 [3,6,7,52,53,54,59] [] 6] Z156 rkN (fun z=>(c67_ _ (c68_ _ (aB hb9 z)))) (by kernel_rfl)
  obtain ⟨xb10,gxb10,h⟩:=bindE h
  have d0_:at? ((sb.2.2.2.1.set ((addW .i64 sb.2.2.2.2.2.2.2 1)).toNat xb3).map eI) (addW .i64 sb.2.2.2.2.2.2.2 1)=some [(vI xb10)]:=at_map eI gxb10
  have d1_:((sb.2.2.2.1.set ((addW .i64 sb.2.2.2.2.2.2.2 1)).toNat xb3).map eI)[((addW .i64 sb.2.2.2.2.2.2.2 1)).toNat]?=some [(vI xb10)]:=at_map' eI gxb10
  exact kQ h (nA ord39 [rV 15 [(60,vT)],(17,⟨[],[],[(77,[(vI xb3)]),(78,[(vI xb3)]),(79,[(vI xb4)]),(1000079,[(vI xb4)])],[(63,(vI 2)),(71,(vI 2))],[],[],[(1000079,(4,(sb.2.2.2.1.set ((addW .i64 sb.2.2.2.2.2.2.2 1)).toNat xb3).map eI))],[],[]⟩),(18,⟨[],[88,97],[],[(83,vT),(92,vT),(100,vT)],[],[],[],[],[]⟩),(19,⟨[],[],[(109,[(vI xb10)]),(110,[(vI xb10)]),(112,[(vI xb10)]),(1000112,[(vI xb10)])],[(102,(vI 2))],[],[],[(1000112,(4,((sb.2.2.2.1.set ((addW .i64 sb.2.2.2.2.2.2.2 1)).toNat xb3).set ((addW .i64 sb.2.2.2.2.2.2.2 1)).toNat (addW .i64 xb10 1)).map eI))],[],[]⟩)]) [wK 0 [3,6,7,52,53,54,59] [] 6] Z156 rkN (fun z=>(c67_ _ (c68_ _ (aB hb9 (aE .i64 hb2 (aI d0_ (aI d1_ (aI d0_ (aI d1_ (aI (set_map eI (sb.2.2.2.1.set ((addW .i64 sb.2.2.2.2.2.2.2 1)).toNat xb3) (((addW .i64 sb.2.2.2.2.2.2.2 1)).toNat) (addW .i64 xb10 1)) z)))))))))) (by kernel_rfl)
 rcases iteE h with ⟨hb2,h⟩ | ⟨hb2,h⟩
 ·
  obtain ⟨xb3,gxb3,h⟩:=bindE h
  obtain ⟨xb4,gxb4,h⟩:=bindE h
  have d0_:AV.v (.int .i64 sb.2.2.2.2.2.2.1)=AV.v (.int .i64 3):=eqI hb2
  have c69_:=fun (R:Prop) (z:R)=>(aB hb1 (aI d0_ (aI d0_ (aM eI gxb3 (aN eI gxb3 (aM eI gxb4 (aN eI gxb4 (aI (set_map eI sb.2.2.2.2.1 (((addW .i64 sb.2.2.2.2.2.2.2 1)).toNat) xb3) z))))))))
  rcases iteN h with ⟨hb5,h⟩ | ⟨hb5,h⟩
  ·
   exact kQ h (nA ord39 [rV 15 [(60,vT)],(17,⟨[],[],[(77,[(vI xb3)]),(78,[(vI xb3)]),(79,[(vI xb4)]),(1000079,[(vI xb4)])],[(63,(vI 3)),(71,(vI 3))],[],[],[(1000079,(5,(sb.2.2.2.2.1.set ((addW .i64 sb.2.2.2.2.2.2.2 1)).toNat xb3).map eI))],[],[]⟩),rV 18 [(83,vF)]]) [wK 0 [3,6,7,52,53,54,59] [] 6] Z156 rkN (fun z=>(c69_ _ (aB hb5 z))) (by kernel_rfl)
  obtain ⟨hb6,h⟩:=grdE h
  rcases iteN h with ⟨hb7,h⟩ | ⟨hb7,h⟩
  ·
   exact kQ h (nA ord39 [rV 15 [(60,vT)],(17,⟨[],[],[(77,[(vI xb3)]),(78,[(vI xb3)]),(79,[(vI xb4)]),(1000079,[(vI xb4)])],[(63,(vI 3)),(71,(vI 3))],[],[],[(1000079,(5,(sb.2.2.2.2.1.set ((addW .i64 sb.2.2.2.2.2.2.2 1)).toNat xb3).map eI))],[],[]⟩),(18,⟨[],[88],[],[(83,vT),(92,vF)],[],[],[],[],[]⟩)]) [wK 0 [3,6,7,52,53,54,59] [] 6] Z156 rkN (fun z=>(c69_ _ (aB hb5 (aI hb6 (aB hb7 z))))) (by kernel_rfl)
  obtain ⟨hb8,h⟩:=grdE h
  have c70_:=fun (R:Prop) (z:R)=>(aB hb5 (aI hb6 (aB hb7 (aI hb8 z))))
  rcases iteN h with ⟨hb9,h⟩ | ⟨hb9,h⟩
  ·
   exact kQ h (nA ord39 [rV 15 [(60,vT)],(17,⟨[],[],[(77,[(vI xb3)]),(78,[(vI xb3)]),(79,[(vI xb4)]),(1000079,[(vI xb4)])],[(63,(vI 3)),(71,(vI 3))],[],[],[(1000079,(5,(sb.2.2.2.2.1.set ((addW .i64 sb.2.2.2.2.2.2.2 1)).toNat xb3).map eI))],[],[]⟩),(18,⟨[],[88,97],[],[(83,vT),(92,vT),(100,vF)],[],[],[],[],[]⟩)]) [wK 0 [3,6,7,52,53,54,59] [] 6] Z156 rkN (fun z=>(c69_ _ (c70_ _ (aB hb9 z)))) (by kernel_rfl)
  obtain ⟨xb10,gxb10,h⟩:=bindE h
  have d0_:at? ((sb.2.2.2.2.1.set ((addW .i64 sb.2.2.2.2.2.2.2 1)).toNat xb3).map eI) (addW .i64 sb.2.2.2.2.2.2.2 1)=some [(vI xb10)]:=at_map eI gxb10
  have d1_:((sb.2.2.2.2.1.set ((addW .i64 sb.2.2.2.2.2.2.2 1)).toNat xb3).map eI)[((addW .i64 sb.2.2.2.2.2.2.2 1)).toNat]?=some [(vI xb10)]:=at_map' eI gxb10
  exact kQ h (nA ord39 [rV 15 [(60,vT)],(17,⟨[],[],[(77,[(vI xb3)]),(78,[(vI xb3)]),(79,[(vI xb4)]),(1000079,[(vI xb4)])],[(63,(vI 3)),(71,(vI 3))],[],[],[(1000079,(5,(sb.2.2.2.2.1.set ((addW .i64 sb.2.2.2.2.2.2.2 1)).toNat xb3).map eI))],[],[]⟩),(18,⟨[],[88,97],[],[(83,vT),(92,vT),(100,vT)],[],[],[],[],[]⟩),(19,⟨[],[],[(109,[(vI xb10)]),(110,[(vI xb10)]),(112,[(vI xb10)]),(1000112,[(vI xb10)])],[(102,(vI 3))],[],[],[(1000112,(5,((sb.2.2.2.2.1.set ((addW .i64 sb.2.2.2.2.2.2.2 1)).toNat xb3).set ((addW .i64 sb.2.2.2.2.2.2.2 1)).toNat (addW .i64 xb10 1)).map eI))],[],[]⟩)]) [wK 0 [3,6,7,52,53,54,59] [] 6] Z156 rkN (fun z=>(c69_ _ (c70_ _ (aB hb9 (aE .i64 hb2 (aI d0_ (aI d1_ (aI d0_ (aI d1_ (aI (set_map eI (sb.2.2.2.2.1.set ((addW .i64 sb.2.2.2.2.2.2.2 1)).toNat xb3) (((addW .i64 sb.2.2.2.2.2.2.2 1)).toNat) (addW .i64 xb10 1)) z)))))))))) (by kernel_rfl)
 cases h

theorem Z161:ordB (polF 39) ord39 Z153=true:=by kernel_rfl
def Z162 (c:Cand) (y3:(List Event)) (xa2:Event) (sb:(List Int)×(List Int)×(List Int)×(List Int)×(List Int)×Int×Int×Int):St:=mkS 146 [(3,.ptr (.O 0) 0 0),(6,(vI sb.2.2.2.2.2.2.2)),(7,.ptr (.L 7) 0 0),(52,.sl (y3.map Event.enc)),(53,(vI (y3.length:Int))),(54,(vI sb.2.2.2.2.2.2.1)),(116,.sl (xa2.Deps.Addr.map eI)),(117,(vI (xa2.Deps.Addr.length:Int))),(118,(vI sb.2.2.2.2.2.1))] [(7,(Event.enc xa2))] [.arr false 7 [[.fptr (Cand.enc c) 0,.sl (y3.map Event.enc),.mf 2,.mf 3,.mf 4,.mf 5,.mf 1]],.arr true 1 (sb.1.map eI),.arr true 1 (sb.2.1.map eI),.arr true 1 (sb.2.2.1.map eI),.arr true 1 (sb.2.2.2.1.map eI),.arr true 1 (sb.2.2.2.2.1.map eI)] 0
def Z163 (c:Cand) (y3:(List Event)) (xa2:Event) (tt:(List Int)×(List Int)×(List Int)×(List Int)×(List Int)×Int):St:=mkS 146 [(3,.ptr (.O 0) 0 0),(52,.sl (y3.map Event.enc)),(53,(vI (y3.length:Int))),(54,(vI tt.2.2.2.2.2))] [] [.arr false 7 [[.fptr (Cand.enc c) 0,.sl (y3.map Event.enc),.mf 2,.mf 3,.mf 4,.mf 5,.mf 1]],.arr true 1 (tt.1.map eI),.arr true 1 (tt.2.1.map eI),.arr true 1 (tt.2.2.1.map eI),.arr true 1 (tt.2.2.2.1.map eI),.arr true 1 (tt.2.2.2.2.1.map eI)] 0
def Z164 (c:Cand) (y3:(List Event)) (xa2:Event) (tt:((List Int)×(List Int)×(List Int)×(List Int)×(List Int)×Int)):Ex×St:=(.ex 6,Z163 c y3 xa2 tt)
theorem Z165 (n:Nat) (c:Cand) (y3:(List Event)) (xa2:Event):∀ sb r,ppo_of_L3 n c y3 xa2 sb=some r→CodeD Tryd.prog Z153 (Z162 c y3 xa2 sb) (rk (Z162 c y3 xa2) (Z164 c y3 xa2) r):=by
 intro sb r h
 unfold ppo_of_L3 at h
 rcases iteN h with ⟨hb1,h⟩ | ⟨hb1,h⟩
 ·
  exact kQ h (nA ord39 [rV 22 [(119,vF)]]) [wK 8 [3,52,53,54] [7] 6] Z161 (rkE rfl neE) (fun z=>(aB hb1 z)) (by kernel_rfl)
 obtain ⟨xb2,gxb2,h⟩:=bindE h
 obtain ⟨xb3,gxb3,h⟩:=bindE h
 have d0_:at? (sb.1.map eI) (addW .i64 (subW .i64 sb.2.2.2.2.2.2.2 xa2.At) xb2)=some [(vI xb3)]:=at_map eI gxb3
 have d1_:(sb.1.map eI)[((addW .i64 (subW .i64 sb.2.2.2.2.2.2.2 xa2.At) xb2)).toNat]?=some [(vI xb3)]:=at_map' eI gxb3
 exact kQ h (nA ord39 [rV 22 [(119,vT)],rR 23 [(120,[(vI xb2)])],(25,⟨[],[],[(138,[(vI xb3)]),(139,[(vI xb3)]),(142,[(vI xb3)]),(1000142,[(vI xb3)])],[],[],[],[(1000142,(1,(sb.1.set ((addW .i64 (subW .i64 sb.2.2.2.2.2.2.2 xa2.At) xb2)).toNat (minI xb3 sb.2.2.2.2.2.2.2)).map eI))],[],[]⟩)]) [wK 0 [3,6,7,52,53,54,116,117,118] [] 6] Z161 rkN (fun z=>(aB hb1 (aM eI gxb2 (aI d0_ (aI d1_ (aI d0_ (aI d1_ (aI (set_map eI sb.1 (((addW .i64 (subW .i64 sb.2.2.2.2.2.2.2 xa2.At) xb2)).toNat) (minI xb3 sb.2.2.2.2.2.2.2)) z)))))))) (by kernel_rfl)

theorem Z166:ordB (polF 39) ord39 Z151=true:=by kernel_rfl
def Z167 (c:Cand) (y3:(List Event)) (sa:(List Int)×(List Int)×(List Int)×(List Int)×(List Int)×Int):St:=mkS 146 [(3,.ptr (.O 0) 0 0),(52,.sl (y3.map Event.enc)),(53,(vI (y3.length:Int))),(54,(vI sa.2.2.2.2.2))] [] [.arr false 7 [[.fptr (Cand.enc c) 0,.sl (y3.map Event.enc),.mf 2,.mf 3,.mf 4,.mf 5,.mf 1]],.arr true 1 (sa.1.map eI),.arr true 1 (sa.2.1.map eI),.arr true 1 (sa.2.2.1.map eI),.arr true 1 (sa.2.2.2.1.map eI),.arr true 1 (sa.2.2.2.2.1.map eI)] 0
def Z168 (c:Cand) (y3:(List Event)) (tt:(List Int)×(List Int)×(List Int)×(List Int)×(List Int)):St:=mkS 146 [(3,.ptr (.O 0) 0 0)] [] [.arr false 7 [[.fptr (Cand.enc c) 0,.sl (y3.map Event.enc),.mf 2,.mf 3,.mf 4,.mf 5,.mf 1]],.arr true 1 (tt.1.map eI),.arr true 1 (tt.2.1.map eI),.arr true 1 (tt.2.2.1.map eI),.arr true 1 (tt.2.2.2.1.map eI),.arr true 1 (tt.2.2.2.2.map eI)] 0
def Z169 (c:Cand) (y3:(List Event)) (tt:((List Int)×(List Int)×(List Int)×(List Int)×(List Int))):Ex×St:=(.ex 2,Z168 c y3 tt)
theorem Z170 (n:Nat) (c:Cand) (y3:(List Event)):∀ sa r,ppo_of_L1 n c y3 sa=some r→CodeD Tryd.prog Z151 (Z167 c y3 sa) (rk (Z167 c y3) (Z169 c y3) r):=by
 intro sa r h
 unfold ppo_of_L1 at h
 rcases iteN h with ⟨ha1,h⟩ | ⟨ha1,h⟩
 ·
  exact kQ h (nA ord39 [rV 12 [(55,vF)]]) [wK 4 [3] [] 6] Z166 (rkE rfl neE) (fun z=>(aB ha1 z)) (by kernel_rfl)
 obtain ⟨xa2,gxa2,h⟩:=bindE h
 obtain ⟨ta3,gta3,h⟩:=bindE h
 obtain ⟨ta4,gta4,h⟩:=bindE h
 exact kQ h ⟨ord39,[rV 12 [(55,vT)],rR 13 [(57,(Event.enc xa2))],rV 21 [(117,(vI (xa2.Deps.Addr.length:Int)))]],[],[(15,(⟨[3,6,7,52,53,54,59],[],6,[],[],[]⟩,l0,(.ex 4),Z158 c y3 xa2 ta3)),(22,(⟨[3,6,7,52,53,54,116,117,118],[],6,[],[],[]⟩,l0,(.ex 6),Z163 c y3 xa2 ta4))],[]⟩ [wK 0 [3,52,53,54] [] 6] Z166 rkN (fun z=>(aB ha1 (aM Event.enc gxa2 (aI (okL (pl:=polF 39) (Z157 c y3 xa2) (Z159 c y3 xa2) (Z160 n c y3 xa2) n _ ta3 gta3) (aL eI xa2.Deps.Addr (aI (okL (pl:=polF 39) (Z162 c y3 xa2) (Z164 c y3 xa2) (Z165 n c y3 xa2) n _ ta4 gta4) z)))))) (by kernel_rfl)

theorem ppo_of_U1_0_ppo_of_1 (c:Cand) (y3:(List Event)) (y4:(List Int)) (K:Ex→St→Prop):oR pc sc lp cd (nA ord39 [(9,⟨[],[44],[],[],[],[],[(44,(2,(List.replicate ((addW .i64 (y3.length:Int) 1)).toNat 0).map eI))],[],[]⟩)]) (polF 39) [wK 0 [3,4,37] [] 3] Z154 (mkS 146 [(3,.ptr (.O 0) 0 0),(4,(vI (y3.length:Int))),(37,(vI 0))] [] [.arr false 7 [[.fptr (Cand.enc c) 0,.sl (y3.map Event.enc),.nilsl,.nilsl,.nilsl,.nilsl,.mf 1]],.arr true 1 (y4.map eI)] 0) K
  = (((decide ((0:Int)≤(addW .i64 (y3.length:Int) 1))&&decide ((addW .i64 (y3.length:Int) 1)≤(addW .i64 (y3.length:Int) 1))&&decide (8 * (addW .i64 (y3.length:Int) 1)≤140737488355328)&&decide ((addW .i64 (y3.length:Int) 1)≤140737488355328)&&Nat.blt 0 1)=true)∧(List.replicate ((addW .i64 (y3.length:Int) 1)).toNat [(vI 0)]=(List.replicate ((addW .i64 (y3.length:Int) 1)).toNat 0).map eI)∧K .nrm (mkS 146 [(3,.ptr (.O 0) 0 0),(4,(vI (y3.length:Int))),(37,(vI 1))] [] [.arr false 7 [[.fptr (Cand.enc c) 0,.sl (y3.map Event.enc),.mf 2,.nilsl,.nilsl,.nilsl,.mf 1]],.arr true 1 (y4.map eI),.arr true 1 ((List.replicate ((addW .i64 (y3.length:Int) 1)).toNat 0).map eI)] 0)):=by kernel_rfl
theorem ppo_of_U1_1_ppo_of_1 (c:Cand) (y3:(List Event)) (y4:(List Int)) (K:Ex→St→Prop):oR pc sc lp cd (nA ord39 [(9,⟨[],[44],[],[],[],[],[(44,(3,(List.replicate ((addW .i64 (y3.length:Int) 1)).toNat 0).map eI))],[],[]⟩)]) (polF 39) [wK 0 [3,4,37] [] 4] Z154 (mkS 146 [(3,.ptr (.O 0) 0 0),(4,(vI (y3.length:Int))),(37,(vI 1))] [] [.arr false 7 [[.fptr (Cand.enc c) 0,.sl (y3.map Event.enc),.mf 2,.nilsl,.nilsl,.nilsl,.mf 1]],.arr true 1 (y4.map eI),.arr true 1 ((List.replicate ((addW .i64 (y3.length:Int) 1)).toNat 0).map eI)] 0) K
  = (((decide ((0:Int)≤(addW .i64 (y3.length:Int) 1))&&decide ((addW .i64 (y3.length:Int) 1)≤(addW .i64 (y3.length:Int) 1))&&decide (8 * (addW .i64 (y3.length:Int) 1)≤140737488355328)&&decide ((addW .i64 (y3.length:Int) 1)≤140737488355328)&&Nat.blt 0 1)=true)∧(List.replicate ((addW .i64 (y3.length:Int) 1)).toNat [(vI 0)]=(List.replicate ((addW .i64 (y3.length:Int) 1)).toNat 0).map eI)∧K .nrm (mkS 146 [(3,.ptr (.O 0) 0 0),(4,(vI (y3.length:Int))),(37,(vI 2))] [] [.arr false 7 [[.fptr (Cand.enc c) 0,.sl (y3.map Event.enc),.mf 2,.mf 3,.nilsl,.nilsl,.mf 1]],.arr true 1 (y4.map eI),.arr true 1 ((List.replicate ((addW .i64 (y3.length:Int) 1)).toNat 0).map eI),.arr true 1 ((List.replicate ((addW .i64 (y3.length:Int) 1)).toNat 0).map eI)] 0)):=by kernel_rfl
theorem ppo_of_U1_2_ppo_of_1 (c:Cand) (y3:(List Event)) (y4:(List Int)) (K:Ex→St→Prop):oR pc sc lp cd (nA ord39 [(9,⟨[],[44],[],[],[],[],[(44,(4,(List.replicate ((addW .i64 (y3.length:Int) 1)).toNat 0).map eI))],[],[]⟩)]) (polF 39) [wK 0 [3,4,37] [] 5] Z154 (mkS 146 [(3,.ptr (.O 0) 0 0),(4,(vI (y3.length:Int))),(37,(vI 2))] [] [.arr false 7 [[.fptr (Cand.enc c) 0,.sl (y3.map Event.enc),.mf 2,.mf 3,.nilsl,.nilsl,.mf 1]],.arr true 1 (y4.map eI),.arr true 1 ((List.replicate ((addW .i64 (y3.length:Int) 1)).toNat 0).map eI),.arr true 1 ((List.replicate ((addW .i64 (y3.length:Int) 1)).toNat 0).map eI)] 0) K
  = (((decide ((0:Int)≤(addW .i64 (y3.length:Int) 1))&&decide ((addW .i64 (y3.length:Int) 1)≤(addW .i64 (y3.length:Int) 1))&&decide (8 * (addW .i64 (y3.length:Int) 1)≤140737488355328)&&decide ((addW .i64 (y3.length:Int) 1)≤140737488355328)&&Nat.blt 0 1)=true)∧(List.replicate ((addW .i64 (y3.length:Int) 1)).toNat [(vI 0)]=(List.replicate ((addW .i64 (y3.length:Int) 1)).toNat 0).map eI)∧K .nrm (mkS 146 [(3,.ptr (.O 0) 0 0),(4,(vI (y3.length:Int))),(37,(vI 3))] [] [.arr false 7 [[.fptr (Cand.enc c) 0,.sl (y3.map Event.enc),.mf 2,.mf 3,.mf 4,.nilsl,.mf 1]],.arr true 1 (y4.map eI),.arr true 1 ((List.replicate ((addW .i64 (y3.length:Int) 1)).toNat 0).map eI),.arr true 1 ((List.replicate ((addW .i64 (y3.length:Int) 1)).toNat 0).map eI),.arr true 1 ((List.replicate ((addW .i64 (y3.length:Int) 1)).toNat 0).map eI)] 0)):=by kernel_rfl
theorem ppo_of_U1_3_ppo_of_1 (c:Cand) (y3:(List Event)) (y4:(List Int)) (K:Ex→St→Prop):oR pc sc lp cd (nA ord39 [(9,⟨[],[44],[],[],[],[],[(44,(5,(List.replicate ((addW .i64 (y3.length:Int) 1)).toNat 0).map eI))],[],[]⟩)]) (polF 39) [wK 0 [3,4,37] [] 6] Z154 (mkS 146 [(3,.ptr (.O 0) 0 0),(4,(vI (y3.length:Int))),(37,(vI 3))] [] [.arr false 7 [[.fptr (Cand.enc c) 0,.sl (y3.map Event.enc),.mf 2,.mf 3,.mf 4,.nilsl,.mf 1]],.arr true 1 (y4.map eI),.arr true 1 ((List.replicate ((addW .i64 (y3.length:Int) 1)).toNat 0).map eI),.arr true 1 ((List.replicate ((addW .i64 (y3.length:Int) 1)).toNat 0).map eI),.arr true 1 ((List.replicate ((addW .i64 (y3.length:Int) 1)).toNat 0).map eI)] 0) K
  = (((decide ((0:Int)≤(addW .i64 (y3.length:Int) 1))&&decide ((addW .i64 (y3.length:Int) 1)≤(addW .i64 (y3.length:Int) 1))&&decide (8 * (addW .i64 (y3.length:Int) 1)≤140737488355328)&&decide ((addW .i64 (y3.length:Int) 1)≤140737488355328)&&Nat.blt 0 1)=true)∧(List.replicate ((addW .i64 (y3.length:Int) 1)).toNat [(vI 0)]=(List.replicate ((addW .i64 (y3.length:Int) 1)).toNat 0).map eI)∧K .nrm (mkS 146 [(3,.ptr (.O 0) 0 0),(4,(vI (y3.length:Int))),(37,(vI 4))] [] [.arr false 7 [[.fptr (Cand.enc c) 0,.sl (y3.map Event.enc),.mf 2,.mf 3,.mf 4,.mf 5,.mf 1]],.arr true 1 (y4.map eI),.arr true 1 ((List.replicate ((addW .i64 (y3.length:Int) 1)).toNat 0).map eI),.arr true 1 ((List.replicate ((addW .i64 (y3.length:Int) 1)).toNat 0).map eI),.arr true 1 ((List.replicate ((addW .i64 (y3.length:Int) 1)).toNat 0).map eI),.arr true 1 ((List.replicate ((addW .i64 (y3.length:Int) 1)).toNat 0).map eI)] 0)):=by kernel_rfl
theorem ppo_of_U1_4_ppo_of_1 (c:Cand) (y3:(List Event)) (y4:(List Int)) (K:Ex→St→Prop):oR pc sc lp cd (nA ord39 []) (polF 39) [wK 2 [3] [] 6] Z154 (mkS 146 [(3,.ptr (.O 0) 0 0),(4,(vI (y3.length:Int))),(37,(vI 4))] [] [.arr false 7 [[.fptr (Cand.enc c) 0,.sl (y3.map Event.enc),.mf 2,.mf 3,.mf 4,.mf 5,.mf 1]],.arr true 1 (y4.map eI),.arr true 1 ((List.replicate ((addW .i64 (y3.length:Int) 1)).toNat 0).map eI),.arr true 1 ((List.replicate ((addW .i64 (y3.length:Int) 1)).toNat 0).map eI),.arr true 1 ((List.replicate ((addW .i64 (y3.length:Int) 1)).toNat 0).map eI),.arr true 1 ((List.replicate ((addW .i64 (y3.length:Int) 1)).toNat 0).map eI)] 0) K
  = (K (.ex 0) (mkS 146 [(3,.ptr (.O 0) 0 0)] [] [.arr false 7 [[.fptr (Cand.enc c) 0,.sl (y3.map Event.enc),.mf 2,.mf 3,.mf 4,.mf 5,.mf 1]],.arr true 1 (y4.map eI),.arr true 1 ((List.replicate ((addW .i64 (y3.length:Int) 1)).toNat 0).map eI),.arr true 1 ((List.replicate ((addW .i64 (y3.length:Int) 1)).toNat 0).map eI),.arr true 1 ((List.replicate ((addW .i64 (y3.length:Int) 1)).toNat 0).map eI),.arr true 1 ((List.replicate ((addW .i64 (y3.length:Int) 1)).toNat 0).map eI)] 0)):=by kernel_rfl
theorem ppo_of_sim (n:Nat) (c:Cand) (r:(Option ppo_view)) (h:ppo_of n c=some r):PCall Tryd.prog 39 [.fptr (Cand.enc c) 0] (eqA ((optP ppo_view.enc r))):=by
 unfold ppo_of at h
 obtain ⟨y1,gy1,h⟩:=bindE h
 have c71_:=fun (R:Prop) (z:R)=>(aI (cand_Check_sim n c y1 gy1) z)
 rcases iteE h with ⟨h2,h⟩ | ⟨h2,h⟩
 ·
  obtain rfl:=soI h
  exact kP (nA ord39 [rVC 1 [(16,vT)] [(15,(vI y1))]]) ordB39 (fun z=>(c71_ _ (aB h2 z))) (by kernel_rfl)
 obtain ⟨y3,gy3,h⟩:=bindE h
 obtain ⟨y4,gy4,h⟩:=bindE h
 obtain ⟨h5,h⟩:=grdE h
 obtain ⟨h6,h⟩:=grdE h
 obtain ⟨h7,h⟩:=grdE h
 obtain ⟨h8,h⟩:=grdE h
 obtain ⟨t9,gt9,h⟩:=bindE h
 obtain rfl:=soI h
 have d0_:AV.v (.int .i64 (((y3.map Event.enc).length:Nat):Int))=AV.v (.int .i64 (y3.length:Int)):=len_map _ _
 exact kP ⟨ord39,[rVC 1 [(16,vF)] [(15,(vI y1))],rVC 3 [] [(22,.sl (y3.map Event.enc))],rV 4 [(29,(vI (y3.length:Int)))],(5,⟨[],[],[],[],[],[(34,(.mf 1,[.arr true 7 [[.fptr (Cand.enc c) 0,.sl (y3.map Event.enc),.nilsl,.nilsl,.nilsl,.nilsl,.nilsl]],.arr true 1 (y4.map eI)]))],[],[],[]⟩),rV 11 [(53,(vI (y3.length:Int)))]],[],[(7,(⟨[3,4,37],[],2,[],[],[]⟩,l0,(.ex 0),mkS 146 [(3,.ptr (.O 0) 0 0)] [] [.arr false 7 [[.fptr (Cand.enc c) 0,.sl (y3.map Event.enc),.mf 2,.mf 3,.mf 4,.mf 5,.mf 1]],.arr true 1 (y4.map eI),.arr true 1 ((List.replicate ((addW .i64 (y3.length:Int) 1)).toNat 0).map eI),.arr true 1 ((List.replicate ((addW .i64 (y3.length:Int) 1)).toNat 0).map eI),.arr true 1 ((List.replicate ((addW .i64 (y3.length:Int) 1)).toNat 0).map eI),.arr true 1 ((List.replicate ((addW .i64 (y3.length:Int) 1)).toNat 0).map eI)] 0)),(12,(⟨[3,52,53,54],[],6,[],[],[]⟩,l0,(.ex 2),Z168 c y3 t9))],[]⟩ ordB39 (fun z=>(c71_ _ (aB h2 (aI (slices_Concat_api_Event_api_Event_sim n c.Harts y3 gy3) (aI d0_ (aI (slices_Repeat_int_int_S2_sim n ([(y3.length:Int)]:List Int) (y3.length:Int) c.First c.Harts c.From c.Order y3 y4 gy4) (aI ((LoopD.round (cfg:=cfg) (okR Z155 (Eq.mpr (ppo_of_U1_0_ppo_of_1 pP sP lP dP c y3 y4 _) ⟨h5,rep_map eI _ 0,⟨rfl,rfl⟩⟩) (LoopD.round (cfg:=cfg) (okR Z155 (Eq.mpr (ppo_of_U1_1_ppo_of_1 pP sP lP dP c y3 y4 _) ⟨h6,rep_map eI _ 0,⟨rfl,rfl⟩⟩) (LoopD.round (cfg:=cfg) (okR Z155 (Eq.mpr (ppo_of_U1_2_ppo_of_1 pP sP lP dP c y3 y4 _) ⟨h7,rep_map eI _ 0,⟨rfl,rfl⟩⟩) (LoopD.round (cfg:=cfg) (okR Z155 (Eq.mpr (ppo_of_U1_3_ppo_of_1 pP sP lP dP c y3 y4 _) ⟨h8,rep_map eI _ 0,⟨rfl,rfl⟩⟩) (LoopD.round (cfg:=cfg) (okR Z155 (Eq.mpr (ppo_of_U1_4_ppo_of_1 pP sP lP dP c y3 y4 _) ⟨rfl,rfl⟩) ⟨rfl,rfl⟩)))))))))):lP (polF 39) Z154 (mkS 146 [(3,.ptr (.O 0) 0 0),(4,(vI (y3.length:Int))),(37,(vI 0))] [] [.arr false 7 [[.fptr (Cand.enc c) 0,.sl (y3.map Event.enc),.nilsl,.nilsl,.nilsl,.nilsl,.mf 1]],.arr true 1 (y4.map eI)] 0) (fun e' S'=>e'=(.ex 0)∧S'=mkS 146 [(3,.ptr (.O 0) 0 0)] [] [.arr false 7 [[.fptr (Cand.enc c) 0,.sl (y3.map Event.enc),.mf 2,.mf 3,.mf 4,.mf 5,.mf 1]],.arr true 1 (y4.map eI),.arr true 1 ((List.replicate ((addW .i64 (y3.length:Int) 1)).toNat 0).map eI),.arr true 1 ((List.replicate ((addW .i64 (y3.length:Int) 1)).toNat 0).map eI),.arr true 1 ((List.replicate ((addW .i64 (y3.length:Int) 1)).toNat 0).map eI),.arr true 1 ((List.replicate ((addW .i64 (y3.length:Int) 1)).toNat 0).map eI)] 0)) (aI d0_ (aI (okL (pl:=polF 39) (Z167 c y3) (Z169 c y3) (Z170 n c y3) n _ t9 gt9) z))))))))) (by kernel_rfl)

def ord48:List (Nat×PT):=[(3,(ptS [0,1,2,3,4,5,6,7,8,9,10,11,12,13])),(4,(ptS [0,1,2,3,4,5,6,7,8,9,10,11,12,13,14,15,16,17,18,19,20,21]))]
theorem ordB48:ordB (polF 48) ord48 (bodyOf Tryd.prog 48)=true:=by kernel_rfl
theorem ppo_view_ahead_sim (n:Nat) (v:ppo_view) (a:Int) (b:Int) (r:Bool) (h:ppo_view_ahead n v a b=some r):PCall Tryd.prog 48 [.fptr (ppo_view.enc v) 0,(vI a),(vI b)] (eqA (.v (.bool r))):=by
 unfold ppo_view_ahead at h
 rcases iteE h with ⟨h1,h⟩ | ⟨h1,h⟩
 ·
  obtain rfl:=soI h
  exact kP (nA ord48 [rV 1 [(15,vT)]]) ordB48 (fun z=>(aB h1 z)) (by kernel_rfl)
 have c72_:=fun (R:Prop) (z:R)=>(aB h1 (aL Event.enc v.all z))
 rcases iteE h with ⟨h2,h⟩ | ⟨h2,h⟩
 ·
  obtain rfl:=soI h
  exact kP (nA ord48 [rV 1 [(15,vF),(21,(vI (v.all.length:Int))),(24,vT)]]) ordB48 (fun z=>(c72_ _ (aB h2 z))) (by kernel_rfl)
 rcases iteE h with ⟨h3,h⟩ | ⟨h3,h⟩
 ·
  obtain rfl:=soI h
  exact kP (nA ord48 [rV 1 [(15,vF),(21,(vI (v.all.length:Int))),(24,vF),(28,vT)]]) ordB48 (fun z=>(c72_ _ (aB h2 (aB h3 z)))) (by kernel_rfl)
 obtain ⟨x4,gx4,h⟩:=bindE h
 obtain ⟨x5,gx5,h⟩:=bindE h
 have c73_:=fun (R:Prop) (z:R)=>(aB h2 (aB h3 (aM Event.enc gx4 (aM Event.enc gx5 z))))
 rcases iteN h with ⟨h6,h⟩ | ⟨h6,h⟩
 ·
  obtain rfl:=soI h
  exact kP (nA ord48 [rV 1 [(15,vF),(21,(vI (v.all.length:Int))),(24,vF),(28,vF)],rR 3 [(34,(Event.enc x4)),(40,(Event.enc x5))],rV 4 [(50,vF)]]) ordB48 (fun z=>(c72_ _ (c73_ _ (aB h6 z)))) (by kernel_rfl)
 obtain ⟨y7,gy7,h⟩:=bindE h
 have c74_:=fun (R:Prop) (z:R)=>(aB h6 (aI (event_Memory_sim n x4 y7 gy7) z))
 rcases iteN h with ⟨h8,h⟩ | ⟨h8,h⟩
 ·
  obtain rfl:=soI h
  exact kP (nA ord48 [rV 1 [(15,vF),(21,(vI (v.all.length:Int))),(24,vF),(28,vF)],rR 3 [(34,(Event.enc x4)),(40,(Event.enc x5))],rVC 4 [(50,vT),(56,vF)] [(54,.v (.bool y7))]]) ordB48 (fun z=>(c72_ _ (c73_ _ (c74_ _ (aB h8 z))))) (by kernel_rfl)
 obtain ⟨y9,gy9,h⟩:=bindE h
 obtain rfl:=soI h
 exact kP (nA ord48 [rV 1 [(15,vF),(21,(vI (v.all.length:Int))),(24,vF),(28,vF)],rR 3 [(34,(Event.enc x4)),(40,(Event.enc x5))],rVC 4 [(50,vT),(56,vT)] [(54,.v (.bool y7)),(60,.v (.bool y9))]]) ordB48 (fun z=>(c72_ _ (c73_ _ (c74_ _ (aB h8 (aI (event_Memory_sim n x5 y9 gy9) z)))))) (by kernel_rfl)

def ord49:List (Nat×PT):=[]
theorem ordB49:ordB (polF 49) ord49 (bodyOf Tryd.prog 49)=true:=by kernel_rfl
theorem ppo_rules_sim (n:Nat) (r:Unit) (h:ppo_rules n=some r):PCall Tryd.prog 49 [] (eqA (.agg [.fn 62 [] [],.fn 63 [] [],.fn 66 [] [],.fn 67 [] [],.fn 69 [] [],.fn 70 [] [],.fn 71 [] [],.fn 72 [] [],.fn 73 [] [],.fn 75 [] [],.fn 76 [] [],.fn 77 [] [],.fn 78 [] []])):=by
 unfold ppo_rules at h
 obtain rfl:=soI h
 exact kP (nA ord49 []) ordB49 (fun z=>z) (by kernel_rfl)

def ord62:List (Nat×PT):=[(1,(ptS [0,1,2,3,4,5,6,7,8,9,10,11,12,13,14,15]))]
theorem ordB62:ordB (polF 62) ord62 (bodyOf Tryd.prog 62)=true:=by kernel_rfl
theorem ppo_rules_1_sim (n:Nat) (v:ppo_view) (a:Int) (b:Int) (x:Event) (y:Event) (r:Bool) (h:ppo_rules_1 n v a b x y=some r):PCall Tryd.prog 62 [.fptr (ppo_view.enc v) 0,(vI a),(vI b),.fptr (Event.enc x) 0,.fptr (Event.enc y) 0] (eqA (.v (.bool r))):=by
 unfold ppo_rules_1 at h
 obtain ⟨y1,gy1,h⟩:=bindE h
 have c75_:=fun (R:Prop) (z:R)=>(aI (event_Writes_sim n y y1 gy1) z)
 rcases iteE h with ⟨h2,h⟩ | ⟨h2,h⟩
 ·
  obtain rfl:=soI h
  exact kP (nA ord62 [rVC 1 [(15,vT)] [(14,.v (.bool y1))]]) ordB62 (fun z=>(c75_ _ (aB h2 z))) (by kernel_rfl)
 obtain rfl:=soI h
 exact kP (nA ord62 [rVC 1 [(15,vF)] [(14,.v (.bool y1))]]) ordB62 (fun z=>(c75_ _ (aB h2 z))) (by kernel_rfl)

def ord65:List (Nat×PT):=[(1,(ptS [0,1,2,3,4,5,6,7,8,9,10,11]))]
theorem ordB65:ordB (polF 65) ord65 (bodyOf Tryd.prog 65)=true:=by kernel_rfl
theorem ppo_rules_2_1_sim (n:Nat) (m:Event) (a:Int) (a_:Int) (a_A:Int) (a_B:Int) (a_C:Int) (a_D:Int) (a_E:Bool) (a_F:Bool) (a_G:Int) (a_H:Int) (a_I:Int) (a_J:(List Int)) (a_K:(List Int)) (a_L:(List Int)) (r:Bool) (h:ppo_rules_2_1 n m a a_ a_A a_B a_C a_D a_E a_F a_G a_H a_I a_J a_K a_L=some r):PCall Tryd.prog 65 [(aAgg Event.enc m),.fptr [.fptr [(vI a),(vI a_),(vI a_A),(vU a_B),(vU a_C),(vU a_D),.v (.bool a_E),.v (.bool a_F),(vI a_G),(vI a_H),(vI a_I),.sl (a_J.map eI),.sl (a_K.map eI),.sl (a_L.map eI)] 0] 0] (eqA (.v (.bool r))):=by
 unfold ppo_rules_2_1 at h
 obtain ⟨y1,gy1,h⟩:=bindE h
 have c76_:=fun (R:Prop) (z:R)=>(aI (event_Writes_sim n m y1 gy1) z)
 rcases iteE h with ⟨h2,h⟩ | ⟨h2,h⟩
 ·
  obtain rfl:=soI h
  exact kP (nA ord65 [rVC 1 [(6,vT)] [(5,.v (.bool y1))]]) ordB65 (fun z=>(c76_ _ (aB h2 z))) (by kernel_rfl)
 obtain rfl:=soI h
 exact kP (nA ord65 [rVC 1 [(6,vF)] [(5,.v (.bool y1))]]) ordB65 (fun z=>(c76_ _ (aB h2 z))) (by kernel_rfl)

def ord88:List (Nat×PT):=[]
theorem ordB88:ordB (polF 88) ord88 (bodyOf Tryd.prog 88)=true:=by kernel_rfl
noncomputable def Z171:Code:=sub (bodyOf Tryd.prog 88) [1,0,1,0,0]
theorem Z172:ordB (polF 88) ord88 Z171=true:=by kernel_rfl
def Z173 (s_:(List Event)) (f:Int) (f_:Int) (f_A:Int) (f_B:Int) (f_C:Int) (f_D:Int) (f_E:Bool) (f_F:Bool) (f_G:Int) (f_H:Int) (f_I:Int) (f_J:(List Int)) (f_K:(List Int)) (f_L:(List Int)) (sa:Int):St:=mkS 19 [(0,.sl (s_.map Event.enc)),(1,.fn 65 [] [.fptr [.fptr [(vI f),(vI f_),(vI f_A),(vU f_B),(vU f_C),(vU f_D),.v (.bool f_E),.v (.bool f_F),(vI f_G),(vI f_H),(vI f_I),.sl (f_J.map eI),.sl (f_K.map eI),.sl (f_L.map eI)] 0] 0]),(7,(vI (s_.length:Int))),(8,(vI sa))] [] [] 0
def Z174 (s_:(List Event)) (f:Int) (f_:Int) (f_A:Int) (f_B:Int) (f_C:Int) (f_D:Int) (f_E:Bool) (f_F:Bool) (f_G:Int) (f_H:Int) (f_I:Int) (f_J:(List Int)) (f_K:(List Int)) (f_L:(List Int)) (tt:Unit):St:=mkS 19 [] [] [] 0
def Z175 (s_:(List Event)) (f:Int) (f_:Int) (f_A:Int) (f_B:Int) (f_C:Int) (f_D:Int) (f_E:Bool) (f_F:Bool) (f_G:Int) (f_H:Int) (f_I:Int) (f_J:(List Int)) (f_K:(List Int)) (f_L:(List Int)) (tt:Int):St:=mkS 19 [(4,(vI tt))] [] [] 0
def Z176 (s_:(List Event)) (f:Int) (f_:Int) (f_A:Int) (f_B:Int) (f_C:Int) (f_D:Int) (f_E:Bool) (f_F:Bool) (f_G:Int) (f_H:Int) (f_I:Int) (f_J:(List Int)) (f_K:(List Int)) (f_L:(List Int)) (t0:(Unit⊕Int)):Ex×St:=match t0 with | .inl tt=>(.ex 0,Z174 s_ f f_ f_A f_B f_C f_D f_E f_F f_G f_H f_I f_J f_K f_L tt) | .inr tt=>(.ret,Z175 s_ f f_ f_A f_B f_C f_D f_E f_F f_G f_H f_I f_J f_K f_L tt)
theorem Z177 (n:Nat) (s_:(List Event)) (f:Int) (f_:Int) (f_A:Int) (f_B:Int) (f_C:Int) (f_D:Int) (f_E:Bool) (f_F:Bool) (f_G:Int) (f_H:Int) (f_I:Int) (f_J:(List Int)) (f_K:(List Int)) (f_L:(List Int)):∀ sa r,slices_IndexFunc_api_Event_api_Event_L1 n s_ f f_ f_A f_B f_C f_D f_E f_F f_G f_H f_I f_J f_K f_L sa=some r→CodeD Tryd.prog Z171 (Z173 s_ f f_ f_A f_B f_C f_D f_E f_F f_G f_H f_I f_J f_K f_L sa) (rk (Z173 s_ f f_ f_A f_B f_C f_D f_E f_F f_G f_H f_I f_J f_K f_L) (Z176 s_ f f_ f_A f_B f_C f_D f_E f_F f_G f_H f_I f_J f_K f_L) r):=by
 intro sa r h
 unfold slices_IndexFunc_api_Event_api_Event_L1 at h
 rcases iteN h with ⟨ha1,h⟩ | ⟨ha1,h⟩
 ·
  exact kQ h (nA ord88 [rV 2 [(9,vF)]]) [wK 2 [] [] 0] Z172 (rkE rfl neE) (fun z=>(aB ha1 z)) (by kernel_rfl)
 obtain ⟨xa2,gxa2,h⟩:=bindE h
 obtain ⟨ya3,gya3,h⟩:=bindE h
 have c77_:=fun (R:Prop) (z:R)=>(aB ha1 (aM Event.enc gxa2 (aI (ppo_rules_2_1_sim n xa2 f f_ f_A f_B f_C f_D f_E f_F f_G f_H f_I f_J f_K f_L ya3 gya3) z)))
 rcases iteE h with ⟨ha4,h⟩ | ⟨ha4,h⟩
 ·
  exact kQ h (nA ord88 [rV 2 [(9,vT)],(4,⟨[],[],[(14,(Event.enc xa2))],[(16,vT)],[(16,.v (.bool ya3))],[],[],[],[]⟩)]) [wK 1 [4] [] 0] Z172 (rkE rfl neR) (fun z=>(c77_ _ (aB ha4 z))) (by kernel_rfl)
 exact kQ h (nA ord88 [rV 2 [(9,vT)],(4,⟨[],[],[(14,(Event.enc xa2))],[(16,vF)],[(16,.v (.bool ya3))],[],[],[],[]⟩)]) [wK 0 [0,1,7,8] [] 0] Z172 rkN (fun z=>(c77_ _ (aB ha4 z))) (by kernel_rfl)

theorem slices_IndexFunc_api_Event_api_Event_sim (n:Nat) (s_:(List Event)) (f:Int) (f_:Int) (f_A:Int) (f_B:Int) (f_C:Int) (f_D:Int) (f_E:Bool) (f_F:Bool) (f_G:Int) (f_H:Int) (f_I:Int) (f_J:(List Int)) (f_K:(List Int)) (f_L:(List Int)) (r:Int) (h:slices_IndexFunc_api_Event_api_Event n s_ f f_ f_A f_B f_C f_D f_E f_F f_G f_H f_I f_J f_K f_L=some r):PCall Tryd.prog 88 [.sl (s_.map Event.enc),.fn 65 [] [.fptr [.fptr [(vI f),(vI f_),(vI f_A),(vU f_B),(vU f_C),(vU f_D),.v (.bool f_E),.v (.bool f_F),(vI f_G),(vI f_H),(vI f_I),.sl (f_J.map eI),.sl (f_K.map eI),.sl (f_L.map eI)] 0] 0]] (eqA ((vI r))):=by
 unfold slices_IndexFunc_api_Event_api_Event at h
 obtain ⟨t1,gt1,h⟩:=bindE h
 rcases t1 with w2 | w2
 ·
  obtain rfl:=soI h
  exact kP ⟨ord88,[rV 1 [(7,(vI (s_.length:Int)))]],[],[(2,(⟨[0,1,7,8],[],0,[],[],[]⟩,l0,(.ex 0),Z174 s_ f f_ f_A f_B f_C f_D f_E f_F f_G f_H f_I f_J f_K f_L w2))],[]⟩ ordB88 (fun z=>(aL Event.enc s_ (aI (okL (pl:=polF 88) (Z173 s_ f f_ f_A f_B f_C f_D f_E f_F f_G f_H f_I f_J f_K f_L) (Z176 s_ f f_ f_A f_B f_C f_D f_E f_F f_G f_H f_I f_J f_K f_L) (Z177 n s_ f f_ f_A f_B f_C f_D f_E f_F f_G f_H f_I f_J f_K f_L) n _ (.inl w2) gt1) z))) (by kernel_rfl)
 ·
  obtain rfl:=soI h
  exact kP ⟨ord88,[rV 1 [(7,(vI (s_.length:Int)))]],[],[(2,(⟨[0,1,7,8],[],0,[],[],[]⟩,l0,.ret,Z175 s_ f f_ f_A f_B f_C f_D f_E f_F f_G f_H f_I f_J f_K f_L w2))],[]⟩ ordB88 (fun z=>(aL Event.enc s_ (aI (okL (pl:=polF 88) (Z173 s_ f f_ f_A f_B f_C f_D f_E f_F f_G f_H f_I f_J f_K f_L) (Z176 s_ f f_ f_A f_B f_C f_D f_E f_F f_G f_H f_I f_J f_K f_L) (Z177 n s_ f f_ f_A f_B f_C f_D f_E f_F f_G f_H f_I f_J f_K f_L) n _ (.inr w2) gt1) z))) (by kernel_rfl)

def ord64:List (Nat×PT):=[]
theorem ordB64:ordB (polF 64) ord64 (bodyOf Tryd.prog 64)=true:=by kernel_rfl
theorem slices_ContainsFunc_api_Event_api_Event_sim (n:Nat) (s_:(List Event)) (f:Int) (f_:Int) (f_A:Int) (f_B:Int) (f_C:Int) (f_D:Int) (f_E:Bool) (f_F:Bool) (f_G:Int) (f_H:Int) (f_I:Int) (f_J:(List Int)) (f_K:(List Int)) (f_L:(List Int)) (r:Bool) (h:slices_ContainsFunc_api_Event_api_Event n s_ f f_ f_A f_B f_C f_D f_E f_F f_G f_H f_I f_J f_K f_L=some r):PCall Tryd.prog 64 [.sl (s_.map Event.enc),.fn 65 [] [.fptr [.fptr [(vI f),(vI f_),(vI f_A),(vU f_B),(vU f_C),(vU f_D),.v (.bool f_E),.v (.bool f_F),(vI f_G),(vI f_H),(vI f_I),.sl (f_J.map eI),.sl (f_K.map eI),.sl (f_L.map eI)] 0] 0]] (eqA (.v (.bool r))):=by
 unfold slices_ContainsFunc_api_Event_api_Event at h
 obtain ⟨y1,gy1,h⟩:=bindE h
 obtain rfl:=soI h
 exact kP (nA ord64 [rVC 1 [] [(7,(vI y1))]]) ordB64 (fun z=>(aI (slices_IndexFunc_api_Event_api_Event_sim n s_ f f_ f_A f_B f_C f_D f_E f_F f_G f_H f_I f_J f_K f_L y1 gy1) z)) (by kernel_rfl)

def ord63:List (Nat×PT):=[(1,(ptS [0,1,2,3,4,5,6,7,8,9,10,11,12,13,14,15,16,17,18,19,20,21,22,23,24,25,26,27,28,29,30,31,32,33,34,35,36,37,38,39,40,41,42,43,44,45]))]
theorem ordB63:ordB (polF 63) ord63 (bodyOf Tryd.prog 63)=true:=by kernel_rfl
theorem ppo_rules_2_sim (n:Nat) (v:ppo_view) (a:Int) (b:Int) (x:Event) (y:Event) (r:Bool) (h:ppo_rules_2 n v a b x y=some r):PCall Tryd.prog 63 [.fptr (ppo_view.enc v) 0,(vI a),(vI b),.fptr (Event.enc x) 0,.fptr (Event.enc y) 0] (eqA (.v (.bool r))):=by
 unfold ppo_rules_2 at h
 rcases iteE h with ⟨h1,h⟩ | ⟨h1,h⟩
 ·
  obtain rfl:=soI h
  exact kP (nA ord63 [rV 1 [(20,vT)]]) ordB63 (fun z=>(aB h1 z)) (by kernel_rfl)
 obtain ⟨y2,gy2,h⟩:=bindE h
 have c78_:=fun (R:Prop) (z:R)=>(aB h1 (aI (event_Reads_sim n x y2 gy2) z))
 rcases iteE h with ⟨h3,h⟩ | ⟨h3,h⟩
 ·
  obtain rfl:=soI h
  exact kP (nA ord63 [rVC 1 [(20,vF),(27,vT)] [(24,.v (.bool y2))]]) ordB63 (fun z=>(c78_ _ (aB h3 z))) (by kernel_rfl)
 obtain ⟨y4,gy4,h⟩:=bindE h
 have c79_:=fun (R:Prop) (z:R)=>(aB h3 (aI (event_Reads_sim n y y4 gy4) z))
 rcases iteE h with ⟨h5,h⟩ | ⟨h5,h⟩
 ·
  obtain rfl:=soI h
  exact kP (nA ord63 [rVC 1 [(20,vF),(27,vF),(34,vT)] [(24,.v (.bool y2)),(31,.v (.bool y4))]]) ordB63 (fun z=>(c78_ _ (c79_ _ (aB h5 z)))) (by kernel_rfl)
 rcases matchOE h with ⟨h6,h⟩ | ⟨z6,h7,h⟩
 ·
  cases h
 ·
  obtain ⟨x8,gx8,h⟩:=bindE h
  have c80_:=fun (R:Prop) (z:R)=>(aB h5 (aI (congrArg (optP Cand.enc) h7) (aM eI gx8 z)))
  rcases matchOE h with ⟨h9,h⟩ | ⟨z9,h10,h⟩
  ·
   cases h
  ·
   obtain ⟨x11,gx11,h⟩:=bindE h
   have c81_:=fun (R:Prop) (z:R)=>(aI (congrArg (optP Cand.enc) h10) (aM eI gx11 z))
   rcases iteE h with ⟨h12,h⟩ | ⟨h12,h⟩
   ·
    obtain rfl:=soI h
    exact kP (nA ord63 [(1,⟨[],[],[(43,[(vI x8)]),(53,[(vI x11)])],[(20,vF),(27,vF),(34,vF),(38,.fptr (Cand.enc z6) 0),(48,.fptr (Cand.enc z9) 0),(56,vT)],[(24,.v (.bool y2)),(31,.v (.bool y4))],[],[],[],[]⟩)]) ordB63 (fun z=>(c78_ _ (c79_ _ (c80_ _ (c81_ _ (aB h12 z)))))) (by kernel_rfl)
   obtain ⟨h13,h⟩:=grdE h
   obtain ⟨y14,gy14,h⟩:=bindE h
   obtain rfl:=soI h
   exact kP (nA ord63 [(1,⟨[],[],[(43,[(vI x8)]),(53,[(vI x11)])],[(20,vF),(27,vF),(34,vF),(38,.fptr (Cand.enc z6) 0),(48,.fptr (Cand.enc z9) 0),(56,vF)],[(24,.v (.bool y2)),(31,.v (.bool y4))],[],[],[],[]⟩),(3,⟨[],[64],[],[(64,.sl (((v.all.drop ((addW .i64 a 1)).toNat).take ((b).toNat - ((addW .i64 a 1)).toNat)).map Event.enc))],[(66,.v (.bool y14))],[],[],[],[]⟩)]) ordB63 (fun z=>(c78_ _ (c79_ _ (c80_ _ (c81_ _ (aB h12 (aI (szOk_map Event.enc v.all (fun _=>rfl):szOk 14 (v.all.map Event.enc)=true) (aI (cut_lohi h13:(decide ((0:Int)≤(addW .i64 a 1))&&decide ((addW .i64 a 1)≤b)&&decide (b≤((((v.all.map Event.enc)).length:Nat):Int)))=true) (aI (sl_dt Event.enc v.all _ _:AV.sl ((((v.all.map Event.enc)).drop ((addW .i64 a 1)).toNat).take ((b).toNat - ((addW .i64 a 1)).toNat))=AV.sl (((v.all.drop ((addW .i64 a 1)).toNat).take ((b).toNat - ((addW .i64 a 1)).toNat)).map Event.enc)) (aI (slices_ContainsFunc_api_Event_api_Event_sim n ((v.all.drop ((addW .i64 a 1)).toNat).take ((b).toNat - ((addW .i64 a 1)).toNat)) x.Hart x.At x.Kind x.Addr x.Load x.Store x.Aq x.Rl x.Pred x.Succ x.Pair x.Deps.Addr x.Deps.Data x.Deps.Way y14 gy14) z)))))))))) (by kernel_rfl)

def ord66:List (Nat×PT):=[]
theorem ordB66:ordB (polF 66) ord66 (bodyOf Tryd.prog 66)=true:=by kernel_rfl
theorem ppo_rules_3_sim (n:Nat) (v:ppo_view) (a:Int) (b:Int) (x:Event) (y:Event) (r:Bool) (h:ppo_rules_3 n v a b x y=some r):PCall Tryd.prog 66 [.fptr (ppo_view.enc v) 0,(vI a),(vI b),.fptr (Event.enc x) 0,.fptr (Event.enc y) 0] (eqA (.v (.bool r))):=by
 unfold ppo_rules_3 at h
 rcases iteE h with ⟨h1,h⟩ | ⟨h1,h⟩
 ·
  obtain ⟨y2,gy2,h⟩:=bindE h
  have c82_:=fun (R:Prop) (z:R)=>(aB h1 (aI (event_Reads_sim n y y2 gy2) z))
  rcases iteN h with ⟨h3,h⟩ | ⟨h3,h⟩
  ·
   obtain rfl:=soI h
   exact kP (nA ord66 [rVC 1 [(16,vT),(29,vF)] [(27,.v (.bool y2))]]) ordB66 (fun z=>(c82_ _ (aB h3 z))) (by kernel_rfl)
  rcases matchOE h with ⟨h4,h⟩ | ⟨z4,h5,h⟩
  ·
   cases h
  ·
   obtain ⟨x6,gx6,h⟩:=bindE h
   obtain rfl:=soI h
   exact kP (nA ord66 [(1,⟨[],[],[(38,[(vI x6)])],[(16,vT),(29,vT),(33,.fptr (Cand.enc z4) 0)],[(27,.v (.bool y2))],[],[],[],[]⟩)]) ordB66 (fun z=>(c82_ _ (aB h3 (aI (congrArg (optP Cand.enc) h5) (aM eI gx6 z))))) (by kernel_rfl)
 rcases iteN h with ⟨h2,h⟩ | ⟨h2,h⟩
 ·
  obtain rfl:=soI h
  exact kP (nA ord66 [rV 1 [(16,vF),(23,vF)]]) ordB66 (fun z=>(aB h1 (aB h2 z))) (by kernel_rfl)
 obtain ⟨y3,gy3,h⟩:=bindE h
 have c83_:=fun (R:Prop) (z:R)=>(aB h1 (aB h2 (aI (event_Reads_sim n y y3 gy3) z)))
 rcases iteN h with ⟨h4,h⟩ | ⟨h4,h⟩
 ·
  obtain rfl:=soI h
  exact kP (nA ord66 [rVC 1 [(16,vF),(23,vT),(29,vF)] [(27,.v (.bool y3))]]) ordB66 (fun z=>(c83_ _ (aB h4 z))) (by kernel_rfl)
 rcases matchOE h with ⟨h5,h⟩ | ⟨z5,h6,h⟩
 ·
  cases h
 ·
  obtain ⟨x7,gx7,h⟩:=bindE h
  obtain rfl:=soI h
  exact kP (nA ord66 [(1,⟨[],[],[(38,[(vI x7)])],[(16,vF),(23,vT),(29,vT),(33,.fptr (Cand.enc z5) 0)],[(27,.v (.bool y3))],[],[],[],[]⟩)]) ordB66 (fun z=>(c83_ _ (aB h4 (aI (congrArg (optP Cand.enc) h6) (aM eI gx7 z))))) (by kernel_rfl)

def ord89:List (Nat×PT):=[]
theorem ordB89:ordB (polF 89) ord89 (bodyOf Tryd.prog 89)=true:=by kernel_rfl
theorem ppo_sides_sim (n:Nat) (e:Event) (r:(List Int)) (h:ppo_sides n e=some r):PCall Tryd.prog 89 [(aAgg Event.enc e)] (eqA (.sl (r.map eI))):=by
 unfold ppo_sides at h
 obtain ⟨y1,gy1,h⟩:=bindE h
 have c84_:=fun (R:Prop) (z:R)=>(aI (event_Writes_sim n e y1 gy1) z)
 rcases iteN h with ⟨h2,h⟩ | ⟨h2,h⟩
 ·
  obtain ⟨y3,gy3,h⟩:=bindE h
  have c86_:=fun (R:Prop) (z:R)=>(aB h2 (aI (event_Reads_sim n e y3 gy3) z))
  rcases iteN h with ⟨h4,h⟩ | ⟨h4,h⟩
  ·
   obtain rfl:=soI h
   exact kP (nA ord89 [rVC 1 [(4,vF)] [(4,.v (.bool y1))],rVC 3 [(9,vF)] [(9,.v (.bool y3))]]) ordB89 (fun z=>(c84_ _ (c86_ _ (aB h4 (LeA.nil:LeA .nilsl (.sl (([]:List Int).map eI))))))) (by kernel_rfl)
  obtain rfl:=soI h
  exact kP (nA ord89 [rVC 1 [(4,vF)] [(4,.v (.bool y1))],rVC 3 [(9,vT)] [(9,.v (.bool y3))],(4,⟨[],[12],[],[],[],[],[],[],[]⟩)]) ordB89 (fun z=>(c84_ _ (c86_ _ (aB h4 (aI (rfl:szOk 1 [[(vI 1)]]=true) (aI (rfl:okRows [[(vI 1)]]=true) (aI (rfl:Nat.ble (1 * 8) 140737488355328=true) z))))))) (by kernel_rfl)
 obtain ⟨y3,gy3,h⟩:=bindE h
 have c85_:=fun (R:Prop) (z:R)=>(aB h2 (aI (rfl:szOk 1 [[(vI 0)]]=true) (aI (rfl:okRows [[(vI 0)]]=true) (aI (rfl:Nat.ble (1 * 8) 140737488355328=true) (aI (event_Reads_sim n e y3 gy3) z)))))
 rcases iteN h with ⟨h4,h⟩ | ⟨h4,h⟩
 ·
  obtain rfl:=soI h
  exact kP (nA ord89 [rVC 1 [(4,vT)] [(4,.v (.bool y1))],(2,⟨[],[7],[],[],[],[],[],[],[]⟩),rVC 3 [(9,vF)] [(9,.v (.bool y3))]]) ordB89 (fun z=>(c84_ _ (c85_ _ (aB h4 z)))) (by kernel_rfl)
 obtain ⟨h5,h⟩:=grdE h
 obtain rfl:=soI h
 exact kP (nA ord89 [rVC 1 [(4,vT)] [(4,.v (.bool y1))],(2,⟨[],[7],[],[],[],[],[],[],[]⟩),rVC 3 [(9,vT)] [(9,.v (.bool y3))],(4,⟨[],[12],[],[],[],[],[(12,(0,(([0]:List Int)++([1]:List Int)).map eI))],[],[]⟩)]) ordB89 (fun z=>(c84_ _ (c85_ _ (aB h4 (aI (rfl:szOk 1 [[(vI 1)]]=true) (aI (rfl:okRows [[(vI 1)]]=true) (aI (ble_maps1 h5:Nat.ble (((([0]:List Int).map eI).length + 1) * 8) 140737488355328=true) (aI (app_map eI ([0]:List Int) ([1]:List Int)) z)))))))) (by kernel_rfl)

def ord68:List (Nat×PT):=[(8,(ptS [0,1,2,3,4,5,6,7,8,9,10,11,12,13,14,15,16,17,18]))]
theorem ordB68:ordB (polF 68) ord68 (bodyOf Tryd.prog 68)=true:=by kernel_rfl
noncomputable def Z178:Code:=sub (bodyOf Tryd.prog 68) [1,0,1,0,0]
noncomputable def Z179:Code:=sub Z178 [1,1,0,0,1,1,0,0]
theorem Z180:ordB (polF 68) ord68 Z179=true:=by kernel_rfl
def Z181 (v:ppo_view) (a:Int) (b:Int) (y2:(List Int)) (xa2:Int) (ya4:(List Int)) (sb:Int×Int):St:=mkS 63 [(0,.fptr (ppo_view.enc v) 0),(1,(vI a)),(2,(vI b)),(8,(vI xa2)),(19,.sl (y2.map eI)),(20,(vI (y2.length:Int))),(21,(vI sb.1)),(32,.sl (ya4.map eI)),(33,(vI (ya4.length:Int))),(34,(vI sb.2))] [] [] 0
def Z182 (v:ppo_view) (a:Int) (b:Int) (y2:(List Int)) (xa2:Int) (ya4:(List Int)) (tt:Int):St:=mkS 63 [(0,.fptr (ppo_view.enc v) 0),(1,(vI a)),(2,(vI b)),(19,.sl (y2.map eI)),(20,(vI (y2.length:Int))),(21,(vI tt))] [] [] 0
def Z183 (v:ppo_view) (a:Int) (b:Int) (y2:(List Int)) (xa2:Int) (ya4:(List Int)) (tt:Unit):St:=mkS 63 [(6,vT)] [] [] 0
def Z184 (v:ppo_view) (a:Int) (b:Int) (y2:(List Int)) (xa2:Int) (ya4:(List Int)) (t0:(Int⊕Unit)):Ex×St:=match t0 with | .inl tt=>(.ex 2,Z182 v a b y2 xa2 ya4 tt) | .inr tt=>(.ret,Z183 v a b y2 xa2 ya4 tt)
theorem Z185 (n:Nat) (v:ppo_view) (a:Int) (b:Int) (y2:(List Int)) (xa2:Int) (ya4:(List Int)):∀ sb r,ppo_view_fenced_L2 n v a b y2 xa2 ya4 sb=some r→CodeD Tryd.prog Z179 (Z181 v a b y2 xa2 ya4 sb) (rk (Z181 v a b y2 xa2 ya4) (Z184 v a b y2 xa2 ya4) r):=by
 intro sb r h
 unfold ppo_view_fenced_L2 at h
 rcases iteN h with ⟨hb1,h⟩ | ⟨hb1,h⟩
 ·
  exact kQ h (nA ord68 [rV 5 [(35,vF)]]) [wK 4 [0,1,2,19,20,21] [] 0] Z180 (rkE rfl neE) (fun z=>(aB hb1 z)) (by kernel_rfl)
 obtain ⟨xb2,gxb2,h⟩:=bindE h
 have c87_:=fun (R:Prop) (z:R)=>(aB hb1 (aM eI gxb2 z))
 rcases iteE h with ⟨hb3,h⟩ | ⟨hb3,h⟩
 ·
  obtain ⟨xb4,gxb4,h⟩:=bindE h
  obtain ⟨xb5,gxb5,h⟩:=bindE h
  have d0_:AV.v (.int .i64 (addW .i64 (mulW .i64 2 xa2) xb2))=AV.v (.int .i64 0):=eqI hb3
  have c88_:=fun (R:Prop) (z:R)=>(aI d0_ (aM eI gxb4 (aI d0_ (aM eI gxb5 z))))
  rcases iteE h with ⟨hb6,h⟩ | ⟨hb6,h⟩
  ·
   exact kQ h (nA ord68 [rV 5 [(35,vT)],rR 6 [(36,[(vI xb2)])],(8,⟨[],[],[(49,[(vI xb4)]),(58,[(vI xb5)])],[(43,(vI 0)),(52,(vI 0)),(60,vT)],[],[],[],[],[]⟩)]) [wK 1 [6] [] 0] Z180 (rkE rfl neR) (fun z=>(c87_ _ (c88_ _ (aB hb6 z)))) (by kernel_rfl)
  exact kQ h (nA ord68 [rV 5 [(35,vT)],rR 6 [(36,[(vI xb2)])],(8,⟨[],[],[(49,[(vI xb4)]),(58,[(vI xb5)])],[(43,(vI 0)),(52,(vI 0)),(60,vF)],[],[],[],[],[]⟩)]) [wK 0 [0,1,2,8,19,20,21,32,33,34] [] 0] Z180 rkN (fun z=>(c87_ _ (c88_ _ (aB hb6 z)))) (by kernel_rfl)
 rcases iteE h with ⟨hb3,h⟩ | ⟨hb3,h⟩
 ·
  obtain ⟨xb4,gxb4,h⟩:=bindE h
  obtain ⟨xb5,gxb5,h⟩:=bindE h
  have d0_:AV.v (.int .i64 (addW .i64 (mulW .i64 2 xa2) xb2))=AV.v (.int .i64 1):=eqI hb3
  have c89_:=fun (R:Prop) (z:R)=>(aI d0_ (aM eI gxb4 (aI d0_ (aM eI gxb5 z))))
  rcases iteE h with ⟨hb6,h⟩ | ⟨hb6,h⟩
  ·
   exact kQ h (nA ord68 [rV 5 [(35,vT)],rR 6 [(36,[(vI xb2)])],(8,⟨[],[],[(49,[(vI xb4)]),(58,[(vI xb5)])],[(43,(vI 1)),(52,(vI 1)),(60,vT)],[],[],[],[],[]⟩)]) [wK 1 [6] [] 0] Z180 (rkE rfl neR) (fun z=>(c87_ _ (c89_ _ (aB hb6 z)))) (by kernel_rfl)
  exact kQ h (nA ord68 [rV 5 [(35,vT)],rR 6 [(36,[(vI xb2)])],(8,⟨[],[],[(49,[(vI xb4)]),(58,[(vI xb5)])],[(43,(vI 1)),(52,(vI 1)),(60,vF)],[],[],[],[],[]⟩)]) [wK 0 [0,1,2,8,19,20,21,32,33,34] [] 0] Z180 rkN (fun z=>(c87_ _ (c89_ _ (aB hb6 z)))) (by kernel_rfl)
 rcases iteE h with ⟨hb3,h⟩ | ⟨hb3,h⟩
 ·
  obtain ⟨xb4,gxb4,h⟩:=bindE h
  obtain ⟨xb5,gxb5,h⟩:=bindE h
  have d0_:AV.v (.int .i64 (addW .i64 (mulW .i64 2 xa2) xb2))=AV.v (.int .i64 2):=eqI hb3
  have c90_:=fun (R:Prop) (z:R)=>(aI d0_ (aM eI gxb4 (aI d0_ (aM eI gxb5 z))))
  rcases iteE h with ⟨hb6,h⟩ | ⟨hb6,h⟩
  ·
   exact kQ h (nA ord68 [rV 5 [(35,vT)],rR 6 [(36,[(vI xb2)])],(8,⟨[],[],[(49,[(vI xb4)]),(58,[(vI xb5)])],[(43,(vI 2)),(52,(vI 2)),(60,vT)],[],[],[],[],[]⟩)]) [wK 1 [6] [] 0] Z180 (rkE rfl neR) (fun z=>(c87_ _ (c90_ _ (aB hb6 z)))) (by kernel_rfl)
  exact kQ h (nA ord68 [rV 5 [(35,vT)],rR 6 [(36,[(vI xb2)])],(8,⟨[],[],[(49,[(vI xb4)]),(58,[(vI xb5)])],[(43,(vI 2)),(52,(vI 2)),(60,vF)],[],[],[],[],[]⟩)]) [wK 0 [0,1,2,8,19,20,21,32,33,34] [] 0] Z180 rkN (fun z=>(c87_ _ (c90_ _ (aB hb6 z)))) (by kernel_rfl)
 rcases iteE h with ⟨hb3,h⟩ | ⟨hb3,h⟩
 ·
  obtain ⟨xb4,gxb4,h⟩:=bindE h
  obtain ⟨xb5,gxb5,h⟩:=bindE h
  have d0_:AV.v (.int .i64 (addW .i64 (mulW .i64 2 xa2) xb2))=AV.v (.int .i64 3):=eqI hb3
  have c91_:=fun (R:Prop) (z:R)=>(aI d0_ (aM eI gxb4 (aI d0_ (aM eI gxb5 z))))
  rcases iteE h with ⟨hb6,h⟩ | ⟨hb6,h⟩
  ·
   exact kQ h (nA ord68 [rV 5 [(35,vT)],rR 6 [(36,[(vI xb2)])],(8,⟨[],[],[(49,[(vI xb4)]),(58,[(vI xb5)])],[(43,(vI 3)),(52,(vI 3)),(60,vT)],[],[],[],[],[]⟩)]) [wK 1 [6] [] 0] Z180 (rkE rfl neR) (fun z=>(c87_ _ (c91_ _ (aB hb6 z)))) (by kernel_rfl)
  exact kQ h (nA ord68 [rV 5 [(35,vT)],rR 6 [(36,[(vI xb2)])],(8,⟨[],[],[(49,[(vI xb4)]),(58,[(vI xb5)])],[(43,(vI 3)),(52,(vI 3)),(60,vF)],[],[],[],[],[]⟩)]) [wK 0 [0,1,2,8,19,20,21,32,33,34] [] 0] Z180 rkN (fun z=>(c87_ _ (c91_ _ (aB hb6 z)))) (by kernel_rfl)
 cases h

theorem Z186:ordB (polF 68) ord68 Z178=true:=by kernel_rfl
def Z187 (v:ppo_view) (a:Int) (b:Int) (y2:(List Int)) (sa:Int):St:=mkS 63 [(0,.fptr (ppo_view.enc v) 0),(1,(vI a)),(2,(vI b)),(19,.sl (y2.map eI)),(20,(vI (y2.length:Int))),(21,(vI sa))] [] [] 0
def Z188 (v:ppo_view) (a:Int) (b:Int) (y2:(List Int)) (tt:Unit):St:=mkS 63 [] [] [] 0
def Z189 (v:ppo_view) (a:Int) (b:Int) (y2:(List Int)) (tt:Unit):St:=mkS 63 [(6,vT)] [] [] 0
def Z190 (v:ppo_view) (a:Int) (b:Int) (y2:(List Int)) (t0:(Unit⊕Unit)):Ex×St:=match t0 with | .inl tt=>(.ex 0,Z188 v a b y2 tt) | .inr tt=>(.ret,Z189 v a b y2 tt)
theorem Z191 (n:Nat) (v:ppo_view) (a:Int) (b:Int) (y2:(List Int)):∀ sa r,ppo_view_fenced_L1 n v a b y2 sa=some r→CodeD Tryd.prog Z178 (Z187 v a b y2 sa) (rk (Z187 v a b y2) (Z190 v a b y2) r):=by
 intro sa r h
 unfold ppo_view_fenced_L1 at h
 rcases iteN h with ⟨ha1,h⟩ | ⟨ha1,h⟩
 ·
  exact kQ h (nA ord68 [rV 2 [(22,vF)]]) [wK 2 [] [] 0] Z186 (rkE rfl neE) (fun z=>(aB ha1 z)) (by kernel_rfl)
 obtain ⟨xa2,gxa2,h⟩:=bindE h
 obtain ⟨xa3,gxa3,h⟩:=bindE h
 obtain ⟨ya4,gya4,h⟩:=bindE h
 obtain ⟨ta5,gta5,h⟩:=bindE h
 have c92_:=fun (R:Prop) (z:R)=>(aB ha1 (aM eI gxa2 (aM Event.enc gxa3 (aI (ppo_sides_sim n xa3 ya4 gya4) (aL eI ya4 z)))))
 rcases ta5 with wa6 | wa6
 ·
  exact kQ h ⟨ord68,[rV 2 [(22,vT)],rR 3 [(23,[(vI xa2)])],(4,⟨[],[],[(30,(Event.enc xa3))],[(33,(vI (ya4.length:Int)))],[(32,.sl (ya4.map eI))],[],[],[],[]⟩)],[],[(5,(⟨[0,1,2,8,19,20,21,32,33,34],[],0,[],[],[]⟩,l0,(.ex 2),Z182 v a b y2 xa2 ya4 wa6))],[]⟩ [wK 0 [0,1,2,19,20,21] [] 0] Z186 rkN (fun z=>(c92_ _ (aI (okL (pl:=polF 68) (Z181 v a b y2 xa2 ya4) (Z184 v a b y2 xa2 ya4) (Z185 n v a b y2 xa2 ya4) n _ (.inl wa6) gta5) z))) (by kernel_rfl)
 ·
  exact kQ h ⟨ord68,[rV 2 [(22,vT)],rR 3 [(23,[(vI xa2)])],(4,⟨[],[],[(30,(Event.enc xa3))],[(33,(vI (ya4.length:Int)))],[(32,.sl (ya4.map eI))],[],[],[],[]⟩)],[],[(5,(⟨[0,1,2,8,19,20,21,32,33,34],[],0,[],[],[]⟩,l0,.ret,Z183 v a b y2 xa2 ya4 wa6))],[]⟩ [wK 1 [6] [] 0] Z186 (rkE rfl neR) (fun z=>(c92_ _ (aI (okL (pl:=polF 68) (Z181 v a b y2 xa2 ya4) (Z184 v a b y2 xa2 ya4) (Z185 n v a b y2 xa2 ya4) n _ (.inr wa6) gta5) z))) (by kernel_rfl)

theorem ppo_view_fenced_sim (n:Nat) (v:ppo_view) (a:Int) (b:Int) (r:Bool) (h:ppo_view_fenced n v a b=some r):PCall Tryd.prog 68 [.fptr (ppo_view.enc v) 0,(vI a),(vI b)] (eqA (.v (.bool r))):=by
 unfold ppo_view_fenced at h
 obtain ⟨x1,gx1,h⟩:=bindE h
 obtain ⟨y2,gy2,h⟩:=bindE h
 obtain ⟨t3,gt3,h⟩:=bindE h
 have c93_:=fun (R:Prop) (z:R)=>(aM Event.enc gx1 (aI (ppo_sides_sim n x1 y2 gy2) (aL eI y2 z)))
 rcases t3 with w4 | w4
 ·
  obtain rfl:=soI h
  exact kP ⟨ord68,[(1,⟨[],[],[(17,(Event.enc x1))],[(20,(vI (y2.length:Int)))],[(19,.sl (y2.map eI))],[],[],[],[]⟩)],[],[(2,(⟨[0,1,2,19,20,21],[],0,[],[],[]⟩,l0,(.ex 0),Z188 v a b y2 w4))],[]⟩ ordB68 (fun z=>(c93_ _ (aI (okL (pl:=polF 68) (Z187 v a b y2) (Z190 v a b y2) (Z191 n v a b y2) n _ (.inl w4) gt3) z))) (by kernel_rfl)
 ·
  obtain rfl:=soI h
  exact kP ⟨ord68,[(1,⟨[],[],[(17,(Event.enc x1))],[(20,(vI (y2.length:Int)))],[(19,.sl (y2.map eI))],[],[],[],[]⟩)],[],[(2,(⟨[0,1,2,19,20,21],[],0,[],[],[]⟩,l0,.ret,Z189 v a b y2 w4))],[]⟩ ordB68 (fun z=>(c93_ _ (aI (okL (pl:=polF 68) (Z187 v a b y2) (Z190 v a b y2) (Z191 n v a b y2) n _ (.inr w4) gt3) z))) (by kernel_rfl)

def ord67:List (Nat×PT):=[]
theorem ordB67:ordB (polF 67) ord67 (bodyOf Tryd.prog 67)=true:=by kernel_rfl
theorem ppo_rules_4_sim (n:Nat) (v:ppo_view) (a:Int) (b:Int) (x:Event) (y:Event) (r:Bool) (h:ppo_rules_4 n v a b x y=some r):PCall Tryd.prog 67 [.fptr (ppo_view.enc v) 0,(vI a),(vI b),.fptr (Event.enc x) 0,.fptr (Event.enc y) 0] (eqA (.v (.bool r))):=by
 unfold ppo_rules_4 at h
 obtain ⟨y1,gy1,h⟩:=bindE h
 obtain rfl:=soI h
 exact kP (nA ord67 [rVC 1 [] [(14,.v (.bool y1))]]) ordB67 (fun z=>(aI (ppo_view_fenced_sim n v a b y1 gy1) z)) (by kernel_rfl)

def ord69:List (Nat×PT):=[]
theorem ordB69:ordB (polF 69) ord69 (bodyOf Tryd.prog 69)=true:=by kernel_rfl
theorem ppo_rules_5_sim (n:Nat) (v:ppo_view) (a:Int) (b:Int) (x:Event) (y:Event) (r:Bool) (h:ppo_rules_5 n v a b x y=some r):PCall Tryd.prog 69 [.fptr (ppo_view.enc v) 0,(vI a),(vI b),.fptr (Event.enc x) 0,.fptr (Event.enc y) 0] (eqA (.v (.bool r))):=by
 unfold ppo_rules_5 at h
 obtain rfl:=soI h
 exact kP (nA ord69 []) ordB69 (fun z=>z) (by kernel_rfl)

def ord70:List (Nat×PT):=[]
theorem ordB70:ordB (polF 70) ord70 (bodyOf Tryd.prog 70)=true:=by kernel_rfl
theorem ppo_rules_6_sim (n:Nat) (v:ppo_view) (a:Int) (b:Int) (x:Event) (y:Event) (r:Bool) (h:ppo_rules_6 n v a b x y=some r):PCall Tryd.prog 70 [.fptr (ppo_view.enc v) 0,(vI a),(vI b),.fptr (Event.enc x) 0,.fptr (Event.enc y) 0] (eqA (.v (.bool r))):=by
 unfold ppo_rules_6 at h
 obtain rfl:=soI h
 exact kP (nA ord70 []) ordB70 (fun z=>z) (by kernel_rfl)

def ord71:List (Nat×PT):=[]
theorem ordB71:ordB (polF 71) ord71 (bodyOf Tryd.prog 71)=true:=by kernel_rfl
theorem ppo_rules_7_sim (n:Nat) (v:ppo_view) (a:Int) (b:Int) (x:Event) (y:Event) (r:Bool) (h:ppo_rules_7 n v a b x y=some r):PCall Tryd.prog 71 [.fptr (ppo_view.enc v) 0,(vI a),(vI b),.fptr (Event.enc x) 0,.fptr (Event.enc y) 0] (eqA (.v (.bool r))):=by
 unfold ppo_rules_7 at h
 rcases iteE h with ⟨h1,h⟩ | ⟨h1,h⟩
 ·
  rcases iteE h with ⟨h2,h⟩ | ⟨h2,h⟩
  ·
   obtain rfl:=soI h
   exact kP (nA ord71 [rV 1 [(15,vT),(26,vT)]]) ordB71 (fun z=>(aB h1 (aB h2 z))) (by kernel_rfl)
  obtain rfl:=soI h
  exact kP (nA ord71 [rV 1 [(15,vT),(26,vF)]]) ordB71 (fun z=>(aB h1 (aB h2 z))) (by kernel_rfl)
 rcases iteN h with ⟨h2,h⟩ | ⟨h2,h⟩
 ·
  obtain rfl:=soI h
  exact kP (nA ord71 [rV 1 [(15,vF),(21,vF)]]) ordB71 (fun z=>(aB h1 (aB h2 z))) (by kernel_rfl)
 have c94_:=fun (R:Prop) (z:R)=>(aB h1 (aB h2 z))
 rcases iteE h with ⟨h3,h⟩ | ⟨h3,h⟩
 ·
  obtain rfl:=soI h
  exact kP (nA ord71 [rV 1 [(15,vF),(21,vT),(26,vT)]]) ordB71 (fun z=>(c94_ _ (aB h3 z))) (by kernel_rfl)
 obtain rfl:=soI h
 exact kP (nA ord71 [rV 1 [(15,vF),(21,vT),(26,vF)]]) ordB71 (fun z=>(c94_ _ (aB h3 z))) (by kernel_rfl)

def ord72:List (Nat×PT):=[(1,(ptS [0,1,2,3,4,5,6,7,8,9,10,11,12,13,14,15,16]))]
theorem ordB72:ordB (polF 72) ord72 (bodyOf Tryd.prog 72)=true:=by kernel_rfl
theorem ppo_rules_8_sim (n:Nat) (v:ppo_view) (a:Int) (b:Int) (x:Event) (y:Event) (r:Bool) (h:ppo_rules_8 n v a b x y=some r):PCall Tryd.prog 72 [.fptr (ppo_view.enc v) 0,(vI a),(vI b),.fptr (Event.enc x) 0,.fptr (Event.enc y) 0] (eqA (.v (.bool r))):=by
 unfold ppo_rules_8 at h
 rcases iteE h with ⟨h1,h⟩ | ⟨h1,h⟩
 ·
  obtain rfl:=soI h
  exact kP (nA ord72 [rV 1 [(16,vT)]]) ordB72 (fun z=>(aB h1 z)) (by kernel_rfl)
 obtain rfl:=soI h
 exact kP (nA ord72 [rV 1 [(16,vF)]]) ordB72 (fun z=>(aB h1 z)) (by kernel_rfl)

def ord95:List (Nat×PT):=[]
theorem ordB95:ordB (polF 95) ord95 (bodyOf Tryd.prog 95)=true:=by kernel_rfl
theorem cmp_isNaN_int_sim (n:Nat) (x:Int) (r:Bool) (h:cmp_isNaN_int n x=some r):PCall Tryd.prog 95 [(vI x)] (eqA (.v (.bool r))):=by
 unfold cmp_isNaN_int at h
 obtain rfl:=soI h
 exact kP (nA ord95 []) ordB95 (fun z=>z) (by kernel_rfl)

def ord93:List (Nat×PT):=[]
theorem ordB93:ordB (polF 93) ord93 (bodyOf Tryd.prog 93)=true:=by kernel_rfl
theorem cmp_Less_int_sim (n:Nat) (x:Int) (y:Int) (r:Bool) (h:cmp_Less_int n x y=some r):PCall Tryd.prog 93 [(vI x),(vI y)] (eqA (.v (.bool r))):=by
 unfold cmp_Less_int at h
 obtain ⟨y1,gy1,h⟩:=bindE h
 have c95_:=fun (R:Prop) (z:R)=>(aI (cmp_isNaN_int_sim n x y1 gy1) z)
 rcases iteN h with ⟨h2,h⟩ | ⟨h2,h⟩
 ·
  obtain rfl:=soI h
  exact kP (nA ord93 [rVC 1 [(7,vF)] [(6,.v (.bool y1))]]) ordB93 (fun z=>(c95_ _ (aB h2 z))) (by kernel_rfl)
 obtain ⟨y3,gy3,h⟩:=bindE h
 have c96_:=fun (R:Prop) (z:R)=>(aB h2 (aI (cmp_isNaN_int_sim n y y3 gy3) z))
 rcases iteE h with ⟨h4,h⟩ | ⟨h4,h⟩
 ·
  obtain rfl:=soI h
  exact kP (nA ord93 [rVC 1 [(7,vT),(12,vT)] [(6,.v (.bool y1)),(9,.v (.bool y3))]]) ordB93 (fun z=>(c95_ _ (c96_ _ (aB h4 z)))) (by kernel_rfl)
 obtain rfl:=soI h
 exact kP (nA ord93 [rVC 1 [(7,vT),(12,vF)] [(6,.v (.bool y1)),(9,.v (.bool y3))]]) ordB93 (fun z=>(c95_ _ (c96_ _ (aB h4 z)))) (by kernel_rfl)

def ord94:List (Nat×PT):=[]
theorem ordB94:ordB (polF 94) ord94 (bodyOf Tryd.prog 94)=true:=by kernel_rfl
theorem slices_isNaN_int_sim (n:Nat) (x:Int) (r:Bool) (h:slices_isNaN_int n x=some r):PCall Tryd.prog 94 [(vI x)] (eqA (.v (.bool r))):=by
 unfold slices_isNaN_int at h
 obtain rfl:=soI h
 exact kP (nA ord94 []) ordB94 (fun z=>z) (by kernel_rfl)

def ord90:List (Nat×PT):=[]
theorem ordB90:ordB (polF 90) ord90 (bodyOf Tryd.prog 90)=true:=by kernel_rfl
noncomputable def Z192:Code:=sub (bodyOf Tryd.prog 90) [1,1,1,0,0,0]
theorem Z193:ordB (polF 90) ord90 Z192=true:=by kernel_rfl
def Z194 (x:(List Int)) (target:Int) (sa:Int×Int):St:=mkS 54 [(0,.sl (x.map eI)),(1,(vI target)),(6,(vI (x.length:Int))),(7,(vI sa.1)),(8,(vI sa.2))] [] [] 0
def Z195 (x:(List Int)) (target:Int) (tt:Int):St:=mkS 54 [(0,.sl (x.map eI)),(1,(vI target)),(6,(vI (x.length:Int))),(7,(vI tt))] [] [] 0
def Z196 (x:(List Int)) (target:Int) (tt:Int):Ex×St:=(.ex 0,Z195 x target tt)
theorem Z197 (n:Nat) (x:(List Int)) (target:Int):∀ sa r,slices_BinarySearch_int_int_L1 n x target sa=some r→CodeD Tryd.prog Z192 (Z194 x target sa) (rk (Z194 x target) (Z196 x target) r):=by
 intro sa r h
 unfold slices_BinarySearch_int_int_L1 at h
 rcases iteN h with ⟨ha1,h⟩ | ⟨ha1,h⟩
 ·
  exact kQ h (nA ord90 [rV 3 [(15,vF)]]) [wK 2 [0,1,6,7] [] 0] Z193 (rkE rfl neE) (fun z=>(aB ha1 z)) (by kernel_rfl)
 obtain ⟨xa2,gxa2,h⟩:=bindE h
 obtain ⟨ya3,gya3,h⟩:=bindE h
 have c97_:=fun (R:Prop) (z:R)=>(aB ha1 (aM eI gxa2 (aI (cmp_Less_int_sim n xa2 target ya3 gya3) z)))
 rcases iteE h with ⟨ha4,h⟩ | ⟨ha4,h⟩
 ·
  exact kQ h (nA ord90 [rV 3 [(15,vT)],(5,⟨[],[],[(24,[(vI xa2)])],[(27,vT)],[(27,.v (.bool ya3))],[],[],[],[]⟩)]) [wK 0 [0,1,6,7,8] [] 0] Z193 rkN (fun z=>(c97_ _ (aB ha4 z))) (by kernel_rfl)
 exact kQ h (nA ord90 [rV 3 [(15,vT)],(5,⟨[],[],[(24,[(vI xa2)])],[(27,vF)],[(27,.v (.bool ya3))],[],[],[],[]⟩)]) [wK 0 [0,1,6,7,8] [] 0] Z193 rkN (fun z=>(c97_ _ (aB ha4 z))) (by kernel_rfl)

theorem slices_BinarySearch_int_int_sim (n:Nat) (x:(List Int)) (target:Int) (r:Int×Bool) (h:slices_BinarySearch_int_int n x target=some r):PCall Tryd.prog 90 [.sl (x.map eI),(vI target)] (eqA (.tup [(vI r.1),.v (.bool r.2)])):=by
 unfold slices_BinarySearch_int_int at h
 obtain ⟨t1,gt1,h⟩:=bindE h
 have c98_:=fun (R:Prop) (z:R)=>(aL eI x (aI (okL (pl:=polF 90) (Z194 x target) (Z196 x target) (Z197 n x target) n _ t1 gt1) z))
 rcases iteN h with ⟨h2,h⟩ | ⟨h2,h⟩
 ·
  obtain rfl:=soI h
  exact kP ⟨ord90,[rV 1 [(11,(vI (x.length:Int)))],rV 8 [(35,vF)]],[],[(3,(⟨[0,1,6,7,8],[],0,[],[],[]⟩,l0,(.ex 0),Z195 x target t1))],[]⟩ ordB90 (fun z=>(c98_ _ (aB h2 z))) (by kernel_rfl)
 obtain ⟨x3,gx3,h⟩:=bindE h
 have c99_:=fun (R:Prop) (z:R)=>(aB h2 (aM eI gx3 z))
 rcases iteE h with ⟨h4,h⟩ | ⟨h4,h⟩
 ·
  obtain rfl:=soI h
  exact kP ⟨ord90,[rV 1 [(11,(vI (x.length:Int)))],(8,⟨[],[],[(38,[(vI x3)])],[(35,vT),(42,vT)],[],[],[],[],[]⟩)],[],[(3,(⟨[0,1,6,7,8],[],0,[],[],[]⟩,l0,(.ex 0),Z195 x target t1))],[]⟩ ordB90 (fun z=>(c98_ _ (c99_ _ (aB h4 z)))) (by kernel_rfl)
 obtain ⟨y5,gy5,h⟩:=bindE h
 have c100_:=fun (R:Prop) (z:R)=>(aB h4 (aM eI gx3 (aI (slices_isNaN_int_sim n x3 y5 gy5) z)))
 rcases iteN h with ⟨h6,h⟩ | ⟨h6,h⟩
 ·
  obtain rfl:=soI h
  exact kP ⟨ord90,[rV 1 [(11,(vI (x.length:Int)))],(8,⟨[],[],[(38,[(vI x3)]),(45,[(vI x3)])],[(35,vT),(42,vF),(48,vF)],[(47,.v (.bool y5))],[],[],[],[]⟩)],[],[(3,(⟨[0,1,6,7,8],[],0,[],[],[]⟩,l0,(.ex 0),Z195 x target t1))],[]⟩ ordB90 (fun z=>(c98_ _ (c99_ _ (c100_ _ (aB h6 z))))) (by kernel_rfl)
 obtain ⟨y7,gy7,h⟩:=bindE h
 obtain rfl:=soI h
 exact kP ⟨ord90,[rV 1 [(11,(vI (x.length:Int)))],(8,⟨[],[],[(38,[(vI x3)]),(45,[(vI x3)])],[(35,vT),(42,vF),(48,vT)],[(47,.v (.bool y5)),(50,.v (.bool y7))],[],[],[],[]⟩)],[],[(3,(⟨[0,1,6,7,8],[],0,[],[],[]⟩,l0,(.ex 0),Z195 x target t1))],[]⟩ ordB90 (fun z=>(c98_ _ (c99_ _ (c100_ _ (aB h6 (aI (slices_isNaN_int_sim n target y7 gy7) z)))))) (by kernel_rfl)

def ord74:List (Nat×PT):=[]
theorem ordB74:ordB (polF 74) ord74 (bodyOf Tryd.prog 74)=true:=by kernel_rfl
theorem ppo_on_sim (n:Nat) (l:(List Int)) (at_:Int) (r:Bool) (h:ppo_on n l at_=some r):PCall Tryd.prog 74 [.sl (l.map eI),(vI at_)] (eqA (.v (.bool r))):=by
 unfold ppo_on at h
 obtain ⟨y1,gy1,h⟩:=bindE h
 obtain rfl:=soI h
 exact kP (nA ord74 [rVC 1 [] [(10,.tup [(vI y1.1),.v (.bool y1.2)])]]) ordB74 (fun z=>(aI (slices_BinarySearch_int_int_sim n l at_ y1 gy1) z)) (by kernel_rfl)

def ord73:List (Nat×PT):=[(1,(ptS [0,1,2,3,4,5,6,7,8,9,10]))]
theorem ordB73:ordB (polF 73) ord73 (bodyOf Tryd.prog 73)=true:=by kernel_rfl
theorem ppo_rules_9_sim (n:Nat) (v:ppo_view) (a:Int) (b:Int) (x:Event) (y:Event) (r:Bool) (h:ppo_rules_9 n v a b x y=some r):PCall Tryd.prog 73 [.fptr (ppo_view.enc v) 0,(vI a),(vI b),.fptr (Event.enc x) 0,.fptr (Event.enc y) 0] (eqA (.v (.bool r))):=by
 unfold ppo_rules_9 at h
 obtain ⟨y1,gy1,h⟩:=bindE h
 obtain rfl:=soI h
 exact kP (nA ord73 [rVC 1 [] [(20,.v (.bool y1))]]) ordB73 (fun z=>(aI (ppo_on_sim n y.Deps.Addr x.At y1 gy1) z)) (by kernel_rfl)

def ord75:List (Nat×PT):=[(1,(ptS [0,1,2,3,4,5,6,7,8,9,10]))]
theorem ordB75:ordB (polF 75) ord75 (bodyOf Tryd.prog 75)=true:=by kernel_rfl
theorem ppo_rules_10_sim (n:Nat) (v:ppo_view) (a:Int) (b:Int) (x:Event) (y:Event) (r:Bool) (h:ppo_rules_10 n v a b x y=some r):PCall Tryd.prog 75 [.fptr (ppo_view.enc v) 0,(vI a),(vI b),.fptr (Event.enc x) 0,.fptr (Event.enc y) 0] (eqA (.v (.bool r))):=by
 unfold ppo_rules_10 at h
 obtain ⟨y1,gy1,h⟩:=bindE h
 obtain rfl:=soI h
 exact kP (nA ord75 [rVC 1 [] [(20,.v (.bool y1))]]) ordB75 (fun z=>(aI (ppo_on_sim n y.Deps.Data x.At y1 gy1) z)) (by kernel_rfl)

def ord76:List (Nat×PT):=[(1,(ptS [0,1,2,3,4,5,6,7,8,9,10,11,12,13,14,15,16]))]
theorem ordB76:ordB (polF 76) ord76 (bodyOf Tryd.prog 76)=true:=by kernel_rfl
theorem ppo_rules_11_sim (n:Nat) (v:ppo_view) (a:Int) (b:Int) (x:Event) (y:Event) (r:Bool) (h:ppo_rules_11 n v a b x y=some r):PCall Tryd.prog 76 [.fptr (ppo_view.enc v) 0,(vI a),(vI b),.fptr (Event.enc x) 0,.fptr (Event.enc y) 0] (eqA (.v (.bool r))):=by
 unfold ppo_rules_11 at h
 obtain ⟨y1,gy1,h⟩:=bindE h
 have c101_:=fun (R:Prop) (z:R)=>(aI (event_Writes_sim n y y1 gy1) z)
 rcases iteN h with ⟨h2,h⟩ | ⟨h2,h⟩
 ·
  obtain rfl:=soI h
  exact kP (nA ord76 [rVC 1 [(15,vF)] [(14,.v (.bool y1))]]) ordB76 (fun z=>(c101_ _ (aB h2 z))) (by kernel_rfl)
 obtain ⟨y3,gy3,h⟩:=bindE h
 obtain rfl:=soI h
 exact kP (nA ord76 [rVC 1 [(15,vT)] [(14,.v (.bool y1)),(25,.v (.bool y3))]]) ordB76 (fun z=>(c101_ _ (aB h2 (aI (ppo_on_sim n y.Deps.Way x.At y3 gy3) z)))) (by kernel_rfl)

def ord77:List (Nat×PT):=[(2,(ptS [0,1,2,3,4,5,6,7,8,9,10,11,12,13,14,15,16,17,18,19,20,21,22,23,24,25,26,27,28,29,30,31,32,33,34,35,36,37,38,39,40,41,42,43,44,45,46]))]
theorem ordB77:ordB (polF 77) ord77 (bodyOf Tryd.prog 77)=true:=by kernel_rfl
theorem ppo_rules_12_sim (n:Nat) (v:ppo_view) (a:Int) (b:Int) (x:Event) (y:Event) (r:Bool) (h:ppo_rules_12 n v a b x y=some r):PCall Tryd.prog 77 [.fptr (ppo_view.enc v) 0,(vI a),(vI b),.fptr (Event.enc x) 0,.fptr (Event.enc y) 0] (eqA (.v (.bool r))):=by
 unfold ppo_rules_12 at h
 rcases matchOE h with ⟨h1,h⟩ | ⟨z1,h2,h⟩
 ·
  cases h
 ·
  obtain ⟨x3,gx3,h⟩:=bindE h
  obtain ⟨y4,gy4,h⟩:=bindE h
  have c102_:=fun (R:Prop) (z:R)=>(aI (congrArg (optP Cand.enc) h2) (aM eI gx3 (aI (event_Reads_sim n y y4 gy4) z)))
  rcases iteN h with ⟨h5,h⟩ | ⟨h5,h⟩
  ·
   obtain rfl:=soI h
   exact kP (nA ord77 [(1,⟨[],[],[(20,[(vI x3)])],[(15,.fptr (Cand.enc z1) 0)],[],[],[],[],[]⟩),rVC 2 [(26,vF)] [(25,.v (.bool y4))]]) ordB77 (fun z=>(c102_ _ (aB h5 z))) (by kernel_rfl)
  rcases iteN h with ⟨h6,h⟩ | ⟨h6,h⟩
  ·
   obtain rfl:=soI h
   exact kP (nA ord77 [(1,⟨[],[],[(20,[(vI x3)])],[(15,.fptr (Cand.enc z1) 0)],[],[],[],[],[]⟩),rVC 2 [(26,vT),(31,vF)] [(25,.v (.bool y4))]]) ordB77 (fun z=>(c102_ _ (aB h5 (aB h6 z)))) (by kernel_rfl)
  have c103_:=fun (R:Prop) (z:R)=>(aB h5 (aB h6 z))
  rcases iteN h with ⟨h7,h⟩ | ⟨h7,h⟩
  ·
   obtain rfl:=soI h
   exact kP (nA ord77 [(1,⟨[],[],[(20,[(vI x3)])],[(15,.fptr (Cand.enc z1) 0)],[],[],[],[],[]⟩),rVC 2 [(26,vT),(31,vT),(36,vF)] [(25,.v (.bool y4))]]) ordB77 (fun z=>(c102_ _ (c103_ _ (aB h7 z)))) (by kernel_rfl)
  obtain ⟨x8,gx8,h⟩:=bindE h
  obtain ⟨y9,gy9,h⟩:=bindE h
  have c104_:=fun (R:Prop) (z:R)=>(aB h7 (aM Event.enc gx8 (aI (ppo_on_sim n x8.Deps.Addr x.At y9 gy9) z)))
  rcases iteE h with ⟨h10,h⟩ | ⟨h10,h⟩
  ·
   obtain rfl:=soI h
   exact kP (nA ord77 [(1,⟨[],[],[(20,[(vI x3)])],[(15,.fptr (Cand.enc z1) 0)],[],[],[],[],[]⟩),(2,⟨[],[],[(42,(Event.enc x8))],[(26,vT),(31,vT),(36,vT),(51,vT)],[(25,.v (.bool y4)),(50,.v (.bool y9))],[],[],[],[]⟩)]) ordB77 (fun z=>(c102_ _ (c103_ _ (c104_ _ (aB h10 z))))) (by kernel_rfl)
  obtain ⟨y11,gy11,h⟩:=bindE h
  obtain rfl:=soI h
  exact kP (nA ord77 [(1,⟨[],[],[(20,[(vI x3)])],[(15,.fptr (Cand.enc z1) 0)],[],[],[],[],[]⟩),(2,⟨[],[],[(42,(Event.enc x8)),(57,(Event.enc x8))],[(26,vT),(31,vT),(36,vT),(51,vF)],[(25,.v (.bool y4)),(50,.v (.bool y9)),(65,.v (.bool y11))],[],[],[],[]⟩)]) ordB77 (fun z=>(c102_ _ (c103_ _ (c104_ _ (aB h10 (aM Event.enc gx8 (aI (ppo_on_sim n x8.Deps.Data x.At y11 gy11) z))))))) (by kernel_rfl)

def ord78:List (Nat×PT):=[]
theorem ordB78:ordB (polF 78) ord78 (bodyOf Tryd.prog 78)=true:=by kernel_rfl
theorem ppo_rules_13_sim (n:Nat) (v:ppo_view) (a:Int) (b:Int) (x:Event) (y:Event) (r:Bool) (h:ppo_rules_13 n v a b x y=some r):PCall Tryd.prog 78 [.fptr (ppo_view.enc v) 0,(vI a),(vI b),.fptr (Event.enc x) 0,.fptr (Event.enc y) 0] (eqA (.v (.bool r))):=by
 unfold ppo_rules_13 at h
 obtain ⟨y1,gy1,h⟩:=bindE h
 have c105_:=fun (R:Prop) (z:R)=>(aI (event_Writes_sim n y y1 gy1) z)
 rcases iteN h with ⟨h2,h⟩ | ⟨h2,h⟩
 ·
  obtain rfl:=soI h
  exact kP (nA ord78 [rVC 1 [(15,vF)] [(14,.v (.bool y1))]]) ordB78 (fun z=>(c105_ _ (aB h2 z))) (by kernel_rfl)
 obtain ⟨x3,gx3,h⟩:=bindE h
 obtain rfl:=soI h
 exact kP (nA ord78 [(1,⟨[],[],[(21,[(vI x3)])],[(15,vT)],[(14,.v (.bool y1))],[],[],[],[]⟩)]) ordB78 (fun z=>(c105_ _ (aB h2 (aM eI gx3 z)))) (by kernel_rfl)

end
end Go.Proofs.YtomahedcdcnnhaaDoor
