/- What the functions compute, they compute: printed by a program, path by path. No conditions. -/
import Derived.Test.YtomahedcdcnnhaaGreatDoorP1
import Derived.KernelRfl
namespace Go.Proofs.YtomahedcdcnnhaaGreatDoor
open Go A
set_option linter.unusedVariables false
set_option maxRecDepth 100000
set_option maxHeartbeats 0
section
variable (pc:Nat→List AV→(AV→Prop)→Prop) (sc:Nat→List AV→List Ob→(AV→List Ob→Prop)→Prop) (lp:br→Code→St→(Ex→St→Prop)→Prop) (cd:wH)

def dA:List (Nat×PT):=[(9,(ew [0,1,2,3,4,5,6,7,8])),(17,(ew [0,1,2,3,4,5,6,7,8,9,10,11,12,13,14,15,16,17,18])),(25,(ew [0,1,2,3,4,5,6,7,8,9,10,11,12,13,14,15]))]
theorem G8:ay (ak 82) dA (aj Tryz.prog 82)=true:=by kernel_rfl
noncomputable def IL:Code:=sub (aj Tryz.prog 82) [1,1,1,1,1,1,0,1,0,0]
noncomputable def Nb:Code:=sub IL [1,1,0,0,1,0,1,0,0]
noncomputable def Nc:Code:=sub IL [1,1,0,0,1,1,1,0,0]
noncomputable def C8:Code:=sub (aj Tryz.prog 82) [1,1,1,1,1,0,1,0,0]
theorem G9:ay (ak 82) dA C8=true:=by kernel_rfl
theorem o6:ay (ak 82) dA Nb=true:=by kernel_rfl
def K3 (c:ae) (y3:(List Event)) (xa2:Event) (sb:(List Int)×(List Int)×(List Int)×(List Int)×(List Int)×Int×Int×Int):St:=bg 146 [(3,.ptr (.O 0) 0 0),(6,(vI sb.2.2.2.2.2.2.2)),(7,.ptr (.L 7) 0 0),(52,.sl (y3.map Event.enc)),(53,(vI (y3.length:Int))),(54,(vI sb.2.2.2.2.2.1)),(59,(vI sb.2.2.2.2.2.2.1))] [(7,(Event.enc xa2))] [.arr false 7 [[.fptr (ae.enc c) 0,.sl (y3.map Event.enc),.mf 2,.mf 3,.mf 4,.mf 5,.mf 1]],.arr true 1 (sb.1.map eI),.arr true 1 (sb.2.1.map eI),.arr true 1 (sb.2.2.1.map eI),.arr true 1 (sb.2.2.2.1.map eI),.arr true 1 (sb.2.2.2.2.1.map eI)] 0
def Ne (c:ae) (y3:(List Event)) (xa2:Event) (tt:(List Int)×(List Int)×(List Int)×(List Int)×(List Int)×Int×Int):St:=bg 146 [(3,.ptr (.O 0) 0 0),(6,(vI tt.2.2.2.2.2.2)),(7,.ptr (.L 7) 0 0),(52,.sl (y3.map Event.enc)),(53,(vI (y3.length:Int))),(54,(vI tt.2.2.2.2.2.1))] [(7,(Event.enc xa2))] [.arr false 7 [[.fptr (ae.enc c) 0,.sl (y3.map Event.enc),.mf 2,.mf 3,.mf 4,.mf 5,.mf 1]],.arr true 1 (tt.1.map eI),.arr true 1 (tt.2.1.map eI),.arr true 1 (tt.2.2.1.map eI),.arr true 1 (tt.2.2.2.1.map eI),.arr true 1 (tt.2.2.2.2.1.map eI)] 0
def Nf (c:ae) (y3:(List Event)) (xa2:Event) (tt:((List Int)×(List Int)×(List Int)×(List Int)×(List Int)×Int×Int)):Ex×St:=(.ex 4,Ne c y3 xa2 tt)
theorem P9 (n:Nat) (c:ae) (y3:(List Event)) (xa2:Event):∀ sb r,mw n c y3 xa2 sb=some r→aV Tryz.prog Nb (K3 c y3 xa2 sb) (rk (K3 c y3 xa2) (Nf c y3 xa2) r):=by
 intro sb r h
 unfold mw at h
 rcases aD h with ⟨hb1,h⟩ | ⟨hb1,h⟩
 ·
  exact kQ h (nA dA [rV 15 [(60,vF)]]) [wK 6 [3,6,7,52,53,54] [] 6] o6 (cG rfl kp) (fun z=>(aB hb1 z)) (by kernel_rfl)
 let e99_:LR:=[rV 15 [(60,vT)]]
 rcases ap h with ⟨hb2,h⟩ | ⟨hb2,h⟩
 ·
  obtain ⟨xb3,gxb3,h⟩:=ab h
  obtain ⟨xb4,gxb4,h⟩:=ab h
  have d0_:AV.v (.int .i64 sb.2.2.2.2.2.2.1)=AV.v (.int .i64 0):=xu hb2
  have c100_:=fun (R:Prop) (z:R)=>(aB hb1 (aI d0_ (aI d0_ (aM eI gxb3 (aN eI gxb3 (aM eI gxb4 (aN eI gxb4 (aI (fO eI sb.2.1 (((af .i64 sb.2.2.2.2.2.2.2 1)).toNat) xb3) z))))))))
  let e101_:LR:=[(17,⟨[],[],[(77,[(vI xb3)]),(78,[(vI xb3)]),(79,[(vI xb4)]),(1000079,[(vI xb4)])],[(63,(vI 0)),(71,(vI 0))],[],[],[(1000079,(2,(sb.2.1.set ((af .i64 sb.2.2.2.2.2.2.2 1)).toNat xb3).map eI))],[],[]⟩)]
  rcases aD h with ⟨hb5,h⟩ | ⟨hb5,h⟩
  ·
   exact kQ h (nA dA (e99_++(e101_++[rV 18 [(83,vF)]]))) [wK 0 [3,6,7,52,53,54,59] [] 6] o6 dx (fun z=>(c100_ _ (aB hb5 z))) (by kernel_rfl)
  obtain ⟨hb6,h⟩:=ep h
  rcases aD h with ⟨hb7,h⟩ | ⟨hb7,h⟩
  ·
   exact kQ h (nA dA (e99_++(e101_++[(18,⟨[],[88],[],[(83,vT),(92,vF)],[],[],[],[],[]⟩)]))) [wK 0 [3,6,7,52,53,54,59] [] 6] o6 dx (fun z=>(c100_ _ (aB hb5 (aI hb6 (aB hb7 z))))) (by kernel_rfl)
  obtain ⟨hb8,h⟩:=ep h
  have c102_:=fun (R:Prop) (z:R)=>(aB hb5 (aI hb6 (aB hb7 (aI hb8 z))))
  rcases aD h with ⟨hb9,h⟩ | ⟨hb9,h⟩
  ·
   exact kQ h (nA dA (e99_++(e101_++[(18,⟨[],[88,97],[],[(83,vT),(92,vT),(100,vF)],[],[],[],[],[]⟩)]))) [wK 0 [3,6,7,52,53,54,59] [] 6] o6 dx (fun z=>(c100_ _ (c102_ _ (aB hb9 z)))) (by kernel_rfl)
  obtain ⟨xb10,gxb10,h⟩:=ab h
  have d0_:Ch ((sb.2.1.set ((af .i64 sb.2.2.2.2.2.2.2 1)).toNat xb3).map eI) (af .i64 sb.2.2.2.2.2.2.2 1)=some [(vI xb10)]:=mi eI gxb10
  have d1_:((sb.2.1.set ((af .i64 sb.2.2.2.2.2.2.2 1)).toNat xb3).map eI)[((af .i64 sb.2.2.2.2.2.2.2 1)).toNat]?=some [(vI xb10)]:=pJ eI gxb10
  exact kQ h (nA dA (e99_++(e101_++[(18,⟨[],[88,97],[],[(83,vT),(92,vT),(100,vT)],[],[],[],[],[]⟩),(19,⟨[],[],[(109,[(vI xb10)]),(110,[(vI xb10)]),(112,[(vI xb10)]),(1000112,[(vI xb10)])],[(102,(vI 0))],[],[],[(1000112,(2,((sb.2.1.set ((af .i64 sb.2.2.2.2.2.2.2 1)).toNat xb3).set ((af .i64 sb.2.2.2.2.2.2.2 1)).toNat (af .i64 xb10 1)).map eI))],[],[]⟩)]))) [wK 0 [3,6,7,52,53,54,59] [] 6] o6 dx (fun z=>(c100_ _ (c102_ _ (aB hb9 (aE .i64 hb2 (aI d0_ (aI d1_ (aI d0_ (aI d1_ (aI (fO eI (sb.2.1.set ((af .i64 sb.2.2.2.2.2.2.2 1)).toNat xb3) (((af .i64 sb.2.2.2.2.2.2.2 1)).toNat) (af .i64 xb10 1)) z)))))))))) (by kernel_rfl)
 rcases ap h with ⟨hb2,h⟩ | ⟨hb2,h⟩
 ·
  obtain ⟨xb3,gxb3,h⟩:=ab h
  obtain ⟨xb4,gxb4,h⟩:=ab h
  have d0_:AV.v (.int .i64 sb.2.2.2.2.2.2.1)=AV.v (.int .i64 1):=xu hb2
  have c103_:=fun (R:Prop) (z:R)=>(aB hb1 (aI d0_ (aI d0_ (aM eI gxb3 (aN eI gxb3 (aM eI gxb4 (aN eI gxb4 (aI (fO eI sb.2.2.1 (((af .i64 sb.2.2.2.2.2.2.2 1)).toNat) xb3) z))))))))
  let e104_:LR:=[(17,⟨[],[],[(77,[(vI xb3)]),(78,[(vI xb3)]),(79,[(vI xb4)]),(1000079,[(vI xb4)])],[(63,(vI 1)),(71,(vI 1))],[],[],[(1000079,(3,(sb.2.2.1.set ((af .i64 sb.2.2.2.2.2.2.2 1)).toNat xb3).map eI))],[],[]⟩)]
  rcases aD h with ⟨hb5,h⟩ | ⟨hb5,h⟩
  ·
   exact kQ h (nA dA (e99_++(e104_++[rV 18 [(83,vF)]]))) [wK 0 [3,6,7,52,53,54,59] [] 6] o6 dx (fun z=>(c103_ _ (aB hb5 z))) (by kernel_rfl)
  obtain ⟨hb6,h⟩:=ep h
  rcases aD h with ⟨hb7,h⟩ | ⟨hb7,h⟩
  ·
   exact kQ h (nA dA (e99_++(e104_++[(18,⟨[],[88],[],[(83,vT),(92,vF)],[],[],[],[],[]⟩)]))) [wK 0 [3,6,7,52,53,54,59] [] 6] o6 dx (fun z=>(c103_ _ (aB hb5 (aI hb6 (aB hb7 z))))) (by kernel_rfl)
  obtain ⟨hb8,h⟩:=ep h
  have c105_:=fun (R:Prop) (z:R)=>(aB hb5 (aI hb6 (aB hb7 (aI hb8 z))))
  rcases aD h with ⟨hb9,h⟩ | ⟨hb9,h⟩
  ·
   exact kQ h (nA dA (e99_++(e104_++[(18,⟨[],[88,97],[],[(83,vT),(92,vT),(100,vF)],[],[],[],[],[]⟩)]))) [wK 0 [3,6,7,52,53,54,59] [] 6] o6 dx (fun z=>(c103_ _ (c105_ _ (aB hb9 z)))) (by kernel_rfl)
  obtain ⟨xb10,gxb10,h⟩:=ab h
  have d0_:Ch ((sb.2.2.1.set ((af .i64 sb.2.2.2.2.2.2.2 1)).toNat xb3).map eI) (af .i64 sb.2.2.2.2.2.2.2 1)=some [(vI xb10)]:=mi eI gxb10
  have d1_:((sb.2.2.1.set ((af .i64 sb.2.2.2.2.2.2.2 1)).toNat xb3).map eI)[((af .i64 sb.2.2.2.2.2.2.2 1)).toNat]?=some [(vI xb10)]:=pJ eI gxb10
  exact kQ h (nA dA (e99_++(e104_++[(18,⟨[],[88,97],[],[(83,vT),(92,vT),(100,vT)],[],[],[],[],[]⟩),(19,⟨[],[],[(109,[(vI xb10)]),(110,[(vI xb10)]),(112,[(vI xb10)]),(1000112,[(vI xb10)])],[(102,(vI 1))],[],[],[(1000112,(3,((sb.2.2.1.set ((af .i64 sb.2.2.2.2.2.2.2 1)).toNat xb3).set ((af .i64 sb.2.2.2.2.2.2.2 1)).toNat (af .i64 xb10 1)).map eI))],[],[]⟩)]))) [wK 0 [3,6,7,52,53,54,59] [] 6] o6 dx (fun z=>(c103_ _ (c105_ _ (aB hb9 (aE .i64 hb2 (aI d0_ (aI d1_ (aI d0_ (aI d1_ (aI (fO eI (sb.2.2.1.set ((af .i64 sb.2.2.2.2.2.2.2 1)).toNat xb3) (((af .i64 sb.2.2.2.2.2.2.2 1)).toNat) (af .i64 xb10 1)) z)))))))))) (by kernel_rfl)
 rcases ap h with ⟨hb2,h⟩ | ⟨hb2,h⟩
 ·
  obtain ⟨xb3,gxb3,h⟩:=ab h
  obtain ⟨xb4,gxb4,h⟩:=ab h
  have d0_:AV.v (.int .i64 sb.2.2.2.2.2.2.1)=AV.v (.int .i64 2):=xu hb2
  have c106_:=fun (R:Prop) (z:R)=>(aB hb1 (aI d0_ (aI d0_ (aM eI gxb3 (aN eI gxb3 (aM eI gxb4 (aN eI gxb4 (aI (fO eI sb.2.2.2.1 (((af .i64 sb.2.2.2.2.2.2.2 1)).toNat) xb3) z))))))))
  let e107_:LR:=[(17,⟨[],[],[(77,[(vI xb3)]),(78,[(vI xb3)]),(79,[(vI xb4)]),(1000079,[(vI xb4)])],[(63,(vI 2)),(71,(vI 2))],[],[],[(1000079,(4,(sb.2.2.2.1.set ((af .i64 sb.2.2.2.2.2.2.2 1)).toNat xb3).map eI))],[],[]⟩)]
  rcases aD h with ⟨hb5,h⟩ | ⟨hb5,h⟩
  ·
   exact kQ h (nA dA (e99_++(e107_++[rV 18 [(83,vF)]]))) [wK 0 [3,6,7,52,53,54,59] [] 6] o6 dx (fun z=>(c106_ _ (aB hb5 z))) (by kernel_rfl)
  obtain ⟨hb6,h⟩:=ep h
  rcases aD h with ⟨hb7,h⟩ | ⟨hb7,h⟩
  ·
   exact kQ h (nA dA (e99_++(e107_++[(18,⟨[],[88],[],[(83,vT),(92,vF)],[],[],[],[],[]⟩)]))) [wK 0 [3,6,7,52,53,54,59] [] 6] o6 dx (fun z=>(c106_ _ (aB hb5 (aI hb6 (aB hb7 z))))) (by kernel_rfl)
  obtain ⟨hb8,h⟩:=ep h
  have c108_:=fun (R:Prop) (z:R)=>(aB hb5 (aI hb6 (aB hb7 (aI hb8 z))))
  rcases aD h with ⟨hb9,h⟩ | ⟨hb9,h⟩
  ·
   exact kQ h (nA dA (e99_++(e107_++[(18,⟨[],[88,97],[],[(83,vT),(92,vT),(100,vF)],[],[],[],[],[]⟩)]))) [wK 0 [3,6,7,52,53,54,59] [] 6] o6 dx (fun z=>(c106_ _ (c108_ _ (aB hb9 z)))) (by kernel_rfl)
  obtain ⟨xb10,gxb10,h⟩:=ab h
  have d0_:Ch ((sb.2.2.2.1.set ((af .i64 sb.2.2.2.2.2.2.2 1)).toNat xb3).map eI) (af .i64 sb.2.2.2.2.2.2.2 1)=some [(vI xb10)]:=mi eI gxb10
  have d1_:((sb.2.2.2.1.set ((af .i64 sb.2.2.2.2.2.2.2 1)).toNat xb3).map eI)[((af .i64 sb.2.2.2.2.2.2.2 1)).toNat]?=some [(vI xb10)]:=pJ eI gxb10
  exact kQ h (nA dA (e99_++(e107_++[(18,⟨[],[88,97],[],[(83,vT),(92,vT),(100,vT)],[],[],[],[],[]⟩),(19,⟨[],[],[(109,[(vI xb10)]),(110,[(vI xb10)]),(112,[(vI xb10)]),(1000112,[(vI xb10)])],[(102,(vI 2))],[],[],[(1000112,(4,((sb.2.2.2.1.set ((af .i64 sb.2.2.2.2.2.2.2 1)).toNat xb3).set ((af .i64 sb.2.2.2.2.2.2.2 1)).toNat (af .i64 xb10 1)).map eI))],[],[]⟩)]))) [wK 0 [3,6,7,52,53,54,59] [] 6] o6 dx (fun z=>(c106_ _ (c108_ _ (aB hb9 (aE .i64 hb2 (aI d0_ (aI d1_ (aI d0_ (aI d1_ (aI (fO eI (sb.2.2.2.1.set ((af .i64 sb.2.2.2.2.2.2.2 1)).toNat xb3) (((af .i64 sb.2.2.2.2.2.2.2 1)).toNat) (af .i64 xb10 1)) z)))))))))) (by kernel_rfl)
 rcases ap h with ⟨hb2,h⟩ | ⟨hb2,h⟩
 ·
  obtain ⟨xb3,gxb3,h⟩:=ab h
  obtain ⟨xb4,gxb4,h⟩:=ab h
  have d0_:AV.v (.int .i64 sb.2.2.2.2.2.2.1)=AV.v (.int .i64 3):=xu hb2
  have c109_:=fun (R:Prop) (z:R)=>(aB hb1 (aI d0_ (aI d0_ (aM eI gxb3 (aN eI gxb3 (aM eI gxb4 (aN eI gxb4 (aI (fO eI sb.2.2.2.2.1 (((af .i64 sb.2.2.2.2.2.2.2 1)).toNat) xb3) z))))))))
  let e110_:LR:=[(17,⟨[],[],[(77,[(vI xb3)]),(78,[(vI xb3)]),(79,[(vI xb4)]),(1000079,[(vI xb4)])],[(63,(vI 3)),(71,(vI 3))],[],[],[(1000079,(5,(sb.2.2.2.2.1.set ((af .i64 sb.2.2.2.2.2.2.2 1)).toNat xb3).map eI))],[],[]⟩)]
  rcases aD h with ⟨hb5,h⟩ | ⟨hb5,h⟩
  ·
   exact kQ h (nA dA (e99_++(e110_++[rV 18 [(83,vF)]]))) [wK 0 [3,6,7,52,53,54,59] [] 6] o6 dx (fun z=>(c109_ _ (aB hb5 z))) (by kernel_rfl)
  obtain ⟨hb6,h⟩:=ep h
  rcases aD h with ⟨hb7,h⟩ | ⟨hb7,h⟩
  ·
   exact kQ h (nA dA (e99_++(e110_++[(18,⟨[],[88],[],[(83,vT),(92,vF)],[],[],[],[],[]⟩)]))) [wK 0 [3,6,7,52,53,54,59] [] 6] o6 dx (fun z=>(c109_ _ (aB hb5 (aI hb6 (aB hb7 z))))) (by kernel_rfl)
  obtain ⟨hb8,h⟩:=ep h
  have c111_:=fun (R:Prop) (z:R)=>(aB hb5 (aI hb6 (aB hb7 (aI hb8 z))))
  rcases aD h with ⟨hb9,h⟩ | ⟨hb9,h⟩
  ·
   exact kQ h (nA dA (e99_++(e110_++[(18,⟨[],[88,97],[],[(83,vT),(92,vT),(100,vF)],[],[],[],[],[]⟩)]))) [wK 0 [3,6,7,52,53,54,59] [] 6] o6 dx (fun z=>(c109_ _ (c111_ _ (aB hb9 z)))) (by kernel_rfl)
  obtain ⟨xb10,gxb10,h⟩:=ab h
  have d0_:Ch ((sb.2.2.2.2.1.set ((af .i64 sb.2.2.2.2.2.2.2 1)).toNat xb3).map eI) (af .i64 sb.2.2.2.2.2.2.2 1)=some [(vI xb10)]:=mi eI gxb10
  have d1_:((sb.2.2.2.2.1.set ((af .i64 sb.2.2.2.2.2.2.2 1)).toNat xb3).map eI)[((af .i64 sb.2.2.2.2.2.2.2 1)).toNat]?=some [(vI xb10)]:=pJ eI gxb10
  exact kQ h (nA dA (e99_++(e110_++[(18,⟨[],[88,97],[],[(83,vT),(92,vT),(100,vT)],[],[],[],[],[]⟩),(19,⟨[],[],[(109,[(vI xb10)]),(110,[(vI xb10)]),(112,[(vI xb10)]),(1000112,[(vI xb10)])],[(102,(vI 3))],[],[],[(1000112,(5,((sb.2.2.2.2.1.set ((af .i64 sb.2.2.2.2.2.2.2 1)).toNat xb3).set ((af .i64 sb.2.2.2.2.2.2.2 1)).toNat (af .i64 xb10 1)).map eI))],[],[]⟩)]))) [wK 0 [3,6,7,52,53,54,59] [] 6] o6 dx (fun z=>(c109_ _ (c111_ _ (aB hb9 (aE .i64 hb2 (aI d0_ (aI d1_ (aI d0_ (aI d1_ (aI (fO eI (sb.2.2.2.2.1.set ((af .i64 sb.2.2.2.2.2.2.2 1)).toNat xb3) (((af .i64 sb.2.2.2.2.2.2.2 1)).toNat) (af .i64 xb10 1)) z)))))))))) (by kernel_rfl)
 cases h

theorem Ng:ay (ak 82) dA Nc=true:=by kernel_rfl
def K4 (c:ae) (y3:(List Event)) (xa2:Event) (sb:(List Int)×(List Int)×(List Int)×(List Int)×(List Int)×Int×Int×Int):St:=bg 146 [(3,.ptr (.O 0) 0 0),(6,(vI sb.2.2.2.2.2.2.2)),(7,.ptr (.L 7) 0 0),(52,.sl (y3.map Event.enc)),(53,(vI (y3.length:Int))),(54,(vI sb.2.2.2.2.2.2.1)),(116,.sl (xa2.Deps.Addr.map eI)),(117,(vI (xa2.Deps.Addr.length:Int))),(118,(vI sb.2.2.2.2.2.1))] [(7,(Event.enc xa2))] [.arr false 7 [[.fptr (ae.enc c) 0,.sl (y3.map Event.enc),.mf 2,.mf 3,.mf 4,.mf 5,.mf 1]],.arr true 1 (sb.1.map eI),.arr true 1 (sb.2.1.map eI),.arr true 1 (sb.2.2.1.map eI),.arr true 1 (sb.2.2.2.1.map eI),.arr true 1 (sb.2.2.2.2.1.map eI)] 0
def Nh (c:ae) (y3:(List Event)) (xa2:Event) (tt:(List Int)×(List Int)×(List Int)×(List Int)×(List Int)×Int):St:=bg 146 [(3,.ptr (.O 0) 0 0),(52,.sl (y3.map Event.enc)),(53,(vI (y3.length:Int))),(54,(vI tt.2.2.2.2.2))] [] [.arr false 7 [[.fptr (ae.enc c) 0,.sl (y3.map Event.enc),.mf 2,.mf 3,.mf 4,.mf 5,.mf 1]],.arr true 1 (tt.1.map eI),.arr true 1 (tt.2.1.map eI),.arr true 1 (tt.2.2.1.map eI),.arr true 1 (tt.2.2.2.1.map eI),.arr true 1 (tt.2.2.2.2.1.map eI)] 0
def Ni (c:ae) (y3:(List Event)) (xa2:Event) (tt:((List Int)×(List Int)×(List Int)×(List Int)×(List Int)×Int)):Ex×St:=(.ex 6,Nh c y3 xa2 tt)
theorem P_ (n:Nat) (c:ae) (y3:(List Event)) (xa2:Event):∀ sb r,mz n c y3 xa2 sb=some r→aV Tryz.prog Nc (K4 c y3 xa2 sb) (rk (K4 c y3 xa2) (Ni c y3 xa2) r):=by
 intro sb r h
 unfold mz at h
 rcases aD h with ⟨hb1,h⟩ | ⟨hb1,h⟩
 ·
  exact kQ h (nA dA [rV 22 [(119,vF)]]) [wK 8 [3,52,53,54] [7] 6] Ng (cG rfl kp) (fun z=>(aB hb1 z)) (by kernel_rfl)
 obtain ⟨xb2,gxb2,h⟩:=ab h
 obtain ⟨xb3,gxb3,h⟩:=ab h
 have d0_:Ch (sb.1.map eI) (af .i64 (cj .i64 sb.2.2.2.2.2.2.2 xa2.At) xb2)=some [(vI xb3)]:=mi eI gxb3
 have d1_:(sb.1.map eI)[((af .i64 (cj .i64 sb.2.2.2.2.2.2.2 xa2.At) xb2)).toNat]?=some [(vI xb3)]:=pJ eI gxb3
 exact kQ h (nA dA [rV 22 [(119,vT)],rR 23 [(120,[(vI xb2)])],(25,⟨[],[],[(138,[(vI xb3)]),(139,[(vI xb3)]),(142,[(vI xb3)]),(1000142,[(vI xb3)])],[],[],[],[(1000142,(1,(sb.1.set ((af .i64 (cj .i64 sb.2.2.2.2.2.2.2 xa2.At) xb2)).toNat (Kb xb3 sb.2.2.2.2.2.2.2)).map eI))],[],[]⟩)]) [wK 0 [3,6,7,52,53,54,116,117,118] [] 6] Ng dx (fun z=>(aB hb1 (aM eI gxb2 (aI d0_ (aI d1_ (aI d0_ (aI d1_ (aI (fO eI sb.1 (((af .i64 (cj .i64 sb.2.2.2.2.2.2.2 xa2.At) xb2)).toNat) (Kb xb3 sb.2.2.2.2.2.2.2)) z)))))))) (by kernel_rfl)

theorem Nj:ay (ak 82) dA IL=true:=by kernel_rfl
def K5 (c:ae) (y3:(List Event)) (sa:(List Int)×(List Int)×(List Int)×(List Int)×(List Int)×Int):St:=bg 146 [(3,.ptr (.O 0) 0 0),(52,.sl (y3.map Event.enc)),(53,(vI (y3.length:Int))),(54,(vI sa.2.2.2.2.2))] [] [.arr false 7 [[.fptr (ae.enc c) 0,.sl (y3.map Event.enc),.mf 2,.mf 3,.mf 4,.mf 5,.mf 1]],.arr true 1 (sa.1.map eI),.arr true 1 (sa.2.1.map eI),.arr true 1 (sa.2.2.1.map eI),.arr true 1 (sa.2.2.2.1.map eI),.arr true 1 (sa.2.2.2.2.1.map eI)] 0
def Nk (c:ae) (y3:(List Event)) (tt:(List Int)×(List Int)×(List Int)×(List Int)×(List Int)):St:=bg 146 [(3,.ptr (.O 0) 0 0)] [] [.arr false 7 [[.fptr (ae.enc c) 0,.sl (y3.map Event.enc),.mf 2,.mf 3,.mf 4,.mf 5,.mf 1]],.arr true 1 (tt.1.map eI),.arr true 1 (tt.2.1.map eI),.arr true 1 (tt.2.2.1.map eI),.arr true 1 (tt.2.2.2.1.map eI),.arr true 1 (tt.2.2.2.2.map eI)] 0
def Nl (c:ae) (y3:(List Event)) (tt:((List Int)×(List Int)×(List Int)×(List Int)×(List Int))):Ex×St:=(.ex 2,Nk c y3 tt)
theorem Qa (n:Nat) (c:ae) (y3:(List Event)):∀ sa r,pw n c y3 sa=some r→aV Tryz.prog IL (K5 c y3 sa) (rk (K5 c y3) (Nl c y3) r):=by
 intro sa r h
 unfold pw at h
 rcases aD h with ⟨ha1,h⟩ | ⟨ha1,h⟩
 ·
  exact kQ h (nA dA [rV 12 [(55,vF)]]) [wK 4 [3] [] 6] Nj (cG rfl kp) (fun z=>(aB ha1 z)) (by kernel_rfl)
 obtain ⟨xa2,gxa2,h⟩:=ab h
 obtain ⟨ta3,gta3,h⟩:=ab h
 obtain ⟨ta4,gta4,h⟩:=ab h
 exact kQ h ⟨dA,[rV 12 [(55,vT)],rR 13 [(57,(Event.enc xa2))],rV 21 [(117,(vI (xa2.Deps.Addr.length:Int)))]],[],[(15,(⟨[3,6,7,52,53,54,59],[],6,[],[],[]⟩,l0,(.ex 4),Ne c y3 xa2 ta3)),(22,(⟨[3,6,7,52,53,54,116,117,118],[],6,[],[],[]⟩,l0,(.ex 6),Nh c y3 xa2 ta4))],[]⟩ [wK 0 [3,52,53,54] [] 6] Nj dx (fun z=>(aB ha1 (aM Event.enc gxa2 (aI (eP (pl:=ak 82) (K3 c y3 xa2) (Nf c y3 xa2) (P9 n c y3 xa2) n _ ta3 gta3) (aL eI xa2.Deps.Addr (aI (eP (pl:=ak 82) (K4 c y3 xa2) (Ni c y3 xa2) (P_ n c y3 xa2) n _ ta4 gta4) z)))))) (by kernel_rfl)

theorem o7 (c:ae) (y3:(List Event)) (y4:(List Int)) (K:Ex→St→Prop):oR pc sc lp cd (nA dA [(9,⟨[],[44],[],[],[],[],[(44,(2,(List.replicate ((af .i64 (y3.length:Int) 1)).toNat 0).map eI))],[],[]⟩)]) (ak 82) [wK 0 [3,4,37] [] 3] C8 (bg 146 [(3,.ptr (.O 0) 0 0),(4,(vI (y3.length:Int))),(37,(vI 0))] [] [.arr false 7 [[.fptr (ae.enc c) 0,.sl (y3.map Event.enc),.nilsl,.nilsl,.nilsl,.nilsl,.mf 1]],.arr true 1 (y4.map eI)] 0) K
  = (((decide ((0:Int)≤(af .i64 (y3.length:Int) 1))&&decide ((af .i64 (y3.length:Int) 1)≤(af .i64 (y3.length:Int) 1))&&decide (8 * (af .i64 (y3.length:Int) 1)≤140737488355328)&&decide ((af .i64 (y3.length:Int) 1)≤140737488355328)&&Nat.blt 0 1)=true)∧(List.replicate ((af .i64 (y3.length:Int) 1)).toNat [(vI 0)]=(List.replicate ((af .i64 (y3.length:Int) 1)).toNat 0).map eI)∧K .nrm (bg 146 [(3,.ptr (.O 0) 0 0),(4,(vI (y3.length:Int))),(37,(vI 1))] [] [.arr false 7 [[.fptr (ae.enc c) 0,.sl (y3.map Event.enc),.mf 2,.nilsl,.nilsl,.nilsl,.mf 1]],.arr true 1 (y4.map eI),.arr true 1 ((List.replicate ((af .i64 (y3.length:Int) 1)).toNat 0).map eI)] 0)):=by kernel_rfl
theorem o8 (c:ae) (y3:(List Event)) (y4:(List Int)) (K:Ex→St→Prop):oR pc sc lp cd (nA dA [(9,⟨[],[44],[],[],[],[],[(44,(3,(List.replicate ((af .i64 (y3.length:Int) 1)).toNat 0).map eI))],[],[]⟩)]) (ak 82) [wK 0 [3,4,37] [] 4] C8 (bg 146 [(3,.ptr (.O 0) 0 0),(4,(vI (y3.length:Int))),(37,(vI 1))] [] [.arr false 7 [[.fptr (ae.enc c) 0,.sl (y3.map Event.enc),.mf 2,.nilsl,.nilsl,.nilsl,.mf 1]],.arr true 1 (y4.map eI),.arr true 1 ((List.replicate ((af .i64 (y3.length:Int) 1)).toNat 0).map eI)] 0) K
  = (((decide ((0:Int)≤(af .i64 (y3.length:Int) 1))&&decide ((af .i64 (y3.length:Int) 1)≤(af .i64 (y3.length:Int) 1))&&decide (8 * (af .i64 (y3.length:Int) 1)≤140737488355328)&&decide ((af .i64 (y3.length:Int) 1)≤140737488355328)&&Nat.blt 0 1)=true)∧(List.replicate ((af .i64 (y3.length:Int) 1)).toNat [(vI 0)]=(List.replicate ((af .i64 (y3.length:Int) 1)).toNat 0).map eI)∧K .nrm (bg 146 [(3,.ptr (.O 0) 0 0),(4,(vI (y3.length:Int))),(37,(vI 2))] [] [.arr false 7 [[.fptr (ae.enc c) 0,.sl (y3.map Event.enc),.mf 2,.mf 3,.nilsl,.nilsl,.mf 1]],.arr true 1 (y4.map eI),.arr true 1 ((List.replicate ((af .i64 (y3.length:Int) 1)).toNat 0).map eI),.arr true 1 ((List.replicate ((af .i64 (y3.length:Int) 1)).toNat 0).map eI)] 0)):=by kernel_rfl
theorem o9 (c:ae) (y3:(List Event)) (y4:(List Int)) (K:Ex→St→Prop):oR pc sc lp cd (nA dA [(9,⟨[],[44],[],[],[],[],[(44,(4,(List.replicate ((af .i64 (y3.length:Int) 1)).toNat 0).map eI))],[],[]⟩)]) (ak 82) [wK 0 [3,4,37] [] 5] C8 (bg 146 [(3,.ptr (.O 0) 0 0),(4,(vI (y3.length:Int))),(37,(vI 2))] [] [.arr false 7 [[.fptr (ae.enc c) 0,.sl (y3.map Event.enc),.mf 2,.mf 3,.nilsl,.nilsl,.mf 1]],.arr true 1 (y4.map eI),.arr true 1 ((List.replicate ((af .i64 (y3.length:Int) 1)).toNat 0).map eI),.arr true 1 ((List.replicate ((af .i64 (y3.length:Int) 1)).toNat 0).map eI)] 0) K
  = (((decide ((0:Int)≤(af .i64 (y3.length:Int) 1))&&decide ((af .i64 (y3.length:Int) 1)≤(af .i64 (y3.length:Int) 1))&&decide (8 * (af .i64 (y3.length:Int) 1)≤140737488355328)&&decide ((af .i64 (y3.length:Int) 1)≤140737488355328)&&Nat.blt 0 1)=true)∧(List.replicate ((af .i64 (y3.length:Int) 1)).toNat [(vI 0)]=(List.replicate ((af .i64 (y3.length:Int) 1)).toNat 0).map eI)∧K .nrm (bg 146 [(3,.ptr (.O 0) 0 0),(4,(vI (y3.length:Int))),(37,(vI 3))] [] [.arr false 7 [[.fptr (ae.enc c) 0,.sl (y3.map Event.enc),.mf 2,.mf 3,.mf 4,.nilsl,.mf 1]],.arr true 1 (y4.map eI),.arr true 1 ((List.replicate ((af .i64 (y3.length:Int) 1)).toNat 0).map eI),.arr true 1 ((List.replicate ((af .i64 (y3.length:Int) 1)).toNat 0).map eI),.arr true 1 ((List.replicate ((af .i64 (y3.length:Int) 1)).toNat 0).map eI)] 0)):=by kernel_rfl
theorem o_ (c:ae) (y3:(List Event)) (y4:(List Int)) (K:Ex→St→Prop):oR pc sc lp cd (nA dA [(9,⟨[],[44],[],[],[],[],[(44,(5,(List.replicate ((af .i64 (y3.length:Int) 1)).toNat 0).map eI))],[],[]⟩)]) (ak 82) [wK 0 [3,4,37] [] 6] C8 (bg 146 [(3,.ptr (.O 0) 0 0),(4,(vI (y3.length:Int))),(37,(vI 3))] [] [.arr false 7 [[.fptr (ae.enc c) 0,.sl (y3.map Event.enc),.mf 2,.mf 3,.mf 4,.nilsl,.mf 1]],.arr true 1 (y4.map eI),.arr true 1 ((List.replicate ((af .i64 (y3.length:Int) 1)).toNat 0).map eI),.arr true 1 ((List.replicate ((af .i64 (y3.length:Int) 1)).toNat 0).map eI),.arr true 1 ((List.replicate ((af .i64 (y3.length:Int) 1)).toNat 0).map eI)] 0) K
  = (((decide ((0:Int)≤(af .i64 (y3.length:Int) 1))&&decide ((af .i64 (y3.length:Int) 1)≤(af .i64 (y3.length:Int) 1))&&decide (8 * (af .i64 (y3.length:Int) 1)≤140737488355328)&&decide ((af .i64 (y3.length:Int) 1)≤140737488355328)&&Nat.blt 0 1)=true)∧(List.replicate ((af .i64 (y3.length:Int) 1)).toNat [(vI 0)]=(List.replicate ((af .i64 (y3.length:Int) 1)).toNat 0).map eI)∧K .nrm (bg 146 [(3,.ptr (.O 0) 0 0),(4,(vI (y3.length:Int))),(37,(vI 4))] [] [.arr false 7 [[.fptr (ae.enc c) 0,.sl (y3.map Event.enc),.mf 2,.mf 3,.mf 4,.mf 5,.mf 1]],.arr true 1 (y4.map eI),.arr true 1 ((List.replicate ((af .i64 (y3.length:Int) 1)).toNat 0).map eI),.arr true 1 ((List.replicate ((af .i64 (y3.length:Int) 1)).toNat 0).map eI),.arr true 1 ((List.replicate ((af .i64 (y3.length:Int) 1)).toNat 0).map eI),.arr true 1 ((List.replicate ((af .i64 (y3.length:Int) 1)).toNat 0).map eI)] 0)):=by kernel_rfl
theorem pe (c:ae) (y3:(List Event)) (y4:(List Int)) (K:Ex→St→Prop):oR pc sc lp cd (nA dA []) (ak 82) [wK 2 [3] [] 6] C8 (bg 146 [(3,.ptr (.O 0) 0 0),(4,(vI (y3.length:Int))),(37,(vI 4))] [] [.arr false 7 [[.fptr (ae.enc c) 0,.sl (y3.map Event.enc),.mf 2,.mf 3,.mf 4,.mf 5,.mf 1]],.arr true 1 (y4.map eI),.arr true 1 ((List.replicate ((af .i64 (y3.length:Int) 1)).toNat 0).map eI),.arr true 1 ((List.replicate ((af .i64 (y3.length:Int) 1)).toNat 0).map eI),.arr true 1 ((List.replicate ((af .i64 (y3.length:Int) 1)).toNat 0).map eI),.arr true 1 ((List.replicate ((af .i64 (y3.length:Int) 1)).toNat 0).map eI)] 0) K
  = (K (.ex 0) (bg 146 [(3,.ptr (.O 0) 0 0)] [] [.arr false 7 [[.fptr (ae.enc c) 0,.sl (y3.map Event.enc),.mf 2,.mf 3,.mf 4,.mf 5,.mf 1]],.arr true 1 (y4.map eI),.arr true 1 ((List.replicate ((af .i64 (y3.length:Int) 1)).toNat 0).map eI),.arr true 1 ((List.replicate ((af .i64 (y3.length:Int) 1)).toNat 0).map eI),.arr true 1 ((List.replicate ((af .i64 (y3.length:Int) 1)).toNat 0).map eI),.arr true 1 ((List.replicate ((af .i64 (y3.length:Int) 1)).toNat 0).map eI)] 0)):=by kernel_rfl
theorem wX (n:Nat) (c:ae) (r:(Option ah)) (h:qk n c=some r):ax Tryz.prog 82 [.fptr (ae.enc c) 0] (eF ((BV ah.enc r))):=by
 unfold qk at h
 obtain ⟨y1,gy1,h⟩:=ab h
 have c112_:=fun (R:Prop) (z:R)=>(aI (iV n c y1 gy1) z)
 rcases ap h with ⟨h2,h⟩ | ⟨h2,h⟩
 ·
  obtain rfl:=aK h
  exact kP (nA dA [bi 1 [(16,vT)] [(15,(vI y1))]]) G8 (fun z=>(c112_ _ (aB h2 z))) (by kernel_rfl)
 obtain ⟨y3,gy3,h⟩:=ab h
 obtain ⟨y4,gy4,h⟩:=ab h
 obtain ⟨h5,h⟩:=ep h
 obtain ⟨h6,h⟩:=ep h
 obtain ⟨h7,h⟩:=ep h
 obtain ⟨h8,h⟩:=ep h
 obtain ⟨t9,gt9,h⟩:=ab h
 obtain rfl:=aK h
 have d0_:AV.v (.int .i64 (((y3.map Event.enc).length:Nat):Int))=AV.v (.int .i64 (y3.length:Int)):=rL _ _
 exact kP ⟨dA,[bi 1 [(16,vF)] [(15,(vI y1))],bi 3 [] [(22,.sl (y3.map Event.enc))],rV 4 [(29,(vI (y3.length:Int)))],(5,⟨[],[],[],[],[],[(34,(.mf 1,[.arr true 7 [[.fptr (ae.enc c) 0,.sl (y3.map Event.enc),.nilsl,.nilsl,.nilsl,.nilsl,.nilsl]],.arr true 1 (y4.map eI)]))],[],[],[]⟩),rV 11 [(53,(vI (y3.length:Int)))]],[],[(7,(⟨[3,4,37],[],2,[],[],[]⟩,l0,(.ex 0),bg 146 [(3,.ptr (.O 0) 0 0)] [] [.arr false 7 [[.fptr (ae.enc c) 0,.sl (y3.map Event.enc),.mf 2,.mf 3,.mf 4,.mf 5,.mf 1]],.arr true 1 (y4.map eI),.arr true 1 ((List.replicate ((af .i64 (y3.length:Int) 1)).toNat 0).map eI),.arr true 1 ((List.replicate ((af .i64 (y3.length:Int) 1)).toNat 0).map eI),.arr true 1 ((List.replicate ((af .i64 (y3.length:Int) 1)).toNat 0).map eI),.arr true 1 ((List.replicate ((af .i64 (y3.length:Int) 1)).toNat 0).map eI)] 0)),(12,(⟨[3,52,53,54],[],6,[],[],[]⟩,l0,(.ex 2),Nk c y3 t9))],[]⟩ G8 (fun z=>(c112_ _ (aB h2 (aI (dr n c.Harts y3 gy3) (aI d0_ (aI (kh n ([(y3.length:Int)]:List Int) (y3.length:Int) c.First c.Harts c.From c.Order y3 y4 gy4) (aI ((cy.round (cfg:=cfg) (Ci G9 (Eq.mpr (o7 pP sP lP dP c y3 y4 _) ⟨h5,lW eI _ 0,⟨rfl,rfl⟩⟩) (cy.round (cfg:=cfg) (Ci G9 (Eq.mpr (o8 pP sP lP dP c y3 y4 _) ⟨h6,lW eI _ 0,⟨rfl,rfl⟩⟩) (cy.round (cfg:=cfg) (Ci G9 (Eq.mpr (o9 pP sP lP dP c y3 y4 _) ⟨h7,lW eI _ 0,⟨rfl,rfl⟩⟩) (cy.round (cfg:=cfg) (Ci G9 (Eq.mpr (o_ pP sP lP dP c y3 y4 _) ⟨h8,lW eI _ 0,⟨rfl,rfl⟩⟩) (cy.round (cfg:=cfg) (Ci G9 (Eq.mpr (pe pP sP lP dP c y3 y4 _) ⟨rfl,rfl⟩) ⟨rfl,rfl⟩)))))))))):lP (ak 82) C8 (bg 146 [(3,.ptr (.O 0) 0 0),(4,(vI (y3.length:Int))),(37,(vI 0))] [] [.arr false 7 [[.fptr (ae.enc c) 0,.sl (y3.map Event.enc),.nilsl,.nilsl,.nilsl,.nilsl,.mf 1]],.arr true 1 (y4.map eI)] 0) (fun e' S'=>e'=(.ex 0)∧S'=bg 146 [(3,.ptr (.O 0) 0 0)] [] [.arr false 7 [[.fptr (ae.enc c) 0,.sl (y3.map Event.enc),.mf 2,.mf 3,.mf 4,.mf 5,.mf 1]],.arr true 1 (y4.map eI),.arr true 1 ((List.replicate ((af .i64 (y3.length:Int) 1)).toNat 0).map eI),.arr true 1 ((List.replicate ((af .i64 (y3.length:Int) 1)).toNat 0).map eI),.arr true 1 ((List.replicate ((af .i64 (y3.length:Int) 1)).toNat 0).map eI),.arr true 1 ((List.replicate ((af .i64 (y3.length:Int) 1)).toNat 0).map eI)] 0)) (aI d0_ (aI (eP (pl:=ak 82) (K5 c y3) (Nl c y3) (Qa n c y3) n _ t9 gt9) z))))))))) (by kernel_rfl)

def wY:List (Nat×PT):=[(3,(ew [0,1,2,3,4,5,6,7,8,9,10,11,12,13])),(4,(ew [0,1,2,3,4,5,6,7,8,9,10,11,12,13,14,15,16,17,18,19,20,21]))]
theorem tm:ay (ak 93) wY (aj Tryz.prog 93)=true:=by kernel_rfl
theorem qY (n:Nat) (v:ah) (a:Int) (b:Int) (r:Bool) (h:d_ n v a b=some r):ax Tryz.prog 93 [.fptr (ah.enc v) 0,(vI a),(vI b)] (eF (.v (.bool r))):=by
 unfold d_ at h
 rcases ap h with ⟨h1,h⟩ | ⟨h1,h⟩
 ·
  obtain rfl:=aK h
  exact kP (nA wY [rV 1 [(15,vT)]]) tm (fun z=>(aB h1 z)) (by kernel_rfl)
 have c113_:=fun (R:Prop) (z:R)=>(aB h1 (aL Event.enc v.all z))
 rcases ap h with ⟨h2,h⟩ | ⟨h2,h⟩
 ·
  obtain rfl:=aK h
  exact kP (nA wY [rV 1 [(15,vF),(21,(vI (v.all.length:Int))),(24,vT)]]) tm (fun z=>(c113_ _ (aB h2 z))) (by kernel_rfl)
 rcases ap h with ⟨h3,h⟩ | ⟨h3,h⟩
 ·
  obtain rfl:=aK h
  exact kP (nA wY [rV 1 [(15,vF),(21,(vI (v.all.length:Int))),(24,vF),(28,vT)]]) tm (fun z=>(c113_ _ (aB h2 (aB h3 z)))) (by kernel_rfl)
 obtain ⟨x4,gx4,h⟩:=ab h
 obtain ⟨x5,gx5,h⟩:=ab h
 have c114_:=fun (R:Prop) (z:R)=>(aB h2 (aB h3 (aM Event.enc gx4 (aM Event.enc gx5 z))))
 let e115_:LR:=[rV 1 [(15,vF),(21,(vI (v.all.length:Int))),(24,vF),(28,vF)],rR 3 [(34,(Event.enc x4)),(40,(Event.enc x5))]]
 rcases aD h with ⟨h6,h⟩ | ⟨h6,h⟩
 ·
  obtain rfl:=aK h
  exact kP (nA wY (e115_++[rV 4 [(50,vF)]])) tm (fun z=>(c113_ _ (c114_ _ (aB h6 z)))) (by kernel_rfl)
 obtain ⟨y7,gy7,h⟩:=ab h
 have c116_:=fun (R:Prop) (z:R)=>(aB h6 (aI (jq n x4 y7 gy7) z))
 rcases aD h with ⟨h8,h⟩ | ⟨h8,h⟩
 ·
  obtain rfl:=aK h
  exact kP (nA wY (e115_++[bi 4 [(50,vT),(56,vF)] [(54,.v (.bool y7))]])) tm (fun z=>(c113_ _ (c114_ _ (c116_ _ (aB h8 z))))) (by kernel_rfl)
 obtain ⟨y9,gy9,h⟩:=ab h
 obtain rfl:=aK h
 exact kP (nA wY (e115_++[bi 4 [(50,vT),(56,vT)] [(54,.v (.bool y7)),(60,.v (.bool y9))]])) tm (fun z=>(c113_ _ (c114_ _ (c116_ _ (aB h8 (aI (jq n x5 y9 gy9) z)))))) (by kernel_rfl)

def J0:List (Nat×PT):=[]
theorem K6:ay (ak 94) J0 (aj Tryz.prog 94)=true:=by kernel_rfl
theorem xX (n:Nat) (r:Unit) (h:sw n=some r):ax Tryz.prog 94 [] (eF (.agg [.fn 108 [] [],.fn 109 [] [],.fn 112 [] [],.fn 113 [] [],.fn 115 [] [],.fn 116 [] [],.fn 117 [] [],.fn 118 [] [],.fn 119 [] [],.fn 121 [] [],.fn 122 [] [],.fn 123 [] [],.fn 124 [] []])):=by
 unfold sw at h
 obtain rfl:=aK h
 exact kP (nA J0 []) K6 (fun z=>z) (by kernel_rfl)

def C9:List (Nat×PT):=[(1,(ew [0,1,2,3,4,5,6,7,8,9,10,11,12,13,14,15]))]
theorem Ea:ay (ak 108) C9 (aj Tryz.prog 108)=true:=by kernel_rfl
theorem uO (n:Nat) (v:ah) (a:Int) (b:Int) (x:Event) (y:Event) (r:Bool) (h:hT n v a b x y=some r):ax Tryz.prog 108 [.fptr (ah.enc v) 0,(vI a),(vI b),.fptr (Event.enc x) 0,.fptr (Event.enc y) 0] (eF (.v (.bool r))):=by
 unfold hT at h
 obtain ⟨y1,gy1,h⟩:=ab h
 have c117_:=fun (R:Prop) (z:R)=>(aI (cq n y y1 gy1) z)
 rcases ap h with ⟨h2,h⟩ | ⟨h2,h⟩
 ·
  obtain rfl:=aK h
  exact kP (nA C9 [bi 1 [(15,vT)] [(14,.v (.bool y1))]]) Ea (fun z=>(c117_ _ (aB h2 z))) (by kernel_rfl)
 obtain rfl:=aK h
 exact kP (nA C9 [bi 1 [(15,vF)] [(14,.v (.bool y1))]]) Ea (fun z=>(c117_ _ (aB h2 z))) (by kernel_rfl)

def C_:List (Nat×PT):=[(1,(ew [0,1,2,3,4,5,6,7,8,9,10,11]))]
theorem Eb:ay (ak 111) C_ (aj Tryz.prog 111)=true:=by kernel_rfl
theorem rT (n:Nat) (m:Event) (a:Int) (a_:Int) (a_A:Int) (a_B:Int) (a_C:Int) (a_D:Int) (a_E:Bool) (a_F:Bool) (a_G:Int) (a_H:Int) (a_I:Int) (a_J:(List Int)) (a_K:(List Int)) (a_L:(List Int)) (r:Bool) (h:jI n m a a_ a_A a_B a_C a_D a_E a_F a_G a_H a_I a_J a_K a_L=some r):ax Tryz.prog 111 [(bD Event.enc m),.fptr [.fptr [(vI a),(vI a_),(vI a_A),(vU a_B),(vU a_C),(vU a_D),.v (.bool a_E),.v (.bool a_F),(vI a_G),(vI a_H),(vI a_I),.sl (a_J.map eI),.sl (a_K.map eI),.sl (a_L.map eI)] 0] 0] (eF (.v (.bool r))):=by
 unfold jI at h
 obtain ⟨y1,gy1,h⟩:=ab h
 have c118_:=fun (R:Prop) (z:R)=>(aI (cq n m y1 gy1) z)
 rcases ap h with ⟨h2,h⟩ | ⟨h2,h⟩
 ·
  obtain rfl:=aK h
  exact kP (nA C_ [bi 1 [(6,vT)] [(5,.v (.bool y1))]]) Eb (fun z=>(c118_ _ (aB h2 z))) (by kernel_rfl)
 obtain rfl:=aK h
 exact kP (nA C_ [bi 1 [(6,vF)] [(5,.v (.bool y1))]]) Eb (fun z=>(c118_ _ (aB h2 z))) (by kernel_rfl)

def qZ:List (Nat×PT):=[]
theorem Ec:ay (ak 134) qZ (aj Tryz.prog 134)=true:=by kernel_rfl
noncomputable def Nm:Code:=sub (aj Tryz.prog 134) [1,0,1,0,0]
theorem K7:ay (ak 134) qZ Nm=true:=by kernel_rfl
def IM (s_:(List Event)) (f:Int) (f_:Int) (f_A:Int) (f_B:Int) (f_C:Int) (f_D:Int) (f_E:Bool) (f_F:Bool) (f_G:Int) (f_H:Int) (f_I:Int) (f_J:(List Int)) (f_K:(List Int)) (f_L:(List Int)) (sa:Int):St:=bg 19 [(0,.sl (s_.map Event.enc)),(1,.fn 111 [] [.fptr [.fptr [(vI f),(vI f_),(vI f_A),(vU f_B),(vU f_C),(vU f_D),.v (.bool f_E),.v (.bool f_F),(vI f_G),(vI f_H),(vI f_I),.sl (f_J.map eI),.sl (f_K.map eI),.sl (f_L.map eI)] 0] 0]),(7,(vI (s_.length:Int))),(8,(vI sa))] [] [] 0
def Nn (s_:(List Event)) (f:Int) (f_:Int) (f_A:Int) (f_B:Int) (f_C:Int) (f_D:Int) (f_E:Bool) (f_F:Bool) (f_G:Int) (f_H:Int) (f_I:Int) (f_J:(List Int)) (f_K:(List Int)) (f_L:(List Int)) (tt:Unit):St:=bg 19 [] [] [] 0
def Np (s_:(List Event)) (f:Int) (f_:Int) (f_A:Int) (f_B:Int) (f_C:Int) (f_D:Int) (f_E:Bool) (f_F:Bool) (f_G:Int) (f_H:Int) (f_I:Int) (f_J:(List Int)) (f_K:(List Int)) (f_L:(List Int)) (tt:Int):St:=bg 19 [(4,(vI tt))] [] [] 0
def K8 (s_:(List Event)) (f:Int) (f_:Int) (f_A:Int) (f_B:Int) (f_C:Int) (f_D:Int) (f_E:Bool) (f_F:Bool) (f_G:Int) (f_H:Int) (f_I:Int) (f_J:(List Int)) (f_K:(List Int)) (f_L:(List Int)) (t0:(Unit⊕Int)):Ex×St:=match t0 with | .inl tt=>(.ex 0,Nn s_ f f_ f_A f_B f_C f_D f_E f_F f_G f_H f_I f_J f_K f_L tt) | .inr tt=>(.ret,Np s_ f f_ f_A f_B f_C f_D f_E f_F f_G f_H f_I f_J f_K f_L tt)
theorem Nq (n:Nat) (s_:(List Event)) (f:Int) (f_:Int) (f_A:Int) (f_B:Int) (f_C:Int) (f_D:Int) (f_E:Bool) (f_F:Bool) (f_G:Int) (f_H:Int) (f_I:Int) (f_J:(List Int)) (f_K:(List Int)) (f_L:(List Int)):∀ sa r,bm n s_ f f_ f_A f_B f_C f_D f_E f_F f_G f_H f_I f_J f_K f_L sa=some r→aV Tryz.prog Nm (IM s_ f f_ f_A f_B f_C f_D f_E f_F f_G f_H f_I f_J f_K f_L sa) (rk (IM s_ f f_ f_A f_B f_C f_D f_E f_F f_G f_H f_I f_J f_K f_L) (K8 s_ f f_ f_A f_B f_C f_D f_E f_F f_G f_H f_I f_J f_K f_L) r):=by
 intro sa r h
 unfold bm at h
 rcases aD h with ⟨ha1,h⟩ | ⟨ha1,h⟩
 ·
  exact kQ h (nA qZ [rV 2 [(9,vF)]]) [wK 2 [] [] 0] K7 (cG rfl kp) (fun z=>(aB ha1 z)) (by kernel_rfl)
 obtain ⟨xa2,gxa2,h⟩:=ab h
 obtain ⟨ya3,gya3,h⟩:=ab h
 have c119_:=fun (R:Prop) (z:R)=>(aB ha1 (aM Event.enc gxa2 (aI (rT n xa2 f f_ f_A f_B f_C f_D f_E f_F f_G f_H f_I f_J f_K f_L ya3 gya3) z)))
 rcases ap h with ⟨ha4,h⟩ | ⟨ha4,h⟩
 ·
  exact kQ h (nA qZ [rV 2 [(9,vT)],(4,⟨[],[],[(14,(Event.enc xa2))],[(16,vT)],[(16,.v (.bool ya3))],[],[],[],[]⟩)]) [wK 1 [4] [] 0] K7 (cG rfl gC) (fun z=>(c119_ _ (aB ha4 z))) (by kernel_rfl)
 exact kQ h (nA qZ [rV 2 [(9,vT)],(4,⟨[],[],[(14,(Event.enc xa2))],[(16,vF)],[(16,.v (.bool ya3))],[],[],[],[]⟩)]) [wK 0 [0,1,7,8] [] 0] K7 dx (fun z=>(c119_ _ (aB ha4 z))) (by kernel_rfl)

theorem fN (n:Nat) (s_:(List Event)) (f:Int) (f_:Int) (f_A:Int) (f_B:Int) (f_C:Int) (f_D:Int) (f_E:Bool) (f_F:Bool) (f_G:Int) (f_H:Int) (f_I:Int) (f_J:(List Int)) (f_K:(List Int)) (f_L:(List Int)) (r:Int) (h:bA n s_ f f_ f_A f_B f_C f_D f_E f_F f_G f_H f_I f_J f_K f_L=some r):ax Tryz.prog 134 [.sl (s_.map Event.enc),.fn 111 [] [.fptr [.fptr [(vI f),(vI f_),(vI f_A),(vU f_B),(vU f_C),(vU f_D),.v (.bool f_E),.v (.bool f_F),(vI f_G),(vI f_H),(vI f_I),.sl (f_J.map eI),.sl (f_K.map eI),.sl (f_L.map eI)] 0] 0]] (eF ((vI r))):=by
 unfold bA at h
 obtain ⟨t1,gt1,h⟩:=ab h
 rcases t1 with w2 | w2
 ·
  obtain rfl:=aK h
  exact kP ⟨qZ,[rV 1 [(7,(vI (s_.length:Int)))]],[],[(2,(⟨[0,1,7,8],[],0,[],[],[]⟩,l0,(.ex 0),Nn s_ f f_ f_A f_B f_C f_D f_E f_F f_G f_H f_I f_J f_K f_L w2))],[]⟩ Ec (fun z=>(aL Event.enc s_ (aI (eP (pl:=ak 134) (IM s_ f f_ f_A f_B f_C f_D f_E f_F f_G f_H f_I f_J f_K f_L) (K8 s_ f f_ f_A f_B f_C f_D f_E f_F f_G f_H f_I f_J f_K f_L) (Nq n s_ f f_ f_A f_B f_C f_D f_E f_F f_G f_H f_I f_J f_K f_L) n _ (.inl w2) gt1) z))) (by kernel_rfl)
 ·
  obtain rfl:=aK h
  exact kP ⟨qZ,[rV 1 [(7,(vI (s_.length:Int)))]],[],[(2,(⟨[0,1,7,8],[],0,[],[],[]⟩,l0,.ret,Np s_ f f_ f_A f_B f_C f_D f_E f_F f_G f_H f_I f_J f_K f_L w2))],[]⟩ Ec (fun z=>(aL Event.enc s_ (aI (eP (pl:=ak 134) (IM s_ f f_ f_A f_B f_C f_D f_E f_F f_G f_H f_I f_J f_K f_L) (K8 s_ f f_ f_A f_B f_C f_D f_E f_F f_G f_H f_I f_J f_K f_L) (Nq n s_ f f_ f_A f_B f_C f_D f_E f_F f_G f_H f_I f_J f_K f_L) n _ (.inr w2) gt1) z))) (by kernel_rfl)

def G_:List (Nat×PT):=[]
theorem IN:ay (ak 110) G_ (aj Tryz.prog 110)=true:=by kernel_rfl
theorem fb (n:Nat) (s_:(List Event)) (f:Int) (f_:Int) (f_A:Int) (f_B:Int) (f_C:Int) (f_D:Int) (f_E:Bool) (f_F:Bool) (f_G:Int) (f_H:Int) (f_I:Int) (f_J:(List Int)) (f_K:(List Int)) (f_L:(List Int)) (r:Bool) (h:bn n s_ f f_ f_A f_B f_C f_D f_E f_F f_G f_H f_I f_J f_K f_L=some r):ax Tryz.prog 110 [.sl (s_.map Event.enc),.fn 111 [] [.fptr [.fptr [(vI f),(vI f_),(vI f_A),(vU f_B),(vU f_C),(vU f_D),.v (.bool f_E),.v (.bool f_F),(vI f_G),(vI f_H),(vI f_I),.sl (f_J.map eI),.sl (f_K.map eI),.sl (f_L.map eI)] 0] 0]] (eF (.v (.bool r))):=by
 unfold bn at h
 obtain ⟨y1,gy1,h⟩:=ab h
 obtain rfl:=aK h
 exact kP (nA G_ [bi 1 [] [(7,(vI y1))]]) IN (fun z=>(aI (fN n s_ f f_ f_A f_B f_C f_D f_E f_F f_G f_H f_I f_J f_K f_L y1 gy1) z)) (by kernel_rfl)

def tn:List (Nat×PT):=[(1,(ew [0,1,2,3,4,5,6,7,8,9,10,11,12,13,14,15,16,17,18,19,20,21,22,23,24,25,26,27,28,29,30,31,32,33,34,35,36,37,38,39,40,41,42,43,44,45]))]
theorem rU:ay (ak 109) tn (aj Tryz.prog 109)=true:=by kernel_rfl
theorem uP (n:Nat) (v:ah) (a:Int) (b:Int) (x:Event) (y:Event) (r:Bool) (h:hU n v a b x y=some r):ax Tryz.prog 109 [.fptr (ah.enc v) 0,(vI a),(vI b),.fptr (Event.enc x) 0,.fptr (Event.enc y) 0] (eF (.v (.bool r))):=by
 unfold hU at h
 rcases ap h with ⟨h1,h⟩ | ⟨h1,h⟩
 ·
  obtain rfl:=aK h
  exact kP (nA tn [rV 1 [(20,vT)]]) rU (fun z=>(aB h1 z)) (by kernel_rfl)
 obtain ⟨y2,gy2,h⟩:=ab h
 have c120_:=fun (R:Prop) (z:R)=>(aB h1 (aI (bE n x y2 gy2) z))
 rcases ap h with ⟨h3,h⟩ | ⟨h3,h⟩
 ·
  obtain rfl:=aK h
  exact kP (nA tn [bi 1 [(20,vF),(27,vT)] [(24,.v (.bool y2))]]) rU (fun z=>(c120_ _ (aB h3 z))) (by kernel_rfl)
 obtain ⟨y4,gy4,h⟩:=ab h
 have c121_:=fun (R:Prop) (z:R)=>(aB h3 (aI (bE n y y4 gy4) z))
 rcases ap h with ⟨h5,h⟩ | ⟨h5,h⟩
 ·
  obtain rfl:=aK h
  exact kP (nA tn [bi 1 [(20,vF),(27,vF),(34,vT)] [(24,.v (.bool y2)),(31,.v (.bool y4))]]) rU (fun z=>(c120_ _ (c121_ _ (aB h5 z)))) (by kernel_rfl)
 rcases iv h with ⟨h6,h⟩ | ⟨z6,h7,h⟩
 ·
  cases h
 ·
  obtain ⟨x8,gx8,h⟩:=ab h
  have c122_:=fun (R:Prop) (z:R)=>(aB h5 (aI (congrArg (BV ae.enc) h7) (aM eI gx8 z)))
  rcases iv h with ⟨h9,h⟩ | ⟨z9,h10,h⟩
  ·
   cases h
  ·
   obtain ⟨x11,gx11,h⟩:=ab h
   have c123_:=fun (R:Prop) (z:R)=>(aI (congrArg (BV ae.enc) h10) (aM eI gx11 z))
   rcases ap h with ⟨h12,h⟩ | ⟨h12,h⟩
   ·
    obtain rfl:=aK h
    exact kP (nA tn [(1,⟨[],[],[(43,[(vI x8)]),(53,[(vI x11)])],[(20,vF),(27,vF),(34,vF),(38,.fptr (ae.enc z6) 0),(48,.fptr (ae.enc z9) 0),(56,vT)],[(24,.v (.bool y2)),(31,.v (.bool y4))],[],[],[],[]⟩)]) rU (fun z=>(c120_ _ (c121_ _ (c122_ _ (c123_ _ (aB h12 z)))))) (by kernel_rfl)
   obtain ⟨h13,h⟩:=ep h
   obtain ⟨y14,gy14,h⟩:=ab h
   obtain rfl:=aK h
   exact kP (nA tn [(1,⟨[],[],[(43,[(vI x8)]),(53,[(vI x11)])],[(20,vF),(27,vF),(34,vF),(38,.fptr (ae.enc z6) 0),(48,.fptr (ae.enc z9) 0),(56,vF)],[(24,.v (.bool y2)),(31,.v (.bool y4))],[],[],[],[]⟩),(3,⟨[],[64],[],[(64,.sl (((v.all.drop ((af .i64 a 1)).toNat).take ((b).toNat - ((af .i64 a 1)).toNat)).map Event.enc))],[(66,.v (.bool y14))],[],[],[],[]⟩)]) rU (fun z=>(c120_ _ (c121_ _ (c122_ _ (c123_ _ (aB h12 (aI (BW Event.enc v.all (fun _=>rfl):cA 14 (v.all.map Event.enc)=true) (aI (GI h13:(decide ((0:Int)≤(af .i64 a 1))&&decide ((af .i64 a 1)≤b)&&decide (b≤((((v.all.map Event.enc)).length:Nat):Int)))=true) (aI (JP Event.enc v.all _ _:AV.sl ((((v.all.map Event.enc)).drop ((af .i64 a 1)).toNat).take ((b).toNat - ((af .i64 a 1)).toNat))=AV.sl (((v.all.drop ((af .i64 a 1)).toNat).take ((b).toNat - ((af .i64 a 1)).toNat)).map Event.enc)) (aI (fb n ((v.all.drop ((af .i64 a 1)).toNat).take ((b).toNat - ((af .i64 a 1)).toNat)) x.Hart x.At x.Kind x.Addr x.Load x.Store x.Aq x.Rl x.Pred x.Succ x.Pair x.Deps.Addr x.Deps.Data x.Deps.Way y14 gy14) z)))))))))) (by kernel_rfl)

def tp:List (Nat×PT):=[]
theorem rW:ay (ak 112) tp (aj Tryz.prog 112)=true:=by kernel_rfl
theorem uQ (n:Nat) (v:ah) (a:Int) (b:Int) (x:Event) (y:Event) (r:Bool) (h:hZ n v a b x y=some r):ax Tryz.prog 112 [.fptr (ah.enc v) 0,(vI a),(vI b),.fptr (Event.enc x) 0,.fptr (Event.enc y) 0] (eF (.v (.bool r))):=by
 unfold hZ at h
 rcases ap h with ⟨h1,h⟩ | ⟨h1,h⟩
 ·
  obtain ⟨y2,gy2,h⟩:=ab h
  have c124_:=fun (R:Prop) (z:R)=>(aB h1 (aI (bE n y y2 gy2) z))
  rcases aD h with ⟨h3,h⟩ | ⟨h3,h⟩
  ·
   obtain rfl:=aK h
   exact kP (nA tp [bi 1 [(16,vT),(29,vF)] [(27,.v (.bool y2))]]) rW (fun z=>(c124_ _ (aB h3 z))) (by kernel_rfl)
  rcases iv h with ⟨h4,h⟩ | ⟨z4,h5,h⟩
  ·
   cases h
  ·
   obtain ⟨x6,gx6,h⟩:=ab h
   obtain rfl:=aK h
   exact kP (nA tp [(1,⟨[],[],[(38,[(vI x6)])],[(16,vT),(29,vT),(33,.fptr (ae.enc z4) 0)],[(27,.v (.bool y2))],[],[],[],[]⟩)]) rW (fun z=>(c124_ _ (aB h3 (aI (congrArg (BV ae.enc) h5) (aM eI gx6 z))))) (by kernel_rfl)
 rcases aD h with ⟨h2,h⟩ | ⟨h2,h⟩
 ·
  obtain rfl:=aK h
  exact kP (nA tp [rV 1 [(16,vF),(23,vF)]]) rW (fun z=>(aB h1 (aB h2 z))) (by kernel_rfl)
 obtain ⟨y3,gy3,h⟩:=ab h
 have c125_:=fun (R:Prop) (z:R)=>(aB h1 (aB h2 (aI (bE n y y3 gy3) z)))
 rcases aD h with ⟨h4,h⟩ | ⟨h4,h⟩
 ·
  obtain rfl:=aK h
  exact kP (nA tp [bi 1 [(16,vF),(23,vT),(29,vF)] [(27,.v (.bool y3))]]) rW (fun z=>(c125_ _ (aB h4 z))) (by kernel_rfl)
 rcases iv h with ⟨h5,h⟩ | ⟨z5,h6,h⟩
 ·
  cases h
 ·
  obtain ⟨x7,gx7,h⟩:=ab h
  obtain rfl:=aK h
  exact kP (nA tp [(1,⟨[],[],[(38,[(vI x7)])],[(16,vF),(23,vT),(29,vT),(33,.fptr (ae.enc z5) 0)],[(27,.v (.bool y3))],[],[],[],[]⟩)]) rW (fun z=>(c125_ _ (aB h4 (aI (congrArg (BV ae.enc) h6) (aM eI gx7 z))))) (by kernel_rfl)

def wZ:List (Nat×PT):=[]
theorem vi:ay (ak 135) wZ (aj Tryz.prog 135)=true:=by kernel_rfl
theorem qe (n:Nat) (e:Event) (r:(List Int)) (h:kB n e=some r):ax Tryz.prog 135 [(bD Event.enc e)] (eF (.sl (r.map eI))):=by
 unfold kB at h
 obtain ⟨y1,gy1,h⟩:=ab h
 have c126_:=fun (R:Prop) (z:R)=>(aI (cq n e y1 gy1) z)
 rcases aD h with ⟨h2,h⟩ | ⟨h2,h⟩
 ·
  obtain ⟨y3,gy3,h⟩:=ab h
  have c128_:=fun (R:Prop) (z:R)=>(aB h2 (aI (bE n e y3 gy3) z))
  rcases aD h with ⟨h4,h⟩ | ⟨h4,h⟩
  ·
   obtain rfl:=aK h
   exact kP (nA wZ [bi 1 [(4,vF)] [(4,.v (.bool y1))],bi 3 [(9,vF)] [(9,.v (.bool y3))]]) vi (fun z=>(c126_ _ (c128_ _ (aB h4 (aG.nil:aG .nilsl (.sl (([]:List Int).map eI))))))) (by kernel_rfl)
  obtain rfl:=aK h
  exact kP (nA wZ [bi 1 [(4,vF)] [(4,.v (.bool y1))],bi 3 [(9,vT)] [(9,.v (.bool y3))],(4,⟨[],[12],[],[],[],[],[],[],[]⟩)]) vi (fun z=>(c126_ _ (c128_ _ (aB h4 (aI (rfl:cA 1 [[(vI 1)]]=true) (aI (rfl:aR [[(vI 1)]]=true) (aI (rfl:Nat.ble (1 * 8) 140737488355328=true) z))))))) (by kernel_rfl)
 obtain ⟨y3,gy3,h⟩:=ab h
 have c127_:=fun (R:Prop) (z:R)=>(aB h2 (aI (rfl:cA 1 [[(vI 0)]]=true) (aI (rfl:aR [[(vI 0)]]=true) (aI (rfl:Nat.ble (1 * 8) 140737488355328=true) (aI (bE n e y3 gy3) z)))))
 rcases aD h with ⟨h4,h⟩ | ⟨h4,h⟩
 ·
  obtain rfl:=aK h
  exact kP (nA wZ [bi 1 [(4,vT)] [(4,.v (.bool y1))],(2,⟨[],[7],[],[],[],[],[],[],[]⟩),bi 3 [(9,vF)] [(9,.v (.bool y3))]]) vi (fun z=>(c126_ _ (c127_ _ (aB h4 z)))) (by kernel_rfl)
 obtain ⟨h5,h⟩:=ep h
 obtain rfl:=aK h
 exact kP (nA wZ [bi 1 [(4,vT)] [(4,.v (.bool y1))],(2,⟨[],[7],[],[],[],[],[],[],[]⟩),bi 3 [(9,vT)] [(9,.v (.bool y3))],(4,⟨[],[12],[],[],[],[],[(12,(0,(([0]:List Int)++([1]:List Int)).map eI))],[],[]⟩)]) vi (fun z=>(c126_ _ (c127_ _ (aB h4 (aI (rfl:cA 1 [[(vI 1)]]=true) (aI (rfl:aR [[(vI 1)]]=true) (aI (jp h5:Nat.ble (((([0]:List Int).map eI).length + 1) * 8) 140737488355328=true) (aI (lV eI ([0]:List Int) ([1]:List Int)) z)))))))) (by kernel_rfl)

def f7:List (Nat×PT):=[(8,(ew [0,1,2,3,4,5,6,7,8,9,10,11,12,13,14,15,16,17,18]))]
theorem Ed:ay (ak 114) f7 (aj Tryz.prog 114)=true:=by kernel_rfl
noncomputable def K9:Code:=sub (aj Tryz.prog 114) [1,0,1,0,0]
noncomputable def Nr:Code:=sub K9 [1,1,0,0,1,1,0,0]
theorem Ap:ay (ak 114) f7 Nr=true:=by kernel_rfl
def IP (v:ah) (a:Int) (b:Int) (y2:(List Int)) (xa2:Int) (ya4:(List Int)) (sb:Int×Int):St:=bg 63 [(0,.fptr (ah.enc v) 0),(1,(vI a)),(2,(vI b)),(8,(vI xa2)),(19,.sl (y2.map eI)),(20,(vI (y2.length:Int))),(21,(vI sb.1)),(32,.sl (ya4.map eI)),(33,(vI (ya4.length:Int))),(34,(vI sb.2))] [] [] 0
def Ns (v:ah) (a:Int) (b:Int) (y2:(List Int)) (xa2:Int) (ya4:(List Int)) (tt:Int):St:=bg 63 [(0,.fptr (ah.enc v) 0),(1,(vI a)),(2,(vI b)),(19,.sl (y2.map eI)),(20,(vI (y2.length:Int))),(21,(vI tt))] [] [] 0
def Nt (v:ah) (a:Int) (b:Int) (y2:(List Int)) (xa2:Int) (ya4:(List Int)) (tt:Unit):St:=bg 63 [(6,vT)] [] [] 0
def K_ (v:ah) (a:Int) (b:Int) (y2:(List Int)) (xa2:Int) (ya4:(List Int)) (t0:(Int⊕Unit)):Ex×St:=match t0 with | .inl tt=>(.ex 2,Ns v a b y2 xa2 ya4 tt) | .inr tt=>(.ret,Nt v a b y2 xa2 ya4 tt)
theorem Nu (n:Nat) (v:ah) (a:Int) (b:Int) (y2:(List Int)) (xa2:Int) (ya4:(List Int)):∀ sb r,ff n v a b y2 xa2 ya4 sb=some r→aV Tryz.prog Nr (IP v a b y2 xa2 ya4 sb) (rk (IP v a b y2 xa2 ya4) (K_ v a b y2 xa2 ya4) r):=by
 intro sb r h
 unfold ff at h
 rcases aD h with ⟨hb1,h⟩ | ⟨hb1,h⟩
 ·
  exact kQ h (nA f7 [rV 5 [(35,vF)]]) [wK 4 [0,1,2,19,20,21] [] 0] Ap (cG rfl kp) (fun z=>(aB hb1 z)) (by kernel_rfl)
 obtain ⟨xb2,gxb2,h⟩:=ab h
 have c129_:=fun (R:Prop) (z:R)=>(aB hb1 (aM eI gxb2 z))
 let e130_:LR:=[rV 5 [(35,vT)],rR 6 [(36,[(vI xb2)])]]
 rcases ap h with ⟨hb3,h⟩ | ⟨hb3,h⟩
 ·
  obtain ⟨xb4,gxb4,h⟩:=ab h
  obtain ⟨xb5,gxb5,h⟩:=ab h
  have d0_:AV.v (.int .i64 (af .i64 (mr .i64 2 xa2) xb2))=AV.v (.int .i64 0):=xu hb3
  have c131_:=fun (R:Prop) (z:R)=>(aI d0_ (aM eI gxb4 (aI d0_ (aM eI gxb5 z))))
  rcases ap h with ⟨hb6,h⟩ | ⟨hb6,h⟩
  ·
   exact kQ h (nA f7 (e130_++[(8,⟨[],[],[(49,[(vI xb4)]),(58,[(vI xb5)])],[(43,(vI 0)),(52,(vI 0)),(60,vT)],[],[],[],[],[]⟩)])) [wK 1 [6] [] 0] Ap (cG rfl gC) (fun z=>(c129_ _ (c131_ _ (aB hb6 z)))) (by kernel_rfl)
  exact kQ h (nA f7 (e130_++[(8,⟨[],[],[(49,[(vI xb4)]),(58,[(vI xb5)])],[(43,(vI 0)),(52,(vI 0)),(60,vF)],[],[],[],[],[]⟩)])) [wK 0 [0,1,2,8,19,20,21,32,33,34] [] 0] Ap dx (fun z=>(c129_ _ (c131_ _ (aB hb6 z)))) (by kernel_rfl)
 rcases ap h with ⟨hb3,h⟩ | ⟨hb3,h⟩
 ·
  obtain ⟨xb4,gxb4,h⟩:=ab h
  obtain ⟨xb5,gxb5,h⟩:=ab h
  have d0_:AV.v (.int .i64 (af .i64 (mr .i64 2 xa2) xb2))=AV.v (.int .i64 1):=xu hb3
  have c132_:=fun (R:Prop) (z:R)=>(aI d0_ (aM eI gxb4 (aI d0_ (aM eI gxb5 z))))
  rcases ap h with ⟨hb6,h⟩ | ⟨hb6,h⟩
  ·
   exact kQ h (nA f7 (e130_++[(8,⟨[],[],[(49,[(vI xb4)]),(58,[(vI xb5)])],[(43,(vI 1)),(52,(vI 1)),(60,vT)],[],[],[],[],[]⟩)])) [wK 1 [6] [] 0] Ap (cG rfl gC) (fun z=>(c129_ _ (c132_ _ (aB hb6 z)))) (by kernel_rfl)
  exact kQ h (nA f7 (e130_++[(8,⟨[],[],[(49,[(vI xb4)]),(58,[(vI xb5)])],[(43,(vI 1)),(52,(vI 1)),(60,vF)],[],[],[],[],[]⟩)])) [wK 0 [0,1,2,8,19,20,21,32,33,34] [] 0] Ap dx (fun z=>(c129_ _ (c132_ _ (aB hb6 z)))) (by kernel_rfl)
 rcases ap h with ⟨hb3,h⟩ | ⟨hb3,h⟩
 ·
  obtain ⟨xb4,gxb4,h⟩:=ab h
  obtain ⟨xb5,gxb5,h⟩:=ab h
  have d0_:AV.v (.int .i64 (af .i64 (mr .i64 2 xa2) xb2))=AV.v (.int .i64 2):=xu hb3
  have c133_:=fun (R:Prop) (z:R)=>(aI d0_ (aM eI gxb4 (aI d0_ (aM eI gxb5 z))))
  rcases ap h with ⟨hb6,h⟩ | ⟨hb6,h⟩
  ·
   exact kQ h (nA f7 (e130_++[(8,⟨[],[],[(49,[(vI xb4)]),(58,[(vI xb5)])],[(43,(vI 2)),(52,(vI 2)),(60,vT)],[],[],[],[],[]⟩)])) [wK 1 [6] [] 0] Ap (cG rfl gC) (fun z=>(c129_ _ (c133_ _ (aB hb6 z)))) (by kernel_rfl)
  exact kQ h (nA f7 (e130_++[(8,⟨[],[],[(49,[(vI xb4)]),(58,[(vI xb5)])],[(43,(vI 2)),(52,(vI 2)),(60,vF)],[],[],[],[],[]⟩)])) [wK 0 [0,1,2,8,19,20,21,32,33,34] [] 0] Ap dx (fun z=>(c129_ _ (c133_ _ (aB hb6 z)))) (by kernel_rfl)
 rcases ap h with ⟨hb3,h⟩ | ⟨hb3,h⟩
 ·
  obtain ⟨xb4,gxb4,h⟩:=ab h
  obtain ⟨xb5,gxb5,h⟩:=ab h
  have d0_:AV.v (.int .i64 (af .i64 (mr .i64 2 xa2) xb2))=AV.v (.int .i64 3):=xu hb3
  have c134_:=fun (R:Prop) (z:R)=>(aI d0_ (aM eI gxb4 (aI d0_ (aM eI gxb5 z))))
  rcases ap h with ⟨hb6,h⟩ | ⟨hb6,h⟩
  ·
   exact kQ h (nA f7 (e130_++[(8,⟨[],[],[(49,[(vI xb4)]),(58,[(vI xb5)])],[(43,(vI 3)),(52,(vI 3)),(60,vT)],[],[],[],[],[]⟩)])) [wK 1 [6] [] 0] Ap (cG rfl gC) (fun z=>(c129_ _ (c134_ _ (aB hb6 z)))) (by kernel_rfl)
  exact kQ h (nA f7 (e130_++[(8,⟨[],[],[(49,[(vI xb4)]),(58,[(vI xb5)])],[(43,(vI 3)),(52,(vI 3)),(60,vF)],[],[],[],[],[]⟩)])) [wK 0 [0,1,2,8,19,20,21,32,33,34] [] 0] Ap dx (fun z=>(c129_ _ (c134_ _ (aB hb6 z)))) (by kernel_rfl)
 cases h

theorem La:ay (ak 114) f7 K9=true:=by kernel_rfl
def IQ (v:ah) (a:Int) (b:Int) (y2:(List Int)) (sa:Int):St:=bg 63 [(0,.fptr (ah.enc v) 0),(1,(vI a)),(2,(vI b)),(19,.sl (y2.map eI)),(20,(vI (y2.length:Int))),(21,(vI sa))] [] [] 0
def Nv (v:ah) (a:Int) (b:Int) (y2:(List Int)) (tt:Unit):St:=bg 63 [] [] [] 0
def Nw (v:ah) (a:Int) (b:Int) (y2:(List Int)) (tt:Unit):St:=bg 63 [(6,vT)] [] [] 0
def Lb (v:ah) (a:Int) (b:Int) (y2:(List Int)) (t0:(Unit⊕Unit)):Ex×St:=match t0 with | .inl tt=>(.ex 0,Nv v a b y2 tt) | .inr tt=>(.ret,Nw v a b y2 tt)
theorem Nx (n:Nat) (v:ah) (a:Int) (b:Int) (y2:(List Int)):∀ sa r,fg n v a b y2 sa=some r→aV Tryz.prog K9 (IQ v a b y2 sa) (rk (IQ v a b y2) (Lb v a b y2) r):=by
 intro sa r h
 unfold fg at h
 rcases aD h with ⟨ha1,h⟩ | ⟨ha1,h⟩
 ·
  exact kQ h (nA f7 [rV 2 [(22,vF)]]) [wK 2 [] [] 0] La (cG rfl kp) (fun z=>(aB ha1 z)) (by kernel_rfl)
 obtain ⟨xa2,gxa2,h⟩:=ab h
 obtain ⟨xa3,gxa3,h⟩:=ab h
 obtain ⟨ya4,gya4,h⟩:=ab h
 obtain ⟨ta5,gta5,h⟩:=ab h
 have c135_:=fun (R:Prop) (z:R)=>(aB ha1 (aM eI gxa2 (aM Event.enc gxa3 (aI (qe n xa3 ya4 gya4) (aL eI ya4 z)))))
 rcases ta5 with wa6 | wa6
 ·
  exact kQ h ⟨f7,[rV 2 [(22,vT)],rR 3 [(23,[(vI xa2)])],(4,⟨[],[],[(30,(Event.enc xa3))],[(33,(vI (ya4.length:Int)))],[(32,.sl (ya4.map eI))],[],[],[],[]⟩)],[],[(5,(⟨[0,1,2,8,19,20,21,32,33,34],[],0,[],[],[]⟩,l0,(.ex 2),Ns v a b y2 xa2 ya4 wa6))],[]⟩ [wK 0 [0,1,2,19,20,21] [] 0] La dx (fun z=>(c135_ _ (aI (eP (pl:=ak 114) (IP v a b y2 xa2 ya4) (K_ v a b y2 xa2 ya4) (Nu n v a b y2 xa2 ya4) n _ (.inl wa6) gta5) z))) (by kernel_rfl)
 ·
  exact kQ h ⟨f7,[rV 2 [(22,vT)],rR 3 [(23,[(vI xa2)])],(4,⟨[],[],[(30,(Event.enc xa3))],[(33,(vI (ya4.length:Int)))],[(32,.sl (ya4.map eI))],[],[],[],[]⟩)],[],[(5,(⟨[0,1,2,8,19,20,21,32,33,34],[],0,[],[],[]⟩,l0,.ret,Nt v a b y2 xa2 ya4 wa6))],[]⟩ [wK 1 [6] [] 0] La (cG rfl gC) (fun z=>(c135_ _ (aI (eP (pl:=ak 114) (IP v a b y2 xa2 ya4) (K_ v a b y2 xa2 ya4) (Nu n v a b y2 xa2 ya4) n _ (.inr wa6) gta5) z))) (by kernel_rfl)

theorem pQ (n:Nat) (v:ah) (a:Int) (b:Int) (r:Bool) (h:fy n v a b=some r):ax Tryz.prog 114 [.fptr (ah.enc v) 0,(vI a),(vI b)] (eF (.v (.bool r))):=by
 unfold fy at h
 obtain ⟨x1,gx1,h⟩:=ab h
 obtain ⟨y2,gy2,h⟩:=ab h
 obtain ⟨t3,gt3,h⟩:=ab h
 have c136_:=fun (R:Prop) (z:R)=>(aM Event.enc gx1 (aI (qe n x1 y2 gy2) (aL eI y2 z)))
 rcases t3 with w4 | w4
 ·
  obtain rfl:=aK h
  exact kP ⟨f7,[(1,⟨[],[],[(17,(Event.enc x1))],[(20,(vI (y2.length:Int)))],[(19,.sl (y2.map eI))],[],[],[],[]⟩)],[],[(2,(⟨[0,1,2,19,20,21],[],0,[],[],[]⟩,l0,(.ex 0),Nv v a b y2 w4))],[]⟩ Ed (fun z=>(c136_ _ (aI (eP (pl:=ak 114) (IQ v a b y2) (Lb v a b y2) (Nx n v a b y2) n _ (.inl w4) gt3) z))) (by kernel_rfl)
 ·
  obtain rfl:=aK h
  exact kP ⟨f7,[(1,⟨[],[],[(17,(Event.enc x1))],[(20,(vI (y2.length:Int)))],[(19,.sl (y2.map eI))],[],[],[],[]⟩)],[],[(2,(⟨[0,1,2,19,20,21],[],0,[],[],[]⟩,l0,.ret,Nw v a b y2 w4))],[]⟩ Ed (fun z=>(c136_ _ (aI (eP (pl:=ak 114) (IQ v a b y2) (Lb v a b y2) (Nx n v a b y2) n _ (.inr w4) gt3) z))) (by kernel_rfl)

def Ha:List (Nat×PT):=[]
theorem IR:ay (ak 113) Ha (aj Tryz.prog 113)=true:=by kernel_rfl
theorem uR (n:Nat) (v:ah) (a:Int) (b:Int) (x:Event) (y:Event) (r:Bool) (h:h_ n v a b x y=some r):ax Tryz.prog 113 [.fptr (ah.enc v) 0,(vI a),(vI b),.fptr (Event.enc x) 0,.fptr (Event.enc y) 0] (eF (.v (.bool r))):=by
 unfold h_ at h
 obtain ⟨y1,gy1,h⟩:=ab h
 obtain rfl:=aK h
 exact kP (nA Ha [bi 1 [] [(14,.v (.bool y1))]]) IR (fun z=>(aI (pQ n v a b y1 gy1) z)) (by kernel_rfl)

def Hb:List (Nat×PT):=[]
theorem IS:ay (ak 115) Hb (aj Tryz.prog 115)=true:=by kernel_rfl
theorem uS (n:Nat) (v:ah) (a:Int) (b:Int) (x:Event) (y:Event) (r:Bool) (h:lD n v a b x y=some r):ax Tryz.prog 115 [.fptr (ah.enc v) 0,(vI a),(vI b),.fptr (Event.enc x) 0,.fptr (Event.enc y) 0] (eF (.v (.bool r))):=by
 unfold lD at h
 obtain rfl:=aK h
 exact kP (nA Hb []) IS (fun z=>z) (by kernel_rfl)

def Hc:List (Nat×PT):=[]
theorem IT:ay (ak 116) Hc (aj Tryz.prog 116)=true:=by kernel_rfl
theorem uT (n:Nat) (v:ah) (a:Int) (b:Int) (x:Event) (y:Event) (r:Bool) (h:lE n v a b x y=some r):ax Tryz.prog 116 [.fptr (ah.enc v) 0,(vI a),(vI b),.fptr (Event.enc x) 0,.fptr (Event.enc y) 0] (eF (.v (.bool r))):=by
 unfold lE at h
 obtain rfl:=aK h
 exact kP (nA Hc []) IT (fun z=>z) (by kernel_rfl)

def tq:List (Nat×PT):=[]
theorem rX:ay (ak 117) tq (aj Tryz.prog 117)=true:=by kernel_rfl
theorem uU (n:Nat) (v:ah) (a:Int) (b:Int) (x:Event) (y:Event) (r:Bool) (h:ia n v a b x y=some r):ax Tryz.prog 117 [.fptr (ah.enc v) 0,(vI a),(vI b),.fptr (Event.enc x) 0,.fptr (Event.enc y) 0] (eF (.v (.bool r))):=by
 unfold ia at h
 rcases ap h with ⟨h1,h⟩ | ⟨h1,h⟩
 ·
  rcases ap h with ⟨h2,h⟩ | ⟨h2,h⟩
  ·
   obtain rfl:=aK h
   exact kP (nA tq [rV 1 [(15,vT),(26,vT)]]) rX (fun z=>(aB h1 (aB h2 z))) (by kernel_rfl)
  obtain rfl:=aK h
  exact kP (nA tq [rV 1 [(15,vT),(26,vF)]]) rX (fun z=>(aB h1 (aB h2 z))) (by kernel_rfl)
 rcases aD h with ⟨h2,h⟩ | ⟨h2,h⟩
 ·
  obtain rfl:=aK h
  exact kP (nA tq [rV 1 [(15,vF),(21,vF)]]) rX (fun z=>(aB h1 (aB h2 z))) (by kernel_rfl)
 have c137_:=fun (R:Prop) (z:R)=>(aB h1 (aB h2 z))
 rcases ap h with ⟨h3,h⟩ | ⟨h3,h⟩
 ·
  obtain rfl:=aK h
  exact kP (nA tq [rV 1 [(15,vF),(21,vT),(26,vT)]]) rX (fun z=>(c137_ _ (aB h3 z))) (by kernel_rfl)
 obtain rfl:=aK h
 exact kP (nA tq [rV 1 [(15,vF),(21,vT),(26,vF)]]) rX (fun z=>(c137_ _ (aB h3 z))) (by kernel_rfl)

def Da:List (Nat×PT):=[(1,(ew [0,1,2,3,4,5,6,7,8,9,10,11,12,13,14,15,16]))]
theorem Ee:ay (ak 118) Da (aj Tryz.prog 118)=true:=by kernel_rfl
theorem uV (n:Nat) (v:ah) (a:Int) (b:Int) (x:Event) (y:Event) (r:Bool) (h:lF n v a b x y=some r):ax Tryz.prog 118 [.fptr (ah.enc v) 0,(vI a),(vI b),.fptr (Event.enc x) 0,.fptr (Event.enc y) 0] (eF (.v (.bool r))):=by
 unfold lF at h
 rcases ap h with ⟨h1,h⟩ | ⟨h1,h⟩
 ·
  obtain rfl:=aK h
  exact kP (nA Da [rV 1 [(16,vT)]]) Ee (fun z=>(aB h1 z)) (by kernel_rfl)
 obtain rfl:=aK h
 exact kP (nA Da [rV 1 [(16,vF)]]) Ee (fun z=>(aB h1 z)) (by kernel_rfl)

def Hd:List (Nat×PT):=[]
theorem IU:ay (ak 141) Hd (aj Tryz.prog 141)=true:=by kernel_rfl
theorem lZ (n:Nat) (x:Int) (r:Bool) (h:cmp_isNaN_int n x=some r):ax Tryz.prog 141 [(vI x)] (eF (.v (.bool r))):=by
 unfold cmp_isNaN_int at h
 obtain rfl:=aK h
 exact kP (nA Hd []) IU (fun z=>z) (by kernel_rfl)

def Ar:List (Nat×PT):=[]
theorem As:ay (ak 139) Ar (aj Tryz.prog 139)=true:=by kernel_rfl
theorem tr (n:Nat) (x:Int) (y:Int) (r:Bool) (h:cmp_Less_int n x y=some r):ax Tryz.prog 139 [(vI x),(vI y)] (eF (.v (.bool r))):=by
 unfold cmp_Less_int at h
 obtain ⟨y1,gy1,h⟩:=ab h
 have c138_:=fun (R:Prop) (z:R)=>(aI (lZ n x y1 gy1) z)
 rcases aD h with ⟨h2,h⟩ | ⟨h2,h⟩
 ·
  obtain rfl:=aK h
  exact kP (nA Ar [bi 1 [(7,vF)] [(6,.v (.bool y1))]]) As (fun z=>(c138_ _ (aB h2 z))) (by kernel_rfl)
 obtain ⟨y3,gy3,h⟩:=ab h
 have c139_:=fun (R:Prop) (z:R)=>(aB h2 (aI (lZ n y y3 gy3) z))
 rcases ap h with ⟨h4,h⟩ | ⟨h4,h⟩
 ·
  obtain rfl:=aK h
  exact kP (nA Ar [bi 1 [(7,vT),(12,vT)] [(6,.v (.bool y1)),(9,.v (.bool y3))]]) As (fun z=>(c138_ _ (c139_ _ (aB h4 z)))) (by kernel_rfl)
 obtain rfl:=aK h
 exact kP (nA Ar [bi 1 [(7,vT),(12,vF)] [(6,.v (.bool y1)),(9,.v (.bool y3))]]) As (fun z=>(c138_ _ (c139_ _ (aB h4 z)))) (by kernel_rfl)

def He:List (Nat×PT):=[]
theorem IV:ay (ak 140) He (aj Tryz.prog 140)=true:=by kernel_rfl
theorem j2 (n:Nat) (x:Int) (r:Bool) (h:gg n x=some r):ax Tryz.prog 140 [(vI x)] (eF (.v (.bool r))):=by
 unfold gg at h
 obtain rfl:=aK h
 exact kP (nA He []) IV (fun z=>z) (by kernel_rfl)

def nx:List (Nat×PT):=[]
theorem vj:ay (ak 136) nx (aj Tryz.prog 136)=true:=by kernel_rfl
noncomputable def Ny:Code:=sub (aj Tryz.prog 136) [1,1,1,0,0,0]
theorem Lc:ay (ak 136) nx Ny=true:=by kernel_rfl
def Ld (x:(List Int)) (target:Int) (sa:Int×Int):St:=bg 54 [(0,.sl (x.map eI)),(1,(vI target)),(6,(vI (x.length:Int))),(7,(vI sa.1)),(8,(vI sa.2))] [] [] 0
def Hf (x:(List Int)) (target:Int) (tt:Int):St:=bg 54 [(0,.sl (x.map eI)),(1,(vI target)),(6,(vI (x.length:Int))),(7,(vI tt))] [] [] 0
def Nz (x:(List Int)) (target:Int) (tt:Int):Ex×St:=(.ex 0,Hf x target tt)
theorem Qb (n:Nat) (x:(List Int)) (target:Int):∀ sa r,bV n x target sa=some r→aV Tryz.prog Ny (Ld x target sa) (rk (Ld x target) (Nz x target) r):=by
 intro sa r h
 unfold bV at h
 rcases aD h with ⟨ha1,h⟩ | ⟨ha1,h⟩
 ·
  exact kQ h (nA nx [rV 3 [(15,vF)]]) [wK 2 [0,1,6,7] [] 0] Lc (cG rfl kp) (fun z=>(aB ha1 z)) (by kernel_rfl)
 obtain ⟨xa2,gxa2,h⟩:=ab h
 obtain ⟨ya3,gya3,h⟩:=ab h
 have c140_:=fun (R:Prop) (z:R)=>(aB ha1 (aM eI gxa2 (aI (tr n xa2 target ya3 gya3) z)))
 rcases ap h with ⟨ha4,h⟩ | ⟨ha4,h⟩
 ·
  exact kQ h (nA nx [rV 3 [(15,vT)],(5,⟨[],[],[(24,[(vI xa2)])],[(27,vT)],[(27,.v (.bool ya3))],[],[],[],[]⟩)]) [wK 0 [0,1,6,7,8] [] 0] Lc dx (fun z=>(c140_ _ (aB ha4 z))) (by kernel_rfl)
 exact kQ h (nA nx [rV 3 [(15,vT)],(5,⟨[],[],[(24,[(vI xa2)])],[(27,vF)],[(27,.v (.bool ya3))],[],[],[],[]⟩)]) [wK 0 [0,1,6,7,8] [] 0] Lc dx (fun z=>(c140_ _ (aB ha4 z))) (by kernel_rfl)

theorem i5 (n:Nat) (x:(List Int)) (target:Int) (r:Int×Bool) (h:cu n x target=some r):ax Tryz.prog 136 [.sl (x.map eI),(vI target)] (eF (.tup [(vI r.1),.v (.bool r.2)])):=by
 unfold cu at h
 obtain ⟨t1,gt1,h⟩:=ab h
 have c141_:=fun (R:Prop) (z:R)=>(aL eI x (aI (eP (pl:=ak 136) (Ld x target) (Nz x target) (Qb n x target) n _ t1 gt1) z))
 let e142_:LR:=[rV 1 [(11,(vI (x.length:Int)))]]
 rcases aD h with ⟨h2,h⟩ | ⟨h2,h⟩
 ·
  obtain rfl:=aK h
  exact kP ⟨nx,(e142_++[rV 8 [(35,vF)]]),[],[(3,(⟨[0,1,6,7,8],[],0,[],[],[]⟩,l0,(.ex 0),Hf x target t1))],[]⟩ vj (fun z=>(c141_ _ (aB h2 z))) (by kernel_rfl)
 obtain ⟨x3,gx3,h⟩:=ab h
 have c143_:=fun (R:Prop) (z:R)=>(aB h2 (aM eI gx3 z))
 rcases ap h with ⟨h4,h⟩ | ⟨h4,h⟩
 ·
  obtain rfl:=aK h
  exact kP ⟨nx,(e142_++[(8,⟨[],[],[(38,[(vI x3)])],[(35,vT),(42,vT)],[],[],[],[],[]⟩)]),[],[(3,(⟨[0,1,6,7,8],[],0,[],[],[]⟩,l0,(.ex 0),Hf x target t1))],[]⟩ vj (fun z=>(c141_ _ (c143_ _ (aB h4 z)))) (by kernel_rfl)
 obtain ⟨y5,gy5,h⟩:=ab h
 have c144_:=fun (R:Prop) (z:R)=>(aB h4 (aM eI gx3 (aI (j2 n x3 y5 gy5) z)))
 rcases aD h with ⟨h6,h⟩ | ⟨h6,h⟩
 ·
  obtain rfl:=aK h
  exact kP ⟨nx,(e142_++[(8,⟨[],[],[(38,[(vI x3)]),(45,[(vI x3)])],[(35,vT),(42,vF),(48,vF)],[(47,.v (.bool y5))],[],[],[],[]⟩)]),[],[(3,(⟨[0,1,6,7,8],[],0,[],[],[]⟩,l0,(.ex 0),Hf x target t1))],[]⟩ vj (fun z=>(c141_ _ (c143_ _ (c144_ _ (aB h6 z))))) (by kernel_rfl)
 obtain ⟨y7,gy7,h⟩:=ab h
 obtain rfl:=aK h
 exact kP ⟨nx,(e142_++[(8,⟨[],[],[(38,[(vI x3)]),(45,[(vI x3)])],[(35,vT),(42,vF),(48,vT)],[(47,.v (.bool y5)),(50,.v (.bool y7))],[],[],[],[]⟩)]),[],[(3,(⟨[0,1,6,7,8],[],0,[],[],[]⟩,l0,(.ex 0),Hf x target t1))],[]⟩ vj (fun z=>(c141_ _ (c143_ _ (c144_ _ (aB h6 (aI (j2 n target y7 gy7) z)))))) (by kernel_rfl)

def Hg:List (Nat×PT):=[]
theorem IW:ay (ak 120) Hg (aj Tryz.prog 120)=true:=by kernel_rfl
theorem lu (n:Nat) (l:(List Int)) (at_:Int) (r:Bool) (h:mY n l at_=some r):ax Tryz.prog 120 [.sl (l.map eI),(vI at_)] (eF (.v (.bool r))):=by
 unfold mY at h
 obtain ⟨y1,gy1,h⟩:=ab h
 obtain rfl:=aK h
 exact kP (nA Hg [bi 1 [] [(10,.tup [(vI y1.1),.v (.bool y1.2)])]]) IW (fun z=>(aI (i5 n l at_ y1 gy1) z)) (by kernel_rfl)

def Hh:List (Nat×PT):=[(1,(ew [0,1,2,3,4,5,6,7,8,9,10]))]
theorem IX:ay (ak 119) Hh (aj Tryz.prog 119)=true:=by kernel_rfl
theorem uW (n:Nat) (v:ah) (a:Int) (b:Int) (x:Event) (y:Event) (r:Bool) (h:ib n v a b x y=some r):ax Tryz.prog 119 [.fptr (ah.enc v) 0,(vI a),(vI b),.fptr (Event.enc x) 0,.fptr (Event.enc y) 0] (eF (.v (.bool r))):=by
 unfold ib at h
 obtain ⟨y1,gy1,h⟩:=ab h
 obtain rfl:=aK h
 exact kP (nA Hh [bi 1 [] [(20,.v (.bool y1))]]) IX (fun z=>(aI (lu n y.Deps.Addr x.At y1 gy1) z)) (by kernel_rfl)

def Hi:List (Nat×PT):=[(1,(ew [0,1,2,3,4,5,6,7,8,9,10]))]
theorem IY:ay (ak 121) Hi (aj Tryz.prog 121)=true:=by kernel_rfl
theorem tu (n:Nat) (v:ah) (a:Int) (b:Int) (x:Event) (y:Event) (r:Bool) (h:gh n v a b x y=some r):ax Tryz.prog 121 [.fptr (ah.enc v) 0,(vI a),(vI b),.fptr (Event.enc x) 0,.fptr (Event.enc y) 0] (eF (.v (.bool r))):=by
 unfold gh at h
 obtain ⟨y1,gy1,h⟩:=ab h
 obtain rfl:=aK h
 exact kP (nA Hi [bi 1 [] [(20,.v (.bool y1))]]) IY (fun z=>(aI (lu n y.Deps.Data x.At y1 gy1) z)) (by kernel_rfl)

def Db:List (Nat×PT):=[(1,(ew [0,1,2,3,4,5,6,7,8,9,10,11,12,13,14,15,16]))]
theorem Ef:ay (ak 122) Db (aj Tryz.prog 122)=true:=by kernel_rfl
theorem tv (n:Nat) (v:ah) (a:Int) (b:Int) (x:Event) (y:Event) (r:Bool) (h:gi n v a b x y=some r):ax Tryz.prog 122 [.fptr (ah.enc v) 0,(vI a),(vI b),.fptr (Event.enc x) 0,.fptr (Event.enc y) 0] (eF (.v (.bool r))):=by
 unfold gi at h
 obtain ⟨y1,gy1,h⟩:=ab h
 have c145_:=fun (R:Prop) (z:R)=>(aI (cq n y y1 gy1) z)
 rcases aD h with ⟨h2,h⟩ | ⟨h2,h⟩
 ·
  obtain rfl:=aK h
  exact kP (nA Db [bi 1 [(15,vF)] [(14,.v (.bool y1))]]) Ef (fun z=>(c145_ _ (aB h2 z))) (by kernel_rfl)
 obtain ⟨y3,gy3,h⟩:=ab h
 obtain rfl:=aK h
 exact kP (nA Db [bi 1 [(15,vT)] [(14,.v (.bool y1)),(25,.v (.bool y3))]]) Ef (fun z=>(c145_ _ (aB h2 (aI (lu n y.Deps.Way x.At y3 gy3) z)))) (by kernel_rfl)

def tw:List (Nat×PT):=[(2,(ew [0,1,2,3,4,5,6,7,8,9,10,11,12,13,14,15,16,17,18,19,20,21,22,23,24,25,26,27,28,29,30,31,32,33,34,35,36,37,38,39,40,41,42,43,44,45,46]))]
theorem rY:ay (ak 123) tw (aj Tryz.prog 123)=true:=by kernel_rfl
theorem tz (n:Nat) (v:ah) (a:Int) (b:Int) (x:Event) (y:Event) (r:Bool) (h:gl n v a b x y=some r):ax Tryz.prog 123 [.fptr (ah.enc v) 0,(vI a),(vI b),.fptr (Event.enc x) 0,.fptr (Event.enc y) 0] (eF (.v (.bool r))):=by
 unfold gl at h
 rcases iv h with ⟨h1,h⟩ | ⟨z1,h2,h⟩
 ·
  cases h
 ·
  obtain ⟨x3,gx3,h⟩:=ab h
  obtain ⟨y4,gy4,h⟩:=ab h
  have c146_:=fun (R:Prop) (z:R)=>(aI (congrArg (BV ae.enc) h2) (aM eI gx3 (aI (bE n y y4 gy4) z)))
  let e147_:LR:=[(1,⟨[],[],[(20,[(vI x3)])],[(15,.fptr (ae.enc z1) 0)],[],[],[],[],[]⟩)]
  rcases aD h with ⟨h5,h⟩ | ⟨h5,h⟩
  ·
   obtain rfl:=aK h
   exact kP (nA tw (e147_++[bi 2 [(26,vF)] [(25,.v (.bool y4))]])) rY (fun z=>(c146_ _ (aB h5 z))) (by kernel_rfl)
  rcases aD h with ⟨h6,h⟩ | ⟨h6,h⟩
  ·
   obtain rfl:=aK h
   exact kP (nA tw (e147_++[bi 2 [(26,vT),(31,vF)] [(25,.v (.bool y4))]])) rY (fun z=>(c146_ _ (aB h5 (aB h6 z)))) (by kernel_rfl)
  have c148_:=fun (R:Prop) (z:R)=>(aB h5 (aB h6 z))
  rcases aD h with ⟨h7,h⟩ | ⟨h7,h⟩
  ·
   obtain rfl:=aK h
   exact kP (nA tw (e147_++[bi 2 [(26,vT),(31,vT),(36,vF)] [(25,.v (.bool y4))]])) rY (fun z=>(c146_ _ (c148_ _ (aB h7 z)))) (by kernel_rfl)
  obtain ⟨x8,gx8,h⟩:=ab h
  obtain ⟨y9,gy9,h⟩:=ab h
  have c149_:=fun (R:Prop) (z:R)=>(aB h7 (aM Event.enc gx8 (aI (lu n x8.Deps.Addr x.At y9 gy9) z)))
  rcases ap h with ⟨h10,h⟩ | ⟨h10,h⟩
  ·
   obtain rfl:=aK h
   exact kP (nA tw (e147_++[(2,⟨[],[],[(42,(Event.enc x8))],[(26,vT),(31,vT),(36,vT),(51,vT)],[(25,.v (.bool y4)),(50,.v (.bool y9))],[],[],[],[]⟩)])) rY (fun z=>(c146_ _ (c148_ _ (c149_ _ (aB h10 z))))) (by kernel_rfl)
  obtain ⟨y11,gy11,h⟩:=ab h
  obtain rfl:=aK h
  exact kP (nA tw (e147_++[(2,⟨[],[],[(42,(Event.enc x8)),(57,(Event.enc x8))],[(26,vT),(31,vT),(36,vT),(51,vF)],[(25,.v (.bool y4)),(50,.v (.bool y9)),(65,.v (.bool y11))],[],[],[],[]⟩)])) rY (fun z=>(c146_ _ (c148_ _ (c149_ _ (aB h10 (aM Event.enc gx8 (aI (lu n x8.Deps.Data x.At y11 gy11) z))))))) (by kernel_rfl)

def Dc:List (Nat×PT):=[]
theorem Eg:ay (ak 124) Dc (aj Tryz.prog 124)=true:=by kernel_rfl
theorem tA (n:Nat) (v:ah) (a:Int) (b:Int) (x:Event) (y:Event) (r:Bool) (h:gm n v a b x y=some r):ax Tryz.prog 124 [.fptr (ah.enc v) 0,(vI a),(vI b),.fptr (Event.enc x) 0,.fptr (Event.enc y) 0] (eF (.v (.bool r))):=by
 unfold gm at h
 obtain ⟨y1,gy1,h⟩:=ab h
 have c150_:=fun (R:Prop) (z:R)=>(aI (cq n y y1 gy1) z)
 rcases aD h with ⟨h2,h⟩ | ⟨h2,h⟩
 ·
  obtain rfl:=aK h
  exact kP (nA Dc [bi 1 [(15,vF)] [(14,.v (.bool y1))]]) Eg (fun z=>(c150_ _ (aB h2 z))) (by kernel_rfl)
 obtain ⟨x3,gx3,h⟩:=ab h
 obtain rfl:=aK h
 exact kP (nA Dc [(1,⟨[],[],[(21,[(vI x3)])],[(15,vT)],[(14,.v (.bool y1))],[],[],[],[]⟩)]) Eg (fun z=>(c150_ _ (aB h2 (aM eI gx3 z)))) (by kernel_rfl)

def dT:List (Nat×PT):=[(6,(ew [0,1,2,3,4,5,6,7,8,9,10,11,12,13,14,15,16]))]
theorem Dd:ay (ak 83) dT (aj Tryz.prog 83)=true:=by kernel_rfl
noncomputable def NA:Code:=sub (aj Tryz.prog 83) [1,1,0,1,0,0]
theorem jr:ay (ak 83) dT NA=true:=by kernel_rfl
def IZ (v:ah) (a:Int) (b:Int) (sa:Int):St:=bg 39 [(0,.fptr (ah.enc v) 0),(1,(vI a)),(2,(vI b)),(14,.agg [.fn 108 [] [],.fn 109 [] [],.fn 112 [] [],.fn 113 [] [],.fn 115 [] [],.fn 116 [] [],.fn 117 [] [],.fn 118 [] [],.fn 119 [] [],.fn 121 [] [],.fn 122 [] [],.fn 123 [] [],.fn 124 [] []]),(15,(vI sa))] [] [] 0
def NB (v:ah) (a:Int) (b:Int) (tt:Unit):St:=bg 39 [] [] [] 0
def NC (v:ah) (a:Int) (b:Int) (tt:Int):St:=bg 39 [(6,(vI tt))] [] [] 0
def Lf (v:ah) (a:Int) (b:Int) (t0:(Unit⊕Int)):Ex×St:=match t0 with | .inl tt=>(.ex 0,NB v a b tt) | .inr tt=>(.ret,NC v a b tt)
theorem ND (n:Nat) (v:ah) (a:Int) (b:Int):∀ sa r,eV n v a b sa=some r→aV Tryz.prog NA (IZ v a b sa) (rk (IZ v a b) (Lf v a b) r):=by
 intro sa r h
 unfold eV at h
 rcases aD h with ⟨ha1,h⟩ | ⟨ha1,h⟩
 ·
  exact kQ h (nA dT [rV 4 [(16,vF)]]) [wK 2 [] [] 0] jr (cG rfl kp) (fun z=>(aB ha1 z)) (by kernel_rfl)
 rcases ap h with ⟨ha2,h⟩ | ⟨ha2,h⟩
 ·
  obtain ⟨xa3,gxa3,h⟩:=ab h
  obtain ⟨xa4,gxa4,h⟩:=ab h
  obtain ⟨ya5,gya5,h⟩:=ab h
  have c151_:=fun (R:Prop) (z:R)=>(aB ha1 (aI ((aG.ofEq (xu ha2)):aG ((vI sa)) ((vI 0))) (aM Event.enc gxa3 (aM Event.enc gxa4 (aI (uO n v a b xa3 xa4 ya5 gya5) z)))))
  rcases ap h with ⟨ha6,h⟩ | ⟨ha6,h⟩
  ·
   exact kQ h ⟨dT,[rV 4 [(16,vT)],(6,⟨[],[],[(28,(Event.enc xa3)),(34,(Event.enc xa4))],[(35,vT)],[(35,.v (.bool ya5))],[],[],[],[]⟩)],[(4,⟨[(15,(vI 0))],[],[]⟩)],[],[]⟩ [wK 1 [6] [] 0] jr (cG rfl gC) (fun z=>(c151_ _ (aB ha6 z))) (by kernel_rfl)
  exact kQ h ⟨dT,[rV 4 [(16,vT)],(6,⟨[],[],[(28,(Event.enc xa3)),(34,(Event.enc xa4))],[(35,vF)],[(35,.v (.bool ya5))],[],[],[],[]⟩)],[(4,⟨[(15,(vI 0))],[],[]⟩)],[],[]⟩ [wK 0 [0,1,2,14,15] [] 0] jr dx (fun z=>(c151_ _ (aB ha6 z))) (by kernel_rfl)
 rcases ap h with ⟨ha2,h⟩ | ⟨ha2,h⟩
 ·
  obtain ⟨xa3,gxa3,h⟩:=ab h
  obtain ⟨xa4,gxa4,h⟩:=ab h
  obtain ⟨ya5,gya5,h⟩:=ab h
  have c152_:=fun (R:Prop) (z:R)=>(aB ha1 (aI ((aG.ofEq (xu ha2)):aG ((vI sa)) ((vI 1))) (aM Event.enc gxa3 (aM Event.enc gxa4 (aI (uP n v a b xa3 xa4 ya5 gya5) z)))))
  rcases ap h with ⟨ha6,h⟩ | ⟨ha6,h⟩
  ·
   exact kQ h ⟨dT,[rV 4 [(16,vT)],(6,⟨[],[],[(28,(Event.enc xa3)),(34,(Event.enc xa4))],[(35,vT)],[(35,.v (.bool ya5))],[],[],[],[]⟩)],[(4,⟨[(15,(vI 1))],[],[]⟩)],[],[]⟩ [wK 1 [6] [] 0] jr (cG rfl gC) (fun z=>(c152_ _ (aB ha6 z))) (by kernel_rfl)
  exact kQ h ⟨dT,[rV 4 [(16,vT)],(6,⟨[],[],[(28,(Event.enc xa3)),(34,(Event.enc xa4))],[(35,vF)],[(35,.v (.bool ya5))],[],[],[],[]⟩)],[(4,⟨[(15,(vI 1))],[],[]⟩)],[],[]⟩ [wK 0 [0,1,2,14,15] [] 0] jr dx (fun z=>(c152_ _ (aB ha6 z))) (by kernel_rfl)
 rcases ap h with ⟨ha2,h⟩ | ⟨ha2,h⟩
 ·
  obtain ⟨xa3,gxa3,h⟩:=ab h
  obtain ⟨xa4,gxa4,h⟩:=ab h
  obtain ⟨ya5,gya5,h⟩:=ab h
  have c153_:=fun (R:Prop) (z:R)=>(aB ha1 (aI ((aG.ofEq (xu ha2)):aG ((vI sa)) ((vI 2))) (aM Event.enc gxa3 (aM Event.enc gxa4 (aI (uQ n v a b xa3 xa4 ya5 gya5) z)))))
  rcases ap h with ⟨ha6,h⟩ | ⟨ha6,h⟩
  ·
   exact kQ h ⟨dT,[rV 4 [(16,vT)],(6,⟨[],[],[(28,(Event.enc xa3)),(34,(Event.enc xa4))],[(35,vT)],[(35,.v (.bool ya5))],[],[],[],[]⟩)],[(4,⟨[(15,(vI 2))],[],[]⟩)],[],[]⟩ [wK 1 [6] [] 0] jr (cG rfl gC) (fun z=>(c153_ _ (aB ha6 z))) (by kernel_rfl)
  exact kQ h ⟨dT,[rV 4 [(16,vT)],(6,⟨[],[],[(28,(Event.enc xa3)),(34,(Event.enc xa4))],[(35,vF)],[(35,.v (.bool ya5))],[],[],[],[]⟩)],[(4,⟨[(15,(vI 2))],[],[]⟩)],[],[]⟩ [wK 0 [0,1,2,14,15] [] 0] jr dx (fun z=>(c153_ _ (aB ha6 z))) (by kernel_rfl)
 rcases ap h with ⟨ha2,h⟩ | ⟨ha2,h⟩
 ·
  obtain ⟨xa3,gxa3,h⟩:=ab h
  obtain ⟨xa4,gxa4,h⟩:=ab h
  obtain ⟨ya5,gya5,h⟩:=ab h
  have c154_:=fun (R:Prop) (z:R)=>(aB ha1 (aI ((aG.ofEq (xu ha2)):aG ((vI sa)) ((vI 3))) (aM Event.enc gxa3 (aM Event.enc gxa4 (aI (uR n v a b xa3 xa4 ya5 gya5) z)))))
  rcases ap h with ⟨ha6,h⟩ | ⟨ha6,h⟩
  ·
   exact kQ h ⟨dT,[rV 4 [(16,vT)],(6,⟨[],[],[(28,(Event.enc xa3)),(34,(Event.enc xa4))],[(35,vT)],[(35,.v (.bool ya5))],[],[],[],[]⟩)],[(4,⟨[(15,(vI 3))],[],[]⟩)],[],[]⟩ [wK 1 [6] [] 0] jr (cG rfl gC) (fun z=>(c154_ _ (aB ha6 z))) (by kernel_rfl)
  exact kQ h ⟨dT,[rV 4 [(16,vT)],(6,⟨[],[],[(28,(Event.enc xa3)),(34,(Event.enc xa4))],[(35,vF)],[(35,.v (.bool ya5))],[],[],[],[]⟩)],[(4,⟨[(15,(vI 3))],[],[]⟩)],[],[]⟩ [wK 0 [0,1,2,14,15] [] 0] jr dx (fun z=>(c154_ _ (aB ha6 z))) (by kernel_rfl)
 rcases ap h with ⟨ha2,h⟩ | ⟨ha2,h⟩
 ·
  obtain ⟨xa3,gxa3,h⟩:=ab h
  obtain ⟨xa4,gxa4,h⟩:=ab h
  obtain ⟨ya5,gya5,h⟩:=ab h
  have c155_:=fun (R:Prop) (z:R)=>(aB ha1 (aI ((aG.ofEq (xu ha2)):aG ((vI sa)) ((vI 4))) (aM Event.enc gxa3 (aM Event.enc gxa4 (aI (uS n v a b xa3 xa4 ya5 gya5) z)))))
  rcases ap h with ⟨ha6,h⟩ | ⟨ha6,h⟩
  ·
   exact kQ h ⟨dT,[rV 4 [(16,vT)],(6,⟨[],[],[(28,(Event.enc xa3)),(34,(Event.enc xa4))],[(35,vT)],[(35,.v (.bool ya5))],[],[],[],[]⟩)],[(4,⟨[(15,(vI 4))],[],[]⟩)],[],[]⟩ [wK 1 [6] [] 0] jr (cG rfl gC) (fun z=>(c155_ _ (aB ha6 z))) (by kernel_rfl)
  exact kQ h ⟨dT,[rV 4 [(16,vT)],(6,⟨[],[],[(28,(Event.enc xa3)),(34,(Event.enc xa4))],[(35,vF)],[(35,.v (.bool ya5))],[],[],[],[]⟩)],[(4,⟨[(15,(vI 4))],[],[]⟩)],[],[]⟩ [wK 0 [0,1,2,14,15] [] 0] jr dx (fun z=>(c155_ _ (aB ha6 z))) (by kernel_rfl)
 rcases ap h with ⟨ha2,h⟩ | ⟨ha2,h⟩
 ·
  obtain ⟨xa3,gxa3,h⟩:=ab h
  obtain ⟨xa4,gxa4,h⟩:=ab h
  obtain ⟨ya5,gya5,h⟩:=ab h
  have c156_:=fun (R:Prop) (z:R)=>(aB ha1 (aI ((aG.ofEq (xu ha2)):aG ((vI sa)) ((vI 5))) (aM Event.enc gxa3 (aM Event.enc gxa4 (aI (uT n v a b xa3 xa4 ya5 gya5) z)))))
  rcases ap h with ⟨ha6,h⟩ | ⟨ha6,h⟩
  ·
   exact kQ h ⟨dT,[rV 4 [(16,vT)],(6,⟨[],[],[(28,(Event.enc xa3)),(34,(Event.enc xa4))],[(35,vT)],[(35,.v (.bool ya5))],[],[],[],[]⟩)],[(4,⟨[(15,(vI 5))],[],[]⟩)],[],[]⟩ [wK 1 [6] [] 0] jr (cG rfl gC) (fun z=>(c156_ _ (aB ha6 z))) (by kernel_rfl)
  exact kQ h ⟨dT,[rV 4 [(16,vT)],(6,⟨[],[],[(28,(Event.enc xa3)),(34,(Event.enc xa4))],[(35,vF)],[(35,.v (.bool ya5))],[],[],[],[]⟩)],[(4,⟨[(15,(vI 5))],[],[]⟩)],[],[]⟩ [wK 0 [0,1,2,14,15] [] 0] jr dx (fun z=>(c156_ _ (aB ha6 z))) (by kernel_rfl)
 rcases ap h with ⟨ha2,h⟩ | ⟨ha2,h⟩
 ·
  obtain ⟨xa3,gxa3,h⟩:=ab h
  obtain ⟨xa4,gxa4,h⟩:=ab h
  obtain ⟨ya5,gya5,h⟩:=ab h
  have c157_:=fun (R:Prop) (z:R)=>(aB ha1 (aI ((aG.ofEq (xu ha2)):aG ((vI sa)) ((vI 6))) (aM Event.enc gxa3 (aM Event.enc gxa4 (aI (uU n v a b xa3 xa4 ya5 gya5) z)))))
  rcases ap h with ⟨ha6,h⟩ | ⟨ha6,h⟩
  ·
   exact kQ h ⟨dT,[rV 4 [(16,vT)],(6,⟨[],[],[(28,(Event.enc xa3)),(34,(Event.enc xa4))],[(35,vT)],[(35,.v (.bool ya5))],[],[],[],[]⟩)],[(4,⟨[(15,(vI 6))],[],[]⟩)],[],[]⟩ [wK 1 [6] [] 0] jr (cG rfl gC) (fun z=>(c157_ _ (aB ha6 z))) (by kernel_rfl)
  exact kQ h ⟨dT,[rV 4 [(16,vT)],(6,⟨[],[],[(28,(Event.enc xa3)),(34,(Event.enc xa4))],[(35,vF)],[(35,.v (.bool ya5))],[],[],[],[]⟩)],[(4,⟨[(15,(vI 6))],[],[]⟩)],[],[]⟩ [wK 0 [0,1,2,14,15] [] 0] jr dx (fun z=>(c157_ _ (aB ha6 z))) (by kernel_rfl)
 rcases ap h with ⟨ha2,h⟩ | ⟨ha2,h⟩
 ·
  obtain ⟨xa3,gxa3,h⟩:=ab h
  obtain ⟨xa4,gxa4,h⟩:=ab h
  obtain ⟨ya5,gya5,h⟩:=ab h
  have c158_:=fun (R:Prop) (z:R)=>(aB ha1 (aI ((aG.ofEq (xu ha2)):aG ((vI sa)) ((vI 7))) (aM Event.enc gxa3 (aM Event.enc gxa4 (aI (uV n v a b xa3 xa4 ya5 gya5) z)))))
  rcases ap h with ⟨ha6,h⟩ | ⟨ha6,h⟩
  ·
   exact kQ h ⟨dT,[rV 4 [(16,vT)],(6,⟨[],[],[(28,(Event.enc xa3)),(34,(Event.enc xa4))],[(35,vT)],[(35,.v (.bool ya5))],[],[],[],[]⟩)],[(4,⟨[(15,(vI 7))],[],[]⟩)],[],[]⟩ [wK 1 [6] [] 0] jr (cG rfl gC) (fun z=>(c158_ _ (aB ha6 z))) (by kernel_rfl)
  exact kQ h ⟨dT,[rV 4 [(16,vT)],(6,⟨[],[],[(28,(Event.enc xa3)),(34,(Event.enc xa4))],[(35,vF)],[(35,.v (.bool ya5))],[],[],[],[]⟩)],[(4,⟨[(15,(vI 7))],[],[]⟩)],[],[]⟩ [wK 0 [0,1,2,14,15] [] 0] jr dx (fun z=>(c158_ _ (aB ha6 z))) (by kernel_rfl)
 rcases ap h with ⟨ha2,h⟩ | ⟨ha2,h⟩
 ·
  obtain ⟨xa3,gxa3,h⟩:=ab h
  obtain ⟨xa4,gxa4,h⟩:=ab h
  obtain ⟨ya5,gya5,h⟩:=ab h
  have c159_:=fun (R:Prop) (z:R)=>(aB ha1 (aI ((aG.ofEq (xu ha2)):aG ((vI sa)) ((vI 8))) (aM Event.enc gxa3 (aM Event.enc gxa4 (aI (uW n v a b xa3 xa4 ya5 gya5) z)))))
  rcases ap h with ⟨ha6,h⟩ | ⟨ha6,h⟩
  ·
   exact kQ h ⟨dT,[rV 4 [(16,vT)],(6,⟨[],[],[(28,(Event.enc xa3)),(34,(Event.enc xa4))],[(35,vT)],[(35,.v (.bool ya5))],[],[],[],[]⟩)],[(4,⟨[(15,(vI 8))],[],[]⟩)],[],[]⟩ [wK 1 [6] [] 0] jr (cG rfl gC) (fun z=>(c159_ _ (aB ha6 z))) (by kernel_rfl)
  exact kQ h ⟨dT,[rV 4 [(16,vT)],(6,⟨[],[],[(28,(Event.enc xa3)),(34,(Event.enc xa4))],[(35,vF)],[(35,.v (.bool ya5))],[],[],[],[]⟩)],[(4,⟨[(15,(vI 8))],[],[]⟩)],[],[]⟩ [wK 0 [0,1,2,14,15] [] 0] jr dx (fun z=>(c159_ _ (aB ha6 z))) (by kernel_rfl)
 rcases ap h with ⟨ha2,h⟩ | ⟨ha2,h⟩
 ·
  obtain ⟨xa3,gxa3,h⟩:=ab h
  obtain ⟨xa4,gxa4,h⟩:=ab h
  obtain ⟨ya5,gya5,h⟩:=ab h
  have c160_:=fun (R:Prop) (z:R)=>(aB ha1 (aI ((aG.ofEq (xu ha2)):aG ((vI sa)) ((vI 9))) (aM Event.enc gxa3 (aM Event.enc gxa4 (aI (tu n v a b xa3 xa4 ya5 gya5) z)))))
  rcases ap h with ⟨ha6,h⟩ | ⟨ha6,h⟩
  ·
   exact kQ h ⟨dT,[rV 4 [(16,vT)],(6,⟨[],[],[(28,(Event.enc xa3)),(34,(Event.enc xa4))],[(35,vT)],[(35,.v (.bool ya5))],[],[],[],[]⟩)],[(4,⟨[(15,(vI 9))],[],[]⟩)],[],[]⟩ [wK 1 [6] [] 0] jr (cG rfl gC) (fun z=>(c160_ _ (aB ha6 z))) (by kernel_rfl)
  exact kQ h ⟨dT,[rV 4 [(16,vT)],(6,⟨[],[],[(28,(Event.enc xa3)),(34,(Event.enc xa4))],[(35,vF)],[(35,.v (.bool ya5))],[],[],[],[]⟩)],[(4,⟨[(15,(vI 9))],[],[]⟩)],[],[]⟩ [wK 0 [0,1,2,14,15] [] 0] jr dx (fun z=>(c160_ _ (aB ha6 z))) (by kernel_rfl)
 rcases ap h with ⟨ha2,h⟩ | ⟨ha2,h⟩
 ·
  obtain ⟨xa3,gxa3,h⟩:=ab h
  obtain ⟨xa4,gxa4,h⟩:=ab h
  obtain ⟨ya5,gya5,h⟩:=ab h
  have c161_:=fun (R:Prop) (z:R)=>(aB ha1 (aI ((aG.ofEq (xu ha2)):aG ((vI sa)) ((vI 10))) (aM Event.enc gxa3 (aM Event.enc gxa4 (aI (tv n v a b xa3 xa4 ya5 gya5) z)))))
  rcases ap h with ⟨ha6,h⟩ | ⟨ha6,h⟩
  ·
   exact kQ h ⟨dT,[rV 4 [(16,vT)],(6,⟨[],[],[(28,(Event.enc xa3)),(34,(Event.enc xa4))],[(35,vT)],[(35,.v (.bool ya5))],[],[],[],[]⟩)],[(4,⟨[(15,(vI 10))],[],[]⟩)],[],[]⟩ [wK 1 [6] [] 0] jr (cG rfl gC) (fun z=>(c161_ _ (aB ha6 z))) (by kernel_rfl)
  exact kQ h ⟨dT,[rV 4 [(16,vT)],(6,⟨[],[],[(28,(Event.enc xa3)),(34,(Event.enc xa4))],[(35,vF)],[(35,.v (.bool ya5))],[],[],[],[]⟩)],[(4,⟨[(15,(vI 10))],[],[]⟩)],[],[]⟩ [wK 0 [0,1,2,14,15] [] 0] jr dx (fun z=>(c161_ _ (aB ha6 z))) (by kernel_rfl)
 rcases ap h with ⟨ha2,h⟩ | ⟨ha2,h⟩
 ·
  obtain ⟨xa3,gxa3,h⟩:=ab h
  obtain ⟨xa4,gxa4,h⟩:=ab h
  obtain ⟨ya5,gya5,h⟩:=ab h
  have c162_:=fun (R:Prop) (z:R)=>(aB ha1 (aI ((aG.ofEq (xu ha2)):aG ((vI sa)) ((vI 11))) (aM Event.enc gxa3 (aM Event.enc gxa4 (aI (tz n v a b xa3 xa4 ya5 gya5) z)))))
  rcases ap h with ⟨ha6,h⟩ | ⟨ha6,h⟩
  ·
   exact kQ h ⟨dT,[rV 4 [(16,vT)],(6,⟨[],[],[(28,(Event.enc xa3)),(34,(Event.enc xa4))],[(35,vT)],[(35,.v (.bool ya5))],[],[],[],[]⟩)],[(4,⟨[(15,(vI 11))],[],[]⟩)],[],[]⟩ [wK 1 [6] [] 0] jr (cG rfl gC) (fun z=>(c162_ _ (aB ha6 z))) (by kernel_rfl)
  exact kQ h ⟨dT,[rV 4 [(16,vT)],(6,⟨[],[],[(28,(Event.enc xa3)),(34,(Event.enc xa4))],[(35,vF)],[(35,.v (.bool ya5))],[],[],[],[]⟩)],[(4,⟨[(15,(vI 11))],[],[]⟩)],[],[]⟩ [wK 0 [0,1,2,14,15] [] 0] jr dx (fun z=>(c162_ _ (aB ha6 z))) (by kernel_rfl)
 rcases ap h with ⟨ha2,h⟩ | ⟨ha2,h⟩
 ·
  obtain ⟨xa3,gxa3,h⟩:=ab h
  obtain ⟨xa4,gxa4,h⟩:=ab h
  obtain ⟨ya5,gya5,h⟩:=ab h
  have c163_:=fun (R:Prop) (z:R)=>(aB ha1 (aI ((aG.ofEq (xu ha2)):aG ((vI sa)) ((vI 12))) (aM Event.enc gxa3 (aM Event.enc gxa4 (aI (tA n v a b xa3 xa4 ya5 gya5) z)))))
  rcases ap h with ⟨ha6,h⟩ | ⟨ha6,h⟩
  ·
   exact kQ h ⟨dT,[rV 4 [(16,vT)],(6,⟨[],[],[(28,(Event.enc xa3)),(34,(Event.enc xa4))],[(35,vT)],[(35,.v (.bool ya5))],[],[],[],[]⟩)],[(4,⟨[(15,(vI 12))],[],[]⟩)],[],[]⟩ [wK 1 [6] [] 0] jr (cG rfl gC) (fun z=>(c163_ _ (aB ha6 z))) (by kernel_rfl)
  exact kQ h ⟨dT,[rV 4 [(16,vT)],(6,⟨[],[],[(28,(Event.enc xa3)),(34,(Event.enc xa4))],[(35,vF)],[(35,.v (.bool ya5))],[],[],[],[]⟩)],[(4,⟨[(15,(vI 12))],[],[]⟩)],[],[]⟩ [wK 0 [0,1,2,14,15] [] 0] jr dx (fun z=>(c163_ _ (aB ha6 z))) (by kernel_rfl)
 rcases ap h with ⟨ha2,h⟩ | ⟨ha2,h⟩
 ·
  cases h
 cases h

theorem rZ (n:Nat) (v:ah) (a:Int) (b:Int) (r:Int) (h:cC n v a b=some r):ax Tryz.prog 83 [.fptr (ah.enc v) 0,(vI a),(vI b)] (eF ((vI r))):=by
 unfold cC at h
 obtain ⟨y1,gy1,h⟩:=ab h
 have c164_:=fun (R:Prop) (z:R)=>(aI (qY n v a b y1 gy1) z)
 rcases ap h with ⟨h2,h⟩ | ⟨h2,h⟩
 ·
  obtain rfl:=aK h
  exact kP (nA dT [bi 1 [(13,vT)] [(12,.v (.bool y1))]]) Dd (fun z=>(c164_ _ (aB h2 z))) (by kernel_rfl)
 obtain ⟨y3,gy3,h⟩:=ab h
 obtain ⟨t4,gt4,h⟩:=ab h
 have c165_:=fun (R:Prop) (z:R)=>(aB h2 (aI (xX n y3 gy3) z))
 rcases t4 with w5 | w5
 ·
  obtain rfl:=aK h
  exact kP ⟨dT,[bi 1 [(13,vF)] [(12,.v (.bool y1))],(3,⟨[],[],[],[],[(14,.agg [.fn 108 [] [],.fn 109 [] [],.fn 112 [] [],.fn 113 [] [],.fn 115 [] [],.fn 116 [] [],.fn 117 [] [],.fn 118 [] [],.fn 119 [] [],.fn 121 [] [],.fn 122 [] [],.fn 123 [] [],.fn 124 [] []])],[],[],[],[]⟩)],[],[(4,(⟨[0,1,2,14,15],[],0,[],[],[]⟩,l0,(.ex 0),NB v a b w5))],[]⟩ Dd (fun z=>(c164_ _ (c165_ _ (aI (eP (pl:=ak 83) (IZ v a b) (Lf v a b) (ND n v a b) n _ (.inl w5) gt4) z)))) (by kernel_rfl)
 ·
  obtain rfl:=aK h
  exact kP ⟨dT,[bi 1 [(13,vF)] [(12,.v (.bool y1))],(3,⟨[],[],[],[],[(14,.agg [.fn 108 [] [],.fn 109 [] [],.fn 112 [] [],.fn 113 [] [],.fn 115 [] [],.fn 116 [] [],.fn 117 [] [],.fn 118 [] [],.fn 119 [] [],.fn 121 [] [],.fn 122 [] [],.fn 123 [] [],.fn 124 [] []])],[],[],[],[]⟩)],[],[(4,(⟨[0,1,2,14,15],[],0,[],[],[]⟩,l0,.ret,NC v a b w5))],[]⟩ Dd (fun z=>(c164_ _ (c165_ _ (aI (eP (pl:=ak 83) (IZ v a b) (Lf v a b) (ND n v a b) n _ (.inr w5) gt4) z)))) (by kernel_rfl)

def pf:List (Nat×PT):=[(9,(ew [0,1,2,3,4,5,6,7,8,9,10,11,12,13,14,15,16,17,18,19]))]
theorem Hj:ay (ak 64) pf (aj Tryz.prog 64)=true:=by kernel_rfl
noncomputable def Lg:Code:=sub (aj Tryz.prog 64) [1,1,1,1,0,1,0,0]
noncomputable def NE:Code:=sub Lg [1,1,0,0,1,1,0,0]
theorem I0:ay (ak 64) pf NE=true:=by kernel_rfl
def Lh (z2:ah) (xa2:Event) (sb:(List (eR Int))×Int×Int×Int):St:=bg 58 [(3,.fptr (ah.enc z2) 0),(4,.mf 0),(5,(vI sb.2.2.1)),(6,.ptr (.L 6) 0 0),(7,(vI sb.2.2.2)),(14,.sl (z2.all.map Event.enc)),(15,(vI (z2.all.length:Int))),(16,(vI sb.2.1))] [(6,(Event.enc xa2))] [.arr true 2 (sb.1.map (lq eI))] 0
def NF (z2:ah) (xa2:Event) (tt:(List (eR Int))×Int):St:=bg 58 [(3,.fptr (ah.enc z2) 0),(4,.mf 0),(14,.sl (z2.all.map Event.enc)),(15,(vI (z2.all.length:Int))),(16,(vI tt.2))] [] [.arr true 2 (tt.1.map (lq eI))] 0
def NG (z2:ah) (xa2:Event) (tt:((List (eR Int))×Int)):Ex×St:=(.ex 2,NF z2 xa2 tt)
theorem Qd (n:Nat) (z2:ah) (xa2:Event):∀ sb r,kq n z2 xa2 sb=some r→aV Tryz.prog NE (Lh z2 xa2 sb) (rk (Lh z2 xa2) (NG z2 xa2) r):=by
 intro sb r h
 unfold kq at h
 rcases aD h with ⟨hb1,h⟩ | ⟨hb1,h⟩
 ·
  exact kQ h (nA pf [rV 9 [(28,(vI (z2.all.length:Int))),(30,vF)]]) [wK 4 [3,4,14,15,16] [6] 1] I0 (cG rfl kp) (fun z=>(aL Event.enc z2.all (aB hb1 z))) (by kernel_rfl)
 obtain ⟨xb2,gxb2,h⟩:=ab h
 have c166_:=fun (R:Prop) (z:R)=>(aL Event.enc z2.all (aB hb1 (aM Event.enc gxb2 z)))
 rcases aD h with ⟨hb3,h⟩ | ⟨hb3,h⟩
 ·
  exact kQ h (nA pf [(9,⟨[],[],[(36,(Event.enc xb2))],[(28,(vI (z2.all.length:Int))),(30,vT),(42,vF)],[],[],[],[],[]⟩)]) [wK 4 [3,4,14,15,16] [6] 1] I0 (cG rfl kp) (fun z=>(c166_ _ (aB hb3 z))) (by kernel_rfl)
 obtain ⟨yb4,gyb4,h⟩:=ab h
 have c167_:=fun (R:Prop) (z:R)=>(aB hb3 (aI (rZ n z2 sb.2.2.1 sb.2.2.2 yb4 gyb4) z))
 rcases aD h with ⟨hb5,h⟩ | ⟨hb5,h⟩
 ·
  exact kQ h (nA pf [(9,⟨[],[],[(36,(Event.enc xb2))],[(28,(vI (z2.all.length:Int))),(30,vT),(42,vT)],[],[],[],[],[]⟩),bi 11 [(49,vF)] [(48,(vI yb4))]]) [wK 0 [3,4,5,6,7,14,15,16] [] 1] I0 dx (fun z=>(c166_ _ (c167_ _ (aB hb5 z)))) (by kernel_rfl)
 obtain ⟨hb6,h⟩:=ep h
 exact kQ h (nA pf [(9,⟨[],[],[(36,(Event.enc xb2))],[(28,(vI (z2.all.length:Int))),(30,vT),(42,vT)],[],[],[],[],[]⟩),bi 11 [(49,vT)] [(48,(vI yb4))],(12,⟨[],[55],[],[],[],[],[(55,(0,(sb.1++([(eR.mk sb.2.2.1 sb.2.2.2)]:List (eR Int))).map (lq eI)))],[],[]⟩)]) [wK 0 [3,4,5,6,7,14,15,16] [] 1] I0 dx (fun z=>(c166_ _ (c167_ _ (aB hb5 (aI (rfl:cA 2 [[(vI sb.2.2.1),(vI sb.2.2.2)]]=true) (aI (rfl:aR [[(vI sb.2.2.1),(vI sb.2.2.2)]]=true) (aI (jp hb6:Nat.ble (((sb.1.map (lq eI)).length + 1) * 16) 140737488355328=true) (aI (lV (lq eI) sb.1 ([(eR.mk sb.2.2.1 sb.2.2.2)]:List (eR Int))) z)))))))) (by kernel_rfl)

theorem NH:ay (ak 64) pf Lg=true:=by kernel_rfl
def Li (z2:ah) (sa:(List (eR Int))×Int):St:=bg 58 [(3,.fptr (ah.enc z2) 0),(4,.mf 0),(14,.sl (z2.all.map Event.enc)),(15,(vI (z2.all.length:Int))),(16,(vI sa.2))] [] [.arr true 2 (sa.1.map (lq eI))] 0
def NI (z2:ah) (tt:(List (eR Int))):St:=bg 58 [(4,.mf 0)] [] [.arr true 2 (tt.map (lq eI))] 0
def NJ (z2:ah) (tt:((List (eR Int)))):Ex×St:=(.ex 0,NI z2 tt)
theorem Qe (n:Nat) (z2:ah):∀ sa r,kr n z2 sa=some r→aV Tryz.prog Lg (Li z2 sa) (rk (Li z2) (NJ z2) r):=by
 intro sa r h
 unfold kr at h
 rcases aD h with ⟨ha1,h⟩ | ⟨ha1,h⟩
 ·
  exact kQ h (nA pf [rV 6 [(17,vF)]]) [wK 2 [4] [] 1] NH (cG rfl kp) (fun z=>(aB ha1 z)) (by kernel_rfl)
 obtain ⟨xa2,gxa2,h⟩:=ab h
 obtain ⟨ta3,gta3,h⟩:=ab h
 exact kQ h ⟨pf,[rV 6 [(17,vT)],rR 7 [(19,(Event.enc xa2))]],[],[(9,(⟨[3,4,5,6,7,14,15,16],[],1,[],[],[]⟩,l0,(.ex 2),NF z2 xa2 ta3))],[]⟩ [wK 0 [3,4,14,15,16] [] 1] NH dx (fun z=>(aB ha1 (aM Event.enc gxa2 (aI (eP (pl:=ak 64) (Lh z2 xa2) (NG z2 xa2) (Qd n z2 xa2) n _ ta3 gta3) z)))) (by kernel_rfl)

theorem xY (n:Nat) (c:ae) (r:(List (eR Int))) (h:kC n c=some r):ax Tryz.prog 64 [(bD ae.enc c)] (eF (.sl (r.map (lq eI)))):=by
 unfold kC at h
 obtain ⟨y1,gy1,h⟩:=ab h
 rcases y1 with _ | z2
 ·
  obtain rfl:=aK h
  exact kP (nA pf [bi 1 [] [(8,.nilp)]]) Hj (fun z=>(aI (wX n c none gy1) (aG.nil:aG .nilsl (.sl (([]:List (eR Int)).map (lq eI)))))) (by kernel_rfl)
 ·
  obtain ⟨t3,gt3,h⟩:=ab h
  obtain rfl:=aK h
  exact kP ⟨pf,[bi 1 [] [(8,.fptr (ah.enc z2) 0)],rV 5 [(15,(vI (z2.all.length:Int)))]],[],[(6,(⟨[3,4,14,15,16],[],0,[(4,2)],[],[]⟩,l0,(.ex 0),NI z2 t3))],[]⟩ Hj (fun z=>(aI (wX n c (some z2) gy1) (aL Event.enc z2.all (aI (eP (pl:=ak 64) (Li z2) (NJ z2) (Qe n z2) n _ t3 gt3) z)))) (by kernel_rfl)

def J1:List (Nat×PT):=[]
theorem Lj:ay (ak 42) J1 (aj Tryz.prog 42)=true:=by kernel_rfl
theorem iX (n:Nat) (r:bc) (h:gW n=some r):ax Tryz.prog 42 [] (eF ((bD bc.enc r))):=by
 unfold gW at h
 obtain rfl:=aK h
 exact kP (nA J1 []) Lj (fun z=>z) (by kernel_rfl)

def w7:List (Nat×PT):=[(4,(ew [0,1,2,3,4,5,6,7,8,9,10,11,12,13,14,15,16]))]
theorem Hk:ay (ak 39) w7 (aj Tryz.prog 39)=true:=by kernel_rfl
noncomputable def NK:Code:=sub (aj Tryz.prog 39) [1,0,1,0,0]
theorem Lk:ay (ak 39) w7 NK=true:=by kernel_rfl
def I1 (oA:(List Cell)) (oB:(List (List Event))) (oC:(List Int)) (oD:(List Int)) (oE:(List (Int×(List Int)))) (oF:(List Event)) (oG:(List Int)) (y1:(List (eR Int))) (sa:Int):St:=bg 41 [(0,.ptr (.O 2) 0 0),(2,.ptr (.L 2) 0 0),(11,.sl (y1.map (lq eI))),(12,(vI (y1.length:Int))),(13,(vI sa))] [(2,[vF,(vI 0),(vI 0),(vI 0)])] [.arr true 4 [[.sl (oA.map Cell.enc),.sl (oB.map (cY Event.enc)),.sl (oC.map eI),.sl (oD.map eI)]],.mapo true (oE.map (cH (aH .u64) (dm eI))),.arr false 4 [[.ptr (.O 0) 0 0,.sl (oF.map Event.enc),.sl (oG.map eI),.mp 1]],.arr false 1 [[.fn 39 [.ptr (.O 2) 0 0] []],[.fn 40 [.ptr (.O 2) 0 0] []],[.fn 41 [.ptr (.O 2) 0 0] []]]] 4
def NL (oA:(List Cell)) (oB:(List (List Event))) (oC:(List Int)) (oD:(List Int)) (oE:(List (Int×(List Int)))) (oF:(List Event)) (oG:(List Int)) (y1:(List (eR Int))) (tt:Unit):St:=bg 41 [(2,.ptr (.L 2) 0 0)] [(2,[vF,(vI 0),(vI 0),(vI 0)])] [.arr true 4 [[.sl (oA.map Cell.enc),.sl (oB.map (cY Event.enc)),.sl (oC.map eI),.sl (oD.map eI)]],.mapo true (oE.map (cH (aH .u64) (dm eI))),.arr false 4 [[.ptr (.O 0) 0 0,.sl (oF.map Event.enc),.sl (oG.map eI),.mp 1]],.arr false 1 [[.fn 39 [.ptr (.O 2) 0 0] []],[.fn 40 [.ptr (.O 2) 0 0] []],[.fn 41 [.ptr (.O 2) 0 0] []]]] 4
def NM (oA:(List Cell)) (oB:(List (List Event))) (oC:(List Int)) (oD:(List Int)) (oE:(List (Int×(List Int)))) (oF:(List Event)) (oG:(List Int)) (y1:(List (eR Int))) (tt:Bool×Int×Int×Int):St:=bg 41 [(2,.ptr (.L 2) 0 0)] [(2,[.v (.bool tt.1),(vI tt.2.1),(vI tt.2.2.1),(vI tt.2.2.2)])] [.arr true 4 [[.sl (oA.map Cell.enc),.sl (oB.map (cY Event.enc)),.sl (oC.map eI),.sl (oD.map eI)]],.mapo true (oE.map (cH (aH .u64) (dm eI))),.arr false 4 [[.ptr (.O 0) 0 0,.sl (oF.map Event.enc),.sl (oG.map eI),.mp 1]],.arr false 1 [[.fn 39 [.ptr (.O 2) 0 0] []],[.fn 40 [.ptr (.O 2) 0 0] []],[.fn 41 [.ptr (.O 2) 0 0] []]]] 4
def Ll (oA:(List Cell)) (oB:(List (List Event))) (oC:(List Int)) (oD:(List Int)) (oE:(List (Int×(List Int)))) (oF:(List Event)) (oG:(List Int)) (y1:(List (eR Int))) (t0:(Unit⊕(Bool×Int×Int×Int))):Ex×St:=match t0 with | .inl tt=>(.ex 0,NL oA oB oC oD oE oF oG y1 tt) | .inr tt=>(.ret,NM oA oB oC oD oE oF oG y1 tt)
theorem NN (n:Nat) (oA:(List Cell)) (oB:(List (List Event))) (oC:(List Int)) (oD:(List Int)) (oE:(List (Int×(List Int)))) (oF:(List Event)) (oG:(List Int)) (y1:(List (eR Int))):∀ sa r,dE n oA oB oC oD oE oF oG y1 sa=some r→aV Tryz.prog NK (I1 oA oB oC oD oE oF oG y1 sa) (rk (I1 oA oB oC oD oE oF oG y1) (Ll oA oB oC oD oE oF oG y1) r):=by
 intro sa r h
 unfold dE at h
 rcases aD h with ⟨ha1,h⟩ | ⟨ha1,h⟩
 ·
  exact kQ h (nA w7 [rV 2 [(14,vF)]]) [wK 2 [2] [] 4] Lk (cG rfl kp) (fun z=>(aB ha1 z)) (by kernel_rfl)
 obtain ⟨xa2,gxa2,h⟩:=ab h
 obtain ⟨xa3,gxa3,h⟩:=ab h
 obtain ⟨xa4,gxa4,h⟩:=ab h
 have c168_:=fun (R:Prop) (z:R)=>(aB ha1 (aI (mi (lq eI) gxa2:Ch (y1.map (lq eI)) sa=some [(vI xa2.e0),(vI xa2.e1)]) (aM eI gxa3 (aM eI gxa4 z))))
 rcases aD h with ⟨ha5,h⟩ | ⟨ha5,h⟩
 ·
  exact kQ h (nA w7 [rV 2 [(14,vT)],rR 3 [(15,[(vI xa2.e0),(vI xa2.e1)])],(4,⟨[],[],[(23,[(vI xa3)]),(31,[(vI xa4)])],[(33,vF)],[],[],[],[],[]⟩)]) [wK 0 [0,2,11,12,13] [4] 4] Lk dx (fun z=>(c168_ _ (aB ha5 z))) (by kernel_rfl)
 obtain ⟨ya6,gya6,h⟩:=ab h
 exact kQ h (nA w7 [rV 2 [(14,vT)],rR 3 [(15,[(vI xa2.e0),(vI xa2.e1)])],(4,⟨[],[],[(23,[(vI xa3)]),(31,[(vI xa4)])],[(33,vT)],[],[],[],[],[]⟩),bi 5 [] [(38,(bD bc.enc ya6))]]) [wK 1 [2] [4] 4] Lk (cG rfl gC) (fun z=>(c168_ _ (aB ha5 (aI (gT n 2 xa2.e0 xa2.e1 ya6 gya6) z)))) (by kernel_rfl)

def i_ (oA:(List Cell)) (oB:(List (List Event))) (oC:(List Int)) (oD:(List Int)) (oE:(List (Int×(List Int)))) (oF:(List Event)) (oG:(List Int)) (y:(Bool×Int×Int×Int)):AV×List Ob:=(.agg [.v (.bool y.1),(vI y.2.1),(vI y.2.2.1),(vI y.2.2.2)],[.arr true 4 [[.sl (oA.map Cell.enc),.sl (oB.map (cY Event.enc)),.sl (oC.map eI),.sl (oD.map eI)]],.mapo true (oE.map (cH (aH .u64) (dm eI))),.arr false 4 [[.ptr (.O 0) 0 0,.sl (oF.map Event.enc),.sl (oG.map eI),.mp 1]],.arr false 1 [[.fn 39 [.ptr (.O 2) 0 0] []],[.fn 40 [.ptr (.O 2) 0 0] []],[.fn 41 [.ptr (.O 2) 0 0] []]]])
theorem du (n:Nat) (oA:(List Cell)) (oB:(List (List Event))) (oC:(List Int)) (oD:(List Int)) (oE:(List (Int×(List Int)))) (oF:(List Event)) (oG:(List Int)) (y:(Bool×Int×Int×Int)) (h:dy n oA oB oC oD oE oF oG=some y):SD Tryz.prog 39 [.ptr (.O 2) 0 0] [.arr true 4 [[.sl (oA.map Cell.enc),.sl (oB.map (cY Event.enc)),.sl (oC.map eI),.sl (oD.map eI)]],.mapo true (oE.map (cH (aH .u64) (dm eI))),.arr false 4 [[.ptr (.O 0) 0 0,.sl (oF.map Event.enc),.sl (oG.map eI),.mp 1]],.arr false 1 [[.fn 39 [.ptr (.O 2) 0 0] []],[.fn 40 [.ptr (.O 2) 0 0] []],[.fn 41 [.ptr (.O 2) 0 0] []]]] (fun r' o'=>r'=(i_ oA oB oC oD oE oF oG y).1∧o'=(i_ oA oB oC oD oE oF oG y).2):=by
 unfold dy at h
 obtain ⟨y1,gy1,h⟩:=ab h
 obtain ⟨t2,gt2,h⟩:=ab h
 have c169_:=fun (R:Prop) (z:R)=>(aI (xY n (ae.mk oA oB oC oD) y1 gy1) (aL (lq eI) y1 z))
 rcases t2 with w3 | w3
 ·
  obtain ⟨y4,gy4,h⟩:=ab h
  obtain rfl:=aK h
  exact kS ⟨w7,[bi 1 [(12,(vI (y1.length:Int)))] [(11,.sl (y1.map (lq eI)))],bi 7 [] [(40,(bD bc.enc y4))]],[],[(2,(⟨[0,2,11,12,13],[],4,[],[],[]⟩,l0,(.ex 0),NL oA oB oC oD oE oF oG y1 w3))],[]⟩ Hk ⟨rfl,rfl⟩ (fun z=>(c169_ _ (aI (eP (pl:=ak 39) (I1 oA oB oC oD oE oF oG y1) (Ll oA oB oC oD oE oF oG y1) (NN n oA oB oC oD oE oF oG y1) n _ (.inl w3) gt2) (aI (iX n y4 gy4) z)))) (by kernel_rfl)
 ·
  obtain rfl:=aK h
  exact kS ⟨w7,[bi 1 [(12,(vI (y1.length:Int)))] [(11,.sl (y1.map (lq eI)))]],[],[(2,(⟨[0,2,11,12,13],[],4,[],[],[]⟩,l0,.ret,NM oA oB oC oD oE oF oG y1 w3))],[]⟩ Hk ⟨rfl,rfl⟩ (fun z=>(c169_ _ (aI (eP (pl:=ak 39) (I1 oA oB oC oD oE oF oG y1) (Ll oA oB oC oD oE oF oG y1) (NN n oA oB oC oD oE oF oG y1) n _ (.inr w3) gt2) z))) (by kernel_rfl)

def f8:List (Nat×PT):=[(2,(ew [0,1,2,3,4,5,6,7])),(6,(ew [0,1,2,3,4,5,6,7,8,9,10,11])),(7,(ew [0,1,2,3,4,5,6,7,8,9,10,11,12,13,14,15,16,17,18,19,20,21,22,23,24,25,26,27,28,29,30,31,32,33,34,35,36,37,38,39]))]
theorem pg:ay (ak 47) f8 (aj Tryz.prog 47)=true:=by kernel_rfl
noncomputable def NO:Code:=sub (aj Tryz.prog 47) [1,1,1,0,1,0,0]
theorem Fp:ay (ak 47) f8 NO=true:=by kernel_rfl
def Fq (n_:Int) (oA:(List Cell)) (oB:(List (List Event))) (oC:(List Int)) (oD:(List Int)) (oE:(List (Int×(List Int)))) (oF:(List Event)) (oG:(List Int)) (x1:Event) (sa:(List Int)×Int):St:=bg 84 [(0,.ptr (.O 2) 0 0),(1,(vI n_)),(5,.ptr (.L 5) 0 0),(6,.sl (sa.1.map eI)),(7,(vI sa.2))] [(5,(Event.enc x1))] [.arr true 4 [[.sl (oA.map Cell.enc),.sl (oB.map (cY Event.enc)),.sl (oC.map eI),.sl (oD.map eI)]],.mapo true (oE.map (cH (aH .u64) (dm eI))),.arr false 4 [[.ptr (.O 0) 0 0,.sl (oF.map Event.enc),.sl (oG.map eI),.mp 1]],.arr false 1 [[.fn 39 [.ptr (.O 2) 0 0] []],[.fn 40 [.ptr (.O 2) 0 0] []],[.fn 41 [.ptr (.O 2) 0 0] []]]] 4
def Lm (n_:Int) (oA:(List Cell)) (oB:(List (List Event))) (oC:(List Int)) (oD:(List Int)) (oE:(List (Int×(List Int)))) (oF:(List Event)) (oG:(List Int)) (x1:Event) (tt:Unit):St:=bg 84 [] [] [.arr true 4 [[.sl (oA.map Cell.enc),.sl (oB.map (cY Event.enc)),.sl (oC.map eI),.sl (oD.map eI)]],.mapo true (oE.map (cH (aH .u64) (dm eI))),.arr false 4 [[.ptr (.O 0) 0 0,.sl (oF.map Event.enc),.sl (oG.map eI),.mp 1]],.arr false 1 [[.fn 39 [.ptr (.O 2) 0 0] []],[.fn 40 [.ptr (.O 2) 0 0] []],[.fn 41 [.ptr (.O 2) 0 0] []]]] 4
def Ln (n_:Int) (oA:(List Cell)) (oB:(List (List Event))) (oC:(List Int)) (oD:(List Int)) (oE:(List (Int×(List Int)))) (oF:(List Event)) (oG:(List Int)) (x1:Event) (tt:Int):St:=bg 84 [(4,(vI tt))] [] [.arr true 4 [[.sl (oA.map Cell.enc),.sl (oB.map (cY Event.enc)),.sl (oC.map eI),.sl (oD.map eI)]],.mapo true (oE.map (cH (aH .u64) (dm eI))),.arr false 4 [[.ptr (.O 0) 0 0,.sl (oF.map Event.enc),.sl (oG.map eI),.mp 1]],.arr false 1 [[.fn 39 [.ptr (.O 2) 0 0] []],[.fn 40 [.ptr (.O 2) 0 0] []],[.fn 41 [.ptr (.O 2) 0 0] []]]] 4
def Hl (n_:Int) (oA:(List Cell)) (oB:(List (List Event))) (oC:(List Int)) (oD:(List Int)) (oE:(List (Int×(List Int)))) (oF:(List Event)) (oG:(List Int)) (x1:Event) (t0:(Unit⊕Int)):Ex×St:=match t0 with | .inl tt=>(.ex 0,Lm n_ oA oB oC oD oE oF oG x1 tt) | .inr tt=>(.ret,Ln n_ oA oB oC oD oE oF oG x1 tt)
theorem I2 (n:Nat) (n_:Int) (oA:(List Cell)) (oB:(List (List Event))) (oC:(List Int)) (oD:(List Int)) (oE:(List (Int×(List Int)))) (oF:(List Event)) (oG:(List Int)) (x1:Event):∀ sa r,bN n n_ oA oB oC oD oE oF oG x1 sa=some r→aV Tryz.prog NO (Fq n_ oA oB oC oD oE oF oG x1 sa) (rk (Fq n_ oA oB oC oD oE oF oG x1) (Hl n_ oA oB oC oD oE oF oG x1) r):=by
 intro sa r h
 unfold bN at h
 rcases aD h with ⟨ha1,h⟩ | ⟨ha1,h⟩
 ·
  exact kQ h (nA f8 [rV 4 [(27,vF)]]) [wK 2 [] [5] 4] Fp (cG rfl kp) (fun z=>(aB ha1 z)) (by kernel_rfl)
 obtain ⟨xa2,gxa2,h⟩:=ab h
 obtain ⟨xa3,gxa3,h⟩:=ab h
 have d0_:Ch (sa.1.map eI) sa.2=some [(vI xa2)]:=mi eI gxa2
 have c170_:=fun (R:Prop) (z:R)=>(aB ha1 (aI d0_ (aM Event.enc gxa3 (aI d0_ z))))
 let e171_:LR:=[rV 4 [(27,vT)],rR 6 [(36,[(vI xa2)]),(38,(Event.enc xa3))]]
 rcases aD h with ⟨ha4,h⟩ | ⟨ha4,h⟩
 ·
  exact kQ h (nA f8 (e171_++[(7,⟨[],[],[(42,[(vI xa2)])],[(46,vF)],[],[],[],[],[]⟩)])) [wK 0 [0,1,5,6,7] [8] 4] Fp dx (fun z=>(c170_ _ (aB ha4 z))) (by kernel_rfl)
 obtain ⟨xa5,gxa5,h⟩:=ab h
 obtain ⟨xa6,gxa6,h⟩:=ab h
 have c172_:=fun (R:Prop) (z:R)=>(aB ha4 (aM eI gxa2 (aM eI gxa5 (aM eI gxa6 z))))
 rcases ap h with ⟨ha7,h⟩ | ⟨ha7,h⟩
 ·
  exact kQ h (nA f8 (e171_++[(7,⟨[],[],[(42,[(vI xa2)]),(53,[(vI xa2)]),(55,[(vI xa5)]),(62,[(vI xa6)])],[(46,vT),(65,vT)],[],[],[],[],[]⟩),rR 8 [(82,[(vI xa2)])]])) [wK 1 [4] [8,5] 4] Fp (cG rfl gC) (fun z=>(c170_ _ (c172_ _ (aB ha7 (aM eI gxa2 z))))) (by kernel_rfl)
 rcases aD h with ⟨ha8,h⟩ | ⟨ha8,h⟩
 ·
  exact kQ h (nA f8 (e171_++[(7,⟨[],[],[(42,[(vI xa2)]),(53,[(vI xa2)]),(55,[(vI xa5)]),(62,[(vI xa6)])],[(46,vT),(65,vF),(71,vF)],[],[],[],[],[]⟩)])) [wK 0 [0,1,5,6,7] [8] 4] Fp dx (fun z=>(c170_ _ (c172_ _ (aB ha7 (aB ha8 z))))) (by kernel_rfl)
 have c173_:=fun (R:Prop) (z:R)=>(aB ha7 (aB ha8 z))
 rcases aD h with ⟨ha9,h⟩ | ⟨ha9,h⟩
 ·
  exact kQ h (nA f8 (e171_++[(7,⟨[],[],[(42,[(vI xa2)]),(53,[(vI xa2)]),(55,[(vI xa5)]),(62,[(vI xa6)])],[(46,vT),(65,vF),(71,vT),(79,vF)],[],[],[],[],[]⟩)])) [wK 0 [0,1,5,6,7] [8] 4] Fp dx (fun z=>(c170_ _ (c172_ _ (c173_ _ (aB ha9 z))))) (by kernel_rfl)
 exact kQ h (nA f8 (e171_++[(7,⟨[],[],[(42,[(vI xa2)]),(53,[(vI xa2)]),(55,[(vI xa5)]),(62,[(vI xa6)])],[(46,vT),(65,vF),(71,vT),(79,vT)],[],[],[],[],[]⟩),rR 8 [(82,[(vI xa2)])]])) [wK 1 [4] [8,5] 4] Fp (cG rfl gC) (fun z=>(c170_ _ (c172_ _ (c173_ _ (aB ha9 (aM eI gxa2 z)))))) (by kernel_rfl)

def iY (n_:Int) (oA:(List Cell)) (oB:(List (List Event))) (oC:(List Int)) (oD:(List Int)) (oE:(List (Int×(List Int)))) (oF:(List Event)) (oG:(List Int)) (y:Int):AV×List Ob:=((vI y),[.arr true 4 [[.sl (oA.map Cell.enc),.sl (oB.map (cY Event.enc)),.sl (oC.map eI),.sl (oD.map eI)]],.mapo true (oE.map (cH (aH .u64) (dm eI))),.arr false 4 [[.ptr (.O 0) 0 0,.sl (oF.map Event.enc),.sl (oG.map eI),.mp 1]],.arr false 1 [[.fn 39 [.ptr (.O 2) 0 0] []],[.fn 40 [.ptr (.O 2) 0 0] []],[.fn 41 [.ptr (.O 2) 0 0] []]]])
theorem ml (n:Nat) (n_:Int) (oA:(List Cell)) (oB:(List (List Event))) (oC:(List Int)) (oD:(List Int)) (oE:(List (Int×(List Int)))) (oF:(List Event)) (oG:(List Int)) (y:Int) (h:bQ n n_ oA oB oC oD oE oF oG=some y):SD Tryz.prog 47 [.ptr (.O 2) 0 0,(vI n_)] [.arr true 4 [[.sl (oA.map Cell.enc),.sl (oB.map (cY Event.enc)),.sl (oC.map eI),.sl (oD.map eI)]],.mapo true (oE.map (cH (aH .u64) (dm eI))),.arr false 4 [[.ptr (.O 0) 0 0,.sl (oF.map Event.enc),.sl (oG.map eI),.mp 1]],.arr false 1 [[.fn 39 [.ptr (.O 2) 0 0] []],[.fn 40 [.ptr (.O 2) 0 0] []],[.fn 41 [.ptr (.O 2) 0 0] []]]] (fun r' o'=>r'=(iY n_ oA oB oC oD oE oF oG y).1∧o'=(iY n_ oA oB oC oD oE oF oG y).2):=by
 unfold bQ at h
 obtain ⟨x1,gx1,h⟩:=ab h
 let e174_:LR:=[rR 1 [(14,(Event.enc x1))]]
 rcases iv h with ⟨h2,h⟩ | ⟨z2,h3,h⟩
 ·
  obtain ⟨t3,gt3,h⟩:=ab h
  have c175_:=fun (R:Prop) (z:R)=>(aM Event.enc gx1 (aI (nt oE x1.Addr h2:∀ k':AV→Prop,k' (.nilsl)→cw Tryz.prog 40 ((vU x1.Addr)) (oE.map (cH (aH .u64) (dm eI))) fun _ r=>dI Tryz.prog 24 false (oE.map (cH (aH .u64) (dm eI))) r k') z))
  rcases t3 with w4 | w4
  ·
   obtain rfl:=aK h
   exact kS ⟨f8,(e174_++[bi 2 [] [(22,.nilsl)]]),[],[(4,(⟨[0,1,5,6,7],[],4,[],[],[]⟩,⟨[(6,.sl (([]:List Int).map eI))],[],[]⟩,(.ex 0),Lm n_ oA oB oC oD oE oF oG x1 w4))],[]⟩ pg ⟨rfl,rfl⟩ (fun z=>(c175_ _ (aI (aG.nil:aG (.nilsl) (.sl (([]:List Int).map eI))) (aI (eP (pl:=ak 47) (Fq n_ oA oB oC oD oE oF oG x1) (Hl n_ oA oB oC oD oE oF oG x1) (I2 n n_ oA oB oC oD oE oF oG x1) n _ (.inl w4) gt3) z)))) (by kernel_rfl)
  ·
   obtain rfl:=aK h
   exact kS ⟨f8,(e174_++[bi 2 [] [(22,.nilsl)]]),[],[(4,(⟨[0,1,5,6,7],[],4,[],[],[]⟩,⟨[(6,.sl (([]:List Int).map eI))],[],[]⟩,.ret,Ln n_ oA oB oC oD oE oF oG x1 w4))],[]⟩ pg ⟨rfl,rfl⟩ (fun z=>(c175_ _ (aI (aG.nil:aG (.nilsl) (.sl (([]:List Int).map eI))) (aI (eP (pl:=ak 47) (Fq n_ oA oB oC oD oE oF oG x1) (Hl n_ oA oB oC oD oE oF oG x1) (I2 n n_ oA oB oC oD oE oF oG x1) n _ (.inr w4) gt3) z)))) (by kernel_rfl)
 ·
  obtain ⟨t4,gt4,h⟩:=ab h
  have c176_:=fun (R:Prop) (z:R)=>(aM Event.enc gx1 (aI (nu oE x1.Addr h3:∀ k':AV→Prop,k' (.sl (z2.map eI))→cw Tryz.prog 40 ((vU x1.Addr)) (oE.map (cH (aH .u64) (dm eI))) fun _ r=>dI Tryz.prog 24 false (oE.map (cH (aH .u64) (dm eI))) r k') (aL eI z2 z)))
  rcases t4 with w5 | w5
  ·
   obtain rfl:=aK h
   exact kS ⟨f8,(e174_++[bi 2 [] [(22,.sl (z2.map eI))],rV 3 [(24,(vI (z2.length:Int)))]]),[],[(4,(⟨[0,1,5,6,7],[],4,[],[],[]⟩,l0,(.ex 0),Lm n_ oA oB oC oD oE oF oG x1 w5))],[]⟩ pg ⟨rfl,rfl⟩ (fun z=>(c176_ _ (aI (eP (pl:=ak 47) (Fq n_ oA oB oC oD oE oF oG x1) (Hl n_ oA oB oC oD oE oF oG x1) (I2 n n_ oA oB oC oD oE oF oG x1) n _ (.inl w5) gt4) z))) (by kernel_rfl)
  ·
   obtain rfl:=aK h
   exact kS ⟨f8,(e174_++[bi 2 [] [(22,.sl (z2.map eI))],rV 3 [(24,(vI (z2.length:Int)))]]),[],[(4,(⟨[0,1,5,6,7],[],4,[],[],[]⟩,l0,.ret,Ln n_ oA oB oC oD oE oF oG x1 w5))],[]⟩ pg ⟨rfl,rfl⟩ (fun z=>(c176_ _ (aI (eP (pl:=ak 47) (Fq n_ oA oB oC oD oE oF oG x1) (Hl n_ oA oB oC oD oE oF oG x1) (I2 n n_ oA oB oC oD oE oF oG x1) n _ (.inr w5) gt4) z))) (by kernel_rfl)

def uq:List (Nat×PT):=[]
theorem Hm:ay (ak 40) uq (aj Tryz.prog 40)=true:=by kernel_rfl
noncomputable def NP:Code:=sub (aj Tryz.prog 40) [1,0,1,0,0]
theorem I3:ay (ak 40) uq NP=true:=by kernel_rfl
def I4 (oA:(List Cell)) (oB:(List (List Event))) (oC:(List Int)) (oD:(List Int)) (oE:(List (Int×(List Int)))) (oF:(List Event)) (oG:(List Int)) (sa:Int):St:=bg 39 [(0,.ptr (.O 2) 0 0),(2,.ptr (.L 2) 0 0),(9,.sl (oF.map Event.enc)),(10,(vI (oF.length:Int))),(11,(vI sa))] [(2,[vF,(vI 0),(vI 0),(vI 0)])] [.arr true 4 [[.sl (oA.map Cell.enc),.sl (oB.map (cY Event.enc)),.sl (oC.map eI),.sl (oD.map eI)]],.mapo true (oE.map (cH (aH .u64) (dm eI))),.arr false 4 [[.ptr (.O 0) 0 0,.sl (oF.map Event.enc),.sl (oG.map eI),.mp 1]],.arr false 1 [[.fn 39 [.ptr (.O 2) 0 0] []],[.fn 40 [.ptr (.O 2) 0 0] []],[.fn 41 [.ptr (.O 2) 0 0] []]]] 4
def NQ (oA:(List Cell)) (oB:(List (List Event))) (oC:(List Int)) (oD:(List Int)) (oE:(List (Int×(List Int)))) (oF:(List Event)) (oG:(List Int)) (tt:Unit):St:=bg 39 [(2,.ptr (.L 2) 0 0)] [(2,[vF,(vI 0),(vI 0),(vI 0)])] [.arr true 4 [[.sl (oA.map Cell.enc),.sl (oB.map (cY Event.enc)),.sl (oC.map eI),.sl (oD.map eI)]],.mapo true (oE.map (cH (aH .u64) (dm eI))),.arr false 4 [[.ptr (.O 0) 0 0,.sl (oF.map Event.enc),.sl (oG.map eI),.mp 1]],.arr false 1 [[.fn 39 [.ptr (.O 2) 0 0] []],[.fn 40 [.ptr (.O 2) 0 0] []],[.fn 41 [.ptr (.O 2) 0 0] []]]] 4
def NR (oA:(List Cell)) (oB:(List (List Event))) (oC:(List Int)) (oD:(List Int)) (oE:(List (Int×(List Int)))) (oF:(List Event)) (oG:(List Int)) (tt:Bool×Int×Int×Int):St:=bg 39 [(2,.ptr (.L 2) 0 0)] [(2,[.v (.bool tt.1),(vI tt.2.1),(vI tt.2.2.1),(vI tt.2.2.2)])] [.arr true 4 [[.sl (oA.map Cell.enc),.sl (oB.map (cY Event.enc)),.sl (oC.map eI),.sl (oD.map eI)]],.mapo true (oE.map (cH (aH .u64) (dm eI))),.arr false 4 [[.ptr (.O 0) 0 0,.sl (oF.map Event.enc),.sl (oG.map eI),.mp 1]],.arr false 1 [[.fn 39 [.ptr (.O 2) 0 0] []],[.fn 40 [.ptr (.O 2) 0 0] []],[.fn 41 [.ptr (.O 2) 0 0] []]]] 4
def Lo (oA:(List Cell)) (oB:(List (List Event))) (oC:(List Int)) (oD:(List Int)) (oE:(List (Int×(List Int)))) (oF:(List Event)) (oG:(List Int)) (t0:(Unit⊕(Bool×Int×Int×Int))):Ex×St:=match t0 with | .inl tt=>(.ex 0,NQ oA oB oC oD oE oF oG tt) | .inr tt=>(.ret,NR oA oB oC oD oE oF oG tt)
theorem NS (n:Nat) (oA:(List Cell)) (oB:(List (List Event))) (oC:(List Int)) (oD:(List Int)) (oE:(List (Int×(List Int)))) (oF:(List Event)) (oG:(List Int)):∀ sa r,dG n oA oB oC oD oE oF oG sa=some r→aV Tryz.prog NP (I4 oA oB oC oD oE oF oG sa) (rk (I4 oA oB oC oD oE oF oG) (Lo oA oB oC oD oE oF oG) r):=by
 intro sa r h
 unfold dG at h
 rcases aD h with ⟨ha1,h⟩ | ⟨ha1,h⟩
 ·
  exact kQ h (nA uq [rV 2 [(12,vF)]]) [wK 2 [2] [] 4] I3 (cG rfl kp) (fun z=>(aB ha1 z)) (by kernel_rfl)
 obtain ⟨xa2,gxa2,h⟩:=ab h
 obtain ⟨ya3,gya3,h⟩:=ab h
 have c177_:=fun (R:Prop) (z:R)=>(aB ha1 (aM Event.enc gxa2 (aI (bE n xa2 ya3 gya3) z)))
 let e178_:LR:=[rV 2 [(12,vT)],rR 3 [(14,(Event.enc xa2))]]
 rcases ap h with ⟨ha4,h⟩ | ⟨ha4,h⟩
 ·
  exact kQ h (nA uq (e178_++[bi 4 [(18,vT)] [(17,.v (.bool ya3))]])) [wK 0 [0,2,9,10,11] [4] 4] I3 dx (fun z=>(c177_ _ (aB ha4 z))) (by kernel_rfl)
 obtain ⟨ya5,gya5,h⟩:=ab h
 obtain ⟨xa6,gxa6,h⟩:=ab h
 have c179_:=fun (R:Prop) (z:R)=>(aB ha4 (aI (ml n sa oA oB oC oD oE oF oG ya5 gya5) (aM eI gxa6 z)))
 rcases aD h with ⟨ha7,h⟩ | ⟨ha7,h⟩
 ·
  exact kQ h (nA uq (e178_++[bi 4 [(18,vF)] [(17,.v (.bool ya3))],(5,⟨[],[],[],[],[],[(21,((vI ya5),[.arr true 4 [[.sl (oA.map Cell.enc),.sl (oB.map (cY Event.enc)),.sl (oC.map eI),.sl (oD.map eI)]],.mapo true (oE.map (cH (aH .u64) (dm eI))),.arr false 4 [[.ptr (.O 0) 0 0,.sl (oF.map Event.enc),.sl (oG.map eI),.mp 1]],.arr false 1 [[.fn 39 [.ptr (.O 2) 0 0] []],[.fn 40 [.ptr (.O 2) 0 0] []],[.fn 41 [.ptr (.O 2) 0 0] []]]]))],[],[],[]⟩),(6,⟨[],[],[(31,[(vI xa6)])],[(33,vF)],[],[],[],[],[]⟩)])) [wK 0 [0,2,9,10,11] [4] 4] I3 dx (fun z=>(c177_ _ (c179_ _ (aB ha7 z)))) (by kernel_rfl)
 obtain ⟨ya8,gya8,h⟩:=ab h
 exact kQ h (nA uq (e178_++[bi 4 [(18,vF)] [(17,.v (.bool ya3))],(5,⟨[],[],[],[],[],[(21,((vI ya5),[.arr true 4 [[.sl (oA.map Cell.enc),.sl (oB.map (cY Event.enc)),.sl (oC.map eI),.sl (oD.map eI)]],.mapo true (oE.map (cH (aH .u64) (dm eI))),.arr false 4 [[.ptr (.O 0) 0 0,.sl (oF.map Event.enc),.sl (oG.map eI),.mp 1]],.arr false 1 [[.fn 39 [.ptr (.O 2) 0 0] []],[.fn 40 [.ptr (.O 2) 0 0] []],[.fn 41 [.ptr (.O 2) 0 0] []]]]))],[],[],[]⟩),(6,⟨[],[],[(31,[(vI xa6)])],[(33,vT)],[],[],[],[],[]⟩),bi 7 [] [(36,(bD bc.enc ya8))]])) [wK 1 [2] [4] 4] I3 (cG rfl gC) (fun z=>(c177_ _ (c179_ _ (aB ha7 (aI (gT n 3 sa ya5 ya8 gya8) z))))) (by kernel_rfl)

def ja (oA:(List Cell)) (oB:(List (List Event))) (oC:(List Int)) (oD:(List Int)) (oE:(List (Int×(List Int)))) (oF:(List Event)) (oG:(List Int)) (y:(Bool×Int×Int×Int)):AV×List Ob:=(.agg [.v (.bool y.1),(vI y.2.1),(vI y.2.2.1),(vI y.2.2.2)],[.arr true 4 [[.sl (oA.map Cell.enc),.sl (oB.map (cY Event.enc)),.sl (oC.map eI),.sl (oD.map eI)]],.mapo true (oE.map (cH (aH .u64) (dm eI))),.arr false 4 [[.ptr (.O 0) 0 0,.sl (oF.map Event.enc),.sl (oG.map eI),.mp 1]],.arr false 1 [[.fn 39 [.ptr (.O 2) 0 0] []],[.fn 40 [.ptr (.O 2) 0 0] []],[.fn 41 [.ptr (.O 2) 0 0] []]]])
theorem eZ (n:Nat) (oA:(List Cell)) (oB:(List (List Event))) (oC:(List Int)) (oD:(List Int)) (oE:(List (Int×(List Int)))) (oF:(List Event)) (oG:(List Int)) (y:(Bool×Int×Int×Int)) (h:dz n oA oB oC oD oE oF oG=some y):SD Tryz.prog 40 [.ptr (.O 2) 0 0] [.arr true 4 [[.sl (oA.map Cell.enc),.sl (oB.map (cY Event.enc)),.sl (oC.map eI),.sl (oD.map eI)]],.mapo true (oE.map (cH (aH .u64) (dm eI))),.arr false 4 [[.ptr (.O 0) 0 0,.sl (oF.map Event.enc),.sl (oG.map eI),.mp 1]],.arr false 1 [[.fn 39 [.ptr (.O 2) 0 0] []],[.fn 40 [.ptr (.O 2) 0 0] []],[.fn 41 [.ptr (.O 2) 0 0] []]]] (fun r' o'=>r'=(ja oA oB oC oD oE oF oG y).1∧o'=(ja oA oB oC oD oE oF oG y).2):=by
 unfold dz at h
 obtain ⟨t1,gt1,h⟩:=ab h
 rcases t1 with w2 | w2
 ·
  obtain ⟨y3,gy3,h⟩:=ab h
  obtain rfl:=aK h
  exact kS ⟨uq,[rV 1 [(10,(vI (oF.length:Int)))],bi 9 [] [(38,(bD bc.enc y3))]],[],[(2,(⟨[0,2,9,10,11],[],4,[],[],[]⟩,l0,(.ex 0),NQ oA oB oC oD oE oF oG w2))],[]⟩ Hm ⟨rfl,rfl⟩ (fun z=>(aL Event.enc oF (aI (eP (pl:=ak 40) (I4 oA oB oC oD oE oF oG) (Lo oA oB oC oD oE oF oG) (NS n oA oB oC oD oE oF oG) n _ (.inl w2) gt1) (aI (iX n y3 gy3) z)))) (by kernel_rfl)
 ·
  obtain rfl:=aK h
  exact kS ⟨uq,[rV 1 [(10,(vI (oF.length:Int)))]],[],[(2,(⟨[0,2,9,10,11],[],4,[],[],[]⟩,l0,.ret,NR oA oB oC oD oE oF oG w2))],[]⟩ Hm ⟨rfl,rfl⟩ (fun z=>(aL Event.enc oF (aI (eP (pl:=ak 40) (I4 oA oB oC oD oE oF oG) (Lo oA oB oC oD oE oF oG) (NS n oA oB oC oD oE oF oG) n _ (.inr w2) gt1) z))) (by kernel_rfl)

end
end Go.Proofs.YtomahedcdcnnhaaGreatDoor
