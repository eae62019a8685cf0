/- What the functions compute, they compute: printed by a program, path by path. No conditions. -/
import Derived.Test.YtomahedcdcnnhaaGreatDoorP1
import Derived.KernelRfl
namespace Go.Proofs.YtomahedcdcnnhaaGreatDoor
open Go A
set_option linter.unusedVariables false
set_option maxRecDepth 100000
set_option maxHeartbeats 0
section
variable (pc:Nat→List AV→(AV→Prop)→Prop) (sc:Nat→List AV→List Ob→(AV→List Ob→Prop)→Prop) (lp:bz→Code→St→(Ex→St→Prop)→Prop) (cd:yb)

def dT:List (Nat×PT):=[(9,(ei [0,1,2,3,4,5,6,7,8])),(17,(ei [0,1,2,3,4,5,6,7,8,9,10,11,12,13,14,15,16,17,18])),(25,(ei [0,1,2,3,4,5,6,7,8,9,10,11,12,13,14,15]))]
theorem ID:ax (al 82) dT (aj Tryz.prog 82)=true:=by kernel_rfl
noncomputable def Ko:Code:=sub (aj Tryz.prog 82) [1,1,1,1,1,1,0,1,0,0]
noncomputable def Po:Code:=sub Ko [1,1,0,0,1,0,1,0,0]
noncomputable def Pp:Code:=sub Ko [1,1,0,0,1,1,1,0,0]
noncomputable def Ey:Code:=sub (aj Tryz.prog 82) [1,1,1,1,1,0,1,0,0]
theorem IE:ax (al 82) dT Ey=true:=by kernel_rfl
theorem qc:ax (al 82) dT Po=true:=by kernel_rfl
def M0 (c:af) (y3:(List Event)) (xa2:Event) (sb:(List Int)×(List Int)×(List Int)×(List Int)×(List Int)×Int×Int×Int):St:=ba 146 [(3,.ptr (.O 0) 0 0),(6,(vI sb.2.2.2.2.2.2.2)),(7,.ptr (.L 7) 0 0),(52,.sl (y3.map Event.enc)),(53,(vI (y3.length:Int))),(54,(vI sb.2.2.2.2.2.1)),(59,(vI sb.2.2.2.2.2.2.1))] [(7,(Event.enc xa2))] [.arr false 7 [[.fptr (af.enc c) 0,.sl (y3.map Event.enc),.mf 2,.mf 3,.mf 4,.mf 5,.mf 1]],.arr true 1 (sb.1.map eI),.arr true 1 (sb.2.1.map eI),.arr true 1 (sb.2.2.1.map eI),.arr true 1 (sb.2.2.2.1.map eI),.arr true 1 (sb.2.2.2.2.1.map eI)] 0
def Pq (c:af) (y3:(List Event)) (xa2:Event) (tt:(List Int)×(List Int)×(List Int)×(List Int)×(List Int)×Int×Int):St:=ba 146 [(3,.ptr (.O 0) 0 0),(6,(vI tt.2.2.2.2.2.2)),(7,.ptr (.L 7) 0 0),(52,.sl (y3.map Event.enc)),(53,(vI (y3.length:Int))),(54,(vI tt.2.2.2.2.2.1))] [(7,(Event.enc xa2))] [.arr false 7 [[.fptr (af.enc c) 0,.sl (y3.map Event.enc),.mf 2,.mf 3,.mf 4,.mf 5,.mf 1]],.arr true 1 (tt.1.map eI),.arr true 1 (tt.2.1.map eI),.arr true 1 (tt.2.2.1.map eI),.arr true 1 (tt.2.2.2.1.map eI),.arr true 1 (tt.2.2.2.2.1.map eI)] 0
def Pr (c:af) (y3:(List Event)) (xa2:Event) (tt:((List Int)×(List Int)×(List Int)×(List Int)×(List Int)×Int×Int)):Ex×St:=(.ex 4,Pq c y3 xa2 tt)
theorem Tg (n:Nat) (c:af) (y3:(List Event)) (xa2:Event):∀ sb r,jP n c y3 xa2 sb=some r→aQ Tryz.prog Po (M0 c y3 xa2 sb) (rk (M0 c y3 xa2) (Pr c y3 xa2) r):=by
 intro sb r h
 unfold jP at h
 rcases aA h with ⟨hb1,h⟩ | ⟨hb1,h⟩
 ·
  exact kQ h (nA dT [rV 15 [(60,vF)]]) [wK 6 [3,6,7,52,53,54] [] 6] qc (cn rfl i3) (fun z=>(aB hb1 z))
 let e99_:LR:=[rV 15 [(60,vT)]]
 rcases ao h with ⟨hb2,h⟩ | ⟨hb2,h⟩
 ·
  obtain ⟨xb3,gxb3,h⟩:=ab h
  obtain ⟨xb4,gxb4,h⟩:=ab h
  have d0_:AV.v (.int .i64 sb.2.2.2.2.2.2.1)=AV.v (.int .i64 0):=yQ hb2
  have c100_:=fun (R:Prop) (z:R)=>(aB hb1 (aI d0_ (aI d0_ (aM eI gxb3 (aN eI gxb3 (aM eI gxb4 (aN eI gxb4 (aI (fq eI sb.2.1 (((ah .i64 sb.2.2.2.2.2.2.2 1)).toNat) xb3) z))))))))
  let e101_:LR:=e99_++[(17,⟨[],[],[(77,[(vI xb3)]),(78,[(vI xb3)]),(79,[(vI xb4)]),(1000079,[(vI xb4)])],[(63,(vI 0)),(71,(vI 0))],[],[],[(1000079,(2,(sb.2.1.set ((ah .i64 sb.2.2.2.2.2.2.2 1)).toNat xb3).map eI))],[],[]⟩)]
  rcases aA h with ⟨hb5,h⟩ | ⟨hb5,h⟩
  ·
   exact kQ h (nA dT (e101_++[rV 18 [(83,vF)]])) [wK 0 [3,6,7,52,53,54,59] [] 6] qc cR (fun z=>(c100_ _ (aB hb5 z)))
  obtain ⟨hb6,h⟩:=ey h
  rcases aA h with ⟨hb7,h⟩ | ⟨hb7,h⟩
  ·
   exact kQ h (nA dT (e101_++[(18,⟨[],[88],[],[(83,vT),(92,vF)],[],[],[],[],[]⟩)])) [wK 0 [3,6,7,52,53,54,59] [] 6] qc cR (fun z=>(c100_ _ (aB hb5 (aI hb6 (aB hb7 z)))))
  obtain ⟨hb8,h⟩:=ey h
  have c102_:=fun (R:Prop) (z:R)=>c100_ _ (aB hb5 (aI hb6 (aB hb7 (aI hb8 z))))
  rcases aA h with ⟨hb9,h⟩ | ⟨hb9,h⟩
  ·
   exact kQ h (nA dT (e101_++[(18,⟨[],[88,97],[],[(83,vT),(92,vT),(100,vF)],[],[],[],[],[]⟩)])) [wK 0 [3,6,7,52,53,54,59] [] 6] qc cR (fun z=>(c102_ _ (aB hb9 z)))
  obtain ⟨xb10,gxb10,h⟩:=ab h
  have d0_:DC ((sb.2.1.set ((ah .i64 sb.2.2.2.2.2.2.2 1)).toNat xb3).map eI) (ah .i64 sb.2.2.2.2.2.2.2 1)=some [(vI xb10)]:=nf eI gxb10
  have d1_:((sb.2.1.set ((ah .i64 sb.2.2.2.2.2.2.2 1)).toNat xb3).map eI)[((ah .i64 sb.2.2.2.2.2.2.2 1)).toNat]?=some [(vI xb10)]:=qI eI gxb10
  exact kQ h (nA dT (e101_++[(18,⟨[],[88,97],[],[(83,vT),(92,vT),(100,vT)],[],[],[],[],[]⟩),(19,⟨[],[],[(109,[(vI xb10)]),(110,[(vI xb10)]),(112,[(vI xb10)]),(1000112,[(vI xb10)])],[(102,(vI 0))],[],[],[(1000112,(2,((sb.2.1.set ((ah .i64 sb.2.2.2.2.2.2.2 1)).toNat xb3).set ((ah .i64 sb.2.2.2.2.2.2.2 1)).toNat (ah .i64 xb10 1)).map eI))],[],[]⟩)])) [wK 0 [3,6,7,52,53,54,59] [] 6] qc cR (fun z=>(c102_ _ (aB hb9 (aE .i64 hb2 (aI d0_ (aI d1_ (aI d0_ (aI d1_ (aI (fq eI (sb.2.1.set ((ah .i64 sb.2.2.2.2.2.2.2 1)).toNat xb3) (((ah .i64 sb.2.2.2.2.2.2.2 1)).toNat) (ah .i64 xb10 1)) z)))))))))
 rcases ao h with ⟨hb2,h⟩ | ⟨hb2,h⟩
 ·
  obtain ⟨xb3,gxb3,h⟩:=ab h
  obtain ⟨xb4,gxb4,h⟩:=ab h
  have d0_:AV.v (.int .i64 sb.2.2.2.2.2.2.1)=AV.v (.int .i64 1):=yQ hb2
  have c103_:=fun (R:Prop) (z:R)=>(aB hb1 (aI d0_ (aI d0_ (aM eI gxb3 (aN eI gxb3 (aM eI gxb4 (aN eI gxb4 (aI (fq eI sb.2.2.1 (((ah .i64 sb.2.2.2.2.2.2.2 1)).toNat) xb3) z))))))))
  let e104_:LR:=e99_++[(17,⟨[],[],[(77,[(vI xb3)]),(78,[(vI xb3)]),(79,[(vI xb4)]),(1000079,[(vI xb4)])],[(63,(vI 1)),(71,(vI 1))],[],[],[(1000079,(3,(sb.2.2.1.set ((ah .i64 sb.2.2.2.2.2.2.2 1)).toNat xb3).map eI))],[],[]⟩)]
  rcases aA h with ⟨hb5,h⟩ | ⟨hb5,h⟩
  ·
   exact kQ h (nA dT (e104_++[rV 18 [(83,vF)]])) [wK 0 [3,6,7,52,53,54,59] [] 6] qc cR (fun z=>(c103_ _ (aB hb5 z)))
  obtain ⟨hb6,h⟩:=ey h
  rcases aA h with ⟨hb7,h⟩ | ⟨hb7,h⟩
  ·
   exact kQ h (nA dT (e104_++[(18,⟨[],[88],[],[(83,vT),(92,vF)],[],[],[],[],[]⟩)])) [wK 0 [3,6,7,52,53,54,59] [] 6] qc cR (fun z=>(c103_ _ (aB hb5 (aI hb6 (aB hb7 z)))))
  obtain ⟨hb8,h⟩:=ey h
  have c105_:=fun (R:Prop) (z:R)=>c103_ _ (aB hb5 (aI hb6 (aB hb7 (aI hb8 z))))
  rcases aA h with ⟨hb9,h⟩ | ⟨hb9,h⟩
  ·
   exact kQ h (nA dT (e104_++[(18,⟨[],[88,97],[],[(83,vT),(92,vT),(100,vF)],[],[],[],[],[]⟩)])) [wK 0 [3,6,7,52,53,54,59] [] 6] qc cR (fun z=>(c105_ _ (aB hb9 z)))
  obtain ⟨xb10,gxb10,h⟩:=ab h
  have d0_:DC ((sb.2.2.1.set ((ah .i64 sb.2.2.2.2.2.2.2 1)).toNat xb3).map eI) (ah .i64 sb.2.2.2.2.2.2.2 1)=some [(vI xb10)]:=nf eI gxb10
  have d1_:((sb.2.2.1.set ((ah .i64 sb.2.2.2.2.2.2.2 1)).toNat xb3).map eI)[((ah .i64 sb.2.2.2.2.2.2.2 1)).toNat]?=some [(vI xb10)]:=qI eI gxb10
  exact kQ h (nA dT (e104_++[(18,⟨[],[88,97],[],[(83,vT),(92,vT),(100,vT)],[],[],[],[],[]⟩),(19,⟨[],[],[(109,[(vI xb10)]),(110,[(vI xb10)]),(112,[(vI xb10)]),(1000112,[(vI xb10)])],[(102,(vI 1))],[],[],[(1000112,(3,((sb.2.2.1.set ((ah .i64 sb.2.2.2.2.2.2.2 1)).toNat xb3).set ((ah .i64 sb.2.2.2.2.2.2.2 1)).toNat (ah .i64 xb10 1)).map eI))],[],[]⟩)])) [wK 0 [3,6,7,52,53,54,59] [] 6] qc cR (fun z=>(c105_ _ (aB hb9 (aE .i64 hb2 (aI d0_ (aI d1_ (aI d0_ (aI d1_ (aI (fq eI (sb.2.2.1.set ((ah .i64 sb.2.2.2.2.2.2.2 1)).toNat xb3) (((ah .i64 sb.2.2.2.2.2.2.2 1)).toNat) (ah .i64 xb10 1)) z)))))))))
 rcases ao h with ⟨hb2,h⟩ | ⟨hb2,h⟩
 ·
  obtain ⟨xb3,gxb3,h⟩:=ab h
  obtain ⟨xb4,gxb4,h⟩:=ab h
  have d0_:AV.v (.int .i64 sb.2.2.2.2.2.2.1)=AV.v (.int .i64 2):=yQ hb2
  have c106_:=fun (R:Prop) (z:R)=>(aB hb1 (aI d0_ (aI d0_ (aM eI gxb3 (aN eI gxb3 (aM eI gxb4 (aN eI gxb4 (aI (fq eI sb.2.2.2.1 (((ah .i64 sb.2.2.2.2.2.2.2 1)).toNat) xb3) z))))))))
  let e107_:LR:=e99_++[(17,⟨[],[],[(77,[(vI xb3)]),(78,[(vI xb3)]),(79,[(vI xb4)]),(1000079,[(vI xb4)])],[(63,(vI 2)),(71,(vI 2))],[],[],[(1000079,(4,(sb.2.2.2.1.set ((ah .i64 sb.2.2.2.2.2.2.2 1)).toNat xb3).map eI))],[],[]⟩)]
  rcases aA h with ⟨hb5,h⟩ | ⟨hb5,h⟩
  ·
   exact kQ h (nA dT (e107_++[rV 18 [(83,vF)]])) [wK 0 [3,6,7,52,53,54,59] [] 6] qc cR (fun z=>(c106_ _ (aB hb5 z)))
  obtain ⟨hb6,h⟩:=ey h
  rcases aA h with ⟨hb7,h⟩ | ⟨hb7,h⟩
  ·
   exact kQ h (nA dT (e107_++[(18,⟨[],[88],[],[(83,vT),(92,vF)],[],[],[],[],[]⟩)])) [wK 0 [3,6,7,52,53,54,59] [] 6] qc cR (fun z=>(c106_ _ (aB hb5 (aI hb6 (aB hb7 z)))))
  obtain ⟨hb8,h⟩:=ey h
  have c108_:=fun (R:Prop) (z:R)=>c106_ _ (aB hb5 (aI hb6 (aB hb7 (aI hb8 z))))
  rcases aA h with ⟨hb9,h⟩ | ⟨hb9,h⟩
  ·
   exact kQ h (nA dT (e107_++[(18,⟨[],[88,97],[],[(83,vT),(92,vT),(100,vF)],[],[],[],[],[]⟩)])) [wK 0 [3,6,7,52,53,54,59] [] 6] qc cR (fun z=>(c108_ _ (aB hb9 z)))
  obtain ⟨xb10,gxb10,h⟩:=ab h
  have d0_:DC ((sb.2.2.2.1.set ((ah .i64 sb.2.2.2.2.2.2.2 1)).toNat xb3).map eI) (ah .i64 sb.2.2.2.2.2.2.2 1)=some [(vI xb10)]:=nf eI gxb10
  have d1_:((sb.2.2.2.1.set ((ah .i64 sb.2.2.2.2.2.2.2 1)).toNat xb3).map eI)[((ah .i64 sb.2.2.2.2.2.2.2 1)).toNat]?=some [(vI xb10)]:=qI eI gxb10
  exact kQ h (nA dT (e107_++[(18,⟨[],[88,97],[],[(83,vT),(92,vT),(100,vT)],[],[],[],[],[]⟩),(19,⟨[],[],[(109,[(vI xb10)]),(110,[(vI xb10)]),(112,[(vI xb10)]),(1000112,[(vI xb10)])],[(102,(vI 2))],[],[],[(1000112,(4,((sb.2.2.2.1.set ((ah .i64 sb.2.2.2.2.2.2.2 1)).toNat xb3).set ((ah .i64 sb.2.2.2.2.2.2.2 1)).toNat (ah .i64 xb10 1)).map eI))],[],[]⟩)])) [wK 0 [3,6,7,52,53,54,59] [] 6] qc cR (fun z=>(c108_ _ (aB hb9 (aE .i64 hb2 (aI d0_ (aI d1_ (aI d0_ (aI d1_ (aI (fq eI (sb.2.2.2.1.set ((ah .i64 sb.2.2.2.2.2.2.2 1)).toNat xb3) (((ah .i64 sb.2.2.2.2.2.2.2 1)).toNat) (ah .i64 xb10 1)) z)))))))))
 rcases ao h with ⟨hb2,h⟩ | ⟨hb2,h⟩
 ·
  obtain ⟨xb3,gxb3,h⟩:=ab h
  obtain ⟨xb4,gxb4,h⟩:=ab h
  have d0_:AV.v (.int .i64 sb.2.2.2.2.2.2.1)=AV.v (.int .i64 3):=yQ hb2
  have c109_:=fun (R:Prop) (z:R)=>(aB hb1 (aI d0_ (aI d0_ (aM eI gxb3 (aN eI gxb3 (aM eI gxb4 (aN eI gxb4 (aI (fq eI sb.2.2.2.2.1 (((ah .i64 sb.2.2.2.2.2.2.2 1)).toNat) xb3) z))))))))
  let e110_:LR:=e99_++[(17,⟨[],[],[(77,[(vI xb3)]),(78,[(vI xb3)]),(79,[(vI xb4)]),(1000079,[(vI xb4)])],[(63,(vI 3)),(71,(vI 3))],[],[],[(1000079,(5,(sb.2.2.2.2.1.set ((ah .i64 sb.2.2.2.2.2.2.2 1)).toNat xb3).map eI))],[],[]⟩)]
  rcases aA h with ⟨hb5,h⟩ | ⟨hb5,h⟩
  ·
   exact kQ h (nA dT (e110_++[rV 18 [(83,vF)]])) [wK 0 [3,6,7,52,53,54,59] [] 6] qc cR (fun z=>(c109_ _ (aB hb5 z)))
  obtain ⟨hb6,h⟩:=ey h
  rcases aA h with ⟨hb7,h⟩ | ⟨hb7,h⟩
  ·
   exact kQ h (nA dT (e110_++[(18,⟨[],[88],[],[(83,vT),(92,vF)],[],[],[],[],[]⟩)])) [wK 0 [3,6,7,52,53,54,59] [] 6] qc cR (fun z=>(c109_ _ (aB hb5 (aI hb6 (aB hb7 z)))))
  obtain ⟨hb8,h⟩:=ey h
  have c111_:=fun (R:Prop) (z:R)=>c109_ _ (aB hb5 (aI hb6 (aB hb7 (aI hb8 z))))
  rcases aA h with ⟨hb9,h⟩ | ⟨hb9,h⟩
  ·
   exact kQ h (nA dT (e110_++[(18,⟨[],[88,97],[],[(83,vT),(92,vT),(100,vF)],[],[],[],[],[]⟩)])) [wK 0 [3,6,7,52,53,54,59] [] 6] qc cR (fun z=>(c111_ _ (aB hb9 z)))
  obtain ⟨xb10,gxb10,h⟩:=ab h
  have d0_:DC ((sb.2.2.2.2.1.set ((ah .i64 sb.2.2.2.2.2.2.2 1)).toNat xb3).map eI) (ah .i64 sb.2.2.2.2.2.2.2 1)=some [(vI xb10)]:=nf eI gxb10
  have d1_:((sb.2.2.2.2.1.set ((ah .i64 sb.2.2.2.2.2.2.2 1)).toNat xb3).map eI)[((ah .i64 sb.2.2.2.2.2.2.2 1)).toNat]?=some [(vI xb10)]:=qI eI gxb10
  exact kQ h (nA dT (e110_++[(18,⟨[],[88,97],[],[(83,vT),(92,vT),(100,vT)],[],[],[],[],[]⟩),(19,⟨[],[],[(109,[(vI xb10)]),(110,[(vI xb10)]),(112,[(vI xb10)]),(1000112,[(vI xb10)])],[(102,(vI 3))],[],[],[(1000112,(5,((sb.2.2.2.2.1.set ((ah .i64 sb.2.2.2.2.2.2.2 1)).toNat xb3).set ((ah .i64 sb.2.2.2.2.2.2.2 1)).toNat (ah .i64 xb10 1)).map eI))],[],[]⟩)])) [wK 0 [3,6,7,52,53,54,59] [] 6] qc cR (fun z=>(c111_ _ (aB hb9 (aE .i64 hb2 (aI d0_ (aI d1_ (aI d0_ (aI d1_ (aI (fq eI (sb.2.2.2.2.1.set ((ah .i64 sb.2.2.2.2.2.2.2 1)).toNat xb3) (((ah .i64 sb.2.2.2.2.2.2.2 1)).toNat) (ah .i64 xb10 1)) z)))))))))
 cases h

theorem Ps:ax (al 82) dT Pp=true:=by kernel_rfl
def M1 (c:af) (y3:(List Event)) (xa2:Event) (sb:(List Int)×(List Int)×(List Int)×(List Int)×(List Int)×Int×Int×Int):St:=ba 146 [(3,.ptr (.O 0) 0 0),(6,(vI sb.2.2.2.2.2.2.2)),(7,.ptr (.L 7) 0 0),(52,.sl (y3.map Event.enc)),(53,(vI (y3.length:Int))),(54,(vI sb.2.2.2.2.2.2.1)),(116,.sl (xa2.dg.Addr.map eI)),(117,(vI (xa2.dg.Addr.length:Int))),(118,(vI sb.2.2.2.2.2.1))] [(7,(Event.enc xa2))] [.arr false 7 [[.fptr (af.enc c) 0,.sl (y3.map Event.enc),.mf 2,.mf 3,.mf 4,.mf 5,.mf 1]],.arr true 1 (sb.1.map eI),.arr true 1 (sb.2.1.map eI),.arr true 1 (sb.2.2.1.map eI),.arr true 1 (sb.2.2.2.1.map eI),.arr true 1 (sb.2.2.2.2.1.map eI)] 0
def Pt (c:af) (y3:(List Event)) (xa2:Event) (tt:(List Int)×(List Int)×(List Int)×(List Int)×(List Int)×Int):St:=ba 146 [(3,.ptr (.O 0) 0 0),(52,.sl (y3.map Event.enc)),(53,(vI (y3.length:Int))),(54,(vI tt.2.2.2.2.2))] [] [.arr false 7 [[.fptr (af.enc c) 0,.sl (y3.map Event.enc),.mf 2,.mf 3,.mf 4,.mf 5,.mf 1]],.arr true 1 (tt.1.map eI),.arr true 1 (tt.2.1.map eI),.arr true 1 (tt.2.2.1.map eI),.arr true 1 (tt.2.2.2.1.map eI),.arr true 1 (tt.2.2.2.2.1.map eI)] 0
def Pu (c:af) (y3:(List Event)) (xa2:Event) (tt:((List Int)×(List Int)×(List Int)×(List Int)×(List Int)×Int)):Ex×St:=(.ex 6,Pt c y3 xa2 tt)
theorem Ti (n:Nat) (c:af) (y3:(List Event)) (xa2:Event):∀ sb r,jQ n c y3 xa2 sb=some r→aQ Tryz.prog Pp (M1 c y3 xa2 sb) (rk (M1 c y3 xa2) (Pu c y3 xa2) r):=by
 intro sb r h
 unfold jQ at h
 rcases aA h with ⟨hb1,h⟩ | ⟨hb1,h⟩
 ·
  exact kQ h (nA dT [rV 22 [(119,vF)]]) [wK 8 [3,52,53,54] [7] 6] Ps (cn rfl i3) (fun z=>(aB hb1 z))
 obtain ⟨xb2,gxb2,h⟩:=ab h
 obtain ⟨xb3,gxb3,h⟩:=ab h
 have d0_:DC (sb.1.map eI) (ah .i64 (dM .i64 sb.2.2.2.2.2.2.2 xa2.At) xb2)=some [(vI xb3)]:=nf eI gxb3
 have d1_:(sb.1.map eI)[((ah .i64 (dM .i64 sb.2.2.2.2.2.2.2 xa2.At) xb2)).toNat]?=some [(vI xb3)]:=qI eI gxb3
 exact kQ h (nA dT [rV 22 [(119,vT)],rR 23 [(120,[(vI xb2)])],(25,⟨[],[],[(138,[(vI xb3)]),(139,[(vI xb3)]),(142,[(vI xb3)]),(1000142,[(vI xb3)])],[],[],[],[(1000142,(1,(sb.1.set ((ah .i64 (dM .i64 sb.2.2.2.2.2.2.2 xa2.At) xb2)).toNat (lk xb3 sb.2.2.2.2.2.2.2)).map eI))],[],[]⟩)]) [wK 0 [3,6,7,52,53,54,116,117,118] [] 6] Ps cR (fun z=>(aB hb1 (aM eI gxb2 (aI d0_ (aI d1_ (aI d0_ (aI d1_ (aI (fq eI sb.1 (((ah .i64 (dM .i64 sb.2.2.2.2.2.2.2 xa2.At) xb2)).toNat) (lk xb3 sb.2.2.2.2.2.2.2)) z))))))))

theorem Pv:ax (al 82) dT Ko=true:=by kernel_rfl
def M3 (c:af) (y3:(List Event)) (sa:(List Int)×(List Int)×(List Int)×(List Int)×(List Int)×Int):St:=ba 146 [(3,.ptr (.O 0) 0 0),(52,.sl (y3.map Event.enc)),(53,(vI (y3.length:Int))),(54,(vI sa.2.2.2.2.2))] [] [.arr false 7 [[.fptr (af.enc c) 0,.sl (y3.map Event.enc),.mf 2,.mf 3,.mf 4,.mf 5,.mf 1]],.arr true 1 (sa.1.map eI),.arr true 1 (sa.2.1.map eI),.arr true 1 (sa.2.2.1.map eI),.arr true 1 (sa.2.2.2.1.map eI),.arr true 1 (sa.2.2.2.2.1.map eI)] 0
def Pw (c:af) (y3:(List Event)) (tt:(List Int)×(List Int)×(List Int)×(List Int)×(List Int)):St:=ba 146 [(3,.ptr (.O 0) 0 0)] [] [.arr false 7 [[.fptr (af.enc c) 0,.sl (y3.map Event.enc),.mf 2,.mf 3,.mf 4,.mf 5,.mf 1]],.arr true 1 (tt.1.map eI),.arr true 1 (tt.2.1.map eI),.arr true 1 (tt.2.2.1.map eI),.arr true 1 (tt.2.2.2.1.map eI),.arr true 1 (tt.2.2.2.2.map eI)] 0
def Px (c:af) (y3:(List Event)) (tt:((List Int)×(List Int)×(List Int)×(List Int)×(List Int))):Ex×St:=(.ex 2,Pw c y3 tt)
theorem Tj (n:Nat) (c:af) (y3:(List Event)):∀ sa r,nq n c y3 sa=some r→aQ Tryz.prog Ko (M3 c y3 sa) (rk (M3 c y3) (Px c y3) r):=by
 intro sa r h
 unfold nq at h
 rcases aA h with ⟨ha1,h⟩ | ⟨ha1,h⟩
 ·
  exact kQ h (nA dT [rV 12 [(55,vF)]]) [wK 4 [3] [] 6] Pv (cn rfl i3) (fun z=>(aB ha1 z))
 obtain ⟨xa2,gxa2,h⟩:=ab h
 obtain ⟨ta3,gta3,h⟩:=ab h
 obtain ⟨ta4,gta4,h⟩:=ab h
 exact kQ h ⟨dT,[rV 12 [(55,vT)],rR 13 [(57,(Event.enc xa2))],rV 21 [(117,(vI (xa2.dg.Addr.length:Int)))]],[],[(15,(⟨[3,6,7,52,53,54,59],[],6,[],[],[]⟩,l0,(.ex 4),Pq c y3 xa2 ta3)),(22,(⟨[3,6,7,52,53,54,116,117,118],[],6,[],[],[]⟩,l0,(.ex 6),Pt c y3 xa2 ta4))],[]⟩ [wK 0 [3,52,53,54] [] 6] Pv cR (fun z=>(aB ha1 (aM Event.enc gxa2 (aI (eo (pl:=al 82) (M0 c y3 xa2) (Pr c y3 xa2) (Tg n c y3 xa2) n _ ta3 gta3) (aL eI xa2.dg.Addr (aI (eo (pl:=al 82) (M1 c y3 xa2) (Pu c y3 xa2) (Ti n c y3 xa2) n _ ta4 gta4) z))))))

theorem qd (c:af) (y3:(List Event)) (y4:(List Int)) (K:Ex→St→Prop):oR pc sc lp cd (nA dT [(9,⟨[],[44],[],[],[],[],[(44,(2,(List.replicate ((ah .i64 (y3.length:Int) 1)).toNat 0).map eI))],[],[]⟩)]) (al 82) [wK 0 [3,4,37] [] 3] Ey (ba 146 [(3,.ptr (.O 0) 0 0),(4,(vI (y3.length:Int))),(37,(vI 0))] [] [.arr false 7 [[.fptr (af.enc c) 0,.sl (y3.map Event.enc),.nilsl,.nilsl,.nilsl,.nilsl,.mf 1]],.arr true 1 (y4.map eI)] 0) K
  = (((decide ((0:Int)≤(ah .i64 (y3.length:Int) 1))&&decide ((ah .i64 (y3.length:Int) 1)≤(ah .i64 (y3.length:Int) 1))&&decide (8 * (ah .i64 (y3.length:Int) 1)≤140737488355328)&&decide ((ah .i64 (y3.length:Int) 1)≤140737488355328)&&Nat.blt 0 1)=true)∧(List.replicate ((ah .i64 (y3.length:Int) 1)).toNat [(vI 0)]=(List.replicate ((ah .i64 (y3.length:Int) 1)).toNat 0).map eI)∧K .nrm (ba 146 [(3,.ptr (.O 0) 0 0),(4,(vI (y3.length:Int))),(37,(vI 1))] [] [.arr false 7 [[.fptr (af.enc c) 0,.sl (y3.map Event.enc),.mf 2,.nilsl,.nilsl,.nilsl,.mf 1]],.arr true 1 (y4.map eI),.arr true 1 ((List.replicate ((ah .i64 (y3.length:Int) 1)).toNat 0).map eI)] 0)):=by kernel_rfl
theorem qe (c:af) (y3:(List Event)) (y4:(List Int)) (K:Ex→St→Prop):oR pc sc lp cd (nA dT [(9,⟨[],[44],[],[],[],[],[(44,(3,(List.replicate ((ah .i64 (y3.length:Int) 1)).toNat 0).map eI))],[],[]⟩)]) (al 82) [wK 0 [3,4,37] [] 4] Ey (ba 146 [(3,.ptr (.O 0) 0 0),(4,(vI (y3.length:Int))),(37,(vI 1))] [] [.arr false 7 [[.fptr (af.enc c) 0,.sl (y3.map Event.enc),.mf 2,.nilsl,.nilsl,.nilsl,.mf 1]],.arr true 1 (y4.map eI),.arr true 1 ((List.replicate ((ah .i64 (y3.length:Int) 1)).toNat 0).map eI)] 0) K
  = (((decide ((0:Int)≤(ah .i64 (y3.length:Int) 1))&&decide ((ah .i64 (y3.length:Int) 1)≤(ah .i64 (y3.length:Int) 1))&&decide (8 * (ah .i64 (y3.length:Int) 1)≤140737488355328)&&decide ((ah .i64 (y3.length:Int) 1)≤140737488355328)&&Nat.blt 0 1)=true)∧(List.replicate ((ah .i64 (y3.length:Int) 1)).toNat [(vI 0)]=(List.replicate ((ah .i64 (y3.length:Int) 1)).toNat 0).map eI)∧K .nrm (ba 146 [(3,.ptr (.O 0) 0 0),(4,(vI (y3.length:Int))),(37,(vI 2))] [] [.arr false 7 [[.fptr (af.enc c) 0,.sl (y3.map Event.enc),.mf 2,.mf 3,.nilsl,.nilsl,.mf 1]],.arr true 1 (y4.map eI),.arr true 1 ((List.replicate ((ah .i64 (y3.length:Int) 1)).toNat 0).map eI),.arr true 1 ((List.replicate ((ah .i64 (y3.length:Int) 1)).toNat 0).map eI)] 0)):=by kernel_rfl
theorem qf (c:af) (y3:(List Event)) (y4:(List Int)) (K:Ex→St→Prop):oR pc sc lp cd (nA dT [(9,⟨[],[44],[],[],[],[],[(44,(4,(List.replicate ((ah .i64 (y3.length:Int) 1)).toNat 0).map eI))],[],[]⟩)]) (al 82) [wK 0 [3,4,37] [] 5] Ey (ba 146 [(3,.ptr (.O 0) 0 0),(4,(vI (y3.length:Int))),(37,(vI 2))] [] [.arr false 7 [[.fptr (af.enc c) 0,.sl (y3.map Event.enc),.mf 2,.mf 3,.nilsl,.nilsl,.mf 1]],.arr true 1 (y4.map eI),.arr true 1 ((List.replicate ((ah .i64 (y3.length:Int) 1)).toNat 0).map eI),.arr true 1 ((List.replicate ((ah .i64 (y3.length:Int) 1)).toNat 0).map eI)] 0) K
  = (((decide ((0:Int)≤(ah .i64 (y3.length:Int) 1))&&decide ((ah .i64 (y3.length:Int) 1)≤(ah .i64 (y3.length:Int) 1))&&decide (8 * (ah .i64 (y3.length:Int) 1)≤140737488355328)&&decide ((ah .i64 (y3.length:Int) 1)≤140737488355328)&&Nat.blt 0 1)=true)∧(List.replicate ((ah .i64 (y3.length:Int) 1)).toNat [(vI 0)]=(List.replicate ((ah .i64 (y3.length:Int) 1)).toNat 0).map eI)∧K .nrm (ba 146 [(3,.ptr (.O 0) 0 0),(4,(vI (y3.length:Int))),(37,(vI 3))] [] [.arr false 7 [[.fptr (af.enc c) 0,.sl (y3.map Event.enc),.mf 2,.mf 3,.mf 4,.nilsl,.mf 1]],.arr true 1 (y4.map eI),.arr true 1 ((List.replicate ((ah .i64 (y3.length:Int) 1)).toNat 0).map eI),.arr true 1 ((List.replicate ((ah .i64 (y3.length:Int) 1)).toNat 0).map eI),.arr true 1 ((List.replicate ((ah .i64 (y3.length:Int) 1)).toNat 0).map eI)] 0)):=by kernel_rfl
theorem qg (c:af) (y3:(List Event)) (y4:(List Int)) (K:Ex→St→Prop):oR pc sc lp cd (nA dT [(9,⟨[],[44],[],[],[],[],[(44,(5,(List.replicate ((ah .i64 (y3.length:Int) 1)).toNat 0).map eI))],[],[]⟩)]) (al 82) [wK 0 [3,4,37] [] 6] Ey (ba 146 [(3,.ptr (.O 0) 0 0),(4,(vI (y3.length:Int))),(37,(vI 3))] [] [.arr false 7 [[.fptr (af.enc c) 0,.sl (y3.map Event.enc),.mf 2,.mf 3,.mf 4,.nilsl,.mf 1]],.arr true 1 (y4.map eI),.arr true 1 ((List.replicate ((ah .i64 (y3.length:Int) 1)).toNat 0).map eI),.arr true 1 ((List.replicate ((ah .i64 (y3.length:Int) 1)).toNat 0).map eI),.arr true 1 ((List.replicate ((ah .i64 (y3.length:Int) 1)).toNat 0).map eI)] 0) K
  = (((decide ((0:Int)≤(ah .i64 (y3.length:Int) 1))&&decide ((ah .i64 (y3.length:Int) 1)≤(ah .i64 (y3.length:Int) 1))&&decide (8 * (ah .i64 (y3.length:Int) 1)≤140737488355328)&&decide ((ah .i64 (y3.length:Int) 1)≤140737488355328)&&Nat.blt 0 1)=true)∧(List.replicate ((ah .i64 (y3.length:Int) 1)).toNat [(vI 0)]=(List.replicate ((ah .i64 (y3.length:Int) 1)).toNat 0).map eI)∧K .nrm (ba 146 [(3,.ptr (.O 0) 0 0),(4,(vI (y3.length:Int))),(37,(vI 4))] [] [.arr false 7 [[.fptr (af.enc c) 0,.sl (y3.map Event.enc),.mf 2,.mf 3,.mf 4,.mf 5,.mf 1]],.arr true 1 (y4.map eI),.arr true 1 ((List.replicate ((ah .i64 (y3.length:Int) 1)).toNat 0).map eI),.arr true 1 ((List.replicate ((ah .i64 (y3.length:Int) 1)).toNat 0).map eI),.arr true 1 ((List.replicate ((ah .i64 (y3.length:Int) 1)).toNat 0).map eI),.arr true 1 ((List.replicate ((ah .i64 (y3.length:Int) 1)).toNat 0).map eI)] 0)):=by kernel_rfl
theorem qh (c:af) (y3:(List Event)) (y4:(List Int)) (K:Ex→St→Prop):oR pc sc lp cd (nA dT []) (al 82) [wK 2 [3] [] 6] Ey (ba 146 [(3,.ptr (.O 0) 0 0),(4,(vI (y3.length:Int))),(37,(vI 4))] [] [.arr false 7 [[.fptr (af.enc c) 0,.sl (y3.map Event.enc),.mf 2,.mf 3,.mf 4,.mf 5,.mf 1]],.arr true 1 (y4.map eI),.arr true 1 ((List.replicate ((ah .i64 (y3.length:Int) 1)).toNat 0).map eI),.arr true 1 ((List.replicate ((ah .i64 (y3.length:Int) 1)).toNat 0).map eI),.arr true 1 ((List.replicate ((ah .i64 (y3.length:Int) 1)).toNat 0).map eI),.arr true 1 ((List.replicate ((ah .i64 (y3.length:Int) 1)).toNat 0).map eI)] 0) K
  = (K (.ex 0) (ba 146 [(3,.ptr (.O 0) 0 0)] [] [.arr false 7 [[.fptr (af.enc c) 0,.sl (y3.map Event.enc),.mf 2,.mf 3,.mf 4,.mf 5,.mf 1]],.arr true 1 (y4.map eI),.arr true 1 ((List.replicate ((ah .i64 (y3.length:Int) 1)).toNat 0).map eI),.arr true 1 ((List.replicate ((ah .i64 (y3.length:Int) 1)).toNat 0).map eI),.arr true 1 ((List.replicate ((ah .i64 (y3.length:Int) 1)).toNat 0).map eI),.arr true 1 ((List.replicate ((ah .i64 (y3.length:Int) 1)).toNat 0).map eI)] 0)):=by kernel_rfl
theorem yq (n:Nat) (c:af) (r:(Option ai)) (h:lN n c=some r):aw Tryz.prog 82 [.fptr (af.enc c) 0] (ew ((Db ai.enc r))):=by
 unfold lN at h
 obtain ⟨y1,gy1,h⟩:=ab h
 have c112_:=fun (R:Prop) (z:R)=>(aI (jy n c y1 gy1) z)
 rcases ao h with ⟨h2,h⟩ | ⟨h2,h⟩
 ·
  obtain rfl:=aF h
  exact kP (nA dT [aZ 1 [(16,vT)] [(15,(vI y1))]]) ID (fun z=>(c112_ _ (aB h2 z)))
 obtain ⟨y3,gy3,h⟩:=ab h
 obtain ⟨y4,gy4,h⟩:=ab h
 obtain ⟨h5,h⟩:=ey h
 obtain ⟨h6,h⟩:=ey h
 obtain ⟨h7,h⟩:=ey h
 obtain ⟨h8,h⟩:=ey h
 obtain ⟨t9,gt9,h⟩:=ab h
 obtain rfl:=aF h
 have d0_:AV.v (.int .i64 (((y3.map Event.enc).length:Nat):Int))=AV.v (.int .i64 (y3.length:Int)):=tf _ _
 exact kP ⟨dT,[aZ 1 [(16,vF)] [(15,(vI y1))],aZ 3 [] [(22,.sl (y3.map Event.enc))],rV 4 [(29,(vI (y3.length:Int)))],(5,⟨[],[],[],[],[],[(34,(.mf 1,[.arr true 7 [[.fptr (af.enc c) 0,.sl (y3.map Event.enc),.nilsl,.nilsl,.nilsl,.nilsl,.nilsl]],.arr true 1 (y4.map eI)]))],[],[],[]⟩),rV 11 [(53,(vI (y3.length:Int)))]],[],[(7,(⟨[3,4,37],[],2,[],[],[]⟩,l0,(.ex 0),ba 146 [(3,.ptr (.O 0) 0 0)] [] [.arr false 7 [[.fptr (af.enc c) 0,.sl (y3.map Event.enc),.mf 2,.mf 3,.mf 4,.mf 5,.mf 1]],.arr true 1 (y4.map eI),.arr true 1 ((List.replicate ((ah .i64 (y3.length:Int) 1)).toNat 0).map eI),.arr true 1 ((List.replicate ((ah .i64 (y3.length:Int) 1)).toNat 0).map eI),.arr true 1 ((List.replicate ((ah .i64 (y3.length:Int) 1)).toNat 0).map eI),.arr true 1 ((List.replicate ((ah .i64 (y3.length:Int) 1)).toNat 0).map eI)] 0)),(12,(⟨[3,52,53,54],[],6,[],[],[]⟩,l0,(.ex 2),Pw c y3 t9))],[]⟩ ID (fun z=>(c112_ _ (aB h2 (aI (dK n c.am y3 gy3) (aI d0_ (aI (k_ n ([(y3.length:Int)]:List Int) (y3.length:Int) c.gc c.am c.la c.bt y3 y4 gy4) (aI ((cJ.round (cfg:=cfg) (DD IE (Eq.mpr (qd pP sP lP dP c y3 y4 _) ⟨h5,lA eI _ 0,⟨rfl,rfl⟩⟩) (cJ.round (cfg:=cfg) (DD IE (Eq.mpr (qe pP sP lP dP c y3 y4 _) ⟨h6,lA eI _ 0,⟨rfl,rfl⟩⟩) (cJ.round (cfg:=cfg) (DD IE (Eq.mpr (qf pP sP lP dP c y3 y4 _) ⟨h7,lA eI _ 0,⟨rfl,rfl⟩⟩) (cJ.round (cfg:=cfg) (DD IE (Eq.mpr (qg pP sP lP dP c y3 y4 _) ⟨h8,lA eI _ 0,⟨rfl,rfl⟩⟩) (cJ.round (cfg:=cfg) (DD IE (Eq.mpr (qh pP sP lP dP c y3 y4 _) ⟨rfl,rfl⟩) ⟨rfl,rfl⟩)))))))))):lP (al 82) Ey (ba 146 [(3,.ptr (.O 0) 0 0),(4,(vI (y3.length:Int))),(37,(vI 0))] [] [.arr false 7 [[.fptr (af.enc c) 0,.sl (y3.map Event.enc),.nilsl,.nilsl,.nilsl,.nilsl,.mf 1]],.arr true 1 (y4.map eI)] 0) (fun e' S'=>e'=(.ex 0)∧S'=ba 146 [(3,.ptr (.O 0) 0 0)] [] [.arr false 7 [[.fptr (af.enc c) 0,.sl (y3.map Event.enc),.mf 2,.mf 3,.mf 4,.mf 5,.mf 1]],.arr true 1 (y4.map eI),.arr true 1 ((List.replicate ((ah .i64 (y3.length:Int) 1)).toNat 0).map eI),.arr true 1 ((List.replicate ((ah .i64 (y3.length:Int) 1)).toNat 0).map eI),.arr true 1 ((List.replicate ((ah .i64 (y3.length:Int) 1)).toNat 0).map eI),.arr true 1 ((List.replicate ((ah .i64 (y3.length:Int) 1)).toNat 0).map eI)] 0)) (aI d0_ (aI (eo (pl:=al 82) (M3 c y3) (Px c y3) (Tj n c y3) n _ t9 gt9) z)))))))))

def yr:List (Nat×PT):=[(3,(ei [0,1,2,3,4,5,6,7,8,9,10,11,12,13])),(4,(ei [0,1,2,3,4,5,6,7,8,9,10,11,12,13,14,15,16,17,18,19,20,21]))]
theorem uO:ax (al 93) yr (aj Tryz.prog 93)=true:=by kernel_rfl
theorem sh (n:Nat) (v:ai) (a:Int) (b:Int) (r:Bool) (h:eE n v a b=some r):aw Tryz.prog 93 [.fptr (ai.enc v) 0,(vI a),(vI b)] (ew (.v (.bool r))):=by
 unfold eE at h
 rcases ao h with ⟨h1,h⟩ | ⟨h1,h⟩
 ·
  obtain rfl:=aF h
  exact kP (nA yr [rV 1 [(15,vT)]]) uO (fun z=>(aB h1 z))
 have c113_:=fun (R:Prop) (z:R)=>(aB h1 (aL Event.enc v.all z))
 rcases ao h with ⟨h2,h⟩ | ⟨h2,h⟩
 ·
  obtain rfl:=aF h
  exact kP (nA yr [rV 1 [(15,vF),(21,(vI (v.all.length:Int))),(24,vT)]]) uO (fun z=>(c113_ _ (aB h2 z)))
 rcases ao h with ⟨h3,h⟩ | ⟨h3,h⟩
 ·
  obtain rfl:=aF h
  exact kP (nA yr [rV 1 [(15,vF),(21,(vI (v.all.length:Int))),(24,vF),(28,vT)]]) uO (fun z=>(c113_ _ (aB h2 (aB h3 z))))
 obtain ⟨x4,gx4,h⟩:=ab h
 obtain ⟨x5,gx5,h⟩:=ab h
 have c114_:=fun (R:Prop) (z:R)=>c113_ _ (aB h2 (aB h3 (aM Event.enc gx4 (aM Event.enc gx5 z))))
 let e115_:LR:=[rV 1 [(15,vF),(21,(vI (v.all.length:Int))),(24,vF),(28,vF)],rR 3 [(34,(Event.enc x4)),(40,(Event.enc x5))]]
 rcases aA h with ⟨h6,h⟩ | ⟨h6,h⟩
 ·
  obtain rfl:=aF h
  exact kP (nA yr (e115_++[rV 4 [(50,vF)]])) uO (fun z=>(c114_ _ (aB h6 z)))
 obtain ⟨y7,gy7,h⟩:=ab h
 have c116_:=fun (R:Prop) (z:R)=>c114_ _ (aB h6 (aI (j0 n x4 y7 gy7) z))
 rcases aA h with ⟨h8,h⟩ | ⟨h8,h⟩
 ·
  obtain rfl:=aF h
  exact kP (nA yr (e115_++[aZ 4 [(50,vT),(56,vF)] [(54,.v (.bool y7))]])) uO (fun z=>(c116_ _ (aB h8 z)))
 obtain ⟨y9,gy9,h⟩:=ab h
 obtain rfl:=aF h
 exact kP (nA yr (e115_++[aZ 4 [(50,vT),(56,vT)] [(54,.v (.bool y7)),(60,.v (.bool y9))]])) uO (fun z=>(c116_ _ (aB h8 (aI (j0 n x5 y9 gy9) z))))

def LN:List (Nat×PT):=[]
theorem M4:ax (al 94) LN (aj Tryz.prog 94)=true:=by kernel_rfl
theorem zu (n:Nat) (r:Unit) (h:tU n=some r):aw Tryz.prog 94 [] (ew (.agg [.fn 108 [] [],.fn 109 [] [],.fn 112 [] [],.fn 113 [] [],.fn 115 [] [],.fn 116 [] [],.fn 117 [] [],.fn 118 [] [],.fn 119 [] [],.fn 121 [] [],.fn 122 [] [],.fn 123 [] [],.fn 124 [] []])):=by
 unfold tU at h
 obtain rfl:=aF h
 exact kP (nA LN []) M4 (fun z=>z)

def Ez:List (Nat×PT):=[(1,(ei [0,1,2,3,4,5,6,7,8,9,10,11,12,13,14,15]))]
theorem FK:ax (al 108) Ez (aj Tryz.prog 108)=true:=by kernel_rfl
theorem v5 (n:Nat) (v:ai) (a:Int) (b:Int) (x:Event) (y:Event) (r:Bool) (h:fR n v a b x y=some r):aw Tryz.prog 108 [.fptr (ai.enc v) 0,(vI a),(vI b),.fptr (Event.enc x) 0,.fptr (Event.enc y) 0] (ew (.v (.bool r))):=by
 unfold fR at h
 obtain ⟨y1,gy1,h⟩:=ab h
 have c117_:=fun (R:Prop) (z:R)=>(aI (cF n y y1 gy1) z)
 rcases ao h with ⟨h2,h⟩ | ⟨h2,h⟩
 ·
  obtain rfl:=aF h
  exact kP (nA Ez [aZ 1 [(15,vT)] [(14,.v (.bool y1))]]) FK (fun z=>(c117_ _ (aB h2 z)))
 obtain rfl:=aF h
 exact kP (nA Ez [aZ 1 [(15,vF)] [(14,.v (.bool y1))]]) FK (fun z=>(c117_ _ (aB h2 z)))

def EA:List (Nat×PT):=[(1,(ei [0,1,2,3,4,5,6,7,8,9,10,11]))]
theorem FM:ax (al 111) EA (aj Tryz.prog 111)=true:=by kernel_rfl
theorem tn (n:Nat) (m:Event) (a:Int) (a_:Int) (a_A:Int) (a_B:Int) (a_C:Int) (a_D:Int) (a_E:Bool) (a_F:Bool) (a_G:Int) (a_H:Int) (a_I:Int) (a_J:(List Int)) (a_K:(List Int)) (a_L:(List Int)) (r:Bool) (h:il n m a a_ a_A a_B a_C a_D a_E a_F a_G a_H a_I a_J a_K a_L=some r):aw Tryz.prog 111 [(bq Event.enc m),.fptr [.fptr [(vI a),(vI a_),(vI a_A),(vU a_B),(vU a_C),(vU a_D),.v (.bool a_E),.v (.bool a_F),(vI a_G),(vI a_H),(vI a_I),.sl (a_J.map eI),.sl (a_K.map eI),.sl (a_L.map eI)] 0] 0] (ew (.v (.bool r))):=by
 unfold il at h
 obtain ⟨y1,gy1,h⟩:=ab h
 have c118_:=fun (R:Prop) (z:R)=>(aI (cF n m y1 gy1) z)
 rcases ao h with ⟨h2,h⟩ | ⟨h2,h⟩
 ·
  obtain rfl:=aF h
  exact kP (nA EA [aZ 1 [(6,vT)] [(5,.v (.bool y1))]]) FM (fun z=>(c118_ _ (aB h2 z)))
 obtain rfl:=aF h
 exact kP (nA EA [aZ 1 [(6,vF)] [(5,.v (.bool y1))]]) FM (fun z=>(c118_ _ (aB h2 z)))

def si:List (Nat×PT):=[]
theorem FN:ax (al 134) si (aj Tryz.prog 134)=true:=by kernel_rfl
noncomputable def Py:Code:=sub (aj Tryz.prog 134) [1,0,1,0,0]
theorem M5:ax (al 134) si Py=true:=by kernel_rfl
def Kp (s_:(List Event)) (f:Int) (f_:Int) (f_A:Int) (f_B:Int) (f_C:Int) (f_D:Int) (f_E:Bool) (f_F:Bool) (f_G:Int) (f_H:Int) (f_I:Int) (f_J:(List Int)) (f_K:(List Int)) (f_L:(List Int)) (sa:Int):St:=ba 19 [(0,.sl (s_.map Event.enc)),(1,.fn 111 [] [.fptr [.fptr [(vI f),(vI f_),(vI f_A),(vU f_B),(vU f_C),(vU f_D),.v (.bool f_E),.v (.bool f_F),(vI f_G),(vI f_H),(vI f_I),.sl (f_J.map eI),.sl (f_K.map eI),.sl (f_L.map eI)] 0] 0]),(7,(vI (s_.length:Int))),(8,(vI sa))] [] [] 0
def Pz (s_:(List Event)) (f:Int) (f_:Int) (f_A:Int) (f_B:Int) (f_C:Int) (f_D:Int) (f_E:Bool) (f_F:Bool) (f_G:Int) (f_H:Int) (f_I:Int) (f_J:(List Int)) (f_K:(List Int)) (f_L:(List Int)) (tt:Unit):St:=ba 19 [] [] [] 0
def PC (s_:(List Event)) (f:Int) (f_:Int) (f_A:Int) (f_B:Int) (f_C:Int) (f_D:Int) (f_E:Bool) (f_F:Bool) (f_G:Int) (f_H:Int) (f_I:Int) (f_J:(List Int)) (f_K:(List Int)) (f_L:(List Int)) (tt:Int):St:=ba 19 [(4,(vI tt))] [] [] 0
def M6 (s_:(List Event)) (f:Int) (f_:Int) (f_A:Int) (f_B:Int) (f_C:Int) (f_D:Int) (f_E:Bool) (f_F:Bool) (f_G:Int) (f_H:Int) (f_I:Int) (f_J:(List Int)) (f_K:(List Int)) (f_L:(List Int)) (t0:(Unit⊕Int)):Ex×St:=match t0 with | .inl tt=>(.ex 0,Pz s_ f f_ f_A f_B f_C f_D f_E f_F f_G f_H f_I f_J f_K f_L tt) | .inr tt=>(.ret,PC s_ f f_ f_A f_B f_C f_D f_E f_F f_G f_H f_I f_J f_K f_L tt)
theorem PD (n:Nat) (s_:(List Event)) (f:Int) (f_:Int) (f_A:Int) (f_B:Int) (f_C:Int) (f_D:Int) (f_E:Bool) (f_F:Bool) (f_G:Int) (f_H:Int) (f_I:Int) (f_J:(List Int)) (f_K:(List Int)) (f_L:(List Int)):∀ sa r,bc n s_ f f_ f_A f_B f_C f_D f_E f_F f_G f_H f_I f_J f_K f_L sa=some r→aQ Tryz.prog Py (Kp s_ f f_ f_A f_B f_C f_D f_E f_F f_G f_H f_I f_J f_K f_L sa) (rk (Kp s_ f f_ f_A f_B f_C f_D f_E f_F f_G f_H f_I f_J f_K f_L) (M6 s_ f f_ f_A f_B f_C f_D f_E f_F f_G f_H f_I f_J f_K f_L) r):=by
 intro sa r h
 unfold bc at h
 rcases aA h with ⟨ha1,h⟩ | ⟨ha1,h⟩
 ·
  exact kQ h (nA si [rV 2 [(9,vF)]]) [wK 2 [] [] 0] M5 (cn rfl i3) (fun z=>(aB ha1 z))
 obtain ⟨xa2,gxa2,h⟩:=ab h
 obtain ⟨ya3,gya3,h⟩:=ab h
 have c119_:=fun (R:Prop) (z:R)=>(aB ha1 (aM Event.enc gxa2 (aI (tn n xa2 f f_ f_A f_B f_C f_D f_E f_F f_G f_H f_I f_J f_K f_L ya3 gya3) z)))
 rcases ao h with ⟨ha4,h⟩ | ⟨ha4,h⟩
 ·
  exact kQ h (nA si [rV 2 [(9,vT)],(4,⟨[],[],[(14,(Event.enc xa2))],[(16,vT)],[(16,.v (.bool ya3))],[],[],[],[]⟩)]) [wK 1 [4] [] 0] M5 (cn rfl gF) (fun z=>(c119_ _ (aB ha4 z)))
 exact kQ h (nA si [rV 2 [(9,vT)],(4,⟨[],[],[(14,(Event.enc xa2))],[(16,vF)],[(16,.v (.bool ya3))],[],[],[],[]⟩)]) [wK 0 [0,1,7,8] [] 0] M5 cR (fun z=>(c119_ _ (aB ha4 z)))

theorem gE (n:Nat) (s_:(List Event)) (f:Int) (f_:Int) (f_A:Int) (f_B:Int) (f_C:Int) (f_D:Int) (f_E:Bool) (f_F:Bool) (f_G:Int) (f_H:Int) (f_I:Int) (f_J:(List Int)) (f_K:(List Int)) (f_L:(List Int)) (r:Int) (h:bi n s_ f f_ f_A f_B f_C f_D f_E f_F f_G f_H f_I f_J f_K f_L=some r):aw Tryz.prog 134 [.sl (s_.map Event.enc),.fn 111 [] [.fptr [.fptr [(vI f),(vI f_),(vI f_A),(vU f_B),(vU f_C),(vU f_D),.v (.bool f_E),.v (.bool f_F),(vI f_G),(vI f_H),(vI f_I),.sl (f_J.map eI),.sl (f_K.map eI),.sl (f_L.map eI)] 0] 0]] (ew ((vI r))):=by
 unfold bi at h
 obtain ⟨t1,gt1,h⟩:=ab h
 rcases t1 with w2 | w2
 ·
  obtain rfl:=aF h
  exact kP ⟨si,[rV 1 [(7,(vI (s_.length:Int)))]],[],[(2,(⟨[0,1,7,8],[],0,[],[],[]⟩,l0,(.ex 0),Pz s_ f f_ f_A f_B f_C f_D f_E f_F f_G f_H f_I f_J f_K f_L w2))],[]⟩ FN (fun z=>(aL Event.enc s_ (aI (eo (pl:=al 134) (Kp s_ f f_ f_A f_B f_C f_D f_E f_F f_G f_H f_I f_J f_K f_L) (M6 s_ f f_ f_A f_B f_C f_D f_E f_F f_G f_H f_I f_J f_K f_L) (PD n s_ f f_ f_A f_B f_C f_D f_E f_F f_G f_H f_I f_J f_K f_L) n _ (.inl w2) gt1) z)))
 ·
  obtain rfl:=aF h
  exact kP ⟨si,[rV 1 [(7,(vI (s_.length:Int)))]],[],[(2,(⟨[0,1,7,8],[],0,[],[],[]⟩,l0,.ret,PC s_ f f_ f_A f_B f_C f_D f_E f_F f_G f_H f_I f_J f_K f_L w2))],[]⟩ FN (fun z=>(aL Event.enc s_ (aI (eo (pl:=al 134) (Kp s_ f f_ f_A f_B f_C f_D f_E f_F f_G f_H f_I f_J f_K f_L) (M6 s_ f f_ f_A f_B f_C f_D f_E f_F f_G f_H f_I f_J f_K f_L) (PD n s_ f f_ f_A f_B f_C f_D f_E f_F f_G f_H f_I f_J f_K f_L) n _ (.inr w2) gt1) z)))

def IF:List (Nat×PT):=[]
theorem Kq:ax (al 110) IF (aj Tryz.prog 110)=true:=by kernel_rfl
theorem fQ (n:Nat) (s_:(List Event)) (f:Int) (f_:Int) (f_A:Int) (f_B:Int) (f_C:Int) (f_D:Int) (f_E:Bool) (f_F:Bool) (f_G:Int) (f_H:Int) (f_I:Int) (f_J:(List Int)) (f_K:(List Int)) (f_L:(List Int)) (r:Bool) (h:bd n s_ f f_ f_A f_B f_C f_D f_E f_F f_G f_H f_I f_J f_K f_L=some r):aw Tryz.prog 110 [.sl (s_.map Event.enc),.fn 111 [] [.fptr [.fptr [(vI f),(vI f_),(vI f_A),(vU f_B),(vU f_C),(vU f_D),.v (.bool f_E),.v (.bool f_F),(vI f_G),(vI f_H),(vI f_I),.sl (f_J.map eI),.sl (f_K.map eI),.sl (f_L.map eI)] 0] 0]] (ew (.v (.bool r))):=by
 unfold bd at h
 obtain ⟨y1,gy1,h⟩:=ab h
 obtain rfl:=aF h
 exact kP (nA IF [aZ 1 [] [(7,(vI y1))]]) Kq (fun z=>(aI (gE n s_ f f_ f_A f_B f_C f_D f_E f_F f_G f_H f_I f_J f_K f_L y1 gy1) z))

def uP:List (Nat×PT):=[(1,(ei [0,1,2,3,4,5,6,7,8,9,10,11,12,13,14,15,16,17,18,19,20,21,22,23,24,25,26,27,28,29,30,31,32,33,34,35,36,37,38,39,40,41,42,43,44,45]))]
theorem tp:ax (al 109) uP (aj Tryz.prog 109)=true:=by kernel_rfl
theorem v6 (n:Nat) (v:ai) (a:Int) (b:Int) (x:Event) (y:Event) (r:Bool) (h:fS n v a b x y=some r):aw Tryz.prog 109 [.fptr (ai.enc v) 0,(vI a),(vI b),.fptr (Event.enc x) 0,.fptr (Event.enc y) 0] (ew (.v (.bool r))):=by
 unfold fS at h
 rcases ao h with ⟨h1,h⟩ | ⟨h1,h⟩
 ·
  obtain rfl:=aF h
  exact kP (nA uP [rV 1 [(20,vT)]]) tp (fun z=>(aB h1 z))
 obtain ⟨y2,gy2,h⟩:=ab h
 have c120_:=fun (R:Prop) (z:R)=>(aB h1 (aI (b9 n x y2 gy2) z))
 rcases ao h with ⟨h3,h⟩ | ⟨h3,h⟩
 ·
  obtain rfl:=aF h
  exact kP (nA uP [aZ 1 [(20,vF),(27,vT)] [(24,.v (.bool y2))]]) tp (fun z=>(c120_ _ (aB h3 z)))
 obtain ⟨y4,gy4,h⟩:=ab h
 have c121_:=fun (R:Prop) (z:R)=>c120_ _ (aB h3 (aI (b9 n y y4 gy4) z))
 rcases ao h with ⟨h5,h⟩ | ⟨h5,h⟩
 ·
  obtain rfl:=aF h
  exact kP (nA uP [aZ 1 [(20,vF),(27,vF),(34,vT)] [(24,.v (.bool y2)),(31,.v (.bool y4))]]) tp (fun z=>(c121_ _ (aB h5 z)))
 rcases ko h with ⟨h6,h⟩ | ⟨z6,h7,h⟩
 ·
  cases h
 ·
  obtain ⟨x8,gx8,h⟩:=ab h
  have c122_:=fun (R:Prop) (z:R)=>c121_ _ (aB h5 (aI (congrArg (Db af.enc) h7) (aM eI gx8 z)))
  rcases ko h with ⟨h9,h⟩ | ⟨z9,h10,h⟩
  ·
   cases h
  ·
   obtain ⟨x11,gx11,h⟩:=ab h
   have c123_:=fun (R:Prop) (z:R)=>c122_ _ (aI (congrArg (Db af.enc) h10) (aM eI gx11 z))
   rcases ao h with ⟨h12,h⟩ | ⟨h12,h⟩
   ·
    obtain rfl:=aF h
    exact kP (nA uP [(1,⟨[],[],[(43,[(vI x8)]),(53,[(vI x11)])],[(20,vF),(27,vF),(34,vF),(38,.fptr (af.enc z6) 0),(48,.fptr (af.enc z9) 0),(56,vT)],[(24,.v (.bool y2)),(31,.v (.bool y4))],[],[],[],[]⟩)]) tp (fun z=>(c123_ _ (aB h12 z)))
   obtain ⟨h13,h⟩:=ey h
   obtain ⟨y14,gy14,h⟩:=ab h
   obtain rfl:=aF h
   exact kP (nA uP [(1,⟨[],[],[(43,[(vI x8)]),(53,[(vI x11)])],[(20,vF),(27,vF),(34,vF),(38,.fptr (af.enc z6) 0),(48,.fptr (af.enc z9) 0),(56,vF)],[(24,.v (.bool y2)),(31,.v (.bool y4))],[],[],[],[]⟩),(3,⟨[],[64],[],[(64,.sl (((v.all.drop ((ah .i64 a 1)).toNat).take ((b).toNat - ((ah .i64 a 1)).toNat)).map Event.enc))],[(66,.v (.bool y14))],[],[],[],[]⟩)]) tp (fun z=>(c123_ _ (aB h12 (aI (Dc Event.enc v.all (fun _=>rfl):cH 14 (v.all.map Event.enc)=true) (aI (Ic h13:(decide ((0:Int)≤(ah .i64 a 1))&&decide ((ah .i64 a 1)≤b)&&decide (b≤((((v.all.map Event.enc)).length:Nat):Int)))=true) (aI (LC Event.enc v.all _ _:AV.sl ((((v.all.map Event.enc)).drop ((ah .i64 a 1)).toNat).take ((b).toNat - ((ah .i64 a 1)).toNat))=AV.sl (((v.all.drop ((ah .i64 a 1)).toNat).take ((b).toNat - ((ah .i64 a 1)).toNat)).map Event.enc)) (aI (fQ n ((v.all.drop ((ah .i64 a 1)).toNat).take ((b).toNat - ((ah .i64 a 1)).toNat)) x.Hart x.At x.Kind x.Addr x.Load x.Store x.Aq x.Rl x.Pred x.Succ x.Pair x.dg.Addr x.dg.Data x.dg.Way y14 gy14) z)))))))

def uQ:List (Nat×PT):=[]
theorem tq:ax (al 112) uQ (aj Tryz.prog 112)=true:=by kernel_rfl
theorem v7 (n:Nat) (v:ai) (a:Int) (b:Int) (x:Event) (y:Event) (r:Bool) (h:fT n v a b x y=some r):aw Tryz.prog 112 [.fptr (ai.enc v) 0,(vI a),(vI b),.fptr (Event.enc x) 0,.fptr (Event.enc y) 0] (ew (.v (.bool r))):=by
 unfold fT at h
 rcases ao h with ⟨h1,h⟩ | ⟨h1,h⟩
 ·
  obtain ⟨y2,gy2,h⟩:=ab h
  have c124_:=fun (R:Prop) (z:R)=>(aB h1 (aI (b9 n y y2 gy2) z))
  rcases aA h with ⟨h3,h⟩ | ⟨h3,h⟩
  ·
   obtain rfl:=aF h
   exact kP (nA uQ [aZ 1 [(16,vT),(29,vF)] [(27,.v (.bool y2))]]) tq (fun z=>(c124_ _ (aB h3 z)))
  rcases ko h with ⟨h4,h⟩ | ⟨z4,h5,h⟩
  ·
   cases h
  ·
   obtain ⟨x6,gx6,h⟩:=ab h
   obtain rfl:=aF h
   exact kP (nA uQ [(1,⟨[],[],[(38,[(vI x6)])],[(16,vT),(29,vT),(33,.fptr (af.enc z4) 0)],[(27,.v (.bool y2))],[],[],[],[]⟩)]) tq (fun z=>(c124_ _ (aB h3 (aI (congrArg (Db af.enc) h5) (aM eI gx6 z)))))
 rcases aA h with ⟨h2,h⟩ | ⟨h2,h⟩
 ·
  obtain rfl:=aF h
  exact kP (nA uQ [rV 1 [(16,vF),(23,vF)]]) tq (fun z=>(aB h1 (aB h2 z)))
 obtain ⟨y3,gy3,h⟩:=ab h
 have c125_:=fun (R:Prop) (z:R)=>(aB h1 (aB h2 (aI (b9 n y y3 gy3) z)))
 rcases aA h with ⟨h4,h⟩ | ⟨h4,h⟩
 ·
  obtain rfl:=aF h
  exact kP (nA uQ [aZ 1 [(16,vF),(23,vT),(29,vF)] [(27,.v (.bool y3))]]) tq (fun z=>(c125_ _ (aB h4 z)))
 rcases ko h with ⟨h5,h⟩ | ⟨z5,h6,h⟩
 ·
  cases h
 ·
  obtain ⟨x7,gx7,h⟩:=ab h
  obtain rfl:=aF h
  exact kP (nA uQ [(1,⟨[],[],[(38,[(vI x7)])],[(16,vF),(23,vT),(29,vT),(33,.fptr (af.enc z5) 0)],[(27,.v (.bool y3))],[],[],[],[]⟩)]) tq (fun z=>(c125_ _ (aB h4 (aI (congrArg (Db af.enc) h6) (aM eI gx7 z)))))

def yu:List (Nat×PT):=[]
theorem wC:ax (al 135) yu (aj Tryz.prog 135)=true:=by kernel_rfl
theorem rf (n:Nat) (e:Event) (r:(List Int)) (h:iP n e=some r):aw Tryz.prog 135 [(bq Event.enc e)] (ew (.sl (r.map eI))):=by
 unfold iP at h
 obtain ⟨y1,gy1,h⟩:=ab h
 have c126_:=fun (R:Prop) (z:R)=>(aI (cF n e y1 gy1) z)
 rcases aA h with ⟨h2,h⟩ | ⟨h2,h⟩
 ·
  obtain ⟨y3,gy3,h⟩:=ab h
  have c128_:=fun (R:Prop) (z:R)=>c126_ _ (aB h2 (aI (b9 n e y3 gy3) z))
  rcases aA h with ⟨h4,h⟩ | ⟨h4,h⟩
  ·
   obtain rfl:=aF h
   exact kP (nA yu [aZ 1 [(4,vF)] [(4,.v (.bool y1))],aZ 3 [(9,vF)] [(9,.v (.bool y3))]]) wC (fun z=>(c128_ _ (aB h4 (ce.nil:ce .nilsl (.sl (([]:List Int).map eI))))))
  obtain rfl:=aF h
  exact kP (nA yu [aZ 1 [(4,vF)] [(4,.v (.bool y1))],aZ 3 [(9,vT)] [(9,.v (.bool y3))],(4,⟨[],[12],[],[],[],[],[],[],[]⟩)]) wC (fun z=>(c128_ _ (aB h4 (aI (rfl:cH 1 [[(vI 1)]]=true) (aI (rfl:aT [[(vI 1)]]=true) (aI (rfl:Nat.ble (1 * 8) 140737488355328=true) z))))))
 obtain ⟨y3,gy3,h⟩:=ab h
 have c127_:=fun (R:Prop) (z:R)=>c126_ _ (aB h2 (aI (rfl:cH 1 [[(vI 0)]]=true) (aI (rfl:aT [[(vI 0)]]=true) (aI (rfl:Nat.ble (1 * 8) 140737488355328=true) (aI (b9 n e y3 gy3) z)))))
 rcases aA h with ⟨h4,h⟩ | ⟨h4,h⟩
 ·
  obtain rfl:=aF h
  exact kP (nA yu [aZ 1 [(4,vT)] [(4,.v (.bool y1))],(2,⟨[],[7],[],[],[],[],[],[],[]⟩),aZ 3 [(9,vF)] [(9,.v (.bool y3))]]) wC (fun z=>(c127_ _ (aB h4 z)))
 obtain ⟨h5,h⟩:=ey h
 obtain rfl:=aF h
 exact kP (nA yu [aZ 1 [(4,vT)] [(4,.v (.bool y1))],(2,⟨[],[7],[],[],[],[],[],[],[]⟩),aZ 3 [(9,vT)] [(9,.v (.bool y3))],(4,⟨[],[12],[],[],[],[],[(12,(0,(([0]:List Int)++([1]:List Int)).map eI))],[],[]⟩)]) wC (fun z=>(c127_ _ (aB h4 (aI (rfl:cH 1 [[(vI 1)]]=true) (aI (rfl:aT [[(vI 1)]]=true) (aI (iZ h5:Nat.ble (((([0]:List Int).map eI).length + 1) * 8) 140737488355328=true) (aI (lz eI ([0]:List Int) ([1]:List Int)) z)))))))

def gP:List (Nat×PT):=[(8,(ei [0,1,2,3,4,5,6,7,8,9,10,11,12,13,14,15,16,17,18]))]
theorem FO:ax (al 114) gP (aj Tryz.prog 114)=true:=by kernel_rfl
noncomputable def M7:Code:=sub (aj Tryz.prog 114) [1,0,1,0,0]
noncomputable def PE:Code:=sub M7 [1,1,0,0,1,1,0,0]
theorem BF:ax (al 114) gP PE=true:=by kernel_rfl
def Kr (v:ai) (a:Int) (b:Int) (y2:(List Int)) (xa2:Int) (ya4:(List Int)) (sb:Int×Int):St:=ba 63 [(0,.fptr (ai.enc v) 0),(1,(vI a)),(2,(vI b)),(8,(vI xa2)),(19,.sl (y2.map eI)),(20,(vI (y2.length:Int))),(21,(vI sb.1)),(32,.sl (ya4.map eI)),(33,(vI (ya4.length:Int))),(34,(vI sb.2))] [] [] 0
def PF (v:ai) (a:Int) (b:Int) (y2:(List Int)) (xa2:Int) (ya4:(List Int)) (tt:Int):St:=ba 63 [(0,.fptr (ai.enc v) 0),(1,(vI a)),(2,(vI b)),(19,.sl (y2.map eI)),(20,(vI (y2.length:Int))),(21,(vI tt))] [] [] 0
def PG (v:ai) (a:Int) (b:Int) (y2:(List Int)) (xa2:Int) (ya4:(List Int)) (tt:Unit):St:=ba 63 [(6,vT)] [] [] 0
def M8 (v:ai) (a:Int) (b:Int) (y2:(List Int)) (xa2:Int) (ya4:(List Int)) (t0:(Int⊕Unit)):Ex×St:=match t0 with | .inl tt=>(.ex 2,PF v a b y2 xa2 ya4 tt) | .inr tt=>(.ret,PG v a b y2 xa2 ya4 tt)
theorem PH (n:Nat) (v:ai) (a:Int) (b:Int) (y2:(List Int)) (xa2:Int) (ya4:(List Int)):∀ sb r,eF n v a b y2 xa2 ya4 sb=some r→aQ Tryz.prog PE (Kr v a b y2 xa2 ya4 sb) (rk (Kr v a b y2 xa2 ya4) (M8 v a b y2 xa2 ya4) r):=by
 intro sb r h
 unfold eF at h
 rcases aA h with ⟨hb1,h⟩ | ⟨hb1,h⟩
 ·
  exact kQ h (nA gP [rV 5 [(35,vF)]]) [wK 4 [0,1,2,19,20,21] [] 0] BF (cn rfl i3) (fun z=>(aB hb1 z))
 obtain ⟨xb2,gxb2,h⟩:=ab h
 have c129_:=fun (R:Prop) (z:R)=>(aB hb1 (aM eI gxb2 z))
 let e130_:LR:=[rV 5 [(35,vT)],rR 6 [(36,[(vI xb2)])]]
 rcases ao h with ⟨hb3,h⟩ | ⟨hb3,h⟩
 ·
  obtain ⟨xb4,gxb4,h⟩:=ab h
  obtain ⟨xb5,gxb5,h⟩:=ab h
  have d0_:AV.v (.int .i64 (ah .i64 (nn .i64 2 xa2) xb2))=AV.v (.int .i64 0):=yQ hb3
  have c131_:=fun (R:Prop) (z:R)=>c129_ _ (aI d0_ (aM eI gxb4 (aI d0_ (aM eI gxb5 z))))
  rcases ao h with ⟨hb6,h⟩ | ⟨hb6,h⟩
  ·
   exact kQ h (nA gP (e130_++[(8,⟨[],[],[(49,[(vI xb4)]),(58,[(vI xb5)])],[(43,(vI 0)),(52,(vI 0)),(60,vT)],[],[],[],[],[]⟩)])) [wK 1 [6] [] 0] BF (cn rfl gF) (fun z=>(c131_ _ (aB hb6 z)))
  exact kQ h (nA gP (e130_++[(8,⟨[],[],[(49,[(vI xb4)]),(58,[(vI xb5)])],[(43,(vI 0)),(52,(vI 0)),(60,vF)],[],[],[],[],[]⟩)])) [wK 0 [0,1,2,8,19,20,21,32,33,34] [] 0] BF cR (fun z=>(c131_ _ (aB hb6 z)))
 rcases ao h with ⟨hb3,h⟩ | ⟨hb3,h⟩
 ·
  obtain ⟨xb4,gxb4,h⟩:=ab h
  obtain ⟨xb5,gxb5,h⟩:=ab h
  have d0_:AV.v (.int .i64 (ah .i64 (nn .i64 2 xa2) xb2))=AV.v (.int .i64 1):=yQ hb3
  have c132_:=fun (R:Prop) (z:R)=>c129_ _ (aI d0_ (aM eI gxb4 (aI d0_ (aM eI gxb5 z))))
  rcases ao h with ⟨hb6,h⟩ | ⟨hb6,h⟩
  ·
   exact kQ h (nA gP (e130_++[(8,⟨[],[],[(49,[(vI xb4)]),(58,[(vI xb5)])],[(43,(vI 1)),(52,(vI 1)),(60,vT)],[],[],[],[],[]⟩)])) [wK 1 [6] [] 0] BF (cn rfl gF) (fun z=>(c132_ _ (aB hb6 z)))
  exact kQ h (nA gP (e130_++[(8,⟨[],[],[(49,[(vI xb4)]),(58,[(vI xb5)])],[(43,(vI 1)),(52,(vI 1)),(60,vF)],[],[],[],[],[]⟩)])) [wK 0 [0,1,2,8,19,20,21,32,33,34] [] 0] BF cR (fun z=>(c132_ _ (aB hb6 z)))
 rcases ao h with ⟨hb3,h⟩ | ⟨hb3,h⟩
 ·
  obtain ⟨xb4,gxb4,h⟩:=ab h
  obtain ⟨xb5,gxb5,h⟩:=ab h
  have d0_:AV.v (.int .i64 (ah .i64 (nn .i64 2 xa2) xb2))=AV.v (.int .i64 2):=yQ hb3
  have c133_:=fun (R:Prop) (z:R)=>c129_ _ (aI d0_ (aM eI gxb4 (aI d0_ (aM eI gxb5 z))))
  rcases ao h with ⟨hb6,h⟩ | ⟨hb6,h⟩
  ·
   exact kQ h (nA gP (e130_++[(8,⟨[],[],[(49,[(vI xb4)]),(58,[(vI xb5)])],[(43,(vI 2)),(52,(vI 2)),(60,vT)],[],[],[],[],[]⟩)])) [wK 1 [6] [] 0] BF (cn rfl gF) (fun z=>(c133_ _ (aB hb6 z)))
  exact kQ h (nA gP (e130_++[(8,⟨[],[],[(49,[(vI xb4)]),(58,[(vI xb5)])],[(43,(vI 2)),(52,(vI 2)),(60,vF)],[],[],[],[],[]⟩)])) [wK 0 [0,1,2,8,19,20,21,32,33,34] [] 0] BF cR (fun z=>(c133_ _ (aB hb6 z)))
 rcases ao h with ⟨hb3,h⟩ | ⟨hb3,h⟩
 ·
  obtain ⟨xb4,gxb4,h⟩:=ab h
  obtain ⟨xb5,gxb5,h⟩:=ab h
  have d0_:AV.v (.int .i64 (ah .i64 (nn .i64 2 xa2) xb2))=AV.v (.int .i64 3):=yQ hb3
  have c134_:=fun (R:Prop) (z:R)=>c129_ _ (aI d0_ (aM eI gxb4 (aI d0_ (aM eI gxb5 z))))
  rcases ao h with ⟨hb6,h⟩ | ⟨hb6,h⟩
  ·
   exact kQ h (nA gP (e130_++[(8,⟨[],[],[(49,[(vI xb4)]),(58,[(vI xb5)])],[(43,(vI 3)),(52,(vI 3)),(60,vT)],[],[],[],[],[]⟩)])) [wK 1 [6] [] 0] BF (cn rfl gF) (fun z=>(c134_ _ (aB hb6 z)))
  exact kQ h (nA gP (e130_++[(8,⟨[],[],[(49,[(vI xb4)]),(58,[(vI xb5)])],[(43,(vI 3)),(52,(vI 3)),(60,vF)],[],[],[],[],[]⟩)])) [wK 0 [0,1,2,8,19,20,21,32,33,34] [] 0] BF cR (fun z=>(c134_ _ (aB hb6 z)))
 cases h

theorem M9:ax (al 114) gP M7=true:=by kernel_rfl
def Ks (v:ai) (a:Int) (b:Int) (y2:(List Int)) (sa:Int):St:=ba 63 [(0,.fptr (ai.enc v) 0),(1,(vI a)),(2,(vI b)),(19,.sl (y2.map eI)),(20,(vI (y2.length:Int))),(21,(vI sa))] [] [] 0
def PI (v:ai) (a:Int) (b:Int) (y2:(List Int)) (tt:Unit):St:=ba 63 [] [] [] 0
def PK (v:ai) (a:Int) (b:Int) (y2:(List Int)) (tt:Unit):St:=ba 63 [(6,vT)] [] [] 0
def M_ (v:ai) (a:Int) (b:Int) (y2:(List Int)) (t0:(Unit⊕Unit)):Ex×St:=match t0 with | .inl tt=>(.ex 0,PI v a b y2 tt) | .inr tt=>(.ret,PK v a b y2 tt)
theorem PL (n:Nat) (v:ai) (a:Int) (b:Int) (y2:(List Int)):∀ sa r,eG n v a b y2 sa=some r→aQ Tryz.prog M7 (Ks v a b y2 sa) (rk (Ks v a b y2) (M_ v a b y2) r):=by
 intro sa r h
 unfold eG at h
 rcases aA h with ⟨ha1,h⟩ | ⟨ha1,h⟩
 ·
  exact kQ h (nA gP [rV 2 [(22,vF)]]) [wK 2 [] [] 0] M9 (cn rfl i3) (fun z=>(aB ha1 z))
 obtain ⟨xa2,gxa2,h⟩:=ab h
 obtain ⟨xa3,gxa3,h⟩:=ab h
 obtain ⟨ya4,gya4,h⟩:=ab h
 obtain ⟨ta5,gta5,h⟩:=ab h
 have c135_:=fun (R:Prop) (z:R)=>(aB ha1 (aM eI gxa2 (aM Event.enc gxa3 (aI (rf n xa3 ya4 gya4) (aL eI ya4 z)))))
 rcases ta5 with wa6 | wa6
 ·
  exact kQ h ⟨gP,[rV 2 [(22,vT)],rR 3 [(23,[(vI xa2)])],(4,⟨[],[],[(30,(Event.enc xa3))],[(33,(vI (ya4.length:Int)))],[(32,.sl (ya4.map eI))],[],[],[],[]⟩)],[],[(5,(⟨[0,1,2,8,19,20,21,32,33,34],[],0,[],[],[]⟩,l0,(.ex 2),PF v a b y2 xa2 ya4 wa6))],[]⟩ [wK 0 [0,1,2,19,20,21] [] 0] M9 cR (fun z=>(c135_ _ (aI (eo (pl:=al 114) (Kr v a b y2 xa2 ya4) (M8 v a b y2 xa2 ya4) (PH n v a b y2 xa2 ya4) n _ (.inl wa6) gta5) z)))
 ·
  exact kQ h ⟨gP,[rV 2 [(22,vT)],rR 3 [(23,[(vI xa2)])],(4,⟨[],[],[(30,(Event.enc xa3))],[(33,(vI (ya4.length:Int)))],[(32,.sl (ya4.map eI))],[],[],[],[]⟩)],[],[(5,(⟨[0,1,2,8,19,20,21,32,33,34],[],0,[],[],[]⟩,l0,.ret,PG v a b y2 xa2 ya4 wa6))],[]⟩ [wK 1 [6] [] 0] M9 (cn rfl gF) (fun z=>(c135_ _ (aI (eo (pl:=al 114) (Kr v a b y2 xa2 ya4) (M8 v a b y2 xa2 ya4) (PH n v a b y2 xa2 ya4) n _ (.inr wa6) gta5) z)))

theorem qO (n:Nat) (v:ai) (a:Int) (b:Int) (r:Bool) (h:dN n v a b=some r):aw Tryz.prog 114 [.fptr (ai.enc v) 0,(vI a),(vI b)] (ew (.v (.bool r))):=by
 unfold dN at h
 obtain ⟨x1,gx1,h⟩:=ab h
 obtain ⟨y2,gy2,h⟩:=ab h
 obtain ⟨t3,gt3,h⟩:=ab h
 have c136_:=fun (R:Prop) (z:R)=>(aM Event.enc gx1 (aI (rf n x1 y2 gy2) (aL eI y2 z)))
 rcases t3 with w4 | w4
 ·
  obtain rfl:=aF h
  exact kP ⟨gP,[(1,⟨[],[],[(17,(Event.enc x1))],[(20,(vI (y2.length:Int)))],[(19,.sl (y2.map eI))],[],[],[],[]⟩)],[],[(2,(⟨[0,1,2,19,20,21],[],0,[],[],[]⟩,l0,(.ex 0),PI v a b y2 w4))],[]⟩ FO (fun z=>(c136_ _ (aI (eo (pl:=al 114) (Ks v a b y2) (M_ v a b y2) (PL n v a b y2) n _ (.inl w4) gt3) z)))
 ·
  obtain rfl:=aF h
  exact kP ⟨gP,[(1,⟨[],[],[(17,(Event.enc x1))],[(20,(vI (y2.length:Int)))],[(19,.sl (y2.map eI))],[],[],[],[]⟩)],[],[(2,(⟨[0,1,2,19,20,21],[],0,[],[],[]⟩,l0,.ret,PK v a b y2 w4))],[]⟩ FO (fun z=>(c136_ _ (aI (eo (pl:=al 114) (Ks v a b y2) (M_ v a b y2) (PL n v a b y2) n _ (.inr w4) gt3) z)))

def IG:List (Nat×PT):=[]
theorem Kt:ax (al 113) IG (aj Tryz.prog 113)=true:=by kernel_rfl
theorem v8 (n:Nat) (v:ai) (a:Int) (b:Int) (x:Event) (y:Event) (r:Bool) (h:fU n v a b x y=some r):aw Tryz.prog 113 [.fptr (ai.enc v) 0,(vI a),(vI b),.fptr (Event.enc x) 0,.fptr (Event.enc y) 0] (ew (.v (.bool r))):=by
 unfold fU at h
 obtain ⟨y1,gy1,h⟩:=ab h
 obtain rfl:=aF h
 exact kP (nA IG [aZ 1 [] [(14,.v (.bool y1))]]) Kt (fun z=>(aI (qO n v a b y1 gy1) z))

def IH:List (Nat×PT):=[]
theorem Ku:ax (al 115) IH (aj Tryz.prog 115)=true:=by kernel_rfl
theorem v9 (n:Nat) (v:ai) (a:Int) (b:Int) (x:Event) (y:Event) (r:Bool) (h:mC n v a b x y=some r):aw Tryz.prog 115 [.fptr (ai.enc v) 0,(vI a),(vI b),.fptr (Event.enc x) 0,.fptr (Event.enc y) 0] (ew (.v (.bool r))):=by
 unfold mC at h
 obtain rfl:=aF h
 exact kP (nA IH []) Ku (fun z=>z)

def II:List (Nat×PT):=[]
theorem Kv:ax (al 116) II (aj Tryz.prog 116)=true:=by kernel_rfl
theorem v_ (n:Nat) (v:ai) (a:Int) (b:Int) (x:Event) (y:Event) (r:Bool) (h:mD n v a b x y=some r):aw Tryz.prog 116 [.fptr (ai.enc v) 0,(vI a),(vI b),.fptr (Event.enc x) 0,.fptr (Event.enc y) 0] (ew (.v (.bool r))):=by
 unfold mD at h
 obtain rfl:=aF h
 exact kP (nA II []) Kv (fun z=>z)

def uR:List (Nat×PT):=[]
theorem tr:ax (al 117) uR (aj Tryz.prog 117)=true:=by kernel_rfl
theorem wa (n:Nat) (v:ai) (a:Int) (b:Int) (x:Event) (y:Event) (r:Bool) (h:fV n v a b x y=some r):aw Tryz.prog 117 [.fptr (ai.enc v) 0,(vI a),(vI b),.fptr (Event.enc x) 0,.fptr (Event.enc y) 0] (ew (.v (.bool r))):=by
 unfold fV at h
 rcases ao h with ⟨h1,h⟩ | ⟨h1,h⟩
 ·
  rcases ao h with ⟨h2,h⟩ | ⟨h2,h⟩
  ·
   obtain rfl:=aF h
   exact kP (nA uR [rV 1 [(15,vT),(26,vT)]]) tr (fun z=>(aB h1 (aB h2 z)))
  obtain rfl:=aF h
  exact kP (nA uR [rV 1 [(15,vT),(26,vF)]]) tr (fun z=>(aB h1 (aB h2 z)))
 rcases aA h with ⟨h2,h⟩ | ⟨h2,h⟩
 ·
  obtain rfl:=aF h
  exact kP (nA uR [rV 1 [(15,vF),(21,vF)]]) tr (fun z=>(aB h1 (aB h2 z)))
 have c137_:=fun (R:Prop) (z:R)=>(aB h1 (aB h2 z))
 rcases ao h with ⟨h3,h⟩ | ⟨h3,h⟩
 ·
  obtain rfl:=aF h
  exact kP (nA uR [rV 1 [(15,vF),(21,vT),(26,vT)]]) tr (fun z=>(c137_ _ (aB h3 z)))
 obtain rfl:=aF h
 exact kP (nA uR [rV 1 [(15,vF),(21,vT),(26,vF)]]) tr (fun z=>(c137_ _ (aB h3 z)))

def EB:List (Nat×PT):=[(1,(ei [0,1,2,3,4,5,6,7,8,9,10,11,12,13,14,15,16]))]
theorem FP:ax (al 118) EB (aj Tryz.prog 118)=true:=by kernel_rfl
theorem wb (n:Nat) (v:ai) (a:Int) (b:Int) (x:Event) (y:Event) (r:Bool) (h:iQ n v a b x y=some r):aw Tryz.prog 118 [.fptr (ai.enc v) 0,(vI a),(vI b),.fptr (Event.enc x) 0,.fptr (Event.enc y) 0] (ew (.v (.bool r))):=by
 unfold iQ at h
 rcases ao h with ⟨h1,h⟩ | ⟨h1,h⟩
 ·
  obtain rfl:=aF h
  exact kP (nA EB [rV 1 [(16,vT)]]) FP (fun z=>(aB h1 z))
 obtain rfl:=aF h
 exact kP (nA EB [rV 1 [(16,vF)]]) FP (fun z=>(aB h1 z))

def IJ:List (Nat×PT):=[]
theorem Kw:ax (al 141) IJ (aj Tryz.prog 141)=true:=by kernel_rfl
theorem mU (n:Nat) (x:Int) (r:Bool) (h:cmp_isNaN_int n x=some r):aw Tryz.prog 141 [(vI x)] (ew (.v (.bool r))):=by
 unfold cmp_isNaN_int at h
 obtain rfl:=aF h
 exact kP (nA IJ []) Kw (fun z=>z)

def BG:List (Nat×PT):=[]
theorem BH:ax (al 139) BG (aj Tryz.prog 139)=true:=by kernel_rfl
theorem uS (n:Nat) (x:Int) (y:Int) (r:Bool) (h:cmp_Less_int n x y=some r):aw Tryz.prog 139 [(vI x),(vI y)] (ew (.v (.bool r))):=by
 unfold cmp_Less_int at h
 obtain ⟨y1,gy1,h⟩:=ab h
 have c138_:=fun (R:Prop) (z:R)=>(aI (mU n x y1 gy1) z)
 rcases aA h with ⟨h2,h⟩ | ⟨h2,h⟩
 ·
  obtain rfl:=aF h
  exact kP (nA BG [aZ 1 [(7,vF)] [(6,.v (.bool y1))]]) BH (fun z=>(c138_ _ (aB h2 z)))
 obtain ⟨y3,gy3,h⟩:=ab h
 have c139_:=fun (R:Prop) (z:R)=>c138_ _ (aB h2 (aI (mU n y y3 gy3) z))
 rcases ao h with ⟨h4,h⟩ | ⟨h4,h⟩
 ·
  obtain rfl:=aF h
  exact kP (nA BG [aZ 1 [(7,vT),(12,vT)] [(6,.v (.bool y1)),(9,.v (.bool y3))]]) BH (fun z=>(c139_ _ (aB h4 z)))
 obtain rfl:=aF h
 exact kP (nA BG [aZ 1 [(7,vT),(12,vF)] [(6,.v (.bool y1)),(9,.v (.bool y3))]]) BH (fun z=>(c139_ _ (aB h4 z)))

def IK:List (Nat×PT):=[]
theorem Kx:ax (al 140) IK (aj Tryz.prog 140)=true:=by kernel_rfl
theorem kN (n:Nat) (x:Int) (r:Bool) (h:gS n x=some r):aw Tryz.prog 140 [(vI x)] (ew (.v (.bool r))):=by
 unfold gS at h
 obtain rfl:=aF h
 exact kP (nA IK []) Kx (fun z=>z)

def oM:List (Nat×PT):=[]
theorem wD:ax (al 136) oM (aj Tryz.prog 136)=true:=by kernel_rfl
noncomputable def PM:Code:=sub (aj Tryz.prog 136) [1,1,1,0,0,0]
theorem Na:ax (al 136) oM PM=true:=by kernel_rfl
def Nb (x:(List Int)) (target:Int) (sa:Int×Int):St:=ba 54 [(0,.sl (x.map eI)),(1,(vI target)),(6,(vI (x.length:Int))),(7,(vI sa.1)),(8,(vI sa.2))] [] [] 0
def IL (x:(List Int)) (target:Int) (tt:Int):St:=ba 54 [(0,.sl (x.map eI)),(1,(vI target)),(6,(vI (x.length:Int))),(7,(vI tt))] [] [] 0
def PN (x:(List Int)) (target:Int) (tt:Int):Ex×St:=(.ex 0,IL x target tt)
theorem Tk (n:Nat) (x:(List Int)) (target:Int):∀ sa r,bE n x target sa=some r→aQ Tryz.prog PM (Nb x target sa) (rk (Nb x target) (PN x target) r):=by
 intro sa r h
 unfold bE at h
 rcases aA h with ⟨ha1,h⟩ | ⟨ha1,h⟩
 ·
  exact kQ h (nA oM [rV 3 [(15,vF)]]) [wK 2 [0,1,6,7] [] 0] Na (cn rfl i3) (fun z=>(aB ha1 z))
 obtain ⟨xa2,gxa2,h⟩:=ab h
 obtain ⟨ya3,gya3,h⟩:=ab h
 have c140_:=fun (R:Prop) (z:R)=>(aB ha1 (aM eI gxa2 (aI (uS n xa2 target ya3 gya3) z)))
 rcases ao h with ⟨ha4,h⟩ | ⟨ha4,h⟩
 ·
  exact kQ h (nA oM [rV 3 [(15,vT)],(5,⟨[],[],[(24,[(vI xa2)])],[(27,vT)],[(27,.v (.bool ya3))],[],[],[],[]⟩)]) [wK 0 [0,1,6,7,8] [] 0] Na cR (fun z=>(c140_ _ (aB ha4 z)))
 exact kQ h (nA oM [rV 3 [(15,vT)],(5,⟨[],[],[(24,[(vI xa2)])],[(27,vF)],[(27,.v (.bool ya3))],[],[],[],[]⟩)]) [wK 0 [0,1,6,7,8] [] 0] Na cR (fun z=>(c140_ _ (aB ha4 z)))

theorem jF (n:Nat) (x:(List Int)) (target:Int) (r:Int×Bool) (h:bQ n x target=some r):aw Tryz.prog 136 [.sl (x.map eI),(vI target)] (ew (.tup [(vI r.1),.v (.bool r.2)])):=by
 unfold bQ at h
 obtain ⟨t1,gt1,h⟩:=ab h
 have c141_:=fun (R:Prop) (z:R)=>(aL eI x (aI (eo (pl:=al 136) (Nb x target) (PN x target) (Tk n x target) n _ t1 gt1) z))
 let e142_:LR:=[rV 1 [(11,(vI (x.length:Int)))]]
 rcases aA h with ⟨h2,h⟩ | ⟨h2,h⟩
 ·
  obtain rfl:=aF h
  exact kP ⟨oM,(e142_++[rV 8 [(35,vF)]]),[],[(3,(⟨[0,1,6,7,8],[],0,[],[],[]⟩,l0,(.ex 0),IL x target t1))],[]⟩ wD (fun z=>(c141_ _ (aB h2 z)))
 obtain ⟨x3,gx3,h⟩:=ab h
 have c143_:=fun (R:Prop) (z:R)=>c141_ _ (aB h2 (aM eI gx3 z))
 rcases ao h with ⟨h4,h⟩ | ⟨h4,h⟩
 ·
  obtain rfl:=aF h
  exact kP ⟨oM,(e142_++[(8,⟨[],[],[(38,[(vI x3)])],[(35,vT),(42,vT)],[],[],[],[],[]⟩)]),[],[(3,(⟨[0,1,6,7,8],[],0,[],[],[]⟩,l0,(.ex 0),IL x target t1))],[]⟩ wD (fun z=>(c143_ _ (aB h4 z)))
 obtain ⟨y5,gy5,h⟩:=ab h
 have c144_:=fun (R:Prop) (z:R)=>c143_ _ (aB h4 (aM eI gx3 (aI (kN n x3 y5 gy5) z)))
 rcases aA h with ⟨h6,h⟩ | ⟨h6,h⟩
 ·
  obtain rfl:=aF h
  exact kP ⟨oM,(e142_++[(8,⟨[],[],[(38,[(vI x3)]),(45,[(vI x3)])],[(35,vT),(42,vF),(48,vF)],[(47,.v (.bool y5))],[],[],[],[]⟩)]),[],[(3,(⟨[0,1,6,7,8],[],0,[],[],[]⟩,l0,(.ex 0),IL x target t1))],[]⟩ wD (fun z=>(c144_ _ (aB h6 z)))
 obtain ⟨y7,gy7,h⟩:=ab h
 obtain rfl:=aF h
 exact kP ⟨oM,(e142_++[(8,⟨[],[],[(38,[(vI x3)]),(45,[(vI x3)])],[(35,vT),(42,vF),(48,vT)],[(47,.v (.bool y5)),(50,.v (.bool y7))],[],[],[],[]⟩)]),[],[(3,(⟨[0,1,6,7,8],[],0,[],[],[]⟩,l0,(.ex 0),IL x target t1))],[]⟩ wD (fun z=>(c144_ _ (aB h6 (aI (kN n target y7 gy7) z))))

def IM:List (Nat×PT):=[]
theorem Ky:ax (al 120) IM (aj Tryz.prog 120)=true:=by kernel_rfl
theorem mo (n:Nat) (l:(List Int)) (at_:Int) (r:Bool) (h:lO n l at_=some r):aw Tryz.prog 120 [.sl (l.map eI),(vI at_)] (ew (.v (.bool r))):=by
 unfold lO at h
 obtain ⟨y1,gy1,h⟩:=ab h
 obtain rfl:=aF h
 exact kP (nA IM [aZ 1 [] [(10,.tup [(vI y1.1),.v (.bool y1.2)])]]) Ky (fun z=>(aI (jF n l at_ y1 gy1) z))

def IN:List (Nat×PT):=[(1,(ei [0,1,2,3,4,5,6,7,8,9,10]))]
theorem Kz:ax (al 119) IN (aj Tryz.prog 119)=true:=by kernel_rfl
theorem wc (n:Nat) (v:ai) (a:Int) (b:Int) (x:Event) (y:Event) (r:Bool) (h:fW n v a b x y=some r):aw Tryz.prog 119 [.fptr (ai.enc v) 0,(vI a),(vI b),.fptr (Event.enc x) 0,.fptr (Event.enc y) 0] (ew (.v (.bool r))):=by
 unfold fW at h
 obtain ⟨y1,gy1,h⟩:=ab h
 obtain rfl:=aF h
 exact kP (nA IN [aZ 1 [] [(20,.v (.bool y1))]]) Kz (fun z=>(aI (mo n y.dg.Addr x.At y1 gy1) z))

def IP:List (Nat×PT):=[(1,(ei [0,1,2,3,4,5,6,7,8,9,10]))]
theorem KA:ax (al 121) IP (aj Tryz.prog 121)=true:=by kernel_rfl
theorem uT (n:Nat) (v:ai) (a:Int) (b:Int) (x:Event) (y:Event) (r:Bool) (h:eY n v a b x y=some r):aw Tryz.prog 121 [.fptr (ai.enc v) 0,(vI a),(vI b),.fptr (Event.enc x) 0,.fptr (Event.enc y) 0] (ew (.v (.bool r))):=by
 unfold eY at h
 obtain ⟨y1,gy1,h⟩:=ab h
 obtain rfl:=aF h
 exact kP (nA IP [aZ 1 [] [(20,.v (.bool y1))]]) KA (fun z=>(aI (mo n y.dg.Data x.At y1 gy1) z))

def EC:List (Nat×PT):=[(1,(ei [0,1,2,3,4,5,6,7,8,9,10,11,12,13,14,15,16]))]
theorem FR:ax (al 122) EC (aj Tryz.prog 122)=true:=by kernel_rfl
theorem uU (n:Nat) (v:ai) (a:Int) (b:Int) (x:Event) (y:Event) (r:Bool) (h:eZ n v a b x y=some r):aw Tryz.prog 122 [.fptr (ai.enc v) 0,(vI a),(vI b),.fptr (Event.enc x) 0,.fptr (Event.enc y) 0] (ew (.v (.bool r))):=by
 unfold eZ at h
 obtain ⟨y1,gy1,h⟩:=ab h
 have c145_:=fun (R:Prop) (z:R)=>(aI (cF n y y1 gy1) z)
 rcases aA h with ⟨h2,h⟩ | ⟨h2,h⟩
 ·
  obtain rfl:=aF h
  exact kP (nA EC [aZ 1 [(15,vF)] [(14,.v (.bool y1))]]) FR (fun z=>(c145_ _ (aB h2 z)))
 obtain ⟨y3,gy3,h⟩:=ab h
 obtain rfl:=aF h
 exact kP (nA EC [aZ 1 [(15,vT)] [(14,.v (.bool y1)),(25,.v (.bool y3))]]) FR (fun z=>(c145_ _ (aB h2 (aI (mo n y.dg.Way x.At y3 gy3) z))))

def uV:List (Nat×PT):=[(2,(ei [0,1,2,3,4,5,6,7,8,9,10,11,12,13,14,15,16,17,18,19,20,21,22,23,24,25,26,27,28,29,30,31,32,33,34,35,36,37,38,39,40,41,42,43,44,45,46]))]
theorem tu:ax (al 123) uV (aj Tryz.prog 123)=true:=by kernel_rfl
theorem uW (n:Nat) (v:ai) (a:Int) (b:Int) (x:Event) (y:Event) (r:Bool) (h:e_ n v a b x y=some r):aw Tryz.prog 123 [.fptr (ai.enc v) 0,(vI a),(vI b),.fptr (Event.enc x) 0,.fptr (Event.enc y) 0] (ew (.v (.bool r))):=by
 unfold e_ at h
 rcases ko h with ⟨h1,h⟩ | ⟨z1,h2,h⟩
 ·
  cases h
 ·
  obtain ⟨x3,gx3,h⟩:=ab h
  obtain ⟨y4,gy4,h⟩:=ab h
  have c146_:=fun (R:Prop) (z:R)=>(aI (congrArg (Db af.enc) h2) (aM eI gx3 (aI (b9 n y y4 gy4) z)))
  let e147_:LR:=[(1,⟨[],[],[(20,[(vI x3)])],[(15,.fptr (af.enc z1) 0)],[],[],[],[],[]⟩)]
  rcases aA h with ⟨h5,h⟩ | ⟨h5,h⟩
  ·
   obtain rfl:=aF h
   exact kP (nA uV (e147_++[aZ 2 [(26,vF)] [(25,.v (.bool y4))]])) tu (fun z=>(c146_ _ (aB h5 z)))
  rcases aA h with ⟨h6,h⟩ | ⟨h6,h⟩
  ·
   obtain rfl:=aF h
   exact kP (nA uV (e147_++[aZ 2 [(26,vT),(31,vF)] [(25,.v (.bool y4))]])) tu (fun z=>(c146_ _ (aB h5 (aB h6 z))))
  have c148_:=fun (R:Prop) (z:R)=>c146_ _ (aB h5 (aB h6 z))
  rcases aA h with ⟨h7,h⟩ | ⟨h7,h⟩
  ·
   obtain rfl:=aF h
   exact kP (nA uV (e147_++[aZ 2 [(26,vT),(31,vT),(36,vF)] [(25,.v (.bool y4))]])) tu (fun z=>(c148_ _ (aB h7 z)))
  obtain ⟨x8,gx8,h⟩:=ab h
  obtain ⟨y9,gy9,h⟩:=ab h
  have c149_:=fun (R:Prop) (z:R)=>c148_ _ (aB h7 (aM Event.enc gx8 (aI (mo n x8.dg.Addr x.At y9 gy9) z)))
  rcases ao h with ⟨h10,h⟩ | ⟨h10,h⟩
  ·
   obtain rfl:=aF h
   exact kP (nA uV (e147_++[(2,⟨[],[],[(42,(Event.enc x8))],[(26,vT),(31,vT),(36,vT),(51,vT)],[(25,.v (.bool y4)),(50,.v (.bool y9))],[],[],[],[]⟩)])) tu (fun z=>(c149_ _ (aB h10 z)))
  obtain ⟨y11,gy11,h⟩:=ab h
  obtain rfl:=aF h
  exact kP (nA uV (e147_++[(2,⟨[],[],[(42,(Event.enc x8)),(57,(Event.enc x8))],[(26,vT),(31,vT),(36,vT),(51,vF)],[(25,.v (.bool y4)),(50,.v (.bool y9)),(65,.v (.bool y11))],[],[],[],[]⟩)])) tu (fun z=>(c149_ _ (aB h10 (aM Event.enc gx8 (aI (mo n x8.dg.Data x.At y11 gy11) z)))))

def ED:List (Nat×PT):=[]
theorem FS:ax (al 124) ED (aj Tryz.prog 124)=true:=by kernel_rfl
theorem uX (n:Nat) (v:ai) (a:Int) (b:Int) (x:Event) (y:Event) (r:Bool) (h:fc n v a b x y=some r):aw Tryz.prog 124 [.fptr (ai.enc v) 0,(vI a),(vI b),.fptr (Event.enc x) 0,.fptr (Event.enc y) 0] (ew (.v (.bool r))):=by
 unfold fc at h
 obtain ⟨y1,gy1,h⟩:=ab h
 have c150_:=fun (R:Prop) (z:R)=>(aI (cF n y y1 gy1) z)
 rcases aA h with ⟨h2,h⟩ | ⟨h2,h⟩
 ·
  obtain rfl:=aF h
  exact kP (nA ED [aZ 1 [(15,vF)] [(14,.v (.bool y1))]]) FS (fun z=>(c150_ _ (aB h2 z)))
 obtain ⟨x3,gx3,h⟩:=ab h
 obtain rfl:=aF h
 exact kP (nA ED [(1,⟨[],[],[(21,[(vI x3)])],[(15,vT)],[(14,.v (.bool y1))],[],[],[],[]⟩)]) FS (fun z=>(c150_ _ (aB h2 (aM eI gx3 z))))

def et:List (Nat×PT):=[(6,(ei [0,1,2,3,4,5,6,7,8,9,10,11,12,13,14,15,16]))]
theorem EE:ax (al 83) et (aj Tryz.prog 83)=true:=by kernel_rfl
noncomputable def PO:Code:=sub (aj Tryz.prog 83) [1,1,0,1,0,0]
theorem j3:ax (al 83) et PO=true:=by kernel_rfl
def KB (v:ai) (a:Int) (b:Int) (sa:Int):St:=ba 39 [(0,.fptr (ai.enc v) 0),(1,(vI a)),(2,(vI b)),(14,.agg [.fn 108 [] [],.fn 109 [] [],.fn 112 [] [],.fn 113 [] [],.fn 115 [] [],.fn 116 [] [],.fn 117 [] [],.fn 118 [] [],.fn 119 [] [],.fn 121 [] [],.fn 122 [] [],.fn 123 [] [],.fn 124 [] []]),(15,(vI sa))] [] [] 0
def PP (v:ai) (a:Int) (b:Int) (tt:Unit):St:=ba 39 [] [] [] 0
def PR (v:ai) (a:Int) (b:Int) (tt:Int):St:=ba 39 [(6,(vI tt))] [] [] 0
def Nc (v:ai) (a:Int) (b:Int) (t0:(Unit⊕Int)):Ex×St:=match t0 with | .inl tt=>(.ex 0,PP v a b tt) | .inr tt=>(.ret,PR v a b tt)
theorem PS (n:Nat) (v:ai) (a:Int) (b:Int):∀ sa r,fH n v a b sa=some r→aQ Tryz.prog PO (KB v a b sa) (rk (KB v a b) (Nc v a b) r):=by
 intro sa r h
 unfold fH at h
 rcases aA h with ⟨ha1,h⟩ | ⟨ha1,h⟩
 ·
  exact kQ h (nA et [rV 4 [(16,vF)]]) [wK 2 [] [] 0] j3 (cn rfl i3) (fun z=>(aB ha1 z))
 rcases ao h with ⟨ha2,h⟩ | ⟨ha2,h⟩
 ·
  obtain ⟨xa3,gxa3,h⟩:=ab h
  obtain ⟨xa4,gxa4,h⟩:=ab h
  obtain ⟨ya5,gya5,h⟩:=ab h
  have c151_:=fun (R:Prop) (z:R)=>(aB ha1 (aI ((ce.ofEq (yQ ha2)):ce ((vI sa)) ((vI 0))) (aM Event.enc gxa3 (aM Event.enc gxa4 (aI (v5 n v a b xa3 xa4 ya5 gya5) z)))))
  rcases ao h with ⟨ha6,h⟩ | ⟨ha6,h⟩
  ·
   exact kQ h ⟨et,[rV 4 [(16,vT)],(6,⟨[],[],[(28,(Event.enc xa3)),(34,(Event.enc xa4))],[(35,vT)],[(35,.v (.bool ya5))],[],[],[],[]⟩)],[(4,⟨[(15,(vI 0))],[],[]⟩)],[],[]⟩ [wK 1 [6] [] 0] j3 (cn rfl gF) (fun z=>(c151_ _ (aB ha6 z)))
  exact kQ h ⟨et,[rV 4 [(16,vT)],(6,⟨[],[],[(28,(Event.enc xa3)),(34,(Event.enc xa4))],[(35,vF)],[(35,.v (.bool ya5))],[],[],[],[]⟩)],[(4,⟨[(15,(vI 0))],[],[]⟩)],[],[]⟩ [wK 0 [0,1,2,14,15] [] 0] j3 cR (fun z=>(c151_ _ (aB ha6 z)))
 rcases ao h with ⟨ha2,h⟩ | ⟨ha2,h⟩
 ·
  obtain ⟨xa3,gxa3,h⟩:=ab h
  obtain ⟨xa4,gxa4,h⟩:=ab h
  obtain ⟨ya5,gya5,h⟩:=ab h
  have c152_:=fun (R:Prop) (z:R)=>(aB ha1 (aI ((ce.ofEq (yQ ha2)):ce ((vI sa)) ((vI 1))) (aM Event.enc gxa3 (aM Event.enc gxa4 (aI (v6 n v a b xa3 xa4 ya5 gya5) z)))))
  rcases ao h with ⟨ha6,h⟩ | ⟨ha6,h⟩
  ·
   exact kQ h ⟨et,[rV 4 [(16,vT)],(6,⟨[],[],[(28,(Event.enc xa3)),(34,(Event.enc xa4))],[(35,vT)],[(35,.v (.bool ya5))],[],[],[],[]⟩)],[(4,⟨[(15,(vI 1))],[],[]⟩)],[],[]⟩ [wK 1 [6] [] 0] j3 (cn rfl gF) (fun z=>(c152_ _ (aB ha6 z)))
  exact kQ h ⟨et,[rV 4 [(16,vT)],(6,⟨[],[],[(28,(Event.enc xa3)),(34,(Event.enc xa4))],[(35,vF)],[(35,.v (.bool ya5))],[],[],[],[]⟩)],[(4,⟨[(15,(vI 1))],[],[]⟩)],[],[]⟩ [wK 0 [0,1,2,14,15] [] 0] j3 cR (fun z=>(c152_ _ (aB ha6 z)))
 rcases ao h with ⟨ha2,h⟩ | ⟨ha2,h⟩
 ·
  obtain ⟨xa3,gxa3,h⟩:=ab h
  obtain ⟨xa4,gxa4,h⟩:=ab h
  obtain ⟨ya5,gya5,h⟩:=ab h
  have c153_:=fun (R:Prop) (z:R)=>(aB ha1 (aI ((ce.ofEq (yQ ha2)):ce ((vI sa)) ((vI 2))) (aM Event.enc gxa3 (aM Event.enc gxa4 (aI (v7 n v a b xa3 xa4 ya5 gya5) z)))))
  rcases ao h with ⟨ha6,h⟩ | ⟨ha6,h⟩
  ·
   exact kQ h ⟨et,[rV 4 [(16,vT)],(6,⟨[],[],[(28,(Event.enc xa3)),(34,(Event.enc xa4))],[(35,vT)],[(35,.v (.bool ya5))],[],[],[],[]⟩)],[(4,⟨[(15,(vI 2))],[],[]⟩)],[],[]⟩ [wK 1 [6] [] 0] j3 (cn rfl gF) (fun z=>(c153_ _ (aB ha6 z)))
  exact kQ h ⟨et,[rV 4 [(16,vT)],(6,⟨[],[],[(28,(Event.enc xa3)),(34,(Event.enc xa4))],[(35,vF)],[(35,.v (.bool ya5))],[],[],[],[]⟩)],[(4,⟨[(15,(vI 2))],[],[]⟩)],[],[]⟩ [wK 0 [0,1,2,14,15] [] 0] j3 cR (fun z=>(c153_ _ (aB ha6 z)))
 rcases ao h with ⟨ha2,h⟩ | ⟨ha2,h⟩
 ·
  obtain ⟨xa3,gxa3,h⟩:=ab h
  obtain ⟨xa4,gxa4,h⟩:=ab h
  obtain ⟨ya5,gya5,h⟩:=ab h
  have c154_:=fun (R:Prop) (z:R)=>(aB ha1 (aI ((ce.ofEq (yQ ha2)):ce ((vI sa)) ((vI 3))) (aM Event.enc gxa3 (aM Event.enc gxa4 (aI (v8 n v a b xa3 xa4 ya5 gya5) z)))))
  rcases ao h with ⟨ha6,h⟩ | ⟨ha6,h⟩
  ·
   exact kQ h ⟨et,[rV 4 [(16,vT)],(6,⟨[],[],[(28,(Event.enc xa3)),(34,(Event.enc xa4))],[(35,vT)],[(35,.v (.bool ya5))],[],[],[],[]⟩)],[(4,⟨[(15,(vI 3))],[],[]⟩)],[],[]⟩ [wK 1 [6] [] 0] j3 (cn rfl gF) (fun z=>(c154_ _ (aB ha6 z)))
  exact kQ h ⟨et,[rV 4 [(16,vT)],(6,⟨[],[],[(28,(Event.enc xa3)),(34,(Event.enc xa4))],[(35,vF)],[(35,.v (.bool ya5))],[],[],[],[]⟩)],[(4,⟨[(15,(vI 3))],[],[]⟩)],[],[]⟩ [wK 0 [0,1,2,14,15] [] 0] j3 cR (fun z=>(c154_ _ (aB ha6 z)))
 rcases ao h with ⟨ha2,h⟩ | ⟨ha2,h⟩
 ·
  obtain ⟨xa3,gxa3,h⟩:=ab h
  obtain ⟨xa4,gxa4,h⟩:=ab h
  obtain ⟨ya5,gya5,h⟩:=ab h
  have c155_:=fun (R:Prop) (z:R)=>(aB ha1 (aI ((ce.ofEq (yQ ha2)):ce ((vI sa)) ((vI 4))) (aM Event.enc gxa3 (aM Event.enc gxa4 (aI (v9 n v a b xa3 xa4 ya5 gya5) z)))))
  rcases ao h with ⟨ha6,h⟩ | ⟨ha6,h⟩
  ·
   exact kQ h ⟨et,[rV 4 [(16,vT)],(6,⟨[],[],[(28,(Event.enc xa3)),(34,(Event.enc xa4))],[(35,vT)],[(35,.v (.bool ya5))],[],[],[],[]⟩)],[(4,⟨[(15,(vI 4))],[],[]⟩)],[],[]⟩ [wK 1 [6] [] 0] j3 (cn rfl gF) (fun z=>(c155_ _ (aB ha6 z)))
  exact kQ h ⟨et,[rV 4 [(16,vT)],(6,⟨[],[],[(28,(Event.enc xa3)),(34,(Event.enc xa4))],[(35,vF)],[(35,.v (.bool ya5))],[],[],[],[]⟩)],[(4,⟨[(15,(vI 4))],[],[]⟩)],[],[]⟩ [wK 0 [0,1,2,14,15] [] 0] j3 cR (fun z=>(c155_ _ (aB ha6 z)))
 rcases ao h with ⟨ha2,h⟩ | ⟨ha2,h⟩
 ·
  obtain ⟨xa3,gxa3,h⟩:=ab h
  obtain ⟨xa4,gxa4,h⟩:=ab h
  obtain ⟨ya5,gya5,h⟩:=ab h
  have c156_:=fun (R:Prop) (z:R)=>(aB ha1 (aI ((ce.ofEq (yQ ha2)):ce ((vI sa)) ((vI 5))) (aM Event.enc gxa3 (aM Event.enc gxa4 (aI (v_ n v a b xa3 xa4 ya5 gya5) z)))))
  rcases ao h with ⟨ha6,h⟩ | ⟨ha6,h⟩
  ·
   exact kQ h ⟨et,[rV 4 [(16,vT)],(6,⟨[],[],[(28,(Event.enc xa3)),(34,(Event.enc xa4))],[(35,vT)],[(35,.v (.bool ya5))],[],[],[],[]⟩)],[(4,⟨[(15,(vI 5))],[],[]⟩)],[],[]⟩ [wK 1 [6] [] 0] j3 (cn rfl gF) (fun z=>(c156_ _ (aB ha6 z)))
  exact kQ h ⟨et,[rV 4 [(16,vT)],(6,⟨[],[],[(28,(Event.enc xa3)),(34,(Event.enc xa4))],[(35,vF)],[(35,.v (.bool ya5))],[],[],[],[]⟩)],[(4,⟨[(15,(vI 5))],[],[]⟩)],[],[]⟩ [wK 0 [0,1,2,14,15] [] 0] j3 cR (fun z=>(c156_ _ (aB ha6 z)))
 rcases ao h with ⟨ha2,h⟩ | ⟨ha2,h⟩
 ·
  obtain ⟨xa3,gxa3,h⟩:=ab h
  obtain ⟨xa4,gxa4,h⟩:=ab h
  obtain ⟨ya5,gya5,h⟩:=ab h
  have c157_:=fun (R:Prop) (z:R)=>(aB ha1 (aI ((ce.ofEq (yQ ha2)):ce ((vI sa)) ((vI 6))) (aM Event.enc gxa3 (aM Event.enc gxa4 (aI (wa n v a b xa3 xa4 ya5 gya5) z)))))
  rcases ao h with ⟨ha6,h⟩ | ⟨ha6,h⟩
  ·
   exact kQ h ⟨et,[rV 4 [(16,vT)],(6,⟨[],[],[(28,(Event.enc xa3)),(34,(Event.enc xa4))],[(35,vT)],[(35,.v (.bool ya5))],[],[],[],[]⟩)],[(4,⟨[(15,(vI 6))],[],[]⟩)],[],[]⟩ [wK 1 [6] [] 0] j3 (cn rfl gF) (fun z=>(c157_ _ (aB ha6 z)))
  exact kQ h ⟨et,[rV 4 [(16,vT)],(6,⟨[],[],[(28,(Event.enc xa3)),(34,(Event.enc xa4))],[(35,vF)],[(35,.v (.bool ya5))],[],[],[],[]⟩)],[(4,⟨[(15,(vI 6))],[],[]⟩)],[],[]⟩ [wK 0 [0,1,2,14,15] [] 0] j3 cR (fun z=>(c157_ _ (aB ha6 z)))
 rcases ao h with ⟨ha2,h⟩ | ⟨ha2,h⟩
 ·
  obtain ⟨xa3,gxa3,h⟩:=ab h
  obtain ⟨xa4,gxa4,h⟩:=ab h
  obtain ⟨ya5,gya5,h⟩:=ab h
  have c158_:=fun (R:Prop) (z:R)=>(aB ha1 (aI ((ce.ofEq (yQ ha2)):ce ((vI sa)) ((vI 7))) (aM Event.enc gxa3 (aM Event.enc gxa4 (aI (wb n v a b xa3 xa4 ya5 gya5) z)))))
  rcases ao h with ⟨ha6,h⟩ | ⟨ha6,h⟩
  ·
   exact kQ h ⟨et,[rV 4 [(16,vT)],(6,⟨[],[],[(28,(Event.enc xa3)),(34,(Event.enc xa4))],[(35,vT)],[(35,.v (.bool ya5))],[],[],[],[]⟩)],[(4,⟨[(15,(vI 7))],[],[]⟩)],[],[]⟩ [wK 1 [6] [] 0] j3 (cn rfl gF) (fun z=>(c158_ _ (aB ha6 z)))
  exact kQ h ⟨et,[rV 4 [(16,vT)],(6,⟨[],[],[(28,(Event.enc xa3)),(34,(Event.enc xa4))],[(35,vF)],[(35,.v (.bool ya5))],[],[],[],[]⟩)],[(4,⟨[(15,(vI 7))],[],[]⟩)],[],[]⟩ [wK 0 [0,1,2,14,15] [] 0] j3 cR (fun z=>(c158_ _ (aB ha6 z)))
 rcases ao h with ⟨ha2,h⟩ | ⟨ha2,h⟩
 ·
  obtain ⟨xa3,gxa3,h⟩:=ab h
  obtain ⟨xa4,gxa4,h⟩:=ab h
  obtain ⟨ya5,gya5,h⟩:=ab h
  have c159_:=fun (R:Prop) (z:R)=>(aB ha1 (aI ((ce.ofEq (yQ ha2)):ce ((vI sa)) ((vI 8))) (aM Event.enc gxa3 (aM Event.enc gxa4 (aI (wc n v a b xa3 xa4 ya5 gya5) z)))))
  rcases ao h with ⟨ha6,h⟩ | ⟨ha6,h⟩
  ·
   exact kQ h ⟨et,[rV 4 [(16,vT)],(6,⟨[],[],[(28,(Event.enc xa3)),(34,(Event.enc xa4))],[(35,vT)],[(35,.v (.bool ya5))],[],[],[],[]⟩)],[(4,⟨[(15,(vI 8))],[],[]⟩)],[],[]⟩ [wK 1 [6] [] 0] j3 (cn rfl gF) (fun z=>(c159_ _ (aB ha6 z)))
  exact kQ h ⟨et,[rV 4 [(16,vT)],(6,⟨[],[],[(28,(Event.enc xa3)),(34,(Event.enc xa4))],[(35,vF)],[(35,.v (.bool ya5))],[],[],[],[]⟩)],[(4,⟨[(15,(vI 8))],[],[]⟩)],[],[]⟩ [wK 0 [0,1,2,14,15] [] 0] j3 cR (fun z=>(c159_ _ (aB ha6 z)))
 rcases ao h with ⟨ha2,h⟩ | ⟨ha2,h⟩
 ·
  obtain ⟨xa3,gxa3,h⟩:=ab h
  obtain ⟨xa4,gxa4,h⟩:=ab h
  obtain ⟨ya5,gya5,h⟩:=ab h
  have c160_:=fun (R:Prop) (z:R)=>(aB ha1 (aI ((ce.ofEq (yQ ha2)):ce ((vI sa)) ((vI 9))) (aM Event.enc gxa3 (aM Event.enc gxa4 (aI (uT n v a b xa3 xa4 ya5 gya5) z)))))
  rcases ao h with ⟨ha6,h⟩ | ⟨ha6,h⟩
  ·
   exact kQ h ⟨et,[rV 4 [(16,vT)],(6,⟨[],[],[(28,(Event.enc xa3)),(34,(Event.enc xa4))],[(35,vT)],[(35,.v (.bool ya5))],[],[],[],[]⟩)],[(4,⟨[(15,(vI 9))],[],[]⟩)],[],[]⟩ [wK 1 [6] [] 0] j3 (cn rfl gF) (fun z=>(c160_ _ (aB ha6 z)))
  exact kQ h ⟨et,[rV 4 [(16,vT)],(6,⟨[],[],[(28,(Event.enc xa3)),(34,(Event.enc xa4))],[(35,vF)],[(35,.v (.bool ya5))],[],[],[],[]⟩)],[(4,⟨[(15,(vI 9))],[],[]⟩)],[],[]⟩ [wK 0 [0,1,2,14,15] [] 0] j3 cR (fun z=>(c160_ _ (aB ha6 z)))
 rcases ao h with ⟨ha2,h⟩ | ⟨ha2,h⟩
 ·
  obtain ⟨xa3,gxa3,h⟩:=ab h
  obtain ⟨xa4,gxa4,h⟩:=ab h
  obtain ⟨ya5,gya5,h⟩:=ab h
  have c161_:=fun (R:Prop) (z:R)=>(aB ha1 (aI ((ce.ofEq (yQ ha2)):ce ((vI sa)) ((vI 10))) (aM Event.enc gxa3 (aM Event.enc gxa4 (aI (uU n v a b xa3 xa4 ya5 gya5) z)))))
  rcases ao h with ⟨ha6,h⟩ | ⟨ha6,h⟩
  ·
   exact kQ h ⟨et,[rV 4 [(16,vT)],(6,⟨[],[],[(28,(Event.enc xa3)),(34,(Event.enc xa4))],[(35,vT)],[(35,.v (.bool ya5))],[],[],[],[]⟩)],[(4,⟨[(15,(vI 10))],[],[]⟩)],[],[]⟩ [wK 1 [6] [] 0] j3 (cn rfl gF) (fun z=>(c161_ _ (aB ha6 z)))
  exact kQ h ⟨et,[rV 4 [(16,vT)],(6,⟨[],[],[(28,(Event.enc xa3)),(34,(Event.enc xa4))],[(35,vF)],[(35,.v (.bool ya5))],[],[],[],[]⟩)],[(4,⟨[(15,(vI 10))],[],[]⟩)],[],[]⟩ [wK 0 [0,1,2,14,15] [] 0] j3 cR (fun z=>(c161_ _ (aB ha6 z)))
 rcases ao h with ⟨ha2,h⟩ | ⟨ha2,h⟩
 ·
  obtain ⟨xa3,gxa3,h⟩:=ab h
  obtain ⟨xa4,gxa4,h⟩:=ab h
  obtain ⟨ya5,gya5,h⟩:=ab h
  have c162_:=fun (R:Prop) (z:R)=>(aB ha1 (aI ((ce.ofEq (yQ ha2)):ce ((vI sa)) ((vI 11))) (aM Event.enc gxa3 (aM Event.enc gxa4 (aI (uW n v a b xa3 xa4 ya5 gya5) z)))))
  rcases ao h with ⟨ha6,h⟩ | ⟨ha6,h⟩
  ·
   exact kQ h ⟨et,[rV 4 [(16,vT)],(6,⟨[],[],[(28,(Event.enc xa3)),(34,(Event.enc xa4))],[(35,vT)],[(35,.v (.bool ya5))],[],[],[],[]⟩)],[(4,⟨[(15,(vI 11))],[],[]⟩)],[],[]⟩ [wK 1 [6] [] 0] j3 (cn rfl gF) (fun z=>(c162_ _ (aB ha6 z)))
  exact kQ h ⟨et,[rV 4 [(16,vT)],(6,⟨[],[],[(28,(Event.enc xa3)),(34,(Event.enc xa4))],[(35,vF)],[(35,.v (.bool ya5))],[],[],[],[]⟩)],[(4,⟨[(15,(vI 11))],[],[]⟩)],[],[]⟩ [wK 0 [0,1,2,14,15] [] 0] j3 cR (fun z=>(c162_ _ (aB ha6 z)))
 rcases ao h with ⟨ha2,h⟩ | ⟨ha2,h⟩
 ·
  obtain ⟨xa3,gxa3,h⟩:=ab h
  obtain ⟨xa4,gxa4,h⟩:=ab h
  obtain ⟨ya5,gya5,h⟩:=ab h
  have c163_:=fun (R:Prop) (z:R)=>(aB ha1 (aI ((ce.ofEq (yQ ha2)):ce ((vI sa)) ((vI 12))) (aM Event.enc gxa3 (aM Event.enc gxa4 (aI (uX n v a b xa3 xa4 ya5 gya5) z)))))
  rcases ao h with ⟨ha6,h⟩ | ⟨ha6,h⟩
  ·
   exact kQ h ⟨et,[rV 4 [(16,vT)],(6,⟨[],[],[(28,(Event.enc xa3)),(34,(Event.enc xa4))],[(35,vT)],[(35,.v (.bool ya5))],[],[],[],[]⟩)],[(4,⟨[(15,(vI 12))],[],[]⟩)],[],[]⟩ [wK 1 [6] [] 0] j3 (cn rfl gF) (fun z=>(c163_ _ (aB ha6 z)))
  exact kQ h ⟨et,[rV 4 [(16,vT)],(6,⟨[],[],[(28,(Event.enc xa3)),(34,(Event.enc xa4))],[(35,vF)],[(35,.v (.bool ya5))],[],[],[],[]⟩)],[(4,⟨[(15,(vI 12))],[],[]⟩)],[],[]⟩ [wK 0 [0,1,2,14,15] [] 0] j3 cR (fun z=>(c163_ _ (aB ha6 z)))
 rcases ao h with ⟨ha2,h⟩ | ⟨ha2,h⟩
 ·
  cases h
 cases h

theorem tv (n:Nat) (v:ai) (a:Int) (b:Int) (r:Int) (h:cM n v a b=some r):aw Tryz.prog 83 [.fptr (ai.enc v) 0,(vI a),(vI b)] (ew ((vI r))):=by
 unfold cM at h
 obtain ⟨y1,gy1,h⟩:=ab h
 have c164_:=fun (R:Prop) (z:R)=>(aI (sh n v a b y1 gy1) z)
 rcases ao h with ⟨h2,h⟩ | ⟨h2,h⟩
 ·
  obtain rfl:=aF h
  exact kP (nA et [aZ 1 [(13,vT)] [(12,.v (.bool y1))]]) EE (fun z=>(c164_ _ (aB h2 z)))
 obtain ⟨y3,gy3,h⟩:=ab h
 obtain ⟨t4,gt4,h⟩:=ab h
 have c165_:=fun (R:Prop) (z:R)=>c164_ _ (aB h2 (aI (zu n y3 gy3) z))
 rcases t4 with w5 | w5
 ·
  obtain rfl:=aF h
  exact kP ⟨et,[aZ 1 [(13,vF)] [(12,.v (.bool y1))],(3,⟨[],[],[],[],[(14,.agg [.fn 108 [] [],.fn 109 [] [],.fn 112 [] [],.fn 113 [] [],.fn 115 [] [],.fn 116 [] [],.fn 117 [] [],.fn 118 [] [],.fn 119 [] [],.fn 121 [] [],.fn 122 [] [],.fn 123 [] [],.fn 124 [] []])],[],[],[],[]⟩)],[],[(4,(⟨[0,1,2,14,15],[],0,[],[],[]⟩,l0,(.ex 0),PP v a b w5))],[]⟩ EE (fun z=>(c165_ _ (aI (eo (pl:=al 83) (KB v a b) (Nc v a b) (PS n v a b) n _ (.inl w5) gt4) z)))
 ·
  obtain rfl:=aF h
  exact kP ⟨et,[aZ 1 [(13,vF)] [(12,.v (.bool y1))],(3,⟨[],[],[],[],[(14,.agg [.fn 108 [] [],.fn 109 [] [],.fn 112 [] [],.fn 113 [] [],.fn 115 [] [],.fn 116 [] [],.fn 117 [] [],.fn 118 [] [],.fn 119 [] [],.fn 121 [] [],.fn 122 [] [],.fn 123 [] [],.fn 124 [] []])],[],[],[],[]⟩)],[],[(4,(⟨[0,1,2,14,15],[],0,[],[],[]⟩,l0,.ret,PR v a b w5))],[]⟩ EE (fun z=>(c165_ _ (aI (eo (pl:=al 83) (KB v a b) (Nc v a b) (PS n v a b) n _ (.inr w5) gt4) z)))

def qi:List (Nat×PT):=[(9,(ei [0,1,2,3,4,5,6,7,8,9,10,11,12,13,14,15,16,17,18,19]))]
theorem IQ:ax (al 64) qi (aj Tryz.prog 64)=true:=by kernel_rfl
noncomputable def Ne:Code:=sub (aj Tryz.prog 64) [1,1,1,1,0,1,0,0]
noncomputable def PU:Code:=sub Ne [1,1,0,0,1,1,0,0]
theorem KC:ax (al 64) qi PU=true:=by kernel_rfl
def Nf (z2:ai) (xa2:Event) (sb:(List (b_ Int))×Int×Int×Int):St:=ba 58 [(3,.fptr (ai.enc z2) 0),(4,.mf 0),(5,(vI sb.2.2.1)),(6,.ptr (.L 6) 0 0),(7,(vI sb.2.2.2)),(14,.sl (z2.all.map Event.enc)),(15,(vI (z2.all.length:Int))),(16,(vI sb.2.1))] [(6,(Event.enc xa2))] [.arr true 2 (sb.1.map (ft eI))] 0
def PV (z2:ai) (xa2:Event) (tt:(List (b_ Int))×Int):St:=ba 58 [(3,.fptr (ai.enc z2) 0),(4,.mf 0),(14,.sl (z2.all.map Event.enc)),(15,(vI (z2.all.length:Int))),(16,(vI tt.2))] [] [.arr true 2 (tt.1.map (ft eI))] 0
def PW (z2:ai) (xa2:Event) (tt:((List (b_ Int))×Int)):Ex×St:=(.ex 2,PV z2 xa2 tt)
theorem Tl (n:Nat) (z2:ai) (xa2:Event):∀ sb r,lm n z2 xa2 sb=some r→aQ Tryz.prog PU (Nf z2 xa2 sb) (rk (Nf z2 xa2) (PW z2 xa2) r):=by
 intro sb r h
 unfold lm at h
 rcases aA h with ⟨hb1,h⟩ | ⟨hb1,h⟩
 ·
  exact kQ h (nA qi [rV 9 [(28,(vI (z2.all.length:Int))),(30,vF)]]) [wK 4 [3,4,14,15,16] [6] 1] KC (cn rfl i3) (fun z=>(aL Event.enc z2.all (aB hb1 z)))
 obtain ⟨xb2,gxb2,h⟩:=ab h
 have c166_:=fun (R:Prop) (z:R)=>(aL Event.enc z2.all (aB hb1 (aM Event.enc gxb2 z)))
 rcases aA h with ⟨hb3,h⟩ | ⟨hb3,h⟩
 ·
  exact kQ h (nA qi [(9,⟨[],[],[(36,(Event.enc xb2))],[(28,(vI (z2.all.length:Int))),(30,vT),(42,vF)],[],[],[],[],[]⟩)]) [wK 4 [3,4,14,15,16] [6] 1] KC (cn rfl i3) (fun z=>(c166_ _ (aB hb3 z)))
 obtain ⟨yb4,gyb4,h⟩:=ab h
 have c167_:=fun (R:Prop) (z:R)=>c166_ _ (aB hb3 (aI (tv n z2 sb.2.2.1 sb.2.2.2 yb4 gyb4) z))
 rcases aA h with ⟨hb5,h⟩ | ⟨hb5,h⟩
 ·
  exact kQ h (nA qi [(9,⟨[],[],[(36,(Event.enc xb2))],[(28,(vI (z2.all.length:Int))),(30,vT),(42,vT)],[],[],[],[],[]⟩),aZ 11 [(49,vF)] [(48,(vI yb4))]]) [wK 0 [3,4,5,6,7,14,15,16] [] 1] KC cR (fun z=>(c167_ _ (aB hb5 z)))
 obtain ⟨hb6,h⟩:=ey h
 exact kQ h (nA qi [(9,⟨[],[],[(36,(Event.enc xb2))],[(28,(vI (z2.all.length:Int))),(30,vT),(42,vT)],[],[],[],[],[]⟩),aZ 11 [(49,vT)] [(48,(vI yb4))],(12,⟨[],[55],[],[],[],[],[(55,(0,(sb.1++([(b_.mk sb.2.2.1 sb.2.2.2)]:List (b_ Int))).map (ft eI)))],[],[]⟩)]) [wK 0 [3,4,5,6,7,14,15,16] [] 1] KC cR (fun z=>(c167_ _ (aB hb5 (aI (rfl:cH 2 [[(vI sb.2.2.1),(vI sb.2.2.2)]]=true) (aI (rfl:aT [[(vI sb.2.2.1),(vI sb.2.2.2)]]=true) (aI (iZ hb6:Nat.ble (((sb.1.map (ft eI)).length + 1) * 16) 140737488355328=true) (aI (lz (ft eI) sb.1 ([(b_.mk sb.2.2.1 sb.2.2.2)]:List (b_ Int))) z)))))))

theorem PX:ax (al 64) qi Ne=true:=by kernel_rfl
def Ng (z2:ai) (sa:(List (b_ Int))×Int):St:=ba 58 [(3,.fptr (ai.enc z2) 0),(4,.mf 0),(14,.sl (z2.all.map Event.enc)),(15,(vI (z2.all.length:Int))),(16,(vI sa.2))] [] [.arr true 2 (sa.1.map (ft eI))] 0
def PY (z2:ai) (tt:(List (b_ Int))):St:=ba 58 [(4,.mf 0)] [] [.arr true 2 (tt.map (ft eI))] 0
def PZ (z2:ai) (tt:((List (b_ Int)))):Ex×St:=(.ex 0,PY z2 tt)
theorem Tm (n:Nat) (z2:ai):∀ sa r,ln n z2 sa=some r→aQ Tryz.prog Ne (Ng z2 sa) (rk (Ng z2) (PZ z2) r):=by
 intro sa r h
 unfold ln at h
 rcases aA h with ⟨ha1,h⟩ | ⟨ha1,h⟩
 ·
  exact kQ h (nA qi [rV 6 [(17,vF)]]) [wK 2 [4] [] 1] PX (cn rfl i3) (fun z=>(aB ha1 z))
 obtain ⟨xa2,gxa2,h⟩:=ab h
 obtain ⟨ta3,gta3,h⟩:=ab h
 exact kQ h ⟨qi,[rV 6 [(17,vT)],rR 7 [(19,(Event.enc xa2))]],[],[(9,(⟨[3,4,5,6,7,14,15,16],[],1,[],[],[]⟩,l0,(.ex 2),PV z2 xa2 ta3))],[]⟩ [wK 0 [3,4,14,15,16] [] 1] PX cR (fun z=>(aB ha1 (aM Event.enc gxa2 (aI (eo (pl:=al 64) (Nf z2 xa2) (PW z2 xa2) (Tl n z2 xa2) n _ ta3 gta3) z))))

theorem zv (n:Nat) (c:af) (r:(List (b_ Int))) (h:lE n c=some r):aw Tryz.prog 64 [(bq af.enc c)] (ew (.sl (r.map (ft eI)))):=by
 unfold lE at h
 obtain ⟨y1,gy1,h⟩:=ab h
 rcases y1 with _ | z2
 ·
  obtain rfl:=aF h
  exact kP (nA qi [aZ 1 [] [(8,.nilp)]]) IQ (fun z=>(aI (yq n c none gy1) (ce.nil:ce .nilsl (.sl (([]:List (b_ Int)).map (ft eI))))))
 ·
  obtain ⟨t3,gt3,h⟩:=ab h
  obtain rfl:=aF h
  exact kP ⟨qi,[aZ 1 [] [(8,.fptr (ai.enc z2) 0)],rV 5 [(15,(vI (z2.all.length:Int)))]],[],[(6,(⟨[3,4,14,15,16],[],0,[(4,2)],[],[]⟩,l0,(.ex 0),PY z2 t3))],[]⟩ IQ (fun z=>(aI (yq n c (some z2) gy1) (aL Event.enc z2.all (aI (eo (pl:=al 64) (Ng z2) (PZ z2) (Tm n z2) n _ t3 gt3) z))))

def LO:List (Nat×PT):=[]
theorem Nh:ax (al 42) LO (aj Tryz.prog 42)=true:=by kernel_rfl
theorem jz (n:Nat) (r:bg) (h:iE n=some r):aw Tryz.prog 42 [] (ew ((bq bg.enc r))):=by
 unfold iE at h
 obtain rfl:=aF h
 exact kP (nA LO []) Nh (fun z=>z)

def yv:List (Nat×PT):=[(4,(ei [0,1,2,3,4,5,6,7,8,9,10,11,12,13,14,15,16]))]
theorem IR:ax (al 39) yv (aj Tryz.prog 39)=true:=by kernel_rfl
noncomputable def P0:Code:=sub (aj Tryz.prog 39) [1,0,1,0,0]
theorem Ni:ax (al 39) yv P0=true:=by kernel_rfl
def KD (oA:(List Cell)) (oB:(List (List Event))) (oC:(List Int)) (oD:(List Int)) (oE:(List (Int×(List Int)))) (oF:(List Event)) (oG:(List Int)) (y1:(List (b_ Int))) (sa:Int):St:=ba 41 [(0,.ptr (.O 2) 0 0),(2,.ptr (.L 2) 0 0),(11,.sl (y1.map (ft eI))),(12,(vI (y1.length:Int))),(13,(vI sa))] [(2,[vF,(vI 0),(vI 0),(vI 0)])] [.arr true 4 [[.sl (oA.map Cell.enc),.sl (oB.map (dA Event.enc)),.sl (oC.map eI),.sl (oD.map eI)]],.mapo true (oE.map (dB (aS .u64) (eN eI))),.arr false 4 [[.ptr (.O 0) 0 0,.sl (oF.map Event.enc),.sl (oG.map eI),.mp 1]],.arr false 1 [[.fn 39 [.ptr (.O 2) 0 0] []],[.fn 40 [.ptr (.O 2) 0 0] []],[.fn 41 [.ptr (.O 2) 0 0] []]]] 4
def P1 (oA:(List Cell)) (oB:(List (List Event))) (oC:(List Int)) (oD:(List Int)) (oE:(List (Int×(List Int)))) (oF:(List Event)) (oG:(List Int)) (y1:(List (b_ Int))) (tt:Unit):St:=ba 41 [(2,.ptr (.L 2) 0 0)] [(2,[vF,(vI 0),(vI 0),(vI 0)])] [.arr true 4 [[.sl (oA.map Cell.enc),.sl (oB.map (dA Event.enc)),.sl (oC.map eI),.sl (oD.map eI)]],.mapo true (oE.map (dB (aS .u64) (eN eI))),.arr false 4 [[.ptr (.O 0) 0 0,.sl (oF.map Event.enc),.sl (oG.map eI),.mp 1]],.arr false 1 [[.fn 39 [.ptr (.O 2) 0 0] []],[.fn 40 [.ptr (.O 2) 0 0] []],[.fn 41 [.ptr (.O 2) 0 0] []]]] 4
def P2 (oA:(List Cell)) (oB:(List (List Event))) (oC:(List Int)) (oD:(List Int)) (oE:(List (Int×(List Int)))) (oF:(List Event)) (oG:(List Int)) (y1:(List (b_ Int))) (tt:Bool×Int×Int×Int):St:=ba 41 [(2,.ptr (.L 2) 0 0)] [(2,[.v (.bool tt.1),(vI tt.2.1),(vI tt.2.2.1),(vI tt.2.2.2)])] [.arr true 4 [[.sl (oA.map Cell.enc),.sl (oB.map (dA Event.enc)),.sl (oC.map eI),.sl (oD.map eI)]],.mapo true (oE.map (dB (aS .u64) (eN eI))),.arr false 4 [[.ptr (.O 0) 0 0,.sl (oF.map Event.enc),.sl (oG.map eI),.mp 1]],.arr false 1 [[.fn 39 [.ptr (.O 2) 0 0] []],[.fn 40 [.ptr (.O 2) 0 0] []],[.fn 41 [.ptr (.O 2) 0 0] []]]] 4
def Nj (oA:(List Cell)) (oB:(List (List Event))) (oC:(List Int)) (oD:(List Int)) (oE:(List (Int×(List Int)))) (oF:(List Event)) (oG:(List Int)) (y1:(List (b_ Int))) (t0:(Unit⊕(Bool×Int×Int×Int))):Ex×St:=match t0 with | .inl tt=>(.ex 0,P1 oA oB oC oD oE oF oG y1 tt) | .inr tt=>(.ret,P2 oA oB oC oD oE oF oG y1 tt)
theorem P3 (n:Nat) (oA:(List Cell)) (oB:(List (List Event))) (oC:(List Int)) (oD:(List Int)) (oE:(List (Int×(List Int)))) (oF:(List Event)) (oG:(List Int)) (y1:(List (b_ Int))):∀ sa r,dV n oA oB oC oD oE oF oG y1 sa=some r→aQ Tryz.prog P0 (KD oA oB oC oD oE oF oG y1 sa) (rk (KD oA oB oC oD oE oF oG y1) (Nj oA oB oC oD oE oF oG y1) r):=by
 intro sa r h
 unfold dV at h
 rcases aA h with ⟨ha1,h⟩ | ⟨ha1,h⟩
 ·
  exact kQ h (nA yv [rV 2 [(14,vF)]]) [wK 2 [2] [] 4] Ni (cn rfl i3) (fun z=>(aB ha1 z))
 obtain ⟨xa2,gxa2,h⟩:=ab h
 obtain ⟨xa3,gxa3,h⟩:=ab h
 obtain ⟨xa4,gxa4,h⟩:=ab h
 have c168_:=fun (R:Prop) (z:R)=>(aB ha1 (aI (nf (ft eI) gxa2:DC (y1.map (ft eI)) sa=some [(vI xa2.e0),(vI xa2.e1)]) (aM eI gxa3 (aM eI gxa4 z))))
 rcases aA h with ⟨ha5,h⟩ | ⟨ha5,h⟩
 ·
  exact kQ h (nA yv [rV 2 [(14,vT)],rR 3 [(15,[(vI xa2.e0),(vI xa2.e1)])],(4,⟨[],[],[(23,[(vI xa3)]),(31,[(vI xa4)])],[(33,vF)],[],[],[],[],[]⟩)]) [wK 0 [0,2,11,12,13] [4] 4] Ni cR (fun z=>(c168_ _ (aB ha5 z)))
 obtain ⟨ya6,gya6,h⟩:=ab h
 exact kQ h (nA yv [rV 2 [(14,vT)],rR 3 [(15,[(vI xa2.e0),(vI xa2.e1)])],(4,⟨[],[],[(23,[(vI xa3)]),(31,[(vI xa4)])],[(33,vT)],[],[],[],[],[]⟩),aZ 5 [] [(38,(bq bg.enc ya6))]]) [wK 1 [2] [4] 4] Ni (cn rfl gF) (fun z=>(c168_ _ (aB ha5 (aI (iy n 2 xa2.e0 xa2.e1 ya6 gya6) z))))

def jJ (oA:(List Cell)) (oB:(List (List Event))) (oC:(List Int)) (oD:(List Int)) (oE:(List (Int×(List Int)))) (oF:(List Event)) (oG:(List Int)) (y:(Bool×Int×Int×Int)):AV×List Ob:=(.agg [.v (.bool y.1),(vI y.2.1),(vI y.2.2.1),(vI y.2.2.2)],[.arr true 4 [[.sl (oA.map Cell.enc),.sl (oB.map (dA Event.enc)),.sl (oC.map eI),.sl (oD.map eI)]],.mapo true (oE.map (dB (aS .u64) (eN eI))),.arr false 4 [[.ptr (.O 0) 0 0,.sl (oF.map Event.enc),.sl (oG.map eI),.mp 1]],.arr false 1 [[.fn 39 [.ptr (.O 2) 0 0] []],[.fn 40 [.ptr (.O 2) 0 0] []],[.fn 41 [.ptr (.O 2) 0 0] []]]])
theorem dL (n:Nat) (oA:(List Cell)) (oB:(List (List Event))) (oC:(List Int)) (oD:(List Int)) (oE:(List (Int×(List Int)))) (oF:(List Event)) (oG:(List Int)) (y:(Bool×Int×Int×Int)) (h:dQ n oA oB oC oD oE oF oG=some y):SD Tryz.prog 39 [.ptr (.O 2) 0 0] [.arr true 4 [[.sl (oA.map Cell.enc),.sl (oB.map (dA Event.enc)),.sl (oC.map eI),.sl (oD.map eI)]],.mapo true (oE.map (dB (aS .u64) (eN eI))),.arr false 4 [[.ptr (.O 0) 0 0,.sl (oF.map Event.enc),.sl (oG.map eI),.mp 1]],.arr false 1 [[.fn 39 [.ptr (.O 2) 0 0] []],[.fn 40 [.ptr (.O 2) 0 0] []],[.fn 41 [.ptr (.O 2) 0 0] []]]] (fun r' o'=>r'=(jJ oA oB oC oD oE oF oG y).1∧o'=(jJ oA oB oC oD oE oF oG y).2):=by
 unfold dQ at h
 obtain ⟨y1,gy1,h⟩:=ab h
 obtain ⟨t2,gt2,h⟩:=ab h
 have c169_:=fun (R:Prop) (z:R)=>(aI (zv n (af.mk oA oB oC oD) y1 gy1) (aL (ft eI) y1 z))
 rcases t2 with w3 | w3
 ·
  obtain ⟨y4,gy4,h⟩:=ab h
  obtain rfl:=aF h
  exact kS ⟨yv,[aZ 1 [(12,(vI (y1.length:Int)))] [(11,.sl (y1.map (ft eI)))],aZ 7 [] [(40,(bq bg.enc y4))]],[],[(2,(⟨[0,2,11,12,13],[],4,[],[],[]⟩,l0,(.ex 0),P1 oA oB oC oD oE oF oG y1 w3))],[]⟩ IR ⟨rfl,rfl⟩ (fun z=>(c169_ _ (aI (eo (pl:=al 39) (KD oA oB oC oD oE oF oG y1) (Nj oA oB oC oD oE oF oG y1) (P3 n oA oB oC oD oE oF oG y1) n _ (.inl w3) gt2) (aI (jz n y4 gy4) z))))
 ·
  obtain rfl:=aF h
  exact kS ⟨yv,[aZ 1 [(12,(vI (y1.length:Int)))] [(11,.sl (y1.map (ft eI)))]],[],[(2,(⟨[0,2,11,12,13],[],4,[],[],[]⟩,l0,.ret,P2 oA oB oC oD oE oF oG y1 w3))],[]⟩ IR ⟨rfl,rfl⟩ (fun z=>(c169_ _ (aI (eo (pl:=al 39) (KD oA oB oC oD oE oF oG y1) (Nj oA oB oC oD oE oF oG y1) (P3 n oA oB oC oD oE oF oG y1) n _ (.inr w3) gt2) z)))

def o8:List (Nat×PT):=[(2,(ei [0,1,2,3,4,5,6,7])),(6,(ei [0,1,2,3,4,5,6,7,8,9,10,11])),(7,(ei [0,1,2,3,4,5,6,7,8,9,10,11,12,13,14,15,16,17,18,19,20,21,22,23,24,25,26,27,28,29,30,31,32,33,34,35,36,37,38,39]))]
theorem BI:ax (al 47) o8 (aj Tryz.prog 47)=true:=by kernel_rfl
noncomputable def P4:Code:=sub (aj Tryz.prog 47) [1,1,1,0,1,0,0]
theorem GX:ax (al 47) o8 P4=true:=by kernel_rfl
def GY (n_:Int) (oA:(List Cell)) (oB:(List (List Event))) (oC:(List Int)) (oD:(List Int)) (oE:(List (Int×(List Int)))) (oF:(List Event)) (oG:(List Int)) (x1:Event) (sa:(List Int)×Int):St:=ba 84 [(0,.ptr (.O 2) 0 0),(1,(vI n_)),(5,.ptr (.L 5) 0 0),(6,.sl (sa.1.map eI)),(7,(vI sa.2))] [(5,(Event.enc x1))] [.arr true 4 [[.sl (oA.map Cell.enc),.sl (oB.map (dA Event.enc)),.sl (oC.map eI),.sl (oD.map eI)]],.mapo true (oE.map (dB (aS .u64) (eN eI))),.arr false 4 [[.ptr (.O 0) 0 0,.sl (oF.map Event.enc),.sl (oG.map eI),.mp 1]],.arr false 1 [[.fn 39 [.ptr (.O 2) 0 0] []],[.fn 40 [.ptr (.O 2) 0 0] []],[.fn 41 [.ptr (.O 2) 0 0] []]]] 4
def Nk (n_:Int) (oA:(List Cell)) (oB:(List (List Event))) (oC:(List Int)) (oD:(List Int)) (oE:(List (Int×(List Int)))) (oF:(List Event)) (oG:(List Int)) (x1:Event) (tt:Unit):St:=ba 84 [] [] [.arr true 4 [[.sl (oA.map Cell.enc),.sl (oB.map (dA Event.enc)),.sl (oC.map eI),.sl (oD.map eI)]],.mapo true (oE.map (dB (aS .u64) (eN eI))),.arr false 4 [[.ptr (.O 0) 0 0,.sl (oF.map Event.enc),.sl (oG.map eI),.mp 1]],.arr false 1 [[.fn 39 [.ptr (.O 2) 0 0] []],[.fn 40 [.ptr (.O 2) 0 0] []],[.fn 41 [.ptr (.O 2) 0 0] []]]] 4
def Nl (n_:Int) (oA:(List Cell)) (oB:(List (List Event))) (oC:(List Int)) (oD:(List Int)) (oE:(List (Int×(List Int)))) (oF:(List Event)) (oG:(List Int)) (x1:Event) (tt:Int):St:=ba 84 [(4,(vI tt))] [] [.arr true 4 [[.sl (oA.map Cell.enc),.sl (oB.map (dA Event.enc)),.sl (oC.map eI),.sl (oD.map eI)]],.mapo true (oE.map (dB (aS .u64) (eN eI))),.arr false 4 [[.ptr (.O 0) 0 0,.sl (oF.map Event.enc),.sl (oG.map eI),.mp 1]],.arr false 1 [[.fn 39 [.ptr (.O 2) 0 0] []],[.fn 40 [.ptr (.O 2) 0 0] []],[.fn 41 [.ptr (.O 2) 0 0] []]]] 4
def IS (n_:Int) (oA:(List Cell)) (oB:(List (List Event))) (oC:(List Int)) (oD:(List Int)) (oE:(List (Int×(List Int)))) (oF:(List Event)) (oG:(List Int)) (x1:Event) (t0:(Unit⊕Int)):Ex×St:=match t0 with | .inl tt=>(.ex 0,Nk n_ oA oB oC oD oE oF oG x1 tt) | .inr tt=>(.ret,Nl n_ oA oB oC oD oE oF oG x1 tt)
theorem KF (n:Nat) (n_:Int) (oA:(List Cell)) (oB:(List (List Event))) (oC:(List Int)) (oD:(List Int)) (oE:(List (Int×(List Int)))) (oF:(List Event)) (oG:(List Int)) (x1:Event):∀ sa r,bU n n_ oA oB oC oD oE oF oG x1 sa=some r→aQ Tryz.prog P4 (GY n_ oA oB oC oD oE oF oG x1 sa) (rk (GY n_ oA oB oC oD oE oF oG x1) (IS n_ oA oB oC oD oE oF oG x1) r):=by
 intro sa r h
 unfold bU at h
 rcases aA h with ⟨ha1,h⟩ | ⟨ha1,h⟩
 ·
  exact kQ h (nA o8 [rV 4 [(27,vF)]]) [wK 2 [] [5] 4] GX (cn rfl i3) (fun z=>(aB ha1 z))
 obtain ⟨xa2,gxa2,h⟩:=ab h
 obtain ⟨xa3,gxa3,h⟩:=ab h
 have d0_:DC (sa.1.map eI) sa.2=some [(vI xa2)]:=nf eI gxa2
 have c170_:=fun (R:Prop) (z:R)=>(aB ha1 (aI d0_ (aM Event.enc gxa3 (aI d0_ z))))
 let e171_:LR:=[rV 4 [(27,vT)],rR 6 [(36,[(vI xa2)]),(38,(Event.enc xa3))]]
 rcases aA h with ⟨ha4,h⟩ | ⟨ha4,h⟩
 ·
  exact kQ h (nA o8 (e171_++[(7,⟨[],[],[(42,[(vI xa2)])],[(46,vF)],[],[],[],[],[]⟩)])) [wK 0 [0,1,5,6,7] [8] 4] GX cR (fun z=>(c170_ _ (aB ha4 z)))
 obtain ⟨xa5,gxa5,h⟩:=ab h
 obtain ⟨xa6,gxa6,h⟩:=ab h
 have c172_:=fun (R:Prop) (z:R)=>c170_ _ (aB ha4 (aM eI gxa2 (aM eI gxa5 (aM eI gxa6 z))))
 rcases ao h with ⟨ha7,h⟩ | ⟨ha7,h⟩
 ·
  exact kQ h (nA o8 (e171_++[(7,⟨[],[],[(42,[(vI xa2)]),(53,[(vI xa2)]),(55,[(vI xa5)]),(62,[(vI xa6)])],[(46,vT),(65,vT)],[],[],[],[],[]⟩),rR 8 [(82,[(vI xa2)])]])) [wK 1 [4] [8,5] 4] GX (cn rfl gF) (fun z=>(c172_ _ (aB ha7 (aM eI gxa2 z))))
 rcases aA h with ⟨ha8,h⟩ | ⟨ha8,h⟩
 ·
  exact kQ h (nA o8 (e171_++[(7,⟨[],[],[(42,[(vI xa2)]),(53,[(vI xa2)]),(55,[(vI xa5)]),(62,[(vI xa6)])],[(46,vT),(65,vF),(71,vF)],[],[],[],[],[]⟩)])) [wK 0 [0,1,5,6,7] [8] 4] GX cR (fun z=>(c172_ _ (aB ha7 (aB ha8 z))))
 have c173_:=fun (R:Prop) (z:R)=>c172_ _ (aB ha7 (aB ha8 z))
 rcases aA h with ⟨ha9,h⟩ | ⟨ha9,h⟩
 ·
  exact kQ h (nA o8 (e171_++[(7,⟨[],[],[(42,[(vI xa2)]),(53,[(vI xa2)]),(55,[(vI xa5)]),(62,[(vI xa6)])],[(46,vT),(65,vF),(71,vT),(79,vF)],[],[],[],[],[]⟩)])) [wK 0 [0,1,5,6,7] [8] 4] GX cR (fun z=>(c173_ _ (aB ha9 z)))
 exact kQ h (nA o8 (e171_++[(7,⟨[],[],[(42,[(vI xa2)]),(53,[(vI xa2)]),(55,[(vI xa5)]),(62,[(vI xa6)])],[(46,vT),(65,vF),(71,vT),(79,vT)],[],[],[],[],[]⟩),rR 8 [(82,[(vI xa2)])]])) [wK 1 [4] [8,5] 4] GX (cn rfl gF) (fun z=>(c173_ _ (aB ha9 (aM eI gxa2 z))))

def jA (n_:Int) (oA:(List Cell)) (oB:(List (List Event))) (oC:(List Int)) (oD:(List Int)) (oE:(List (Int×(List Int)))) (oF:(List Event)) (oG:(List Int)) (y:Int):AV×List Ob:=((vI y),[.arr true 4 [[.sl (oA.map Cell.enc),.sl (oB.map (dA Event.enc)),.sl (oC.map eI),.sl (oD.map eI)]],.mapo true (oE.map (dB (aS .u64) (eN eI))),.arr false 4 [[.ptr (.O 0) 0 0,.sl (oF.map Event.enc),.sl (oG.map eI),.mp 1]],.arr false 1 [[.fn 39 [.ptr (.O 2) 0 0] []],[.fn 40 [.ptr (.O 2) 0 0] []],[.fn 41 [.ptr (.O 2) 0 0] []]]])
theorem nh (n:Nat) (n_:Int) (oA:(List Cell)) (oB:(List (List Event))) (oC:(List Int)) (oD:(List Int)) (oE:(List (Int×(List Int)))) (oF:(List Event)) (oG:(List Int)) (y:Int) (h:cz n n_ oA oB oC oD oE oF oG=some y):SD Tryz.prog 47 [.ptr (.O 2) 0 0,(vI n_)] [.arr true 4 [[.sl (oA.map Cell.enc),.sl (oB.map (dA Event.enc)),.sl (oC.map eI),.sl (oD.map eI)]],.mapo true (oE.map (dB (aS .u64) (eN eI))),.arr false 4 [[.ptr (.O 0) 0 0,.sl (oF.map Event.enc),.sl (oG.map eI),.mp 1]],.arr false 1 [[.fn 39 [.ptr (.O 2) 0 0] []],[.fn 40 [.ptr (.O 2) 0 0] []],[.fn 41 [.ptr (.O 2) 0 0] []]]] (fun r' o'=>r'=(jA n_ oA oB oC oD oE oF oG y).1∧o'=(jA n_ oA oB oC oD oE oF oG y).2):=by
 unfold cz at h
 obtain ⟨x1,gx1,h⟩:=ab h
 let e174_:LR:=[rR 1 [(14,(Event.enc x1))]]
 rcases ko h with ⟨h2,h⟩ | ⟨z2,h3,h⟩
 ·
  obtain ⟨t3,gt3,h⟩:=ab h
  have c175_:=fun (R:Prop) (z:R)=>(aM Event.enc gx1 (aI (r6 oE x1.Addr h2:∀ k':AV→Prop,k' (.nilsl)→cU Tryz.prog 40 ((vU x1.Addr)) (oE.map (dB (aS .u64) (eN eI))) fun _ r=>fj Tryz.prog 24 false (oE.map (dB (aS .u64) (eN eI))) r k') z))
  rcases t3 with w4 | w4
  ·
   obtain rfl:=aF h
   exact kS ⟨o8,(e174_++[aZ 2 [] [(22,.nilsl)]]),[],[(4,(⟨[0,1,5,6,7],[],4,[],[],[]⟩,⟨[(6,.sl (([]:List Int).map eI))],[],[]⟩,(.ex 0),Nk n_ oA oB oC oD oE oF oG x1 w4))],[]⟩ BI ⟨rfl,rfl⟩ (fun z=>(c175_ _ (aI (ce.nil:ce (.nilsl) (.sl (([]:List Int).map eI))) (aI (eo (pl:=al 47) (GY n_ oA oB oC oD oE oF oG x1) (IS n_ oA oB oC oD oE oF oG x1) (KF n n_ oA oB oC oD oE oF oG x1) n _ (.inl w4) gt3) z))))
  ·
   obtain rfl:=aF h
   exact kS ⟨o8,(e174_++[aZ 2 [] [(22,.nilsl)]]),[],[(4,(⟨[0,1,5,6,7],[],4,[],[],[]⟩,⟨[(6,.sl (([]:List Int).map eI))],[],[]⟩,.ret,Nl n_ oA oB oC oD oE oF oG x1 w4))],[]⟩ BI ⟨rfl,rfl⟩ (fun z=>(c175_ _ (aI (ce.nil:ce (.nilsl) (.sl (([]:List Int).map eI))) (aI (eo (pl:=al 47) (GY n_ oA oB oC oD oE oF oG x1) (IS n_ oA oB oC oD oE oF oG x1) (KF n n_ oA oB oC oD oE oF oG x1) n _ (.inr w4) gt3) z))))
 ·
  obtain ⟨t4,gt4,h⟩:=ab h
  have c176_:=fun (R:Prop) (z:R)=>(aM Event.enc gx1 (aI (r7 oE x1.Addr h3:∀ k':AV→Prop,k' (.sl (z2.map eI))→cU Tryz.prog 40 ((vU x1.Addr)) (oE.map (dB (aS .u64) (eN eI))) fun _ r=>fj Tryz.prog 24 false (oE.map (dB (aS .u64) (eN eI))) r k') (aL eI z2 z)))
  rcases t4 with w5 | w5
  ·
   obtain rfl:=aF h
   exact kS ⟨o8,(e174_++[aZ 2 [] [(22,.sl (z2.map eI))],rV 3 [(24,(vI (z2.length:Int)))]]),[],[(4,(⟨[0,1,5,6,7],[],4,[],[],[]⟩,l0,(.ex 0),Nk n_ oA oB oC oD oE oF oG x1 w5))],[]⟩ BI ⟨rfl,rfl⟩ (fun z=>(c176_ _ (aI (eo (pl:=al 47) (GY n_ oA oB oC oD oE oF oG x1) (IS n_ oA oB oC oD oE oF oG x1) (KF n n_ oA oB oC oD oE oF oG x1) n _ (.inl w5) gt4) z)))
  ·
   obtain rfl:=aF h
   exact kS ⟨o8,(e174_++[aZ 2 [] [(22,.sl (z2.map eI))],rV 3 [(24,(vI (z2.length:Int)))]]),[],[(4,(⟨[0,1,5,6,7],[],4,[],[],[]⟩,l0,.ret,Nl n_ oA oB oC oD oE oF oG x1 w5))],[]⟩ BI ⟨rfl,rfl⟩ (fun z=>(c176_ _ (aI (eo (pl:=al 47) (GY n_ oA oB oC oD oE oF oG x1) (IS n_ oA oB oC oD oE oF oG x1) (KF n n_ oA oB oC oD oE oF oG x1) n _ (.inr w5) gt4) z)))

def vE:List (Nat×PT):=[]
theorem IT:ax (al 40) vE (aj Tryz.prog 40)=true:=by kernel_rfl
noncomputable def P5:Code:=sub (aj Tryz.prog 40) [1,0,1,0,0]
theorem KG:ax (al 40) vE P5=true:=by kernel_rfl
def KH (oA:(List Cell)) (oB:(List (List Event))) (oC:(List Int)) (oD:(List Int)) (oE:(List (Int×(List Int)))) (oF:(List Event)) (oG:(List Int)) (sa:Int):St:=ba 39 [(0,.ptr (.O 2) 0 0),(2,.ptr (.L 2) 0 0),(9,.sl (oF.map Event.enc)),(10,(vI (oF.length:Int))),(11,(vI sa))] [(2,[vF,(vI 0),(vI 0),(vI 0)])] [.arr true 4 [[.sl (oA.map Cell.enc),.sl (oB.map (dA Event.enc)),.sl (oC.map eI),.sl (oD.map eI)]],.mapo true (oE.map (dB (aS .u64) (eN eI))),.arr false 4 [[.ptr (.O 0) 0 0,.sl (oF.map Event.enc),.sl (oG.map eI),.mp 1]],.arr false 1 [[.fn 39 [.ptr (.O 2) 0 0] []],[.fn 40 [.ptr (.O 2) 0 0] []],[.fn 41 [.ptr (.O 2) 0 0] []]]] 4
def P6 (oA:(List Cell)) (oB:(List (List Event))) (oC:(List Int)) (oD:(List Int)) (oE:(List (Int×(List Int)))) (oF:(List Event)) (oG:(List Int)) (tt:Unit):St:=ba 39 [(2,.ptr (.L 2) 0 0)] [(2,[vF,(vI 0),(vI 0),(vI 0)])] [.arr true 4 [[.sl (oA.map Cell.enc),.sl (oB.map (dA Event.enc)),.sl (oC.map eI),.sl (oD.map eI)]],.mapo true (oE.map (dB (aS .u64) (eN eI))),.arr false 4 [[.ptr (.O 0) 0 0,.sl (oF.map Event.enc),.sl (oG.map eI),.mp 1]],.arr false 1 [[.fn 39 [.ptr (.O 2) 0 0] []],[.fn 40 [.ptr (.O 2) 0 0] []],[.fn 41 [.ptr (.O 2) 0 0] []]]] 4
def P7 (oA:(List Cell)) (oB:(List (List Event))) (oC:(List Int)) (oD:(List Int)) (oE:(List (Int×(List Int)))) (oF:(List Event)) (oG:(List Int)) (tt:Bool×Int×Int×Int):St:=ba 39 [(2,.ptr (.L 2) 0 0)] [(2,[.v (.bool tt.1),(vI tt.2.1),(vI tt.2.2.1),(vI tt.2.2.2)])] [.arr true 4 [[.sl (oA.map Cell.enc),.sl (oB.map (dA Event.enc)),.sl (oC.map eI),.sl (oD.map eI)]],.mapo true (oE.map (dB (aS .u64) (eN eI))),.arr false 4 [[.ptr (.O 0) 0 0,.sl (oF.map Event.enc),.sl (oG.map eI),.mp 1]],.arr false 1 [[.fn 39 [.ptr (.O 2) 0 0] []],[.fn 40 [.ptr (.O 2) 0 0] []],[.fn 41 [.ptr (.O 2) 0 0] []]]] 4
def Nm (oA:(List Cell)) (oB:(List (List Event))) (oC:(List Int)) (oD:(List Int)) (oE:(List (Int×(List Int)))) (oF:(List Event)) (oG:(List Int)) (t0:(Unit⊕(Bool×Int×Int×Int))):Ex×St:=match t0 with | .inl tt=>(.ex 0,P6 oA oB oC oD oE oF oG tt) | .inr tt=>(.ret,P7 oA oB oC oD oE oF oG tt)
theorem P8 (n:Nat) (oA:(List Cell)) (oB:(List (List Event))) (oC:(List Int)) (oD:(List Int)) (oE:(List (Int×(List Int)))) (oF:(List Event)) (oG:(List Int)):∀ sa r,dW n oA oB oC oD oE oF oG sa=some r→aQ Tryz.prog P5 (KH oA oB oC oD oE oF oG sa) (rk (KH oA oB oC oD oE oF oG) (Nm oA oB oC oD oE oF oG) r):=by
 intro sa r h
 unfold dW at h
 rcases aA h with ⟨ha1,h⟩ | ⟨ha1,h⟩
 ·
  exact kQ h (nA vE [rV 2 [(12,vF)]]) [wK 2 [2] [] 4] KG (cn rfl i3) (fun z=>(aB ha1 z))
 obtain ⟨xa2,gxa2,h⟩:=ab h
 obtain ⟨ya3,gya3,h⟩:=ab h
 have c177_:=fun (R:Prop) (z:R)=>(aB ha1 (aM Event.enc gxa2 (aI (b9 n xa2 ya3 gya3) z)))
 let e178_:LR:=[rV 2 [(12,vT)],rR 3 [(14,(Event.enc xa2))]]
 rcases ao h with ⟨ha4,h⟩ | ⟨ha4,h⟩
 ·
  exact kQ h (nA vE (e178_++[aZ 4 [(18,vT)] [(17,.v (.bool ya3))]])) [wK 0 [0,2,9,10,11] [4] 4] KG cR (fun z=>(c177_ _ (aB ha4 z)))
 obtain ⟨ya5,gya5,h⟩:=ab h
 obtain ⟨xa6,gxa6,h⟩:=ab h
 have c179_:=fun (R:Prop) (z:R)=>c177_ _ (aB ha4 (aI (nh n sa oA oB oC oD oE oF oG ya5 gya5) (aM eI gxa6 z)))
 rcases aA h with ⟨ha7,h⟩ | ⟨ha7,h⟩
 ·
  exact kQ h (nA vE (e178_++[aZ 4 [(18,vF)] [(17,.v (.bool ya3))],(5,⟨[],[],[],[],[],[(21,((vI ya5),[.arr true 4 [[.sl (oA.map Cell.enc),.sl (oB.map (dA Event.enc)),.sl (oC.map eI),.sl (oD.map eI)]],.mapo true (oE.map (dB (aS .u64) (eN eI))),.arr false 4 [[.ptr (.O 0) 0 0,.sl (oF.map Event.enc),.sl (oG.map eI),.mp 1]],.arr false 1 [[.fn 39 [.ptr (.O 2) 0 0] []],[.fn 40 [.ptr (.O 2) 0 0] []],[.fn 41 [.ptr (.O 2) 0 0] []]]]))],[],[],[]⟩),(6,⟨[],[],[(31,[(vI xa6)])],[(33,vF)],[],[],[],[],[]⟩)])) [wK 0 [0,2,9,10,11] [4] 4] KG cR (fun z=>(c179_ _ (aB ha7 z)))
 obtain ⟨ya8,gya8,h⟩:=ab h
 exact kQ h (nA vE (e178_++[aZ 4 [(18,vF)] [(17,.v (.bool ya3))],(5,⟨[],[],[],[],[],[(21,((vI ya5),[.arr true 4 [[.sl (oA.map Cell.enc),.sl (oB.map (dA Event.enc)),.sl (oC.map eI),.sl (oD.map eI)]],.mapo true (oE.map (dB (aS .u64) (eN eI))),.arr false 4 [[.ptr (.O 0) 0 0,.sl (oF.map Event.enc),.sl (oG.map eI),.mp 1]],.arr false 1 [[.fn 39 [.ptr (.O 2) 0 0] []],[.fn 40 [.ptr (.O 2) 0 0] []],[.fn 41 [.ptr (.O 2) 0 0] []]]]))],[],[],[]⟩),(6,⟨[],[],[(31,[(vI xa6)])],[(33,vT)],[],[],[],[],[]⟩),aZ 7 [] [(36,(bq bg.enc ya8))]])) [wK 1 [2] [4] 4] KG (cn rfl gF) (fun z=>(c179_ _ (aB ha7 (aI (iy n 3 sa ya5 ya8 gya8) z))))

def jK (oA:(List Cell)) (oB:(List (List Event))) (oC:(List Int)) (oD:(List Int)) (oE:(List (Int×(List Int)))) (oF:(List Event)) (oG:(List Int)) (y:(Bool×Int×Int×Int)):AV×List Ob:=(.agg [.v (.bool y.1),(vI y.2.1),(vI y.2.2.1),(vI y.2.2.2)],[.arr true 4 [[.sl (oA.map Cell.enc),.sl (oB.map (dA Event.enc)),.sl (oC.map eI),.sl (oD.map eI)]],.mapo true (oE.map (dB (aS .u64) (eN eI))),.arr false 4 [[.ptr (.O 0) 0 0,.sl (oF.map Event.enc),.sl (oG.map eI),.mp 1]],.arr false 1 [[.fn 39 [.ptr (.O 2) 0 0] []],[.fn 40 [.ptr (.O 2) 0 0] []],[.fn 41 [.ptr (.O 2) 0 0] []]]])
theorem fL (n:Nat) (oA:(List Cell)) (oB:(List (List Event))) (oC:(List Int)) (oD:(List Int)) (oE:(List (Int×(List Int)))) (oF:(List Event)) (oG:(List Int)) (y:(Bool×Int×Int×Int)) (h:dS n oA oB oC oD oE oF oG=some y):SD Tryz.prog 40 [.ptr (.O 2) 0 0] [.arr true 4 [[.sl (oA.map Cell.enc),.sl (oB.map (dA Event.enc)),.sl (oC.map eI),.sl (oD.map eI)]],.mapo true (oE.map (dB (aS .u64) (eN eI))),.arr false 4 [[.ptr (.O 0) 0 0,.sl (oF.map Event.enc),.sl (oG.map eI),.mp 1]],.arr false 1 [[.fn 39 [.ptr (.O 2) 0 0] []],[.fn 40 [.ptr (.O 2) 0 0] []],[.fn 41 [.ptr (.O 2) 0 0] []]]] (fun r' o'=>r'=(jK oA oB oC oD oE oF oG y).1∧o'=(jK oA oB oC oD oE oF oG y).2):=by
 unfold dS at h
 obtain ⟨t1,gt1,h⟩:=ab h
 rcases t1 with w2 | w2
 ·
  obtain ⟨y3,gy3,h⟩:=ab h
  obtain rfl:=aF h
  exact kS ⟨vE,[rV 1 [(10,(vI (oF.length:Int)))],aZ 9 [] [(38,(bq bg.enc y3))]],[],[(2,(⟨[0,2,9,10,11],[],4,[],[],[]⟩,l0,(.ex 0),P6 oA oB oC oD oE oF oG w2))],[]⟩ IT ⟨rfl,rfl⟩ (fun z=>(aL Event.enc oF (aI (eo (pl:=al 40) (KH oA oB oC oD oE oF oG) (Nm oA oB oC oD oE oF oG) (P8 n oA oB oC oD oE oF oG) n _ (.inl w2) gt1) (aI (jz n y3 gy3) z))))
 ·
  obtain rfl:=aF h
  exact kS ⟨vE,[rV 1 [(10,(vI (oF.length:Int)))]],[],[(2,(⟨[0,2,9,10,11],[],4,[],[],[]⟩,l0,.ret,P7 oA oB oC oD oE oF oG w2))],[]⟩ IT ⟨rfl,rfl⟩ (fun z=>(aL Event.enc oF (aI (eo (pl:=al 40) (KH oA oB oC oD oE oF oG) (Nm oA oB oC oD oE oF oG) (P8 n oA oB oC oD oE oF oG) n _ (.inr w2) gt1) z)))

end
end Go.Proofs.YtomahedcdcnnhaaGreatDoor
