/- What the functions compute, they compute: printed by a program, path by path. No conditions. -/
import Derived.Test.YtomahedcdcnnhaaGreatDoorP1
import Derived.KernelRfl
namespace Go.Proofs.YtomahedcdcnnhaaGreatDoor
open Go A
set_option linter.unusedVariables false
set_option maxRecDepth 100000
set_option maxHeartbeats 0
section
variable (pc:Nat→List AV→(AV→Prop)→Prop) (sc:Nat→List AV→List Ob→(AV→List Ob→Prop)→Prop) (lp:bw→Code→St→(Ex→St→Prop)→Prop) (cd:wB)

def dG:List (Nat×PT):=[(9,(eO [0,1,2,3,4,5,6,7,8])),(17,(eO [0,1,2,3,4,5,6,7,8,9,10,11,12,13,14,15,16,17,18])),(25,(eO [0,1,2,3,4,5,6,7,8,9,10,11,12,13,14,15]))]
theorem G0:aA (ao 82) dG (al Tryz.prog 82)=true:=by kernel_rfl
noncomputable def IJ:Code:=sub (al Tryz.prog 82) [1,1,1,1,1,1,0,1,0,0]
noncomputable def M_:Code:=sub IJ [1,1,0,0,1,0,1,0,0]
noncomputable def Na:Code:=sub IJ [1,1,0,0,1,1,1,0,0]
noncomputable def C4:Code:=sub (al Tryz.prog 82) [1,1,1,1,1,0,1,0,0]
theorem G1:aA (ao 82) dG C4=true:=by kernel_rfl
theorem oS:aA (ao 82) dG M_=true:=by kernel_rfl
def K5 (c:af) (y3:(List Event)) (xa2:Event) (sb:(List Int)×(List Int)×(List Int)×(List Int)×(List Int)×Int×Int×Int):St:=bm 146 [(3,.ptr (.O 0) 0 0),(6,(vI sb.2.2.2.2.2.2.2)),(7,.ptr (.L 7) 0 0),(52,.sl (y3.map Event.enc)),(53,(vI (y3.length:Int))),(54,(vI sb.2.2.2.2.2.1)),(59,(vI sb.2.2.2.2.2.2.1))] [(7,(Event.enc xa2))] [.arr false 7 [[.fptr (af.enc c) 0,.sl (y3.map Event.enc),.mf 2,.mf 3,.mf 4,.mf 5,.mf 1]],.arr true 1 (sb.1.map eI),.arr true 1 (sb.2.1.map eI),.arr true 1 (sb.2.2.1.map eI),.arr true 1 (sb.2.2.2.1.map eI),.arr true 1 (sb.2.2.2.2.1.map eI)] 0
def Nb (c:af) (y3:(List Event)) (xa2:Event) (tt:(List Int)×(List Int)×(List Int)×(List Int)×(List Int)×Int×Int):St:=bm 146 [(3,.ptr (.O 0) 0 0),(6,(vI tt.2.2.2.2.2.2)),(7,.ptr (.L 7) 0 0),(52,.sl (y3.map Event.enc)),(53,(vI (y3.length:Int))),(54,(vI tt.2.2.2.2.2.1))] [(7,(Event.enc xa2))] [.arr false 7 [[.fptr (af.enc c) 0,.sl (y3.map Event.enc),.mf 2,.mf 3,.mf 4,.mf 5,.mf 1]],.arr true 1 (tt.1.map eI),.arr true 1 (tt.2.1.map eI),.arr true 1 (tt.2.2.1.map eI),.arr true 1 (tt.2.2.2.1.map eI),.arr true 1 (tt.2.2.2.2.1.map eI)] 0
def Nc (c:af) (y3:(List Event)) (xa2:Event) (tt:((List Int)×(List Int)×(List Int)×(List Int)×(List Int)×Int×Int)):Ex×St:=(.ex 4,Nb c y3 xa2 tt)
theorem Qb (n:Nat) (c:af) (y3:(List Event)) (xa2:Event):∀ sb r,mi n c y3 xa2 sb=some r→aW Tryz.prog M_ (K5 c y3 xa2 sb) (rk (K5 c y3 xa2) (Nc c y3 xa2) r):=by
 intro sb r h
 unfold mi at h
 rcases aG h with ⟨hb1,h⟩ | ⟨hb1,h⟩
 ·
  exact kQ h (nA dG [rV 15 [(60,vF)]]) [wK 6 [3,6,7,52,53,54] [] 6] oS (co rfl j8) (fun z=>(aB hb1 z)) (by kernel_rfl)
 let e99_:LR:=[rV 15 [(60,vT)]]
 rcases au h with ⟨hb2,h⟩ | ⟨hb2,h⟩
 ·
  obtain ⟨xb3,gxb3,h⟩:=ac h
  obtain ⟨xb4,gxb4,h⟩:=ac h
  have d0_:AV.v (.int .i64 sb.2.2.2.2.2.2.1)=AV.v (.int .i64 0):=xm hb2
  have c100_:=fun (R:Prop) (z:R)=>(aB hb1 (aI d0_ (aI d0_ (aM eI gxb3 (aN eI gxb3 (aM eI gxb4 (aN eI gxb4 (aI (fC eI sb.2.1 (((ah .i64 sb.2.2.2.2.2.2.2 1)).toNat) xb3) z))))))))
  let e101_:LR:=[(17,⟨[],[],[(77,[(vI xb3)]),(78,[(vI xb3)]),(79,[(vI xb4)]),(1000079,[(vI xb4)])],[(63,(vI 0)),(71,(vI 0))],[],[],[(1000079,(2,(sb.2.1.set ((ah .i64 sb.2.2.2.2.2.2.2 1)).toNat xb3).map eI))],[],[]⟩)]
  rcases aG h with ⟨hb5,h⟩ | ⟨hb5,h⟩
  ·
   exact kQ h (nA dG (e99_++(e101_++[rV 18 [(83,vF)]]))) [wK 0 [3,6,7,52,53,54,59] [] 6] oS cS (fun z=>(c100_ _ (aB hb5 z))) (by kernel_rfl)
  obtain ⟨hb6,h⟩:=fj h
  rcases aG h with ⟨hb7,h⟩ | ⟨hb7,h⟩
  ·
   exact kQ h (nA dG (e99_++(e101_++[(18,⟨[],[88],[],[(83,vT),(92,vF)],[],[],[],[],[]⟩)]))) [wK 0 [3,6,7,52,53,54,59] [] 6] oS cS (fun z=>(c100_ _ (aB hb5 (aI hb6 (aB hb7 z))))) (by kernel_rfl)
  obtain ⟨hb8,h⟩:=fj h
  have c102_:=fun (R:Prop) (z:R)=>(aB hb5 (aI hb6 (aB hb7 (aI hb8 z))))
  rcases aG h with ⟨hb9,h⟩ | ⟨hb9,h⟩
  ·
   exact kQ h (nA dG (e99_++(e101_++[(18,⟨[],[88,97],[],[(83,vT),(92,vT),(100,vF)],[],[],[],[],[]⟩)]))) [wK 0 [3,6,7,52,53,54,59] [] 6] oS cS (fun z=>(c100_ _ (c102_ _ (aB hb9 z)))) (by kernel_rfl)
  obtain ⟨xb10,gxb10,h⟩:=ac h
  have d0_:CR ((sb.2.1.set ((ah .i64 sb.2.2.2.2.2.2.2 1)).toNat xb3).map eI) (ah .i64 sb.2.2.2.2.2.2.2 1)=some [(vI xb10)]:=nh eI gxb10
  have d1_:((sb.2.1.set ((ah .i64 sb.2.2.2.2.2.2.2 1)).toNat xb3).map eI)[((ah .i64 sb.2.2.2.2.2.2.2 1)).toNat]?=some [(vI xb10)]:=pC eI gxb10
  exact kQ h (nA dG (e99_++(e101_++[(18,⟨[],[88,97],[],[(83,vT),(92,vT),(100,vT)],[],[],[],[],[]⟩),(19,⟨[],[],[(109,[(vI xb10)]),(110,[(vI xb10)]),(112,[(vI xb10)]),(1000112,[(vI xb10)])],[(102,(vI 0))],[],[],[(1000112,(2,((sb.2.1.set ((ah .i64 sb.2.2.2.2.2.2.2 1)).toNat xb3).set ((ah .i64 sb.2.2.2.2.2.2.2 1)).toNat (ah .i64 xb10 1)).map eI))],[],[]⟩)]))) [wK 0 [3,6,7,52,53,54,59] [] 6] oS cS (fun z=>(c100_ _ (c102_ _ (aB hb9 (aE .i64 hb2 (aI d0_ (aI d1_ (aI d0_ (aI d1_ (aI (fC eI (sb.2.1.set ((ah .i64 sb.2.2.2.2.2.2.2 1)).toNat xb3) (((ah .i64 sb.2.2.2.2.2.2.2 1)).toNat) (ah .i64 xb10 1)) z)))))))))) (by kernel_rfl)
 rcases au h with ⟨hb2,h⟩ | ⟨hb2,h⟩
 ·
  obtain ⟨xb3,gxb3,h⟩:=ac h
  obtain ⟨xb4,gxb4,h⟩:=ac h
  have d0_:AV.v (.int .i64 sb.2.2.2.2.2.2.1)=AV.v (.int .i64 1):=xm hb2
  have c103_:=fun (R:Prop) (z:R)=>(aB hb1 (aI d0_ (aI d0_ (aM eI gxb3 (aN eI gxb3 (aM eI gxb4 (aN eI gxb4 (aI (fC eI sb.2.2.1 (((ah .i64 sb.2.2.2.2.2.2.2 1)).toNat) xb3) z))))))))
  let e104_:LR:=[(17,⟨[],[],[(77,[(vI xb3)]),(78,[(vI xb3)]),(79,[(vI xb4)]),(1000079,[(vI xb4)])],[(63,(vI 1)),(71,(vI 1))],[],[],[(1000079,(3,(sb.2.2.1.set ((ah .i64 sb.2.2.2.2.2.2.2 1)).toNat xb3).map eI))],[],[]⟩)]
  rcases aG h with ⟨hb5,h⟩ | ⟨hb5,h⟩
  ·
   exact kQ h (nA dG (e99_++(e104_++[rV 18 [(83,vF)]]))) [wK 0 [3,6,7,52,53,54,59] [] 6] oS cS (fun z=>(c103_ _ (aB hb5 z))) (by kernel_rfl)
  obtain ⟨hb6,h⟩:=fj h
  rcases aG h with ⟨hb7,h⟩ | ⟨hb7,h⟩
  ·
   exact kQ h (nA dG (e99_++(e104_++[(18,⟨[],[88],[],[(83,vT),(92,vF)],[],[],[],[],[]⟩)]))) [wK 0 [3,6,7,52,53,54,59] [] 6] oS cS (fun z=>(c103_ _ (aB hb5 (aI hb6 (aB hb7 z))))) (by kernel_rfl)
  obtain ⟨hb8,h⟩:=fj h
  have c105_:=fun (R:Prop) (z:R)=>(aB hb5 (aI hb6 (aB hb7 (aI hb8 z))))
  rcases aG h with ⟨hb9,h⟩ | ⟨hb9,h⟩
  ·
   exact kQ h (nA dG (e99_++(e104_++[(18,⟨[],[88,97],[],[(83,vT),(92,vT),(100,vF)],[],[],[],[],[]⟩)]))) [wK 0 [3,6,7,52,53,54,59] [] 6] oS cS (fun z=>(c103_ _ (c105_ _ (aB hb9 z)))) (by kernel_rfl)
  obtain ⟨xb10,gxb10,h⟩:=ac h
  have d0_:CR ((sb.2.2.1.set ((ah .i64 sb.2.2.2.2.2.2.2 1)).toNat xb3).map eI) (ah .i64 sb.2.2.2.2.2.2.2 1)=some [(vI xb10)]:=nh eI gxb10
  have d1_:((sb.2.2.1.set ((ah .i64 sb.2.2.2.2.2.2.2 1)).toNat xb3).map eI)[((ah .i64 sb.2.2.2.2.2.2.2 1)).toNat]?=some [(vI xb10)]:=pC eI gxb10
  exact kQ h (nA dG (e99_++(e104_++[(18,⟨[],[88,97],[],[(83,vT),(92,vT),(100,vT)],[],[],[],[],[]⟩),(19,⟨[],[],[(109,[(vI xb10)]),(110,[(vI xb10)]),(112,[(vI xb10)]),(1000112,[(vI xb10)])],[(102,(vI 1))],[],[],[(1000112,(3,((sb.2.2.1.set ((ah .i64 sb.2.2.2.2.2.2.2 1)).toNat xb3).set ((ah .i64 sb.2.2.2.2.2.2.2 1)).toNat (ah .i64 xb10 1)).map eI))],[],[]⟩)]))) [wK 0 [3,6,7,52,53,54,59] [] 6] oS cS (fun z=>(c103_ _ (c105_ _ (aB hb9 (aE .i64 hb2 (aI d0_ (aI d1_ (aI d0_ (aI d1_ (aI (fC eI (sb.2.2.1.set ((ah .i64 sb.2.2.2.2.2.2.2 1)).toNat xb3) (((ah .i64 sb.2.2.2.2.2.2.2 1)).toNat) (ah .i64 xb10 1)) z)))))))))) (by kernel_rfl)
 rcases au h with ⟨hb2,h⟩ | ⟨hb2,h⟩
 ·
  obtain ⟨xb3,gxb3,h⟩:=ac h
  obtain ⟨xb4,gxb4,h⟩:=ac h
  have d0_:AV.v (.int .i64 sb.2.2.2.2.2.2.1)=AV.v (.int .i64 2):=xm hb2
  have c106_:=fun (R:Prop) (z:R)=>(aB hb1 (aI d0_ (aI d0_ (aM eI gxb3 (aN eI gxb3 (aM eI gxb4 (aN eI gxb4 (aI (fC eI sb.2.2.2.1 (((ah .i64 sb.2.2.2.2.2.2.2 1)).toNat) xb3) z))))))))
  let e107_:LR:=[(17,⟨[],[],[(77,[(vI xb3)]),(78,[(vI xb3)]),(79,[(vI xb4)]),(1000079,[(vI xb4)])],[(63,(vI 2)),(71,(vI 2))],[],[],[(1000079,(4,(sb.2.2.2.1.set ((ah .i64 sb.2.2.2.2.2.2.2 1)).toNat xb3).map eI))],[],[]⟩)]
  rcases aG h with ⟨hb5,h⟩ | ⟨hb5,h⟩
  ·
   exact kQ h (nA dG (e99_++(e107_++[rV 18 [(83,vF)]]))) [wK 0 [3,6,7,52,53,54,59] [] 6] oS cS (fun z=>(c106_ _ (aB hb5 z))) (by kernel_rfl)
  obtain ⟨hb6,h⟩:=fj h
  rcases aG h with ⟨hb7,h⟩ | ⟨hb7,h⟩
  ·
   exact kQ h (nA dG (e99_++(e107_++[(18,⟨[],[88],[],[(83,vT),(92,vF)],[],[],[],[],[]⟩)]))) [wK 0 [3,6,7,52,53,54,59] [] 6] oS cS (fun z=>(c106_ _ (aB hb5 (aI hb6 (aB hb7 z))))) (by kernel_rfl)
  obtain ⟨hb8,h⟩:=fj h
  have c108_:=fun (R:Prop) (z:R)=>(aB hb5 (aI hb6 (aB hb7 (aI hb8 z))))
  rcases aG h with ⟨hb9,h⟩ | ⟨hb9,h⟩
  ·
   exact kQ h (nA dG (e99_++(e107_++[(18,⟨[],[88,97],[],[(83,vT),(92,vT),(100,vF)],[],[],[],[],[]⟩)]))) [wK 0 [3,6,7,52,53,54,59] [] 6] oS cS (fun z=>(c106_ _ (c108_ _ (aB hb9 z)))) (by kernel_rfl)
  obtain ⟨xb10,gxb10,h⟩:=ac h
  have d0_:CR ((sb.2.2.2.1.set ((ah .i64 sb.2.2.2.2.2.2.2 1)).toNat xb3).map eI) (ah .i64 sb.2.2.2.2.2.2.2 1)=some [(vI xb10)]:=nh eI gxb10
  have d1_:((sb.2.2.2.1.set ((ah .i64 sb.2.2.2.2.2.2.2 1)).toNat xb3).map eI)[((ah .i64 sb.2.2.2.2.2.2.2 1)).toNat]?=some [(vI xb10)]:=pC eI gxb10
  exact kQ h (nA dG (e99_++(e107_++[(18,⟨[],[88,97],[],[(83,vT),(92,vT),(100,vT)],[],[],[],[],[]⟩),(19,⟨[],[],[(109,[(vI xb10)]),(110,[(vI xb10)]),(112,[(vI xb10)]),(1000112,[(vI xb10)])],[(102,(vI 2))],[],[],[(1000112,(4,((sb.2.2.2.1.set ((ah .i64 sb.2.2.2.2.2.2.2 1)).toNat xb3).set ((ah .i64 sb.2.2.2.2.2.2.2 1)).toNat (ah .i64 xb10 1)).map eI))],[],[]⟩)]))) [wK 0 [3,6,7,52,53,54,59] [] 6] oS cS (fun z=>(c106_ _ (c108_ _ (aB hb9 (aE .i64 hb2 (aI d0_ (aI d1_ (aI d0_ (aI d1_ (aI (fC eI (sb.2.2.2.1.set ((ah .i64 sb.2.2.2.2.2.2.2 1)).toNat xb3) (((ah .i64 sb.2.2.2.2.2.2.2 1)).toNat) (ah .i64 xb10 1)) z)))))))))) (by kernel_rfl)
 rcases au h with ⟨hb2,h⟩ | ⟨hb2,h⟩
 ·
  obtain ⟨xb3,gxb3,h⟩:=ac h
  obtain ⟨xb4,gxb4,h⟩:=ac h
  have d0_:AV.v (.int .i64 sb.2.2.2.2.2.2.1)=AV.v (.int .i64 3):=xm hb2
  have c109_:=fun (R:Prop) (z:R)=>(aB hb1 (aI d0_ (aI d0_ (aM eI gxb3 (aN eI gxb3 (aM eI gxb4 (aN eI gxb4 (aI (fC eI sb.2.2.2.2.1 (((ah .i64 sb.2.2.2.2.2.2.2 1)).toNat) xb3) z))))))))
  let e110_:LR:=[(17,⟨[],[],[(77,[(vI xb3)]),(78,[(vI xb3)]),(79,[(vI xb4)]),(1000079,[(vI xb4)])],[(63,(vI 3)),(71,(vI 3))],[],[],[(1000079,(5,(sb.2.2.2.2.1.set ((ah .i64 sb.2.2.2.2.2.2.2 1)).toNat xb3).map eI))],[],[]⟩)]
  rcases aG h with ⟨hb5,h⟩ | ⟨hb5,h⟩
  ·
   exact kQ h (nA dG (e99_++(e110_++[rV 18 [(83,vF)]]))) [wK 0 [3,6,7,52,53,54,59] [] 6] oS cS (fun z=>(c109_ _ (aB hb5 z))) (by kernel_rfl)
  obtain ⟨hb6,h⟩:=fj h
  rcases aG h with ⟨hb7,h⟩ | ⟨hb7,h⟩
  ·
   exact kQ h (nA dG (e99_++(e110_++[(18,⟨[],[88],[],[(83,vT),(92,vF)],[],[],[],[],[]⟩)]))) [wK 0 [3,6,7,52,53,54,59] [] 6] oS cS (fun z=>(c109_ _ (aB hb5 (aI hb6 (aB hb7 z))))) (by kernel_rfl)
  obtain ⟨hb8,h⟩:=fj h
  have c111_:=fun (R:Prop) (z:R)=>(aB hb5 (aI hb6 (aB hb7 (aI hb8 z))))
  rcases aG h with ⟨hb9,h⟩ | ⟨hb9,h⟩
  ·
   exact kQ h (nA dG (e99_++(e110_++[(18,⟨[],[88,97],[],[(83,vT),(92,vT),(100,vF)],[],[],[],[],[]⟩)]))) [wK 0 [3,6,7,52,53,54,59] [] 6] oS cS (fun z=>(c109_ _ (c111_ _ (aB hb9 z)))) (by kernel_rfl)
  obtain ⟨xb10,gxb10,h⟩:=ac h
  have d0_:CR ((sb.2.2.2.2.1.set ((ah .i64 sb.2.2.2.2.2.2.2 1)).toNat xb3).map eI) (ah .i64 sb.2.2.2.2.2.2.2 1)=some [(vI xb10)]:=nh eI gxb10
  have d1_:((sb.2.2.2.2.1.set ((ah .i64 sb.2.2.2.2.2.2.2 1)).toNat xb3).map eI)[((ah .i64 sb.2.2.2.2.2.2.2 1)).toNat]?=some [(vI xb10)]:=pC eI gxb10
  exact kQ h (nA dG (e99_++(e110_++[(18,⟨[],[88,97],[],[(83,vT),(92,vT),(100,vT)],[],[],[],[],[]⟩),(19,⟨[],[],[(109,[(vI xb10)]),(110,[(vI xb10)]),(112,[(vI xb10)]),(1000112,[(vI xb10)])],[(102,(vI 3))],[],[],[(1000112,(5,((sb.2.2.2.2.1.set ((ah .i64 sb.2.2.2.2.2.2.2 1)).toNat xb3).set ((ah .i64 sb.2.2.2.2.2.2.2 1)).toNat (ah .i64 xb10 1)).map eI))],[],[]⟩)]))) [wK 0 [3,6,7,52,53,54,59] [] 6] oS cS (fun z=>(c109_ _ (c111_ _ (aB hb9 (aE .i64 hb2 (aI d0_ (aI d1_ (aI d0_ (aI d1_ (aI (fC eI (sb.2.2.2.2.1.set ((ah .i64 sb.2.2.2.2.2.2.2 1)).toNat xb3) (((ah .i64 sb.2.2.2.2.2.2.2 1)).toNat) (ah .i64 xb10 1)) z)))))))))) (by kernel_rfl)
 cases h

theorem Ne:aA (ao 82) dG Na=true:=by kernel_rfl
def K6 (c:af) (y3:(List Event)) (xa2:Event) (sb:(List Int)×(List Int)×(List Int)×(List Int)×(List Int)×Int×Int×Int):St:=bm 146 [(3,.ptr (.O 0) 0 0),(6,(vI sb.2.2.2.2.2.2.2)),(7,.ptr (.L 7) 0 0),(52,.sl (y3.map Event.enc)),(53,(vI (y3.length:Int))),(54,(vI sb.2.2.2.2.2.2.1)),(116,.sl (xa2.Deps.Addr.map eI)),(117,(vI (xa2.Deps.Addr.length:Int))),(118,(vI sb.2.2.2.2.2.1))] [(7,(Event.enc xa2))] [.arr false 7 [[.fptr (af.enc c) 0,.sl (y3.map Event.enc),.mf 2,.mf 3,.mf 4,.mf 5,.mf 1]],.arr true 1 (sb.1.map eI),.arr true 1 (sb.2.1.map eI),.arr true 1 (sb.2.2.1.map eI),.arr true 1 (sb.2.2.2.1.map eI),.arr true 1 (sb.2.2.2.2.1.map eI)] 0
def Nf (c:af) (y3:(List Event)) (xa2:Event) (tt:(List Int)×(List Int)×(List Int)×(List Int)×(List Int)×Int):St:=bm 146 [(3,.ptr (.O 0) 0 0),(52,.sl (y3.map Event.enc)),(53,(vI (y3.length:Int))),(54,(vI tt.2.2.2.2.2))] [] [.arr false 7 [[.fptr (af.enc c) 0,.sl (y3.map Event.enc),.mf 2,.mf 3,.mf 4,.mf 5,.mf 1]],.arr true 1 (tt.1.map eI),.arr true 1 (tt.2.1.map eI),.arr true 1 (tt.2.2.1.map eI),.arr true 1 (tt.2.2.2.1.map eI),.arr true 1 (tt.2.2.2.2.1.map eI)] 0
def Ng (c:af) (y3:(List Event)) (xa2:Event) (tt:((List Int)×(List Int)×(List Int)×(List Int)×(List Int)×Int)):Ex×St:=(.ex 6,Nf c y3 xa2 tt)
theorem Qd (n:Nat) (c:af) (y3:(List Event)) (xa2:Event):∀ sb r,mj n c y3 xa2 sb=some r→aW Tryz.prog Na (K6 c y3 xa2 sb) (rk (K6 c y3 xa2) (Ng c y3 xa2) r):=by
 intro sb r h
 unfold mj at h
 rcases aG h with ⟨hb1,h⟩ | ⟨hb1,h⟩
 ·
  exact kQ h (nA dG [rV 22 [(119,vF)]]) [wK 8 [3,52,53,54] [7] 6] Ne (co rfl j8) (fun z=>(aB hb1 z)) (by kernel_rfl)
 obtain ⟨xb2,gxb2,h⟩:=ac h
 obtain ⟨xb3,gxb3,h⟩:=ac h
 have d0_:CR (sb.1.map eI) (ah .i64 (cT .i64 sb.2.2.2.2.2.2.2 xa2.At) xb2)=some [(vI xb3)]:=nh eI gxb3
 have d1_:(sb.1.map eI)[((ah .i64 (cT .i64 sb.2.2.2.2.2.2.2 xa2.At) xb2)).toNat]?=some [(vI xb3)]:=pC eI gxb3
 exact kQ h (nA dG [rV 22 [(119,vT)],rR 23 [(120,[(vI xb2)])],(25,⟨[],[],[(138,[(vI xb3)]),(139,[(vI xb3)]),(142,[(vI xb3)]),(1000142,[(vI xb3)])],[],[],[],[(1000142,(1,(sb.1.set ((ah .i64 (cT .i64 sb.2.2.2.2.2.2.2 xa2.At) xb2)).toNat (Kd xb3 sb.2.2.2.2.2.2.2)).map eI))],[],[]⟩)]) [wK 0 [3,6,7,52,53,54,116,117,118] [] 6] Ne cS (fun z=>(aB hb1 (aM eI gxb2 (aI d0_ (aI d1_ (aI d0_ (aI d1_ (aI (fC eI sb.1 (((ah .i64 (cT .i64 sb.2.2.2.2.2.2.2 xa2.At) xb2)).toNat) (Kd xb3 sb.2.2.2.2.2.2.2)) z)))))))) (by kernel_rfl)

theorem Nh:aA (ao 82) dG IJ=true:=by kernel_rfl
def K7 (c:af) (y3:(List Event)) (sa:(List Int)×(List Int)×(List Int)×(List Int)×(List Int)×Int):St:=bm 146 [(3,.ptr (.O 0) 0 0),(52,.sl (y3.map Event.enc)),(53,(vI (y3.length:Int))),(54,(vI sa.2.2.2.2.2))] [] [.arr false 7 [[.fptr (af.enc c) 0,.sl (y3.map Event.enc),.mf 2,.mf 3,.mf 4,.mf 5,.mf 1]],.arr true 1 (sa.1.map eI),.arr true 1 (sa.2.1.map eI),.arr true 1 (sa.2.2.1.map eI),.arr true 1 (sa.2.2.2.1.map eI),.arr true 1 (sa.2.2.2.2.1.map eI)] 0
def Ni (c:af) (y3:(List Event)) (tt:(List Int)×(List Int)×(List Int)×(List Int)×(List Int)):St:=bm 146 [(3,.ptr (.O 0) 0 0)] [] [.arr false 7 [[.fptr (af.enc c) 0,.sl (y3.map Event.enc),.mf 2,.mf 3,.mf 4,.mf 5,.mf 1]],.arr true 1 (tt.1.map eI),.arr true 1 (tt.2.1.map eI),.arr true 1 (tt.2.2.1.map eI),.arr true 1 (tt.2.2.2.1.map eI),.arr true 1 (tt.2.2.2.2.map eI)] 0
def Nj (c:af) (y3:(List Event)) (tt:((List Int)×(List Int)×(List Int)×(List Int)×(List Int))):Ex×St:=(.ex 2,Ni c y3 tt)
theorem Qe (n:Nat) (c:af) (y3:(List Event)):∀ sa r,pg n c y3 sa=some r→aW Tryz.prog IJ (K7 c y3 sa) (rk (K7 c y3) (Nj c y3) r):=by
 intro sa r h
 unfold pg at h
 rcases aG h with ⟨ha1,h⟩ | ⟨ha1,h⟩
 ·
  exact kQ h (nA dG [rV 12 [(55,vF)]]) [wK 4 [3] [] 6] Nh (co rfl j8) (fun z=>(aB ha1 z)) (by kernel_rfl)
 obtain ⟨xa2,gxa2,h⟩:=ac h
 obtain ⟨ta3,gta3,h⟩:=ac h
 obtain ⟨ta4,gta4,h⟩:=ac h
 exact kQ h ⟨dG,[rV 12 [(55,vT)],rR 13 [(57,(Event.enc xa2))],rV 21 [(117,(vI (xa2.Deps.Addr.length:Int)))]],[],[(15,(⟨[3,6,7,52,53,54,59],[],6,[],[],[]⟩,l0,(.ex 4),Nb c y3 xa2 ta3)),(22,(⟨[3,6,7,52,53,54,116,117,118],[],6,[],[],[]⟩,l0,(.ex 6),Nf c y3 xa2 ta4))],[]⟩ [wK 0 [3,52,53,54] [] 6] Nh cS (fun z=>(aB ha1 (aM Event.enc gxa2 (aI (eA (pl:=ao 82) (K5 c y3 xa2) (Nc c y3 xa2) (Qb n c y3 xa2) n _ ta3 gta3) (aL eI xa2.Deps.Addr (aI (eA (pl:=ao 82) (K6 c y3 xa2) (Ng c y3 xa2) (Qd n c y3 xa2) n _ ta4 gta4) z)))))) (by kernel_rfl)

theorem oU (c:af) (y3:(List Event)) (y4:(List Int)) (K:Ex→St→Prop):oR pc sc lp cd (nA dG [(9,⟨[],[44],[],[],[],[],[(44,(2,(List.replicate ((ah .i64 (y3.length:Int) 1)).toNat 0).map eI))],[],[]⟩)]) (ao 82) [wK 0 [3,4,37] [] 3] C4 (bm 146 [(3,.ptr (.O 0) 0 0),(4,(vI (y3.length:Int))),(37,(vI 0))] [] [.arr false 7 [[.fptr (af.enc c) 0,.sl (y3.map Event.enc),.nilsl,.nilsl,.nilsl,.nilsl,.mf 1]],.arr true 1 (y4.map eI)] 0) K
  = (((decide ((0:Int)≤(ah .i64 (y3.length:Int) 1))&&decide ((ah .i64 (y3.length:Int) 1)≤(ah .i64 (y3.length:Int) 1))&&decide (8 * (ah .i64 (y3.length:Int) 1)≤140737488355328)&&decide ((ah .i64 (y3.length:Int) 1)≤140737488355328)&&Nat.blt 0 1)=true)∧(List.replicate ((ah .i64 (y3.length:Int) 1)).toNat [(vI 0)]=(List.replicate ((ah .i64 (y3.length:Int) 1)).toNat 0).map eI)∧K .nrm (bm 146 [(3,.ptr (.O 0) 0 0),(4,(vI (y3.length:Int))),(37,(vI 1))] [] [.arr false 7 [[.fptr (af.enc c) 0,.sl (y3.map Event.enc),.mf 2,.nilsl,.nilsl,.nilsl,.mf 1]],.arr true 1 (y4.map eI),.arr true 1 ((List.replicate ((ah .i64 (y3.length:Int) 1)).toNat 0).map eI)] 0)):=by kernel_rfl
theorem oV (c:af) (y3:(List Event)) (y4:(List Int)) (K:Ex→St→Prop):oR pc sc lp cd (nA dG [(9,⟨[],[44],[],[],[],[],[(44,(3,(List.replicate ((ah .i64 (y3.length:Int) 1)).toNat 0).map eI))],[],[]⟩)]) (ao 82) [wK 0 [3,4,37] [] 4] C4 (bm 146 [(3,.ptr (.O 0) 0 0),(4,(vI (y3.length:Int))),(37,(vI 1))] [] [.arr false 7 [[.fptr (af.enc c) 0,.sl (y3.map Event.enc),.mf 2,.nilsl,.nilsl,.nilsl,.mf 1]],.arr true 1 (y4.map eI),.arr true 1 ((List.replicate ((ah .i64 (y3.length:Int) 1)).toNat 0).map eI)] 0) K
  = (((decide ((0:Int)≤(ah .i64 (y3.length:Int) 1))&&decide ((ah .i64 (y3.length:Int) 1)≤(ah .i64 (y3.length:Int) 1))&&decide (8 * (ah .i64 (y3.length:Int) 1)≤140737488355328)&&decide ((ah .i64 (y3.length:Int) 1)≤140737488355328)&&Nat.blt 0 1)=true)∧(List.replicate ((ah .i64 (y3.length:Int) 1)).toNat [(vI 0)]=(List.replicate ((ah .i64 (y3.length:Int) 1)).toNat 0).map eI)∧K .nrm (bm 146 [(3,.ptr (.O 0) 0 0),(4,(vI (y3.length:Int))),(37,(vI 2))] [] [.arr false 7 [[.fptr (af.enc c) 0,.sl (y3.map Event.enc),.mf 2,.mf 3,.nilsl,.nilsl,.mf 1]],.arr true 1 (y4.map eI),.arr true 1 ((List.replicate ((ah .i64 (y3.length:Int) 1)).toNat 0).map eI),.arr true 1 ((List.replicate ((ah .i64 (y3.length:Int) 1)).toNat 0).map eI)] 0)):=by kernel_rfl
theorem oW (c:af) (y3:(List Event)) (y4:(List Int)) (K:Ex→St→Prop):oR pc sc lp cd (nA dG [(9,⟨[],[44],[],[],[],[],[(44,(4,(List.replicate ((ah .i64 (y3.length:Int) 1)).toNat 0).map eI))],[],[]⟩)]) (ao 82) [wK 0 [3,4,37] [] 5] C4 (bm 146 [(3,.ptr (.O 0) 0 0),(4,(vI (y3.length:Int))),(37,(vI 2))] [] [.arr false 7 [[.fptr (af.enc c) 0,.sl (y3.map Event.enc),.mf 2,.mf 3,.nilsl,.nilsl,.mf 1]],.arr true 1 (y4.map eI),.arr true 1 ((List.replicate ((ah .i64 (y3.length:Int) 1)).toNat 0).map eI),.arr true 1 ((List.replicate ((ah .i64 (y3.length:Int) 1)).toNat 0).map eI)] 0) K
  = (((decide ((0:Int)≤(ah .i64 (y3.length:Int) 1))&&decide ((ah .i64 (y3.length:Int) 1)≤(ah .i64 (y3.length:Int) 1))&&decide (8 * (ah .i64 (y3.length:Int) 1)≤140737488355328)&&decide ((ah .i64 (y3.length:Int) 1)≤140737488355328)&&Nat.blt 0 1)=true)∧(List.replicate ((ah .i64 (y3.length:Int) 1)).toNat [(vI 0)]=(List.replicate ((ah .i64 (y3.length:Int) 1)).toNat 0).map eI)∧K .nrm (bm 146 [(3,.ptr (.O 0) 0 0),(4,(vI (y3.length:Int))),(37,(vI 3))] [] [.arr false 7 [[.fptr (af.enc c) 0,.sl (y3.map Event.enc),.mf 2,.mf 3,.mf 4,.nilsl,.mf 1]],.arr true 1 (y4.map eI),.arr true 1 ((List.replicate ((ah .i64 (y3.length:Int) 1)).toNat 0).map eI),.arr true 1 ((List.replicate ((ah .i64 (y3.length:Int) 1)).toNat 0).map eI),.arr true 1 ((List.replicate ((ah .i64 (y3.length:Int) 1)).toNat 0).map eI)] 0)):=by kernel_rfl
theorem oX (c:af) (y3:(List Event)) (y4:(List Int)) (K:Ex→St→Prop):oR pc sc lp cd (nA dG [(9,⟨[],[44],[],[],[],[],[(44,(5,(List.replicate ((ah .i64 (y3.length:Int) 1)).toNat 0).map eI))],[],[]⟩)]) (ao 82) [wK 0 [3,4,37] [] 6] C4 (bm 146 [(3,.ptr (.O 0) 0 0),(4,(vI (y3.length:Int))),(37,(vI 3))] [] [.arr false 7 [[.fptr (af.enc c) 0,.sl (y3.map Event.enc),.mf 2,.mf 3,.mf 4,.nilsl,.mf 1]],.arr true 1 (y4.map eI),.arr true 1 ((List.replicate ((ah .i64 (y3.length:Int) 1)).toNat 0).map eI),.arr true 1 ((List.replicate ((ah .i64 (y3.length:Int) 1)).toNat 0).map eI),.arr true 1 ((List.replicate ((ah .i64 (y3.length:Int) 1)).toNat 0).map eI)] 0) K
  = (((decide ((0:Int)≤(ah .i64 (y3.length:Int) 1))&&decide ((ah .i64 (y3.length:Int) 1)≤(ah .i64 (y3.length:Int) 1))&&decide (8 * (ah .i64 (y3.length:Int) 1)≤140737488355328)&&decide ((ah .i64 (y3.length:Int) 1)≤140737488355328)&&Nat.blt 0 1)=true)∧(List.replicate ((ah .i64 (y3.length:Int) 1)).toNat [(vI 0)]=(List.replicate ((ah .i64 (y3.length:Int) 1)).toNat 0).map eI)∧K .nrm (bm 146 [(3,.ptr (.O 0) 0 0),(4,(vI (y3.length:Int))),(37,(vI 4))] [] [.arr false 7 [[.fptr (af.enc c) 0,.sl (y3.map Event.enc),.mf 2,.mf 3,.mf 4,.mf 5,.mf 1]],.arr true 1 (y4.map eI),.arr true 1 ((List.replicate ((ah .i64 (y3.length:Int) 1)).toNat 0).map eI),.arr true 1 ((List.replicate ((ah .i64 (y3.length:Int) 1)).toNat 0).map eI),.arr true 1 ((List.replicate ((ah .i64 (y3.length:Int) 1)).toNat 0).map eI),.arr true 1 ((List.replicate ((ah .i64 (y3.length:Int) 1)).toNat 0).map eI)] 0)):=by kernel_rfl
theorem oY (c:af) (y3:(List Event)) (y4:(List Int)) (K:Ex→St→Prop):oR pc sc lp cd (nA dG []) (ao 82) [wK 2 [3] [] 6] C4 (bm 146 [(3,.ptr (.O 0) 0 0),(4,(vI (y3.length:Int))),(37,(vI 4))] [] [.arr false 7 [[.fptr (af.enc c) 0,.sl (y3.map Event.enc),.mf 2,.mf 3,.mf 4,.mf 5,.mf 1]],.arr true 1 (y4.map eI),.arr true 1 ((List.replicate ((ah .i64 (y3.length:Int) 1)).toNat 0).map eI),.arr true 1 ((List.replicate ((ah .i64 (y3.length:Int) 1)).toNat 0).map eI),.arr true 1 ((List.replicate ((ah .i64 (y3.length:Int) 1)).toNat 0).map eI),.arr true 1 ((List.replicate ((ah .i64 (y3.length:Int) 1)).toNat 0).map eI)] 0) K
  = (K (.ex 0) (bm 146 [(3,.ptr (.O 0) 0 0)] [] [.arr false 7 [[.fptr (af.enc c) 0,.sl (y3.map Event.enc),.mf 2,.mf 3,.mf 4,.mf 5,.mf 1]],.arr true 1 (y4.map eI),.arr true 1 ((List.replicate ((ah .i64 (y3.length:Int) 1)).toNat 0).map eI),.arr true 1 ((List.replicate ((ah .i64 (y3.length:Int) 1)).toNat 0).map eI),.arr true 1 ((List.replicate ((ah .i64 (y3.length:Int) 1)).toNat 0).map eI),.arr true 1 ((List.replicate ((ah .i64 (y3.length:Int) 1)).toNat 0).map eI)] 0)):=by kernel_rfl
theorem wR (n:Nat) (c:af) (r:(Option ai)) (h:qd n c=some r):az Tryz.prog 82 [.fptr (af.enc c) 0] (eY ((BQ ai.enc r))):=by
 unfold qd at h
 obtain ⟨y1,gy1,h⟩:=ac h
 have c112_:=fun (R:Prop) (z:R)=>(aI (iT n c y1 gy1) z)
 rcases au h with ⟨h2,h⟩ | ⟨h2,h⟩
 ·
  obtain rfl:=aS h
  exact kP (nA dG [bh 1 [(16,vT)] [(15,(vI y1))]]) G0 (fun z=>(c112_ _ (aB h2 z))) (by kernel_rfl)
 obtain ⟨y3,gy3,h⟩:=ac h
 obtain ⟨y4,gy4,h⟩:=ac h
 obtain ⟨h5,h⟩:=fj h
 obtain ⟨h6,h⟩:=fj h
 obtain ⟨h7,h⟩:=fj h
 obtain ⟨h8,h⟩:=fj h
 obtain ⟨t9,gt9,h⟩:=ac h
 obtain rfl:=aS h
 have d0_:AV.v (.int .i64 (((y3.map Event.enc).length:Nat):Int))=AV.v (.int .i64 (y3.length:Int)):=u7 _ _
 exact kP ⟨dG,[bh 1 [(16,vF)] [(15,(vI y1))],bh 3 [] [(22,.sl (y3.map Event.enc))],rV 4 [(29,(vI (y3.length:Int)))],(5,⟨[],[],[],[],[],[(34,(.mf 1,[.arr true 7 [[.fptr (af.enc c) 0,.sl (y3.map Event.enc),.nilsl,.nilsl,.nilsl,.nilsl,.nilsl]],.arr true 1 (y4.map eI)]))],[],[],[]⟩),rV 11 [(53,(vI (y3.length:Int)))]],[],[(7,(⟨[3,4,37],[],2,[],[],[]⟩,l0,(.ex 0),bm 146 [(3,.ptr (.O 0) 0 0)] [] [.arr false 7 [[.fptr (af.enc c) 0,.sl (y3.map Event.enc),.mf 2,.mf 3,.mf 4,.mf 5,.mf 1]],.arr true 1 (y4.map eI),.arr true 1 ((List.replicate ((ah .i64 (y3.length:Int) 1)).toNat 0).map eI),.arr true 1 ((List.replicate ((ah .i64 (y3.length:Int) 1)).toNat 0).map eI),.arr true 1 ((List.replicate ((ah .i64 (y3.length:Int) 1)).toNat 0).map eI),.arr true 1 ((List.replicate ((ah .i64 (y3.length:Int) 1)).toNat 0).map eI)] 0)),(12,(⟨[3,52,53,54],[],6,[],[],[]⟩,l0,(.ex 2),Ni c y3 t9))],[]⟩ G0 (fun z=>(c112_ _ (aB h2 (aI (dy n c.Harts y3 gy3) (aI d0_ (aI (j9 n ([(y3.length:Int)]:List Int) (y3.length:Int) c.First c.Harts c.From c.Order y3 y4 gy4) (aI ((cD.round (cfg:=cfg) (Cd G1 (Eq.mpr (oU pP sP lP dP c y3 y4 _) ⟨h5,ku eI _ 0,⟨rfl,rfl⟩⟩) (cD.round (cfg:=cfg) (Cd G1 (Eq.mpr (oV pP sP lP dP c y3 y4 _) ⟨h6,ku eI _ 0,⟨rfl,rfl⟩⟩) (cD.round (cfg:=cfg) (Cd G1 (Eq.mpr (oW pP sP lP dP c y3 y4 _) ⟨h7,ku eI _ 0,⟨rfl,rfl⟩⟩) (cD.round (cfg:=cfg) (Cd G1 (Eq.mpr (oX pP sP lP dP c y3 y4 _) ⟨h8,ku eI _ 0,⟨rfl,rfl⟩⟩) (cD.round (cfg:=cfg) (Cd G1 (Eq.mpr (oY pP sP lP dP c y3 y4 _) ⟨rfl,rfl⟩) ⟨rfl,rfl⟩)))))))))):lP (ao 82) C4 (bm 146 [(3,.ptr (.O 0) 0 0),(4,(vI (y3.length:Int))),(37,(vI 0))] [] [.arr false 7 [[.fptr (af.enc c) 0,.sl (y3.map Event.enc),.nilsl,.nilsl,.nilsl,.nilsl,.mf 1]],.arr true 1 (y4.map eI)] 0) (fun e' S'=>e'=(.ex 0)∧S'=bm 146 [(3,.ptr (.O 0) 0 0)] [] [.arr false 7 [[.fptr (af.enc c) 0,.sl (y3.map Event.enc),.mf 2,.mf 3,.mf 4,.mf 5,.mf 1]],.arr true 1 (y4.map eI),.arr true 1 ((List.replicate ((ah .i64 (y3.length:Int) 1)).toNat 0).map eI),.arr true 1 ((List.replicate ((ah .i64 (y3.length:Int) 1)).toNat 0).map eI),.arr true 1 ((List.replicate ((ah .i64 (y3.length:Int) 1)).toNat 0).map eI),.arr true 1 ((List.replicate ((ah .i64 (y3.length:Int) 1)).toNat 0).map eI)] 0)) (aI d0_ (aI (eA (pl:=ao 82) (K7 c y3) (Nj c y3) (Qe n c y3) n _ t9 gt9) z))))))))) (by kernel_rfl)

def wS:List (Nat×PT):=[(3,(eO [0,1,2,3,4,5,6,7,8,9,10,11,12,13])),(4,(eO [0,1,2,3,4,5,6,7,8,9,10,11,12,13,14,15,16,17,18,19,20,21]))]
theorem ti:aA (ao 93) wS (al Tryz.prog 93)=true:=by kernel_rfl
theorem qT (n:Nat) (v:ai) (a:Int) (b:Int) (r:Bool) (h:ed n v a b=some r):az Tryz.prog 93 [.fptr (ai.enc v) 0,(vI a),(vI b)] (eY (.v (.bool r))):=by
 unfold ed at h
 rcases au h with ⟨h1,h⟩ | ⟨h1,h⟩
 ·
  obtain rfl:=aS h
  exact kP (nA wS [rV 1 [(15,vT)]]) ti (fun z=>(aB h1 z)) (by kernel_rfl)
 have c113_:=fun (R:Prop) (z:R)=>(aB h1 (aL Event.enc v.all z))
 rcases au h with ⟨h2,h⟩ | ⟨h2,h⟩
 ·
  obtain rfl:=aS h
  exact kP (nA wS [rV 1 [(15,vF),(21,(vI (v.all.length:Int))),(24,vT)]]) ti (fun z=>(c113_ _ (aB h2 z))) (by kernel_rfl)
 rcases au h with ⟨h3,h⟩ | ⟨h3,h⟩
 ·
  obtain rfl:=aS h
  exact kP (nA wS [rV 1 [(15,vF),(21,(vI (v.all.length:Int))),(24,vF),(28,vT)]]) ti (fun z=>(c113_ _ (aB h2 (aB h3 z)))) (by kernel_rfl)
 obtain ⟨x4,gx4,h⟩:=ac h
 obtain ⟨x5,gx5,h⟩:=ac h
 have c114_:=fun (R:Prop) (z:R)=>(aB h2 (aB h3 (aM Event.enc gx4 (aM Event.enc gx5 z))))
 let e115_:LR:=[rV 1 [(15,vF),(21,(vI (v.all.length:Int))),(24,vF),(28,vF)],rR 3 [(34,(Event.enc x4)),(40,(Event.enc x5))]]
 rcases aG h with ⟨h6,h⟩ | ⟨h6,h⟩
 ·
  obtain rfl:=aS h
  exact kP (nA wS (e115_++[rV 4 [(50,vF)]])) ti (fun z=>(c113_ _ (c114_ _ (aB h6 z)))) (by kernel_rfl)
 obtain ⟨y7,gy7,h⟩:=ac h
 have c116_:=fun (R:Prop) (z:R)=>(aB h6 (aI (jk n x4 y7 gy7) z))
 rcases aG h with ⟨h8,h⟩ | ⟨h8,h⟩
 ·
  obtain rfl:=aS h
  exact kP (nA wS (e115_++[bh 4 [(50,vT),(56,vF)] [(54,.v (.bool y7))]])) ti (fun z=>(c113_ _ (c114_ _ (c116_ _ (aB h8 z))))) (by kernel_rfl)
 obtain ⟨y9,gy9,h⟩:=ac h
 obtain rfl:=aS h
 exact kP (nA wS (e115_++[bh 4 [(50,vT),(56,vT)] [(54,.v (.bool y7)),(60,.v (.bool y9))]])) ti (fun z=>(c113_ _ (c114_ _ (c116_ _ (aB h8 (aI (jk n x5 y9 gy9) z)))))) (by kernel_rfl)

def J1:List (Nat×PT):=[]
theorem K8:aA (ao 94) J1 (al Tryz.prog 94)=true:=by kernel_rfl
theorem xS (n:Nat) (r:Unit) (h:sq n=some r):az Tryz.prog 94 [] (eY (.agg [.fn 108 [] [],.fn 109 [] [],.fn 112 [] [],.fn 113 [] [],.fn 115 [] [],.fn 116 [] [],.fn 117 [] [],.fn 118 [] [],.fn 119 [] [],.fn 121 [] [],.fn 122 [] [],.fn 123 [] [],.fn 124 [] []])):=by
 unfold sq at h
 obtain rfl:=aS h
 exact kP (nA J1 []) K8 (fun z=>z) (by kernel_rfl)

def C5:List (Nat×PT):=[(1,(eO [0,1,2,3,4,5,6,7,8,9,10,11,12,13,14,15]))]
theorem D8:aA (ao 108) C5 (al Tryz.prog 108)=true:=by kernel_rfl
theorem uG (n:Nat) (v:ai) (a:Int) (b:Int) (x:Event) (y:Event) (r:Bool) (h:fg n v a b x y=some r):az Tryz.prog 108 [.fptr (ai.enc v) 0,(vI a),(vI b),.fptr (Event.enc x) 0,.fptr (Event.enc y) 0] (eY (.v (.bool r))):=by
 unfold fg at h
 obtain ⟨y1,gy1,h⟩:=ac h
 have c117_:=fun (R:Prop) (z:R)=>(aI (cy n y y1 gy1) z)
 rcases au h with ⟨h2,h⟩ | ⟨h2,h⟩
 ·
  obtain rfl:=aS h
  exact kP (nA C5 [bh 1 [(15,vT)] [(14,.v (.bool y1))]]) D8 (fun z=>(c117_ _ (aB h2 z))) (by kernel_rfl)
 obtain rfl:=aS h
 exact kP (nA C5 [bh 1 [(15,vF)] [(14,.v (.bool y1))]]) D8 (fun z=>(c117_ _ (aB h2 z))) (by kernel_rfl)

def C6:List (Nat×PT):=[(1,(eO [0,1,2,3,4,5,6,7,8,9,10,11]))]
theorem D9:aA (ao 111) C6 (al Tryz.prog 111)=true:=by kernel_rfl
theorem rS (n:Nat) (m:Event) (a:Int) (a_:Int) (a_A:Int) (a_B:Int) (a_C:Int) (a_D:Int) (a_E:Bool) (a_F:Bool) (a_G:Int) (a_H:Int) (a_I:Int) (a_J:(List Int)) (a_K:(List Int)) (a_L:(List Int)) (r:Bool) (h:gM n m a a_ a_A a_B a_C a_D a_E a_F a_G a_H a_I a_J a_K a_L=some r):az Tryz.prog 111 [(bT Event.enc m),.fptr [.fptr [(vI a),(vI a_),(vI a_A),(vU a_B),(vU a_C),(vU a_D),.v (.bool a_E),.v (.bool a_F),(vI a_G),(vI a_H),(vI a_I),.sl (a_J.map eI),.sl (a_K.map eI),.sl (a_L.map eI)] 0] 0] (eY (.v (.bool r))):=by
 unfold gM at h
 obtain ⟨y1,gy1,h⟩:=ac h
 have c118_:=fun (R:Prop) (z:R)=>(aI (cy n m y1 gy1) z)
 rcases au h with ⟨h2,h⟩ | ⟨h2,h⟩
 ·
  obtain rfl:=aS h
  exact kP (nA C6 [bh 1 [(6,vT)] [(5,.v (.bool y1))]]) D9 (fun z=>(c118_ _ (aB h2 z))) (by kernel_rfl)
 obtain rfl:=aS h
 exact kP (nA C6 [bh 1 [(6,vF)] [(5,.v (.bool y1))]]) D9 (fun z=>(c118_ _ (aB h2 z))) (by kernel_rfl)

def qU:List (Nat×PT):=[]
theorem D_:aA (ao 134) qU (al Tryz.prog 134)=true:=by kernel_rfl
noncomputable def Nk:Code:=sub (al Tryz.prog 134) [1,0,1,0,0]
theorem K9:aA (ao 134) qU Nk=true:=by kernel_rfl
def IK (s_:(List Event)) (f:Int) (f_:Int) (f_A:Int) (f_B:Int) (f_C:Int) (f_D:Int) (f_E:Bool) (f_F:Bool) (f_G:Int) (f_H:Int) (f_I:Int) (f_J:(List Int)) (f_K:(List Int)) (f_L:(List Int)) (sa:Int):St:=bm 19 [(0,.sl (s_.map Event.enc)),(1,.fn 111 [] [.fptr [.fptr [(vI f),(vI f_),(vI f_A),(vU f_B),(vU f_C),(vU f_D),.v (.bool f_E),.v (.bool f_F),(vI f_G),(vI f_H),(vI f_I),.sl (f_J.map eI),.sl (f_K.map eI),.sl (f_L.map eI)] 0] 0]),(7,(vI (s_.length:Int))),(8,(vI sa))] [] [] 0
def Nl (s_:(List Event)) (f:Int) (f_:Int) (f_A:Int) (f_B:Int) (f_C:Int) (f_D:Int) (f_E:Bool) (f_F:Bool) (f_G:Int) (f_H:Int) (f_I:Int) (f_J:(List Int)) (f_K:(List Int)) (f_L:(List Int)) (tt:Unit):St:=bm 19 [] [] [] 0
def Nm (s_:(List Event)) (f:Int) (f_:Int) (f_A:Int) (f_B:Int) (f_C:Int) (f_D:Int) (f_E:Bool) (f_F:Bool) (f_G:Int) (f_H:Int) (f_I:Int) (f_J:(List Int)) (f_K:(List Int)) (f_L:(List Int)) (tt:Int):St:=bm 19 [(4,(vI tt))] [] [] 0
def K_ (s_:(List Event)) (f:Int) (f_:Int) (f_A:Int) (f_B:Int) (f_C:Int) (f_D:Int) (f_E:Bool) (f_F:Bool) (f_G:Int) (f_H:Int) (f_I:Int) (f_J:(List Int)) (f_K:(List Int)) (f_L:(List Int)) (t0:(Unit⊕Int)):Ex×St:=match t0 with | .inl tt=>(.ex 0,Nl s_ f f_ f_A f_B f_C f_D f_E f_F f_G f_H f_I f_J f_K f_L tt) | .inr tt=>(.ret,Nm s_ f f_ f_A f_B f_C f_D f_E f_F f_G f_H f_I f_J f_K f_L tt)
theorem Nn (n:Nat) (s_:(List Event)) (f:Int) (f_:Int) (f_A:Int) (f_B:Int) (f_C:Int) (f_D:Int) (f_E:Bool) (f_F:Bool) (f_G:Int) (f_H:Int) (f_I:Int) (f_J:(List Int)) (f_K:(List Int)) (f_L:(List Int)):∀ sa r,bd n s_ f f_ f_A f_B f_C f_D f_E f_F f_G f_H f_I f_J f_K f_L sa=some r→aW Tryz.prog Nk (IK s_ f f_ f_A f_B f_C f_D f_E f_F f_G f_H f_I f_J f_K f_L sa) (rk (IK s_ f f_ f_A f_B f_C f_D f_E f_F f_G f_H f_I f_J f_K f_L) (K_ s_ f f_ f_A f_B f_C f_D f_E f_F f_G f_H f_I f_J f_K f_L) r):=by
 intro sa r h
 unfold bd at h
 rcases aG h with ⟨ha1,h⟩ | ⟨ha1,h⟩
 ·
  exact kQ h (nA qU [rV 2 [(9,vF)]]) [wK 2 [] [] 0] K9 (co rfl j8) (fun z=>(aB ha1 z)) (by kernel_rfl)
 obtain ⟨xa2,gxa2,h⟩:=ac h
 obtain ⟨ya3,gya3,h⟩:=ac h
 have c119_:=fun (R:Prop) (z:R)=>(aB ha1 (aM Event.enc gxa2 (aI (rS n xa2 f f_ f_A f_B f_C f_D f_E f_F f_G f_H f_I f_J f_K f_L ya3 gya3) z)))
 rcases au h with ⟨ha4,h⟩ | ⟨ha4,h⟩
 ·
  exact kQ h (nA qU [rV 2 [(9,vT)],(4,⟨[],[],[(14,(Event.enc xa2))],[(16,vT)],[(16,.v (.bool ya3))],[],[],[],[]⟩)]) [wK 1 [4] [] 0] K9 (co rfl fT) (fun z=>(c119_ _ (aB ha4 z))) (by kernel_rfl)
 exact kQ h (nA qU [rV 2 [(9,vT)],(4,⟨[],[],[(14,(Event.enc xa2))],[(16,vF)],[(16,.v (.bool ya3))],[],[],[],[]⟩)]) [wK 0 [0,1,7,8] [] 0] K9 cS (fun z=>(c119_ _ (aB ha4 z))) (by kernel_rfl)

theorem fY (n:Nat) (s_:(List Event)) (f:Int) (f_:Int) (f_A:Int) (f_B:Int) (f_C:Int) (f_D:Int) (f_E:Bool) (f_F:Bool) (f_G:Int) (f_H:Int) (f_I:Int) (f_J:(List Int)) (f_K:(List Int)) (f_L:(List Int)) (r:Int) (h:bk n s_ f f_ f_A f_B f_C f_D f_E f_F f_G f_H f_I f_J f_K f_L=some r):az Tryz.prog 134 [.sl (s_.map Event.enc),.fn 111 [] [.fptr [.fptr [(vI f),(vI f_),(vI f_A),(vU f_B),(vU f_C),(vU f_D),.v (.bool f_E),.v (.bool f_F),(vI f_G),(vI f_H),(vI f_I),.sl (f_J.map eI),.sl (f_K.map eI),.sl (f_L.map eI)] 0] 0]] (eY ((vI r))):=by
 unfold bk at h
 obtain ⟨t1,gt1,h⟩:=ac h
 rcases t1 with w2 | w2
 ·
  obtain rfl:=aS h
  exact kP ⟨qU,[rV 1 [(7,(vI (s_.length:Int)))]],[],[(2,(⟨[0,1,7,8],[],0,[],[],[]⟩,l0,(.ex 0),Nl s_ f f_ f_A f_B f_C f_D f_E f_F f_G f_H f_I f_J f_K f_L w2))],[]⟩ D_ (fun z=>(aL Event.enc s_ (aI (eA (pl:=ao 134) (IK s_ f f_ f_A f_B f_C f_D f_E f_F f_G f_H f_I f_J f_K f_L) (K_ s_ f f_ f_A f_B f_C f_D f_E f_F f_G f_H f_I f_J f_K f_L) (Nn n s_ f f_ f_A f_B f_C f_D f_E f_F f_G f_H f_I f_J f_K f_L) n _ (.inl w2) gt1) z))) (by kernel_rfl)
 ·
  obtain rfl:=aS h
  exact kP ⟨qU,[rV 1 [(7,(vI (s_.length:Int)))]],[],[(2,(⟨[0,1,7,8],[],0,[],[],[]⟩,l0,.ret,Nm s_ f f_ f_A f_B f_C f_D f_E f_F f_G f_H f_I f_J f_K f_L w2))],[]⟩ D_ (fun z=>(aL Event.enc s_ (aI (eA (pl:=ao 134) (IK s_ f f_ f_A f_B f_C f_D f_E f_F f_G f_H f_I f_J f_K f_L) (K_ s_ f f_ f_A f_B f_C f_D f_E f_F f_G f_H f_I f_J f_K f_L) (Nn n s_ f f_ f_A f_B f_C f_D f_E f_F f_G f_H f_I f_J f_K f_L) n _ (.inr w2) gt1) z))) (by kernel_rfl)

def G2:List (Nat×PT):=[]
theorem IL:aA (ao 110) G2 (al Tryz.prog 110)=true:=by kernel_rfl
theorem ff (n:Nat) (s_:(List Event)) (f:Int) (f_:Int) (f_A:Int) (f_B:Int) (f_C:Int) (f_D:Int) (f_E:Bool) (f_F:Bool) (f_G:Int) (f_H:Int) (f_I:Int) (f_J:(List Int)) (f_K:(List Int)) (f_L:(List Int)) (r:Bool) (h:bf n s_ f f_ f_A f_B f_C f_D f_E f_F f_G f_H f_I f_J f_K f_L=some r):az Tryz.prog 110 [.sl (s_.map Event.enc),.fn 111 [] [.fptr [.fptr [(vI f),(vI f_),(vI f_A),(vU f_B),(vU f_C),(vU f_D),.v (.bool f_E),.v (.bool f_F),(vI f_G),(vI f_H),(vI f_I),.sl (f_J.map eI),.sl (f_K.map eI),.sl (f_L.map eI)] 0] 0]] (eY (.v (.bool r))):=by
 unfold bf at h
 obtain ⟨y1,gy1,h⟩:=ac h
 obtain rfl:=aS h
 exact kP (nA G2 [bh 1 [] [(7,(vI y1))]]) IL (fun z=>(aI (fY n s_ f f_ f_A f_B f_C f_D f_E f_F f_G f_H f_I f_J f_K f_L y1 gy1) z)) (by kernel_rfl)

def tj:List (Nat×PT):=[(1,(eO [0,1,2,3,4,5,6,7,8,9,10,11,12,13,14,15,16,17,18,19,20,21,22,23,24,25,26,27,28,29,30,31,32,33,34,35,36,37,38,39,40,41,42,43,44,45]))]
theorem rT:aA (ao 109) tj (al Tryz.prog 109)=true:=by kernel_rfl
theorem uH (n:Nat) (v:ai) (a:Int) (b:Int) (x:Event) (y:Event) (r:Bool) (h:fh n v a b x y=some r):az Tryz.prog 109 [.fptr (ai.enc v) 0,(vI a),(vI b),.fptr (Event.enc x) 0,.fptr (Event.enc y) 0] (eY (.v (.bool r))):=by
 unfold fh at h
 rcases au h with ⟨h1,h⟩ | ⟨h1,h⟩
 ·
  obtain rfl:=aS h
  exact kP (nA tj [rV 1 [(20,vT)]]) rT (fun z=>(aB h1 z)) (by kernel_rfl)
 obtain ⟨y2,gy2,h⟩:=ac h
 have c120_:=fun (R:Prop) (z:R)=>(aB h1 (aI (bW n x y2 gy2) z))
 rcases au h with ⟨h3,h⟩ | ⟨h3,h⟩
 ·
  obtain rfl:=aS h
  exact kP (nA tj [bh 1 [(20,vF),(27,vT)] [(24,.v (.bool y2))]]) rT (fun z=>(c120_ _ (aB h3 z))) (by kernel_rfl)
 obtain ⟨y4,gy4,h⟩:=ac h
 have c121_:=fun (R:Prop) (z:R)=>(aB h3 (aI (bW n y y4 gy4) z))
 rcases au h with ⟨h5,h⟩ | ⟨h5,h⟩
 ·
  obtain rfl:=aS h
  exact kP (nA tj [bh 1 [(20,vF),(27,vF),(34,vT)] [(24,.v (.bool y2)),(31,.v (.bool y4))]]) rT (fun z=>(c120_ _ (c121_ _ (aB h5 z)))) (by kernel_rfl)
 rcases jC h with ⟨h6,h⟩ | ⟨z6,h7,h⟩
 ·
  cases h
 ·
  obtain ⟨x8,gx8,h⟩:=ac h
  have c122_:=fun (R:Prop) (z:R)=>(aB h5 (aI (congrArg (BQ af.enc) h7) (aM eI gx8 z)))
  rcases jC h with ⟨h9,h⟩ | ⟨z9,h10,h⟩
  ·
   cases h
  ·
   obtain ⟨x11,gx11,h⟩:=ac h
   have c123_:=fun (R:Prop) (z:R)=>(aI (congrArg (BQ af.enc) h10) (aM eI gx11 z))
   rcases au h with ⟨h12,h⟩ | ⟨h12,h⟩
   ·
    obtain rfl:=aS h
    exact kP (nA tj [(1,⟨[],[],[(43,[(vI x8)]),(53,[(vI x11)])],[(20,vF),(27,vF),(34,vF),(38,.fptr (af.enc z6) 0),(48,.fptr (af.enc z9) 0),(56,vT)],[(24,.v (.bool y2)),(31,.v (.bool y4))],[],[],[],[]⟩)]) rT (fun z=>(c120_ _ (c121_ _ (c122_ _ (c123_ _ (aB h12 z)))))) (by kernel_rfl)
   obtain ⟨h13,h⟩:=fj h
   obtain ⟨y14,gy14,h⟩:=ac h
   obtain rfl:=aS h
   exact kP (nA tj [(1,⟨[],[],[(43,[(vI x8)]),(53,[(vI x11)])],[(20,vF),(27,vF),(34,vF),(38,.fptr (af.enc z6) 0),(48,.fptr (af.enc z9) 0),(56,vF)],[(24,.v (.bool y2)),(31,.v (.bool y4))],[],[],[],[]⟩),(3,⟨[],[64],[],[(64,.sl (((v.all.drop ((ah .i64 a 1)).toNat).take ((b).toNat - ((ah .i64 a 1)).toNat)).map Event.enc))],[(66,.v (.bool y14))],[],[],[],[]⟩)]) rT (fun z=>(c120_ _ (c121_ _ (c122_ _ (c123_ _ (aB h12 (aI (BR Event.enc v.all (fun _=>rfl):di 14 (v.all.map Event.enc)=true) (aI (GA h13:(decide ((0:Int)≤(ah .i64 a 1))&&decide ((ah .i64 a 1)≤b)&&decide (b≤((((v.all.map Event.enc)).length:Nat):Int)))=true) (aI (JP Event.enc v.all _ _:AV.sl ((((v.all.map Event.enc)).drop ((ah .i64 a 1)).toNat).take ((b).toNat - ((ah .i64 a 1)).toNat))=AV.sl (((v.all.drop ((ah .i64 a 1)).toNat).take ((b).toNat - ((ah .i64 a 1)).toNat)).map Event.enc)) (aI (ff n ((v.all.drop ((ah .i64 a 1)).toNat).take ((b).toNat - ((ah .i64 a 1)).toNat)) x.Hart x.At x.Kind x.Addr x.Load x.Store x.Aq x.Rl x.Pred x.Succ x.Pair x.Deps.Addr x.Deps.Data x.Deps.Way y14 gy14) z)))))))))) (by kernel_rfl)

def tk:List (Nat×PT):=[]
theorem rU:aA (ao 112) tk (al Tryz.prog 112)=true:=by kernel_rfl
theorem uI (n:Nat) (v:ai) (a:Int) (b:Int) (x:Event) (y:Event) (r:Bool) (h:ic n v a b x y=some r):az Tryz.prog 112 [.fptr (ai.enc v) 0,(vI a),(vI b),.fptr (Event.enc x) 0,.fptr (Event.enc y) 0] (eY (.v (.bool r))):=by
 unfold ic at h
 rcases au h with ⟨h1,h⟩ | ⟨h1,h⟩
 ·
  obtain ⟨y2,gy2,h⟩:=ac h
  have c124_:=fun (R:Prop) (z:R)=>(aB h1 (aI (bW n y y2 gy2) z))
  rcases aG h with ⟨h3,h⟩ | ⟨h3,h⟩
  ·
   obtain rfl:=aS h
   exact kP (nA tk [bh 1 [(16,vT),(29,vF)] [(27,.v (.bool y2))]]) rU (fun z=>(c124_ _ (aB h3 z))) (by kernel_rfl)
  rcases jC h with ⟨h4,h⟩ | ⟨z4,h5,h⟩
  ·
   cases h
  ·
   obtain ⟨x6,gx6,h⟩:=ac h
   obtain rfl:=aS h
   exact kP (nA tk [(1,⟨[],[],[(38,[(vI x6)])],[(16,vT),(29,vT),(33,.fptr (af.enc z4) 0)],[(27,.v (.bool y2))],[],[],[],[]⟩)]) rU (fun z=>(c124_ _ (aB h3 (aI (congrArg (BQ af.enc) h5) (aM eI gx6 z))))) (by kernel_rfl)
 rcases aG h with ⟨h2,h⟩ | ⟨h2,h⟩
 ·
  obtain rfl:=aS h
  exact kP (nA tk [rV 1 [(16,vF),(23,vF)]]) rU (fun z=>(aB h1 (aB h2 z))) (by kernel_rfl)
 obtain ⟨y3,gy3,h⟩:=ac h
 have c125_:=fun (R:Prop) (z:R)=>(aB h1 (aB h2 (aI (bW n y y3 gy3) z)))
 rcases aG h with ⟨h4,h⟩ | ⟨h4,h⟩
 ·
  obtain rfl:=aS h
  exact kP (nA tk [bh 1 [(16,vF),(23,vT),(29,vF)] [(27,.v (.bool y3))]]) rU (fun z=>(c125_ _ (aB h4 z))) (by kernel_rfl)
 rcases jC h with ⟨h5,h⟩ | ⟨z5,h6,h⟩
 ·
  cases h
 ·
  obtain ⟨x7,gx7,h⟩:=ac h
  obtain rfl:=aS h
  exact kP (nA tk [(1,⟨[],[],[(38,[(vI x7)])],[(16,vF),(23,vT),(29,vT),(33,.fptr (af.enc z5) 0)],[(27,.v (.bool y3))],[],[],[],[]⟩)]) rU (fun z=>(c125_ _ (aB h4 (aI (congrArg (BQ af.enc) h6) (aM eI gx7 z))))) (by kernel_rfl)

def wT:List (Nat×PT):=[]
theorem vb:aA (ao 135) wT (al Tryz.prog 135)=true:=by kernel_rfl
theorem p9 (n:Nat) (e:Event) (r:(List Int)) (h:kx n e=some r):az Tryz.prog 135 [(bT Event.enc e)] (eY (.sl (r.map eI))):=by
 unfold kx at h
 obtain ⟨y1,gy1,h⟩:=ac h
 have c126_:=fun (R:Prop) (z:R)=>(aI (cy n e y1 gy1) z)
 rcases aG h with ⟨h2,h⟩ | ⟨h2,h⟩
 ·
  obtain ⟨y3,gy3,h⟩:=ac h
  have c128_:=fun (R:Prop) (z:R)=>(aB h2 (aI (bW n e y3 gy3) z))
  rcases aG h with ⟨h4,h⟩ | ⟨h4,h⟩
  ·
   obtain rfl:=aS h
   exact kP (nA wT [bh 1 [(4,vF)] [(4,.v (.bool y1))],bh 3 [(9,vF)] [(9,.v (.bool y3))]]) vb (fun z=>(c126_ _ (c128_ _ (aB h4 (aJ.nil:aJ .nilsl (.sl (([]:List Int).map eI))))))) (by kernel_rfl)
  obtain rfl:=aS h
  exact kP (nA wT [bh 1 [(4,vF)] [(4,.v (.bool y1))],bh 3 [(9,vT)] [(9,.v (.bool y3))],(4,⟨[],[12],[],[],[],[],[],[],[]⟩)]) vb (fun z=>(c126_ _ (c128_ _ (aB h4 (aI (rfl:di 1 [[(vI 1)]]=true) (aI (rfl:a5 [[(vI 1)]]=true) (aI (rfl:Nat.ble (1 * 8) 140737488355328=true) z))))))) (by kernel_rfl)
 obtain ⟨y3,gy3,h⟩:=ac h
 have c127_:=fun (R:Prop) (z:R)=>(aB h2 (aI (rfl:di 1 [[(vI 0)]]=true) (aI (rfl:a5 [[(vI 0)]]=true) (aI (rfl:Nat.ble (1 * 8) 140737488355328=true) (aI (bW n e y3 gy3) z)))))
 rcases aG h with ⟨h4,h⟩ | ⟨h4,h⟩
 ·
  obtain rfl:=aS h
  exact kP (nA wT [bh 1 [(4,vT)] [(4,.v (.bool y1))],(2,⟨[],[7],[],[],[],[],[],[],[]⟩),bh 3 [(9,vF)] [(9,.v (.bool y3))]]) vb (fun z=>(c126_ _ (c127_ _ (aB h4 z)))) (by kernel_rfl)
 obtain ⟨h5,h⟩:=fj h
 obtain rfl:=aS h
 exact kP (nA wT [bh 1 [(4,vT)] [(4,.v (.bool y1))],(2,⟨[],[7],[],[],[],[],[],[],[]⟩),bh 3 [(9,vT)] [(9,.v (.bool y3))],(4,⟨[],[12],[],[],[],[],[(12,(0,(([0]:List Int)++([1]:List Int)).map eI))],[],[]⟩)]) vb (fun z=>(c126_ _ (c127_ _ (aB h4 (aI (rfl:di 1 [[(vI 1)]]=true) (aI (rfl:a5 [[(vI 1)]]=true) (aI (mE h5:Nat.ble (((([0]:List Int).map eI).length + 1) * 8) 140737488355328=true) (aI (pD eI ([0]:List Int) ([1]:List Int)) z)))))))) (by kernel_rfl)

def gi:List (Nat×PT):=[(8,(eO [0,1,2,3,4,5,6,7,8,9,10,11,12,13,14,15,16,17,18]))]
theorem Ea:aA (ao 114) gi (al Tryz.prog 114)=true:=by kernel_rfl
noncomputable def La:Code:=sub (al Tryz.prog 114) [1,0,1,0,0]
noncomputable def Np:Code:=sub La [1,1,0,0,1,1,0,0]
theorem Ak:aA (ao 114) gi Np=true:=by kernel_rfl
def IM (v:ai) (a:Int) (b:Int) (y2:(List Int)) (xa2:Int) (ya4:(List Int)) (sb:Int×Int):St:=bm 63 [(0,.fptr (ai.enc v) 0),(1,(vI a)),(2,(vI b)),(8,(vI xa2)),(19,.sl (y2.map eI)),(20,(vI (y2.length:Int))),(21,(vI sb.1)),(32,.sl (ya4.map eI)),(33,(vI (ya4.length:Int))),(34,(vI sb.2))] [] [] 0
def Nq (v:ai) (a:Int) (b:Int) (y2:(List Int)) (xa2:Int) (ya4:(List Int)) (tt:Int):St:=bm 63 [(0,.fptr (ai.enc v) 0),(1,(vI a)),(2,(vI b)),(19,.sl (y2.map eI)),(20,(vI (y2.length:Int))),(21,(vI tt))] [] [] 0
def Nr (v:ai) (a:Int) (b:Int) (y2:(List Int)) (xa2:Int) (ya4:(List Int)) (tt:Unit):St:=bm 63 [(6,vT)] [] [] 0
def Lb (v:ai) (a:Int) (b:Int) (y2:(List Int)) (xa2:Int) (ya4:(List Int)) (t0:(Int⊕Unit)):Ex×St:=match t0 with | .inl tt=>(.ex 2,Nq v a b y2 xa2 ya4 tt) | .inr tt=>(.ret,Nr v a b y2 xa2 ya4 tt)
theorem Ns (n:Nat) (v:ai) (a:Int) (b:Int) (y2:(List Int)) (xa2:Int) (ya4:(List Int)):∀ sb r,fm n v a b y2 xa2 ya4 sb=some r→aW Tryz.prog Np (IM v a b y2 xa2 ya4 sb) (rk (IM v a b y2 xa2 ya4) (Lb v a b y2 xa2 ya4) r):=by
 intro sb r h
 unfold fm at h
 rcases aG h with ⟨hb1,h⟩ | ⟨hb1,h⟩
 ·
  exact kQ h (nA gi [rV 5 [(35,vF)]]) [wK 4 [0,1,2,19,20,21] [] 0] Ak (co rfl j8) (fun z=>(aB hb1 z)) (by kernel_rfl)
 obtain ⟨xb2,gxb2,h⟩:=ac h
 have c129_:=fun (R:Prop) (z:R)=>(aB hb1 (aM eI gxb2 z))
 let e130_:LR:=[rV 5 [(35,vT)],rR 6 [(36,[(vI xb2)])]]
 rcases au h with ⟨hb3,h⟩ | ⟨hb3,h⟩
 ·
  obtain ⟨xb4,gxb4,h⟩:=ac h
  obtain ⟨xb5,gxb5,h⟩:=ac h
  have d0_:AV.v (.int .i64 (ah .i64 (mg .i64 2 xa2) xb2))=AV.v (.int .i64 0):=xm hb3
  have c131_:=fun (R:Prop) (z:R)=>(aI d0_ (aM eI gxb4 (aI d0_ (aM eI gxb5 z))))
  rcases au h with ⟨hb6,h⟩ | ⟨hb6,h⟩
  ·
   exact kQ h (nA gi (e130_++[(8,⟨[],[],[(49,[(vI xb4)]),(58,[(vI xb5)])],[(43,(vI 0)),(52,(vI 0)),(60,vT)],[],[],[],[],[]⟩)])) [wK 1 [6] [] 0] Ak (co rfl fT) (fun z=>(c129_ _ (c131_ _ (aB hb6 z)))) (by kernel_rfl)
  exact kQ h (nA gi (e130_++[(8,⟨[],[],[(49,[(vI xb4)]),(58,[(vI xb5)])],[(43,(vI 0)),(52,(vI 0)),(60,vF)],[],[],[],[],[]⟩)])) [wK 0 [0,1,2,8,19,20,21,32,33,34] [] 0] Ak cS (fun z=>(c129_ _ (c131_ _ (aB hb6 z)))) (by kernel_rfl)
 rcases au h with ⟨hb3,h⟩ | ⟨hb3,h⟩
 ·
  obtain ⟨xb4,gxb4,h⟩:=ac h
  obtain ⟨xb5,gxb5,h⟩:=ac h
  have d0_:AV.v (.int .i64 (ah .i64 (mg .i64 2 xa2) xb2))=AV.v (.int .i64 1):=xm hb3
  have c132_:=fun (R:Prop) (z:R)=>(aI d0_ (aM eI gxb4 (aI d0_ (aM eI gxb5 z))))
  rcases au h with ⟨hb6,h⟩ | ⟨hb6,h⟩
  ·
   exact kQ h (nA gi (e130_++[(8,⟨[],[],[(49,[(vI xb4)]),(58,[(vI xb5)])],[(43,(vI 1)),(52,(vI 1)),(60,vT)],[],[],[],[],[]⟩)])) [wK 1 [6] [] 0] Ak (co rfl fT) (fun z=>(c129_ _ (c132_ _ (aB hb6 z)))) (by kernel_rfl)
  exact kQ h (nA gi (e130_++[(8,⟨[],[],[(49,[(vI xb4)]),(58,[(vI xb5)])],[(43,(vI 1)),(52,(vI 1)),(60,vF)],[],[],[],[],[]⟩)])) [wK 0 [0,1,2,8,19,20,21,32,33,34] [] 0] Ak cS (fun z=>(c129_ _ (c132_ _ (aB hb6 z)))) (by kernel_rfl)
 rcases au h with ⟨hb3,h⟩ | ⟨hb3,h⟩
 ·
  obtain ⟨xb4,gxb4,h⟩:=ac h
  obtain ⟨xb5,gxb5,h⟩:=ac h
  have d0_:AV.v (.int .i64 (ah .i64 (mg .i64 2 xa2) xb2))=AV.v (.int .i64 2):=xm hb3
  have c133_:=fun (R:Prop) (z:R)=>(aI d0_ (aM eI gxb4 (aI d0_ (aM eI gxb5 z))))
  rcases au h with ⟨hb6,h⟩ | ⟨hb6,h⟩
  ·
   exact kQ h (nA gi (e130_++[(8,⟨[],[],[(49,[(vI xb4)]),(58,[(vI xb5)])],[(43,(vI 2)),(52,(vI 2)),(60,vT)],[],[],[],[],[]⟩)])) [wK 1 [6] [] 0] Ak (co rfl fT) (fun z=>(c129_ _ (c133_ _ (aB hb6 z)))) (by kernel_rfl)
  exact kQ h (nA gi (e130_++[(8,⟨[],[],[(49,[(vI xb4)]),(58,[(vI xb5)])],[(43,(vI 2)),(52,(vI 2)),(60,vF)],[],[],[],[],[]⟩)])) [wK 0 [0,1,2,8,19,20,21,32,33,34] [] 0] Ak cS (fun z=>(c129_ _ (c133_ _ (aB hb6 z)))) (by kernel_rfl)
 rcases au h with ⟨hb3,h⟩ | ⟨hb3,h⟩
 ·
  obtain ⟨xb4,gxb4,h⟩:=ac h
  obtain ⟨xb5,gxb5,h⟩:=ac h
  have d0_:AV.v (.int .i64 (ah .i64 (mg .i64 2 xa2) xb2))=AV.v (.int .i64 3):=xm hb3
  have c134_:=fun (R:Prop) (z:R)=>(aI d0_ (aM eI gxb4 (aI d0_ (aM eI gxb5 z))))
  rcases au h with ⟨hb6,h⟩ | ⟨hb6,h⟩
  ·
   exact kQ h (nA gi (e130_++[(8,⟨[],[],[(49,[(vI xb4)]),(58,[(vI xb5)])],[(43,(vI 3)),(52,(vI 3)),(60,vT)],[],[],[],[],[]⟩)])) [wK 1 [6] [] 0] Ak (co rfl fT) (fun z=>(c129_ _ (c134_ _ (aB hb6 z)))) (by kernel_rfl)
  exact kQ h (nA gi (e130_++[(8,⟨[],[],[(49,[(vI xb4)]),(58,[(vI xb5)])],[(43,(vI 3)),(52,(vI 3)),(60,vF)],[],[],[],[],[]⟩)])) [wK 0 [0,1,2,8,19,20,21,32,33,34] [] 0] Ak cS (fun z=>(c129_ _ (c134_ _ (aB hb6 z)))) (by kernel_rfl)
 cases h

theorem Lc:aA (ao 114) gi La=true:=by kernel_rfl
def IN (v:ai) (a:Int) (b:Int) (y2:(List Int)) (sa:Int):St:=bm 63 [(0,.fptr (ai.enc v) 0),(1,(vI a)),(2,(vI b)),(19,.sl (y2.map eI)),(20,(vI (y2.length:Int))),(21,(vI sa))] [] [] 0
def Nt (v:ai) (a:Int) (b:Int) (y2:(List Int)) (tt:Unit):St:=bm 63 [] [] [] 0
def Nu (v:ai) (a:Int) (b:Int) (y2:(List Int)) (tt:Unit):St:=bm 63 [(6,vT)] [] [] 0
def Ld (v:ai) (a:Int) (b:Int) (y2:(List Int)) (t0:(Unit⊕Unit)):Ex×St:=match t0 with | .inl tt=>(.ex 0,Nt v a b y2 tt) | .inr tt=>(.ret,Nu v a b y2 tt)
theorem Nv (n:Nat) (v:ai) (a:Int) (b:Int) (y2:(List Int)):∀ sa r,fo n v a b y2 sa=some r→aW Tryz.prog La (IN v a b y2 sa) (rk (IN v a b y2) (Ld v a b y2) r):=by
 intro sa r h
 unfold fo at h
 rcases aG h with ⟨ha1,h⟩ | ⟨ha1,h⟩
 ·
  exact kQ h (nA gi [rV 2 [(22,vF)]]) [wK 2 [] [] 0] Lc (co rfl j8) (fun z=>(aB ha1 z)) (by kernel_rfl)
 obtain ⟨xa2,gxa2,h⟩:=ac h
 obtain ⟨xa3,gxa3,h⟩:=ac h
 obtain ⟨ya4,gya4,h⟩:=ac h
 obtain ⟨ta5,gta5,h⟩:=ac h
 have c135_:=fun (R:Prop) (z:R)=>(aB ha1 (aM eI gxa2 (aM Event.enc gxa3 (aI (p9 n xa3 ya4 gya4) (aL eI ya4 z)))))
 rcases ta5 with wa6 | wa6
 ·
  exact kQ h ⟨gi,[rV 2 [(22,vT)],rR 3 [(23,[(vI xa2)])],(4,⟨[],[],[(30,(Event.enc xa3))],[(33,(vI (ya4.length:Int)))],[(32,.sl (ya4.map eI))],[],[],[],[]⟩)],[],[(5,(⟨[0,1,2,8,19,20,21,32,33,34],[],0,[],[],[]⟩,l0,(.ex 2),Nq v a b y2 xa2 ya4 wa6))],[]⟩ [wK 0 [0,1,2,19,20,21] [] 0] Lc cS (fun z=>(c135_ _ (aI (eA (pl:=ao 114) (IM v a b y2 xa2 ya4) (Lb v a b y2 xa2 ya4) (Ns n v a b y2 xa2 ya4) n _ (.inl wa6) gta5) z))) (by kernel_rfl)
 ·
  exact kQ h ⟨gi,[rV 2 [(22,vT)],rR 3 [(23,[(vI xa2)])],(4,⟨[],[],[(30,(Event.enc xa3))],[(33,(vI (ya4.length:Int)))],[(32,.sl (ya4.map eI))],[],[],[],[]⟩)],[],[(5,(⟨[0,1,2,8,19,20,21,32,33,34],[],0,[],[],[]⟩,l0,.ret,Nr v a b y2 xa2 ya4 wa6))],[]⟩ [wK 1 [6] [] 0] Lc (co rfl fT) (fun z=>(c135_ _ (aI (eA (pl:=ao 114) (IM v a b y2 xa2 ya4) (Lb v a b y2 xa2 ya4) (Ns n v a b y2 xa2 ya4) n _ (.inr wa6) gta5) z))) (by kernel_rfl)

theorem pJ (n:Nat) (v:ai) (a:Int) (b:Int) (r:Bool) (h:fH n v a b=some r):az Tryz.prog 114 [.fptr (ai.enc v) 0,(vI a),(vI b)] (eY (.v (.bool r))):=by
 unfold fH at h
 obtain ⟨x1,gx1,h⟩:=ac h
 obtain ⟨y2,gy2,h⟩:=ac h
 obtain ⟨t3,gt3,h⟩:=ac h
 have c136_:=fun (R:Prop) (z:R)=>(aM Event.enc gx1 (aI (p9 n x1 y2 gy2) (aL eI y2 z)))
 rcases t3 with w4 | w4
 ·
  obtain rfl:=aS h
  exact kP ⟨gi,[(1,⟨[],[],[(17,(Event.enc x1))],[(20,(vI (y2.length:Int)))],[(19,.sl (y2.map eI))],[],[],[],[]⟩)],[],[(2,(⟨[0,1,2,19,20,21],[],0,[],[],[]⟩,l0,(.ex 0),Nt v a b y2 w4))],[]⟩ Ea (fun z=>(c136_ _ (aI (eA (pl:=ao 114) (IN v a b y2) (Ld v a b y2) (Nv n v a b y2) n _ (.inl w4) gt3) z))) (by kernel_rfl)
 ·
  obtain rfl:=aS h
  exact kP ⟨gi,[(1,⟨[],[],[(17,(Event.enc x1))],[(20,(vI (y2.length:Int)))],[(19,.sl (y2.map eI))],[],[],[],[]⟩)],[],[(2,(⟨[0,1,2,19,20,21],[],0,[],[],[]⟩,l0,.ret,Nu v a b y2 w4))],[]⟩ Ea (fun z=>(c136_ _ (aI (eA (pl:=ao 114) (IN v a b y2) (Ld v a b y2) (Nv n v a b y2) n _ (.inr w4) gt3) z))) (by kernel_rfl)

def G3:List (Nat×PT):=[]
theorem IP:aA (ao 113) G3 (al Tryz.prog 113)=true:=by kernel_rfl
theorem uJ (n:Nat) (v:ai) (a:Int) (b:Int) (x:Event) (y:Event) (r:Bool) (h:ig n v a b x y=some r):az Tryz.prog 113 [.fptr (ai.enc v) 0,(vI a),(vI b),.fptr (Event.enc x) 0,.fptr (Event.enc y) 0] (eY (.v (.bool r))):=by
 unfold ig at h
 obtain ⟨y1,gy1,h⟩:=ac h
 obtain rfl:=aS h
 exact kP (nA G3 [bh 1 [] [(14,.v (.bool y1))]]) IP (fun z=>(aI (pJ n v a b y1 gy1) z)) (by kernel_rfl)

def G4:List (Nat×PT):=[]
theorem IQ:aA (ao 115) G4 (al Tryz.prog 115)=true:=by kernel_rfl
theorem uK (n:Nat) (v:ai) (a:Int) (b:Int) (x:Event) (y:Event) (r:Bool) (h:lw n v a b x y=some r):az Tryz.prog 115 [.fptr (ai.enc v) 0,(vI a),(vI b),.fptr (Event.enc x) 0,.fptr (Event.enc y) 0] (eY (.v (.bool r))):=by
 unfold lw at h
 obtain rfl:=aS h
 exact kP (nA G4 []) IQ (fun z=>z) (by kernel_rfl)

def G5:List (Nat×PT):=[]
theorem IR:aA (ao 116) G5 (al Tryz.prog 116)=true:=by kernel_rfl
theorem uL (n:Nat) (v:ai) (a:Int) (b:Int) (x:Event) (y:Event) (r:Bool) (h:ly n v a b x y=some r):az Tryz.prog 116 [.fptr (ai.enc v) 0,(vI a),(vI b),.fptr (Event.enc x) 0,.fptr (Event.enc y) 0] (eY (.v (.bool r))):=by
 unfold ly at h
 obtain rfl:=aS h
 exact kP (nA G5 []) IR (fun z=>z) (by kernel_rfl)

def tl:List (Nat×PT):=[]
theorem rW:aA (ao 117) tl (al Tryz.prog 117)=true:=by kernel_rfl
theorem uM (n:Nat) (v:ai) (a:Int) (b:Int) (x:Event) (y:Event) (r:Bool) (h:ij n v a b x y=some r):az Tryz.prog 117 [.fptr (ai.enc v) 0,(vI a),(vI b),.fptr (Event.enc x) 0,.fptr (Event.enc y) 0] (eY (.v (.bool r))):=by
 unfold ij at h
 rcases au h with ⟨h1,h⟩ | ⟨h1,h⟩
 ·
  rcases au h with ⟨h2,h⟩ | ⟨h2,h⟩
  ·
   obtain rfl:=aS h
   exact kP (nA tl [rV 1 [(15,vT),(26,vT)]]) rW (fun z=>(aB h1 (aB h2 z))) (by kernel_rfl)
  obtain rfl:=aS h
  exact kP (nA tl [rV 1 [(15,vT),(26,vF)]]) rW (fun z=>(aB h1 (aB h2 z))) (by kernel_rfl)
 rcases aG h with ⟨h2,h⟩ | ⟨h2,h⟩
 ·
  obtain rfl:=aS h
  exact kP (nA tl [rV 1 [(15,vF),(21,vF)]]) rW (fun z=>(aB h1 (aB h2 z))) (by kernel_rfl)
 have c137_:=fun (R:Prop) (z:R)=>(aB h1 (aB h2 z))
 rcases au h with ⟨h3,h⟩ | ⟨h3,h⟩
 ·
  obtain rfl:=aS h
  exact kP (nA tl [rV 1 [(15,vF),(21,vT),(26,vT)]]) rW (fun z=>(c137_ _ (aB h3 z))) (by kernel_rfl)
 obtain rfl:=aS h
 exact kP (nA tl [rV 1 [(15,vF),(21,vT),(26,vF)]]) rW (fun z=>(c137_ _ (aB h3 z))) (by kernel_rfl)

def C7:List (Nat×PT):=[(1,(eO [0,1,2,3,4,5,6,7,8,9,10,11,12,13,14,15,16]))]
theorem Eb:aA (ao 118) C7 (al Tryz.prog 118)=true:=by kernel_rfl
theorem uN (n:Nat) (v:ai) (a:Int) (b:Int) (x:Event) (y:Event) (r:Bool) (h:lz n v a b x y=some r):az Tryz.prog 118 [.fptr (ai.enc v) 0,(vI a),(vI b),.fptr (Event.enc x) 0,.fptr (Event.enc y) 0] (eY (.v (.bool r))):=by
 unfold lz at h
 rcases au h with ⟨h1,h⟩ | ⟨h1,h⟩
 ·
  obtain rfl:=aS h
  exact kP (nA C7 [rV 1 [(16,vT)]]) Eb (fun z=>(aB h1 z)) (by kernel_rfl)
 obtain rfl:=aS h
 exact kP (nA C7 [rV 1 [(16,vF)]]) Eb (fun z=>(aB h1 z)) (by kernel_rfl)

def G6:List (Nat×PT):=[]
theorem IS:aA (ao 141) G6 (al Tryz.prog 141)=true:=by kernel_rfl
theorem lR (n:Nat) (x:Int) (r:Bool) (h:cmp_isNaN_int n x=some r):az Tryz.prog 141 [(vI x)] (eY (.v (.bool r))):=by
 unfold cmp_isNaN_int at h
 obtain rfl:=aS h
 exact kP (nA G6 []) IS (fun z=>z) (by kernel_rfl)

def Al:List (Nat×PT):=[]
theorem Am:aA (ao 139) Al (al Tryz.prog 139)=true:=by kernel_rfl
theorem tm (n:Nat) (x:Int) (y:Int) (r:Bool) (h:cmp_Less_int n x y=some r):az Tryz.prog 139 [(vI x),(vI y)] (eY (.v (.bool r))):=by
 unfold cmp_Less_int at h
 obtain ⟨y1,gy1,h⟩:=ac h
 have c138_:=fun (R:Prop) (z:R)=>(aI (lR n x y1 gy1) z)
 rcases aG h with ⟨h2,h⟩ | ⟨h2,h⟩
 ·
  obtain rfl:=aS h
  exact kP (nA Al [bh 1 [(7,vF)] [(6,.v (.bool y1))]]) Am (fun z=>(c138_ _ (aB h2 z))) (by kernel_rfl)
 obtain ⟨y3,gy3,h⟩:=ac h
 have c139_:=fun (R:Prop) (z:R)=>(aB h2 (aI (lR n y y3 gy3) z))
 rcases au h with ⟨h4,h⟩ | ⟨h4,h⟩
 ·
  obtain rfl:=aS h
  exact kP (nA Al [bh 1 [(7,vT),(12,vT)] [(6,.v (.bool y1)),(9,.v (.bool y3))]]) Am (fun z=>(c138_ _ (c139_ _ (aB h4 z)))) (by kernel_rfl)
 obtain rfl:=aS h
 exact kP (nA Al [bh 1 [(7,vT),(12,vF)] [(6,.v (.bool y1)),(9,.v (.bool y3))]]) Am (fun z=>(c138_ _ (c139_ _ (aB h4 z)))) (by kernel_rfl)

def G7:List (Nat×PT):=[]
theorem IT:aA (ao 140) G7 (al Tryz.prog 140)=true:=by kernel_rfl
theorem jX (n:Nat) (x:Int) (r:Bool) (h:gn n x=some r):az Tryz.prog 140 [(vI x)] (eY (.v (.bool r))):=by
 unfold gn at h
 obtain rfl:=aS h
 exact kP (nA G7 []) IT (fun z=>z) (by kernel_rfl)

def nm:List (Nat×PT):=[]
theorem vc:aA (ao 136) nm (al Tryz.prog 136)=true:=by kernel_rfl
noncomputable def Nw:Code:=sub (al Tryz.prog 136) [1,1,1,0,0,0]
theorem Lf:aA (ao 136) nm Nw=true:=by kernel_rfl
def Lg (x:(List Int)) (target:Int) (sa:Int×Int):St:=bm 54 [(0,.sl (x.map eI)),(1,(vI target)),(6,(vI (x.length:Int))),(7,(vI sa.1)),(8,(vI sa.2))] [] [] 0
def G8 (x:(List Int)) (target:Int) (tt:Int):St:=bm 54 [(0,.sl (x.map eI)),(1,(vI target)),(6,(vI (x.length:Int))),(7,(vI tt))] [] [] 0
def Nx (x:(List Int)) (target:Int) (tt:Int):Ex×St:=(.ex 0,G8 x target tt)
theorem Qf (n:Nat) (x:(List Int)) (target:Int):∀ sa r,bY n x target sa=some r→aW Tryz.prog Nw (Lg x target sa) (rk (Lg x target) (Nx x target) r):=by
 intro sa r h
 unfold bY at h
 rcases aG h with ⟨ha1,h⟩ | ⟨ha1,h⟩
 ·
  exact kQ h (nA nm [rV 3 [(15,vF)]]) [wK 2 [0,1,6,7] [] 0] Lf (co rfl j8) (fun z=>(aB ha1 z)) (by kernel_rfl)
 obtain ⟨xa2,gxa2,h⟩:=ac h
 obtain ⟨ya3,gya3,h⟩:=ac h
 have c140_:=fun (R:Prop) (z:R)=>(aB ha1 (aM eI gxa2 (aI (tm n xa2 target ya3 gya3) z)))
 rcases au h with ⟨ha4,h⟩ | ⟨ha4,h⟩
 ·
  exact kQ h (nA nm [rV 3 [(15,vT)],(5,⟨[],[],[(24,[(vI xa2)])],[(27,vT)],[(27,.v (.bool ya3))],[],[],[],[]⟩)]) [wK 0 [0,1,6,7,8] [] 0] Lf cS (fun z=>(c140_ _ (aB ha4 z))) (by kernel_rfl)
 exact kQ h (nA nm [rV 3 [(15,vT)],(5,⟨[],[],[(24,[(vI xa2)])],[(27,vF)],[(27,.v (.bool ya3))],[],[],[],[]⟩)]) [wK 0 [0,1,6,7,8] [] 0] Lf cS (fun z=>(c140_ _ (aB ha4 z))) (by kernel_rfl)

theorem iZ (n:Nat) (x:(List Int)) (target:Int) (r:Int×Bool) (h:cA n x target=some r):az Tryz.prog 136 [.sl (x.map eI),(vI target)] (eY (.tup [(vI r.1),.v (.bool r.2)])):=by
 unfold cA at h
 obtain ⟨t1,gt1,h⟩:=ac h
 have c141_:=fun (R:Prop) (z:R)=>(aL eI x (aI (eA (pl:=ao 136) (Lg x target) (Nx x target) (Qf n x target) n _ t1 gt1) z))
 let e142_:LR:=[rV 1 [(11,(vI (x.length:Int)))]]
 rcases aG h with ⟨h2,h⟩ | ⟨h2,h⟩
 ·
  obtain rfl:=aS h
  exact kP ⟨nm,(e142_++[rV 8 [(35,vF)]]),[],[(3,(⟨[0,1,6,7,8],[],0,[],[],[]⟩,l0,(.ex 0),G8 x target t1))],[]⟩ vc (fun z=>(c141_ _ (aB h2 z))) (by kernel_rfl)
 obtain ⟨x3,gx3,h⟩:=ac h
 have c143_:=fun (R:Prop) (z:R)=>(aB h2 (aM eI gx3 z))
 rcases au h with ⟨h4,h⟩ | ⟨h4,h⟩
 ·
  obtain rfl:=aS h
  exact kP ⟨nm,(e142_++[(8,⟨[],[],[(38,[(vI x3)])],[(35,vT),(42,vT)],[],[],[],[],[]⟩)]),[],[(3,(⟨[0,1,6,7,8],[],0,[],[],[]⟩,l0,(.ex 0),G8 x target t1))],[]⟩ vc (fun z=>(c141_ _ (c143_ _ (aB h4 z)))) (by kernel_rfl)
 obtain ⟨y5,gy5,h⟩:=ac h
 have c144_:=fun (R:Prop) (z:R)=>(aB h4 (aM eI gx3 (aI (jX n x3 y5 gy5) z)))
 rcases aG h with ⟨h6,h⟩ | ⟨h6,h⟩
 ·
  obtain rfl:=aS h
  exact kP ⟨nm,(e142_++[(8,⟨[],[],[(38,[(vI x3)]),(45,[(vI x3)])],[(35,vT),(42,vF),(48,vF)],[(47,.v (.bool y5))],[],[],[],[]⟩)]),[],[(3,(⟨[0,1,6,7,8],[],0,[],[],[]⟩,l0,(.ex 0),G8 x target t1))],[]⟩ vc (fun z=>(c141_ _ (c143_ _ (c144_ _ (aB h6 z))))) (by kernel_rfl)
 obtain ⟨y7,gy7,h⟩:=ac h
 obtain rfl:=aS h
 exact kP ⟨nm,(e142_++[(8,⟨[],[],[(38,[(vI x3)]),(45,[(vI x3)])],[(35,vT),(42,vF),(48,vT)],[(47,.v (.bool y5)),(50,.v (.bool y7))],[],[],[],[]⟩)]),[],[(3,(⟨[0,1,6,7,8],[],0,[],[],[]⟩,l0,(.ex 0),G8 x target t1))],[]⟩ vc (fun z=>(c141_ _ (c143_ _ (c144_ _ (aB h6 (aI (jX n target y7 gy7) z)))))) (by kernel_rfl)

def G9:List (Nat×PT):=[]
theorem IU:aA (ao 120) G9 (al Tryz.prog 120)=true:=by kernel_rfl
theorem lm (n:Nat) (l:(List Int)) (at_:Int) (r:Bool) (h:mQ n l at_=some r):az Tryz.prog 120 [.sl (l.map eI),(vI at_)] (eY (.v (.bool r))):=by
 unfold mQ at h
 obtain ⟨y1,gy1,h⟩:=ac h
 obtain rfl:=aS h
 exact kP (nA G9 [bh 1 [] [(10,.tup [(vI y1.1),.v (.bool y1.2)])]]) IU (fun z=>(aI (iZ n l at_ y1 gy1) z)) (by kernel_rfl)

def G_:List (Nat×PT):=[(1,(eO [0,1,2,3,4,5,6,7,8,9,10]))]
theorem IV:aA (ao 119) G_ (al Tryz.prog 119)=true:=by kernel_rfl
theorem uO (n:Nat) (v:ai) (a:Int) (b:Int) (x:Event) (y:Event) (r:Bool) (h:ik n v a b x y=some r):az Tryz.prog 119 [.fptr (ai.enc v) 0,(vI a),(vI b),.fptr (Event.enc x) 0,.fptr (Event.enc y) 0] (eY (.v (.bool r))):=by
 unfold ik at h
 obtain ⟨y1,gy1,h⟩:=ac h
 obtain rfl:=aS h
 exact kP (nA G_ [bh 1 [] [(20,.v (.bool y1))]]) IV (fun z=>(aI (lm n y.Deps.Addr x.At y1 gy1) z)) (by kernel_rfl)

def Ha:List (Nat×PT):=[(1,(eO [0,1,2,3,4,5,6,7,8,9,10]))]
theorem IW:aA (ao 121) Ha (al Tryz.prog 121)=true:=by kernel_rfl
theorem tn (n:Nat) (v:ai) (a:Int) (b:Int) (x:Event) (y:Event) (r:Bool) (h:gp n v a b x y=some r):az Tryz.prog 121 [.fptr (ai.enc v) 0,(vI a),(vI b),.fptr (Event.enc x) 0,.fptr (Event.enc y) 0] (eY (.v (.bool r))):=by
 unfold gp at h
 obtain ⟨y1,gy1,h⟩:=ac h
 obtain rfl:=aS h
 exact kP (nA Ha [bh 1 [] [(20,.v (.bool y1))]]) IW (fun z=>(aI (lm n y.Deps.Data x.At y1 gy1) z)) (by kernel_rfl)

def C8:List (Nat×PT):=[(1,(eO [0,1,2,3,4,5,6,7,8,9,10,11,12,13,14,15,16]))]
theorem Ec:aA (ao 122) C8 (al Tryz.prog 122)=true:=by kernel_rfl
theorem tp (n:Nat) (v:ai) (a:Int) (b:Int) (x:Event) (y:Event) (r:Bool) (h:gq n v a b x y=some r):az Tryz.prog 122 [.fptr (ai.enc v) 0,(vI a),(vI b),.fptr (Event.enc x) 0,.fptr (Event.enc y) 0] (eY (.v (.bool r))):=by
 unfold gq at h
 obtain ⟨y1,gy1,h⟩:=ac h
 have c145_:=fun (R:Prop) (z:R)=>(aI (cy n y y1 gy1) z)
 rcases aG h with ⟨h2,h⟩ | ⟨h2,h⟩
 ·
  obtain rfl:=aS h
  exact kP (nA C8 [bh 1 [(15,vF)] [(14,.v (.bool y1))]]) Ec (fun z=>(c145_ _ (aB h2 z))) (by kernel_rfl)
 obtain ⟨y3,gy3,h⟩:=ac h
 obtain rfl:=aS h
 exact kP (nA C8 [bh 1 [(15,vT)] [(14,.v (.bool y1)),(25,.v (.bool y3))]]) Ec (fun z=>(c145_ _ (aB h2 (aI (lm n y.Deps.Way x.At y3 gy3) z)))) (by kernel_rfl)

def tq:List (Nat×PT):=[(2,(eO [0,1,2,3,4,5,6,7,8,9,10,11,12,13,14,15,16,17,18,19,20,21,22,23,24,25,26,27,28,29,30,31,32,33,34,35,36,37,38,39,40,41,42,43,44,45,46]))]
theorem rX:aA (ao 123) tq (al Tryz.prog 123)=true:=by kernel_rfl
theorem tr (n:Nat) (v:ai) (a:Int) (b:Int) (x:Event) (y:Event) (r:Bool) (h:gr n v a b x y=some r):az Tryz.prog 123 [.fptr (ai.enc v) 0,(vI a),(vI b),.fptr (Event.enc x) 0,.fptr (Event.enc y) 0] (eY (.v (.bool r))):=by
 unfold gr at h
 rcases jC h with ⟨h1,h⟩ | ⟨z1,h2,h⟩
 ·
  cases h
 ·
  obtain ⟨x3,gx3,h⟩:=ac h
  obtain ⟨y4,gy4,h⟩:=ac h
  have c146_:=fun (R:Prop) (z:R)=>(aI (congrArg (BQ af.enc) h2) (aM eI gx3 (aI (bW n y y4 gy4) z)))
  let e147_:LR:=[(1,⟨[],[],[(20,[(vI x3)])],[(15,.fptr (af.enc z1) 0)],[],[],[],[],[]⟩)]
  rcases aG h with ⟨h5,h⟩ | ⟨h5,h⟩
  ·
   obtain rfl:=aS h
   exact kP (nA tq (e147_++[bh 2 [(26,vF)] [(25,.v (.bool y4))]])) rX (fun z=>(c146_ _ (aB h5 z))) (by kernel_rfl)
  rcases aG h with ⟨h6,h⟩ | ⟨h6,h⟩
  ·
   obtain rfl:=aS h
   exact kP (nA tq (e147_++[bh 2 [(26,vT),(31,vF)] [(25,.v (.bool y4))]])) rX (fun z=>(c146_ _ (aB h5 (aB h6 z)))) (by kernel_rfl)
  have c148_:=fun (R:Prop) (z:R)=>(aB h5 (aB h6 z))
  rcases aG h with ⟨h7,h⟩ | ⟨h7,h⟩
  ·
   obtain rfl:=aS h
   exact kP (nA tq (e147_++[bh 2 [(26,vT),(31,vT),(36,vF)] [(25,.v (.bool y4))]])) rX (fun z=>(c146_ _ (c148_ _ (aB h7 z)))) (by kernel_rfl)
  obtain ⟨x8,gx8,h⟩:=ac h
  obtain ⟨y9,gy9,h⟩:=ac h
  have c149_:=fun (R:Prop) (z:R)=>(aB h7 (aM Event.enc gx8 (aI (lm n x8.Deps.Addr x.At y9 gy9) z)))
  rcases au h with ⟨h10,h⟩ | ⟨h10,h⟩
  ·
   obtain rfl:=aS h
   exact kP (nA tq (e147_++[(2,⟨[],[],[(42,(Event.enc x8))],[(26,vT),(31,vT),(36,vT),(51,vT)],[(25,.v (.bool y4)),(50,.v (.bool y9))],[],[],[],[]⟩)])) rX (fun z=>(c146_ _ (c148_ _ (c149_ _ (aB h10 z))))) (by kernel_rfl)
  obtain ⟨y11,gy11,h⟩:=ac h
  obtain rfl:=aS h
  exact kP (nA tq (e147_++[(2,⟨[],[],[(42,(Event.enc x8)),(57,(Event.enc x8))],[(26,vT),(31,vT),(36,vT),(51,vF)],[(25,.v (.bool y4)),(50,.v (.bool y9)),(65,.v (.bool y11))],[],[],[],[]⟩)])) rX (fun z=>(c146_ _ (c148_ _ (c149_ _ (aB h10 (aM Event.enc gx8 (aI (lm n x8.Deps.Data x.At y11 gy11) z))))))) (by kernel_rfl)

def C9:List (Nat×PT):=[]
theorem Ed:aA (ao 124) C9 (al Tryz.prog 124)=true:=by kernel_rfl
theorem tu (n:Nat) (v:ai) (a:Int) (b:Int) (x:Event) (y:Event) (r:Bool) (h:gu n v a b x y=some r):az Tryz.prog 124 [.fptr (ai.enc v) 0,(vI a),(vI b),.fptr (Event.enc x) 0,.fptr (Event.enc y) 0] (eY (.v (.bool r))):=by
 unfold gu at h
 obtain ⟨y1,gy1,h⟩:=ac h
 have c150_:=fun (R:Prop) (z:R)=>(aI (cy n y y1 gy1) z)
 rcases aG h with ⟨h2,h⟩ | ⟨h2,h⟩
 ·
  obtain rfl:=aS h
  exact kP (nA C9 [bh 1 [(15,vF)] [(14,.v (.bool y1))]]) Ed (fun z=>(c150_ _ (aB h2 z))) (by kernel_rfl)
 obtain ⟨x3,gx3,h⟩:=ac h
 obtain rfl:=aS h
 exact kP (nA C9 [(1,⟨[],[],[(21,[(vI x3)])],[(15,vT)],[(14,.v (.bool y1))],[],[],[],[]⟩)]) Ed (fun z=>(c150_ _ (aB h2 (aM eI gx3 z)))) (by kernel_rfl)

def dV:List (Nat×PT):=[(6,(eO [0,1,2,3,4,5,6,7,8,9,10,11,12,13,14,15,16]))]
theorem C_:aA (ao 83) dV (al Tryz.prog 83)=true:=by kernel_rfl
noncomputable def Ny:Code:=sub (al Tryz.prog 83) [1,1,0,1,0,0]
theorem jl:aA (ao 83) dV Ny=true:=by kernel_rfl
def IX (v:ai) (a:Int) (b:Int) (sa:Int):St:=bm 39 [(0,.fptr (ai.enc v) 0),(1,(vI a)),(2,(vI b)),(14,.agg [.fn 108 [] [],.fn 109 [] [],.fn 112 [] [],.fn 113 [] [],.fn 115 [] [],.fn 116 [] [],.fn 117 [] [],.fn 118 [] [],.fn 119 [] [],.fn 121 [] [],.fn 122 [] [],.fn 123 [] [],.fn 124 [] []]),(15,(vI sa))] [] [] 0
def Nz (v:ai) (a:Int) (b:Int) (tt:Unit):St:=bm 39 [] [] [] 0
def NA (v:ai) (a:Int) (b:Int) (tt:Int):St:=bm 39 [(6,(vI tt))] [] [] 0
def Lh (v:ai) (a:Int) (b:Int) (t0:(Unit⊕Int)):Ex×St:=match t0 with | .inl tt=>(.ex 0,Nz v a b tt) | .inr tt=>(.ret,NA v a b tt)
theorem NB (n:Nat) (v:ai) (a:Int) (b:Int):∀ sa r,e_ n v a b sa=some r→aW Tryz.prog Ny (IX v a b sa) (rk (IX v a b) (Lh v a b) r):=by
 intro sa r h
 unfold e_ at h
 rcases aG h with ⟨ha1,h⟩ | ⟨ha1,h⟩
 ·
  exact kQ h (nA dV [rV 4 [(16,vF)]]) [wK 2 [] [] 0] jl (co rfl j8) (fun z=>(aB ha1 z)) (by kernel_rfl)
 rcases au h with ⟨ha2,h⟩ | ⟨ha2,h⟩
 ·
  obtain ⟨xa3,gxa3,h⟩:=ac h
  obtain ⟨xa4,gxa4,h⟩:=ac h
  obtain ⟨ya5,gya5,h⟩:=ac h
  have c151_:=fun (R:Prop) (z:R)=>(aB ha1 (aI ((aJ.ofEq (xm ha2)):aJ ((vI sa)) ((vI 0))) (aM Event.enc gxa3 (aM Event.enc gxa4 (aI (uG n v a b xa3 xa4 ya5 gya5) z)))))
  rcases au h with ⟨ha6,h⟩ | ⟨ha6,h⟩
  ·
   exact kQ h ⟨dV,[rV 4 [(16,vT)],(6,⟨[],[],[(28,(Event.enc xa3)),(34,(Event.enc xa4))],[(35,vT)],[(35,.v (.bool ya5))],[],[],[],[]⟩)],[(4,⟨[(15,(vI 0))],[],[]⟩)],[],[]⟩ [wK 1 [6] [] 0] jl (co rfl fT) (fun z=>(c151_ _ (aB ha6 z))) (by kernel_rfl)
  exact kQ h ⟨dV,[rV 4 [(16,vT)],(6,⟨[],[],[(28,(Event.enc xa3)),(34,(Event.enc xa4))],[(35,vF)],[(35,.v (.bool ya5))],[],[],[],[]⟩)],[(4,⟨[(15,(vI 0))],[],[]⟩)],[],[]⟩ [wK 0 [0,1,2,14,15] [] 0] jl cS (fun z=>(c151_ _ (aB ha6 z))) (by kernel_rfl)
 rcases au h with ⟨ha2,h⟩ | ⟨ha2,h⟩
 ·
  obtain ⟨xa3,gxa3,h⟩:=ac h
  obtain ⟨xa4,gxa4,h⟩:=ac h
  obtain ⟨ya5,gya5,h⟩:=ac h
  have c152_:=fun (R:Prop) (z:R)=>(aB ha1 (aI ((aJ.ofEq (xm ha2)):aJ ((vI sa)) ((vI 1))) (aM Event.enc gxa3 (aM Event.enc gxa4 (aI (uH n v a b xa3 xa4 ya5 gya5) z)))))
  rcases au h with ⟨ha6,h⟩ | ⟨ha6,h⟩
  ·
   exact kQ h ⟨dV,[rV 4 [(16,vT)],(6,⟨[],[],[(28,(Event.enc xa3)),(34,(Event.enc xa4))],[(35,vT)],[(35,.v (.bool ya5))],[],[],[],[]⟩)],[(4,⟨[(15,(vI 1))],[],[]⟩)],[],[]⟩ [wK 1 [6] [] 0] jl (co rfl fT) (fun z=>(c152_ _ (aB ha6 z))) (by kernel_rfl)
  exact kQ h ⟨dV,[rV 4 [(16,vT)],(6,⟨[],[],[(28,(Event.enc xa3)),(34,(Event.enc xa4))],[(35,vF)],[(35,.v (.bool ya5))],[],[],[],[]⟩)],[(4,⟨[(15,(vI 1))],[],[]⟩)],[],[]⟩ [wK 0 [0,1,2,14,15] [] 0] jl cS (fun z=>(c152_ _ (aB ha6 z))) (by kernel_rfl)
 rcases au h with ⟨ha2,h⟩ | ⟨ha2,h⟩
 ·
  obtain ⟨xa3,gxa3,h⟩:=ac h
  obtain ⟨xa4,gxa4,h⟩:=ac h
  obtain ⟨ya5,gya5,h⟩:=ac h
  have c153_:=fun (R:Prop) (z:R)=>(aB ha1 (aI ((aJ.ofEq (xm ha2)):aJ ((vI sa)) ((vI 2))) (aM Event.enc gxa3 (aM Event.enc gxa4 (aI (uI n v a b xa3 xa4 ya5 gya5) z)))))
  rcases au h with ⟨ha6,h⟩ | ⟨ha6,h⟩
  ·
   exact kQ h ⟨dV,[rV 4 [(16,vT)],(6,⟨[],[],[(28,(Event.enc xa3)),(34,(Event.enc xa4))],[(35,vT)],[(35,.v (.bool ya5))],[],[],[],[]⟩)],[(4,⟨[(15,(vI 2))],[],[]⟩)],[],[]⟩ [wK 1 [6] [] 0] jl (co rfl fT) (fun z=>(c153_ _ (aB ha6 z))) (by kernel_rfl)
  exact kQ h ⟨dV,[rV 4 [(16,vT)],(6,⟨[],[],[(28,(Event.enc xa3)),(34,(Event.enc xa4))],[(35,vF)],[(35,.v (.bool ya5))],[],[],[],[]⟩)],[(4,⟨[(15,(vI 2))],[],[]⟩)],[],[]⟩ [wK 0 [0,1,2,14,15] [] 0] jl cS (fun z=>(c153_ _ (aB ha6 z))) (by kernel_rfl)
 rcases au h with ⟨ha2,h⟩ | ⟨ha2,h⟩
 ·
  obtain ⟨xa3,gxa3,h⟩:=ac h
  obtain ⟨xa4,gxa4,h⟩:=ac h
  obtain ⟨ya5,gya5,h⟩:=ac h
  have c154_:=fun (R:Prop) (z:R)=>(aB ha1 (aI ((aJ.ofEq (xm ha2)):aJ ((vI sa)) ((vI 3))) (aM Event.enc gxa3 (aM Event.enc gxa4 (aI (uJ n v a b xa3 xa4 ya5 gya5) z)))))
  rcases au h with ⟨ha6,h⟩ | ⟨ha6,h⟩
  ·
   exact kQ h ⟨dV,[rV 4 [(16,vT)],(6,⟨[],[],[(28,(Event.enc xa3)),(34,(Event.enc xa4))],[(35,vT)],[(35,.v (.bool ya5))],[],[],[],[]⟩)],[(4,⟨[(15,(vI 3))],[],[]⟩)],[],[]⟩ [wK 1 [6] [] 0] jl (co rfl fT) (fun z=>(c154_ _ (aB ha6 z))) (by kernel_rfl)
  exact kQ h ⟨dV,[rV 4 [(16,vT)],(6,⟨[],[],[(28,(Event.enc xa3)),(34,(Event.enc xa4))],[(35,vF)],[(35,.v (.bool ya5))],[],[],[],[]⟩)],[(4,⟨[(15,(vI 3))],[],[]⟩)],[],[]⟩ [wK 0 [0,1,2,14,15] [] 0] jl cS (fun z=>(c154_ _ (aB ha6 z))) (by kernel_rfl)
 rcases au h with ⟨ha2,h⟩ | ⟨ha2,h⟩
 ·
  obtain ⟨xa3,gxa3,h⟩:=ac h
  obtain ⟨xa4,gxa4,h⟩:=ac h
  obtain ⟨ya5,gya5,h⟩:=ac h
  have c155_:=fun (R:Prop) (z:R)=>(aB ha1 (aI ((aJ.ofEq (xm ha2)):aJ ((vI sa)) ((vI 4))) (aM Event.enc gxa3 (aM Event.enc gxa4 (aI (uK n v a b xa3 xa4 ya5 gya5) z)))))
  rcases au h with ⟨ha6,h⟩ | ⟨ha6,h⟩
  ·
   exact kQ h ⟨dV,[rV 4 [(16,vT)],(6,⟨[],[],[(28,(Event.enc xa3)),(34,(Event.enc xa4))],[(35,vT)],[(35,.v (.bool ya5))],[],[],[],[]⟩)],[(4,⟨[(15,(vI 4))],[],[]⟩)],[],[]⟩ [wK 1 [6] [] 0] jl (co rfl fT) (fun z=>(c155_ _ (aB ha6 z))) (by kernel_rfl)
  exact kQ h ⟨dV,[rV 4 [(16,vT)],(6,⟨[],[],[(28,(Event.enc xa3)),(34,(Event.enc xa4))],[(35,vF)],[(35,.v (.bool ya5))],[],[],[],[]⟩)],[(4,⟨[(15,(vI 4))],[],[]⟩)],[],[]⟩ [wK 0 [0,1,2,14,15] [] 0] jl cS (fun z=>(c155_ _ (aB ha6 z))) (by kernel_rfl)
 rcases au h with ⟨ha2,h⟩ | ⟨ha2,h⟩
 ·
  obtain ⟨xa3,gxa3,h⟩:=ac h
  obtain ⟨xa4,gxa4,h⟩:=ac h
  obtain ⟨ya5,gya5,h⟩:=ac h
  have c156_:=fun (R:Prop) (z:R)=>(aB ha1 (aI ((aJ.ofEq (xm ha2)):aJ ((vI sa)) ((vI 5))) (aM Event.enc gxa3 (aM Event.enc gxa4 (aI (uL n v a b xa3 xa4 ya5 gya5) z)))))
  rcases au h with ⟨ha6,h⟩ | ⟨ha6,h⟩
  ·
   exact kQ h ⟨dV,[rV 4 [(16,vT)],(6,⟨[],[],[(28,(Event.enc xa3)),(34,(Event.enc xa4))],[(35,vT)],[(35,.v (.bool ya5))],[],[],[],[]⟩)],[(4,⟨[(15,(vI 5))],[],[]⟩)],[],[]⟩ [wK 1 [6] [] 0] jl (co rfl fT) (fun z=>(c156_ _ (aB ha6 z))) (by kernel_rfl)
  exact kQ h ⟨dV,[rV 4 [(16,vT)],(6,⟨[],[],[(28,(Event.enc xa3)),(34,(Event.enc xa4))],[(35,vF)],[(35,.v (.bool ya5))],[],[],[],[]⟩)],[(4,⟨[(15,(vI 5))],[],[]⟩)],[],[]⟩ [wK 0 [0,1,2,14,15] [] 0] jl cS (fun z=>(c156_ _ (aB ha6 z))) (by kernel_rfl)
 rcases au h with ⟨ha2,h⟩ | ⟨ha2,h⟩
 ·
  obtain ⟨xa3,gxa3,h⟩:=ac h
  obtain ⟨xa4,gxa4,h⟩:=ac h
  obtain ⟨ya5,gya5,h⟩:=ac h
  have c157_:=fun (R:Prop) (z:R)=>(aB ha1 (aI ((aJ.ofEq (xm ha2)):aJ ((vI sa)) ((vI 6))) (aM Event.enc gxa3 (aM Event.enc gxa4 (aI (uM n v a b xa3 xa4 ya5 gya5) z)))))
  rcases au h with ⟨ha6,h⟩ | ⟨ha6,h⟩
  ·
   exact kQ h ⟨dV,[rV 4 [(16,vT)],(6,⟨[],[],[(28,(Event.enc xa3)),(34,(Event.enc xa4))],[(35,vT)],[(35,.v (.bool ya5))],[],[],[],[]⟩)],[(4,⟨[(15,(vI 6))],[],[]⟩)],[],[]⟩ [wK 1 [6] [] 0] jl (co rfl fT) (fun z=>(c157_ _ (aB ha6 z))) (by kernel_rfl)
  exact kQ h ⟨dV,[rV 4 [(16,vT)],(6,⟨[],[],[(28,(Event.enc xa3)),(34,(Event.enc xa4))],[(35,vF)],[(35,.v (.bool ya5))],[],[],[],[]⟩)],[(4,⟨[(15,(vI 6))],[],[]⟩)],[],[]⟩ [wK 0 [0,1,2,14,15] [] 0] jl cS (fun z=>(c157_ _ (aB ha6 z))) (by kernel_rfl)
 rcases au h with ⟨ha2,h⟩ | ⟨ha2,h⟩
 ·
  obtain ⟨xa3,gxa3,h⟩:=ac h
  obtain ⟨xa4,gxa4,h⟩:=ac h
  obtain ⟨ya5,gya5,h⟩:=ac h
  have c158_:=fun (R:Prop) (z:R)=>(aB ha1 (aI ((aJ.ofEq (xm ha2)):aJ ((vI sa)) ((vI 7))) (aM Event.enc gxa3 (aM Event.enc gxa4 (aI (uN n v a b xa3 xa4 ya5 gya5) z)))))
  rcases au h with ⟨ha6,h⟩ | ⟨ha6,h⟩
  ·
   exact kQ h ⟨dV,[rV 4 [(16,vT)],(6,⟨[],[],[(28,(Event.enc xa3)),(34,(Event.enc xa4))],[(35,vT)],[(35,.v (.bool ya5))],[],[],[],[]⟩)],[(4,⟨[(15,(vI 7))],[],[]⟩)],[],[]⟩ [wK 1 [6] [] 0] jl (co rfl fT) (fun z=>(c158_ _ (aB ha6 z))) (by kernel_rfl)
  exact kQ h ⟨dV,[rV 4 [(16,vT)],(6,⟨[],[],[(28,(Event.enc xa3)),(34,(Event.enc xa4))],[(35,vF)],[(35,.v (.bool ya5))],[],[],[],[]⟩)],[(4,⟨[(15,(vI 7))],[],[]⟩)],[],[]⟩ [wK 0 [0,1,2,14,15] [] 0] jl cS (fun z=>(c158_ _ (aB ha6 z))) (by kernel_rfl)
 rcases au h with ⟨ha2,h⟩ | ⟨ha2,h⟩
 ·
  obtain ⟨xa3,gxa3,h⟩:=ac h
  obtain ⟨xa4,gxa4,h⟩:=ac h
  obtain ⟨ya5,gya5,h⟩:=ac h
  have c159_:=fun (R:Prop) (z:R)=>(aB ha1 (aI ((aJ.ofEq (xm ha2)):aJ ((vI sa)) ((vI 8))) (aM Event.enc gxa3 (aM Event.enc gxa4 (aI (uO n v a b xa3 xa4 ya5 gya5) z)))))
  rcases au h with ⟨ha6,h⟩ | ⟨ha6,h⟩
  ·
   exact kQ h ⟨dV,[rV 4 [(16,vT)],(6,⟨[],[],[(28,(Event.enc xa3)),(34,(Event.enc xa4))],[(35,vT)],[(35,.v (.bool ya5))],[],[],[],[]⟩)],[(4,⟨[(15,(vI 8))],[],[]⟩)],[],[]⟩ [wK 1 [6] [] 0] jl (co rfl fT) (fun z=>(c159_ _ (aB ha6 z))) (by kernel_rfl)
  exact kQ h ⟨dV,[rV 4 [(16,vT)],(6,⟨[],[],[(28,(Event.enc xa3)),(34,(Event.enc xa4))],[(35,vF)],[(35,.v (.bool ya5))],[],[],[],[]⟩)],[(4,⟨[(15,(vI 8))],[],[]⟩)],[],[]⟩ [wK 0 [0,1,2,14,15] [] 0] jl cS (fun z=>(c159_ _ (aB ha6 z))) (by kernel_rfl)
 rcases au h with ⟨ha2,h⟩ | ⟨ha2,h⟩
 ·
  obtain ⟨xa3,gxa3,h⟩:=ac h
  obtain ⟨xa4,gxa4,h⟩:=ac h
  obtain ⟨ya5,gya5,h⟩:=ac h
  have c160_:=fun (R:Prop) (z:R)=>(aB ha1 (aI ((aJ.ofEq (xm ha2)):aJ ((vI sa)) ((vI 9))) (aM Event.enc gxa3 (aM Event.enc gxa4 (aI (tn n v a b xa3 xa4 ya5 gya5) z)))))
  rcases au h with ⟨ha6,h⟩ | ⟨ha6,h⟩
  ·
   exact kQ h ⟨dV,[rV 4 [(16,vT)],(6,⟨[],[],[(28,(Event.enc xa3)),(34,(Event.enc xa4))],[(35,vT)],[(35,.v (.bool ya5))],[],[],[],[]⟩)],[(4,⟨[(15,(vI 9))],[],[]⟩)],[],[]⟩ [wK 1 [6] [] 0] jl (co rfl fT) (fun z=>(c160_ _ (aB ha6 z))) (by kernel_rfl)
  exact kQ h ⟨dV,[rV 4 [(16,vT)],(6,⟨[],[],[(28,(Event.enc xa3)),(34,(Event.enc xa4))],[(35,vF)],[(35,.v (.bool ya5))],[],[],[],[]⟩)],[(4,⟨[(15,(vI 9))],[],[]⟩)],[],[]⟩ [wK 0 [0,1,2,14,15] [] 0] jl cS (fun z=>(c160_ _ (aB ha6 z))) (by kernel_rfl)
 rcases au h with ⟨ha2,h⟩ | ⟨ha2,h⟩
 ·
  obtain ⟨xa3,gxa3,h⟩:=ac h
  obtain ⟨xa4,gxa4,h⟩:=ac h
  obtain ⟨ya5,gya5,h⟩:=ac h
  have c161_:=fun (R:Prop) (z:R)=>(aB ha1 (aI ((aJ.ofEq (xm ha2)):aJ ((vI sa)) ((vI 10))) (aM Event.enc gxa3 (aM Event.enc gxa4 (aI (tp n v a b xa3 xa4 ya5 gya5) z)))))
  rcases au h with ⟨ha6,h⟩ | ⟨ha6,h⟩
  ·
   exact kQ h ⟨dV,[rV 4 [(16,vT)],(6,⟨[],[],[(28,(Event.enc xa3)),(34,(Event.enc xa4))],[(35,vT)],[(35,.v (.bool ya5))],[],[],[],[]⟩)],[(4,⟨[(15,(vI 10))],[],[]⟩)],[],[]⟩ [wK 1 [6] [] 0] jl (co rfl fT) (fun z=>(c161_ _ (aB ha6 z))) (by kernel_rfl)
  exact kQ h ⟨dV,[rV 4 [(16,vT)],(6,⟨[],[],[(28,(Event.enc xa3)),(34,(Event.enc xa4))],[(35,vF)],[(35,.v (.bool ya5))],[],[],[],[]⟩)],[(4,⟨[(15,(vI 10))],[],[]⟩)],[],[]⟩ [wK 0 [0,1,2,14,15] [] 0] jl cS (fun z=>(c161_ _ (aB ha6 z))) (by kernel_rfl)
 rcases au h with ⟨ha2,h⟩ | ⟨ha2,h⟩
 ·
  obtain ⟨xa3,gxa3,h⟩:=ac h
  obtain ⟨xa4,gxa4,h⟩:=ac h
  obtain ⟨ya5,gya5,h⟩:=ac h
  have c162_:=fun (R:Prop) (z:R)=>(aB ha1 (aI ((aJ.ofEq (xm ha2)):aJ ((vI sa)) ((vI 11))) (aM Event.enc gxa3 (aM Event.enc gxa4 (aI (tr n v a b xa3 xa4 ya5 gya5) z)))))
  rcases au h with ⟨ha6,h⟩ | ⟨ha6,h⟩
  ·
   exact kQ h ⟨dV,[rV 4 [(16,vT)],(6,⟨[],[],[(28,(Event.enc xa3)),(34,(Event.enc xa4))],[(35,vT)],[(35,.v (.bool ya5))],[],[],[],[]⟩)],[(4,⟨[(15,(vI 11))],[],[]⟩)],[],[]⟩ [wK 1 [6] [] 0] jl (co rfl fT) (fun z=>(c162_ _ (aB ha6 z))) (by kernel_rfl)
  exact kQ h ⟨dV,[rV 4 [(16,vT)],(6,⟨[],[],[(28,(Event.enc xa3)),(34,(Event.enc xa4))],[(35,vF)],[(35,.v (.bool ya5))],[],[],[],[]⟩)],[(4,⟨[(15,(vI 11))],[],[]⟩)],[],[]⟩ [wK 0 [0,1,2,14,15] [] 0] jl cS (fun z=>(c162_ _ (aB ha6 z))) (by kernel_rfl)
 rcases au h with ⟨ha2,h⟩ | ⟨ha2,h⟩
 ·
  obtain ⟨xa3,gxa3,h⟩:=ac h
  obtain ⟨xa4,gxa4,h⟩:=ac h
  obtain ⟨ya5,gya5,h⟩:=ac h
  have c163_:=fun (R:Prop) (z:R)=>(aB ha1 (aI ((aJ.ofEq (xm ha2)):aJ ((vI sa)) ((vI 12))) (aM Event.enc gxa3 (aM Event.enc gxa4 (aI (tu n v a b xa3 xa4 ya5 gya5) z)))))
  rcases au h with ⟨ha6,h⟩ | ⟨ha6,h⟩
  ·
   exact kQ h ⟨dV,[rV 4 [(16,vT)],(6,⟨[],[],[(28,(Event.enc xa3)),(34,(Event.enc xa4))],[(35,vT)],[(35,.v (.bool ya5))],[],[],[],[]⟩)],[(4,⟨[(15,(vI 12))],[],[]⟩)],[],[]⟩ [wK 1 [6] [] 0] jl (co rfl fT) (fun z=>(c163_ _ (aB ha6 z))) (by kernel_rfl)
  exact kQ h ⟨dV,[rV 4 [(16,vT)],(6,⟨[],[],[(28,(Event.enc xa3)),(34,(Event.enc xa4))],[(35,vF)],[(35,.v (.bool ya5))],[],[],[],[]⟩)],[(4,⟨[(15,(vI 12))],[],[]⟩)],[],[]⟩ [wK 0 [0,1,2,14,15] [] 0] jl cS (fun z=>(c163_ _ (aB ha6 z))) (by kernel_rfl)
 rcases au h with ⟨ha2,h⟩ | ⟨ha2,h⟩
 ·
  cases h
 cases h

theorem rY (n:Nat) (v:ai) (a:Int) (b:Int) (r:Int) (h:cF n v a b=some r):az Tryz.prog 83 [.fptr (ai.enc v) 0,(vI a),(vI b)] (eY ((vI r))):=by
 unfold cF at h
 obtain ⟨y1,gy1,h⟩:=ac h
 have c164_:=fun (R:Prop) (z:R)=>(aI (qT n v a b y1 gy1) z)
 rcases au h with ⟨h2,h⟩ | ⟨h2,h⟩
 ·
  obtain rfl:=aS h
  exact kP (nA dV [bh 1 [(13,vT)] [(12,.v (.bool y1))]]) C_ (fun z=>(c164_ _ (aB h2 z))) (by kernel_rfl)
 obtain ⟨y3,gy3,h⟩:=ac h
 obtain ⟨t4,gt4,h⟩:=ac h
 have c165_:=fun (R:Prop) (z:R)=>(aB h2 (aI (xS n y3 gy3) z))
 rcases t4 with w5 | w5
 ·
  obtain rfl:=aS h
  exact kP ⟨dV,[bh 1 [(13,vF)] [(12,.v (.bool y1))],(3,⟨[],[],[],[],[(14,.agg [.fn 108 [] [],.fn 109 [] [],.fn 112 [] [],.fn 113 [] [],.fn 115 [] [],.fn 116 [] [],.fn 117 [] [],.fn 118 [] [],.fn 119 [] [],.fn 121 [] [],.fn 122 [] [],.fn 123 [] [],.fn 124 [] []])],[],[],[],[]⟩)],[],[(4,(⟨[0,1,2,14,15],[],0,[],[],[]⟩,l0,(.ex 0),Nz v a b w5))],[]⟩ C_ (fun z=>(c164_ _ (c165_ _ (aI (eA (pl:=ao 83) (IX v a b) (Lh v a b) (NB n v a b) n _ (.inl w5) gt4) z)))) (by kernel_rfl)
 ·
  obtain rfl:=aS h
  exact kP ⟨dV,[bh 1 [(13,vF)] [(12,.v (.bool y1))],(3,⟨[],[],[],[],[(14,.agg [.fn 108 [] [],.fn 109 [] [],.fn 112 [] [],.fn 113 [] [],.fn 115 [] [],.fn 116 [] [],.fn 117 [] [],.fn 118 [] [],.fn 119 [] [],.fn 121 [] [],.fn 122 [] [],.fn 123 [] [],.fn 124 [] []])],[],[],[],[]⟩)],[],[(4,(⟨[0,1,2,14,15],[],0,[],[],[]⟩,l0,.ret,NA v a b w5))],[]⟩ C_ (fun z=>(c164_ _ (c165_ _ (aI (eA (pl:=ao 83) (IX v a b) (Lh v a b) (NB n v a b) n _ (.inr w5) gt4) z)))) (by kernel_rfl)

def oZ:List (Nat×PT):=[(9,(eO [0,1,2,3,4,5,6,7,8,9,10,11,12,13,14,15,16,17,18,19]))]
theorem Hb:aA (ao 64) oZ (al Tryz.prog 64)=true:=by kernel_rfl
noncomputable def Li:Code:=sub (al Tryz.prog 64) [1,1,1,1,0,1,0,0]
noncomputable def NC:Code:=sub Li [1,1,0,0,1,1,0,0]
theorem IY:aA (ao 64) oZ NC=true:=by kernel_rfl
def Lj (z2:ai) (xa2:Event) (sb:(List (eW Int))×Int×Int×Int):St:=bm 58 [(3,.fptr (ai.enc z2) 0),(4,.mf 0),(5,(vI sb.2.2.1)),(6,.ptr (.L 6) 0 0),(7,(vI sb.2.2.2)),(14,.sl (z2.all.map Event.enc)),(15,(vI (z2.all.length:Int))),(16,(vI sb.2.1))] [(6,(Event.enc xa2))] [.arr true 2 (sb.1.map (ll eI))] 0
def ND (z2:ai) (xa2:Event) (tt:(List (eW Int))×Int):St:=bm 58 [(3,.fptr (ai.enc z2) 0),(4,.mf 0),(14,.sl (z2.all.map Event.enc)),(15,(vI (z2.all.length:Int))),(16,(vI tt.2))] [] [.arr true 2 (tt.1.map (ll eI))] 0
def NE (z2:ai) (xa2:Event) (tt:((List (eW Int))×Int)):Ex×St:=(.ex 2,ND z2 xa2 tt)
theorem Qg (n:Nat) (z2:ai) (xa2:Event):∀ sb r,km n z2 xa2 sb=some r→aW Tryz.prog NC (Lj z2 xa2 sb) (rk (Lj z2 xa2) (NE z2 xa2) r):=by
 intro sb r h
 unfold km at h
 rcases aG h with ⟨hb1,h⟩ | ⟨hb1,h⟩
 ·
  exact kQ h (nA oZ [rV 9 [(28,(vI (z2.all.length:Int))),(30,vF)]]) [wK 4 [3,4,14,15,16] [6] 1] IY (co rfl j8) (fun z=>(aL Event.enc z2.all (aB hb1 z))) (by kernel_rfl)
 obtain ⟨xb2,gxb2,h⟩:=ac h
 have c166_:=fun (R:Prop) (z:R)=>(aL Event.enc z2.all (aB hb1 (aM Event.enc gxb2 z)))
 rcases aG h with ⟨hb3,h⟩ | ⟨hb3,h⟩
 ·
  exact kQ h (nA oZ [(9,⟨[],[],[(36,(Event.enc xb2))],[(28,(vI (z2.all.length:Int))),(30,vT),(42,vF)],[],[],[],[],[]⟩)]) [wK 4 [3,4,14,15,16] [6] 1] IY (co rfl j8) (fun z=>(c166_ _ (aB hb3 z))) (by kernel_rfl)
 obtain ⟨yb4,gyb4,h⟩:=ac h
 have c167_:=fun (R:Prop) (z:R)=>(aB hb3 (aI (rY n z2 sb.2.2.1 sb.2.2.2 yb4 gyb4) z))
 rcases aG h with ⟨hb5,h⟩ | ⟨hb5,h⟩
 ·
  exact kQ h (nA oZ [(9,⟨[],[],[(36,(Event.enc xb2))],[(28,(vI (z2.all.length:Int))),(30,vT),(42,vT)],[],[],[],[],[]⟩),bh 11 [(49,vF)] [(48,(vI yb4))]]) [wK 0 [3,4,5,6,7,14,15,16] [] 1] IY cS (fun z=>(c166_ _ (c167_ _ (aB hb5 z)))) (by kernel_rfl)
 obtain ⟨hb6,h⟩:=fj h
 exact kQ h (nA oZ [(9,⟨[],[],[(36,(Event.enc xb2))],[(28,(vI (z2.all.length:Int))),(30,vT),(42,vT)],[],[],[],[],[]⟩),bh 11 [(49,vT)] [(48,(vI yb4))],(12,⟨[],[55],[],[],[],[],[(55,(0,(sb.1++([(eW.mk sb.2.2.1 sb.2.2.2)]:List (eW Int))).map (ll eI)))],[],[]⟩)]) [wK 0 [3,4,5,6,7,14,15,16] [] 1] IY cS (fun z=>(c166_ _ (c167_ _ (aB hb5 (aI (rfl:di 2 [[(vI sb.2.2.1),(vI sb.2.2.2)]]=true) (aI (rfl:a5 [[(vI sb.2.2.1),(vI sb.2.2.2)]]=true) (aI (mE hb6:Nat.ble (((sb.1.map (ll eI)).length + 1) * 16) 140737488355328=true) (aI (pD (ll eI) sb.1 ([(eW.mk sb.2.2.1 sb.2.2.2)]:List (eW Int))) z)))))))) (by kernel_rfl)

theorem NF:aA (ao 64) oZ Li=true:=by kernel_rfl
def Lk (z2:ai) (sa:(List (eW Int))×Int):St:=bm 58 [(3,.fptr (ai.enc z2) 0),(4,.mf 0),(14,.sl (z2.all.map Event.enc)),(15,(vI (z2.all.length:Int))),(16,(vI sa.2))] [] [.arr true 2 (sa.1.map (ll eI))] 0
def NG (z2:ai) (tt:(List (eW Int))):St:=bm 58 [(4,.mf 0)] [] [.arr true 2 (tt.map (ll eI))] 0
def NH (z2:ai) (tt:((List (eW Int)))):Ex×St:=(.ex 0,NG z2 tt)
theorem Qh (n:Nat) (z2:ai):∀ sa r,kn n z2 sa=some r→aW Tryz.prog Li (Lk z2 sa) (rk (Lk z2) (NH z2) r):=by
 intro sa r h
 unfold kn at h
 rcases aG h with ⟨ha1,h⟩ | ⟨ha1,h⟩
 ·
  exact kQ h (nA oZ [rV 6 [(17,vF)]]) [wK 2 [4] [] 1] NF (co rfl j8) (fun z=>(aB ha1 z)) (by kernel_rfl)
 obtain ⟨xa2,gxa2,h⟩:=ac h
 obtain ⟨ta3,gta3,h⟩:=ac h
 exact kQ h ⟨oZ,[rV 6 [(17,vT)],rR 7 [(19,(Event.enc xa2))]],[],[(9,(⟨[3,4,5,6,7,14,15,16],[],1,[],[],[]⟩,l0,(.ex 2),ND z2 xa2 ta3))],[]⟩ [wK 0 [3,4,14,15,16] [] 1] NF cS (fun z=>(aB ha1 (aM Event.enc gxa2 (aI (eA (pl:=ao 64) (Lj z2 xa2) (NE z2 xa2) (Qg n z2 xa2) n _ ta3 gta3) z)))) (by kernel_rfl)

theorem xT (n:Nat) (c:af) (r:(List (eW Int))) (h:ky n c=some r):az Tryz.prog 64 [(bT af.enc c)] (eY (.sl (r.map (ll eI)))):=by
 unfold ky at h
 obtain ⟨y1,gy1,h⟩:=ac h
 rcases y1 with _ | z2
 ·
  obtain rfl:=aS h
  exact kP (nA oZ [bh 1 [] [(8,.nilp)]]) Hb (fun z=>(aI (wR n c none gy1) (aJ.nil:aJ .nilsl (.sl (([]:List (eW Int)).map (ll eI)))))) (by kernel_rfl)
 ·
  obtain ⟨t3,gt3,h⟩:=ac h
  obtain rfl:=aS h
  exact kP ⟨oZ,[bh 1 [] [(8,.fptr (ai.enc z2) 0)],rV 5 [(15,(vI (z2.all.length:Int)))]],[],[(6,(⟨[3,4,14,15,16],[],0,[(4,2)],[],[]⟩,l0,(.ex 0),NG z2 t3))],[]⟩ Hb (fun z=>(aI (wR n c (some z2) gy1) (aL Event.enc z2.all (aI (eA (pl:=ao 64) (Lk z2) (NH z2) (Qh n z2) n _ t3 gt3) z)))) (by kernel_rfl)

def J2:List (Nat×PT):=[]
theorem Ll:aA (ao 42) J2 (al Tryz.prog 42)=true:=by kernel_rfl
theorem iU (n:Nat) (r:bi) (h:g7 n=some r):az Tryz.prog 42 [] (eY ((bT bi.enc r))):=by
 unfold g7 at h
 obtain rfl:=aS h
 exact kP (nA J2 []) Ll (fun z=>z) (by kernel_rfl)

def wU:List (Nat×PT):=[(4,(eO [0,1,2,3,4,5,6,7,8,9,10,11,12,13,14,15,16]))]
theorem Hc:aA (ao 39) wU (al Tryz.prog 39)=true:=by kernel_rfl
noncomputable def NI:Code:=sub (al Tryz.prog 39) [1,0,1,0,0]
theorem Lm:aA (ao 39) wU NI=true:=by kernel_rfl
def IZ (oA:(List Cell)) (oB:(List (List Event))) (oC:(List Int)) (oD:(List Int)) (oE:(List (Int×(List Int)))) (oF:(List Event)) (oG:(List Int)) (y1:(List (eW Int))) (sa:Int):St:=bm 41 [(0,.ptr (.O 2) 0 0),(2,.ptr (.L 2) 0 0),(11,.sl (y1.map (ll eI))),(12,(vI (y1.length:Int))),(13,(vI sa))] [(2,[vF,(vI 0),(vI 0),(vI 0)])] [.arr true 4 [[.sl (oA.map Cell.enc),.sl (oB.map (et Event.enc)),.sl (oC.map eI),.sl (oD.map eI)]],.mapo true (oE.map (dr (aR .u64) (ep eI))),.arr false 4 [[.ptr (.O 0) 0 0,.sl (oF.map Event.enc),.sl (oG.map eI),.mp 1]],.arr false 1 [[.fn 39 [.ptr (.O 2) 0 0] []],[.fn 40 [.ptr (.O 2) 0 0] []],[.fn 41 [.ptr (.O 2) 0 0] []]]] 4
def NJ (oA:(List Cell)) (oB:(List (List Event))) (oC:(List Int)) (oD:(List Int)) (oE:(List (Int×(List Int)))) (oF:(List Event)) (oG:(List Int)) (y1:(List (eW Int))) (tt:Unit):St:=bm 41 [(2,.ptr (.L 2) 0 0)] [(2,[vF,(vI 0),(vI 0),(vI 0)])] [.arr true 4 [[.sl (oA.map Cell.enc),.sl (oB.map (et Event.enc)),.sl (oC.map eI),.sl (oD.map eI)]],.mapo true (oE.map (dr (aR .u64) (ep eI))),.arr false 4 [[.ptr (.O 0) 0 0,.sl (oF.map Event.enc),.sl (oG.map eI),.mp 1]],.arr false 1 [[.fn 39 [.ptr (.O 2) 0 0] []],[.fn 40 [.ptr (.O 2) 0 0] []],[.fn 41 [.ptr (.O 2) 0 0] []]]] 4
def NK (oA:(List Cell)) (oB:(List (List Event))) (oC:(List Int)) (oD:(List Int)) (oE:(List (Int×(List Int)))) (oF:(List Event)) (oG:(List Int)) (y1:(List (eW Int))) (tt:Bool×Int×Int×Int):St:=bm 41 [(2,.ptr (.L 2) 0 0)] [(2,[.v (.bool tt.1),(vI tt.2.1),(vI tt.2.2.1),(vI tt.2.2.2)])] [.arr true 4 [[.sl (oA.map Cell.enc),.sl (oB.map (et Event.enc)),.sl (oC.map eI),.sl (oD.map eI)]],.mapo true (oE.map (dr (aR .u64) (ep eI))),.arr false 4 [[.ptr (.O 0) 0 0,.sl (oF.map Event.enc),.sl (oG.map eI),.mp 1]],.arr false 1 [[.fn 39 [.ptr (.O 2) 0 0] []],[.fn 40 [.ptr (.O 2) 0 0] []],[.fn 41 [.ptr (.O 2) 0 0] []]]] 4
def Ln (oA:(List Cell)) (oB:(List (List Event))) (oC:(List Int)) (oD:(List Int)) (oE:(List (Int×(List Int)))) (oF:(List Event)) (oG:(List Int)) (y1:(List (eW Int))) (t0:(Unit⊕(Bool×Int×Int×Int))):Ex×St:=match t0 with | .inl tt=>(.ex 0,NJ oA oB oC oD oE oF oG y1 tt) | .inr tt=>(.ret,NK oA oB oC oD oE oF oG y1 tt)
theorem NL (n:Nat) (oA:(List Cell)) (oB:(List (List Event))) (oC:(List Int)) (oD:(List Int)) (oE:(List (Int×(List Int)))) (oF:(List Event)) (oG:(List Int)) (y1:(List (eW Int))):∀ sa r,dI n oA oB oC oD oE oF oG y1 sa=some r→aW Tryz.prog NI (IZ oA oB oC oD oE oF oG y1 sa) (rk (IZ oA oB oC oD oE oF oG y1) (Ln oA oB oC oD oE oF oG y1) r):=by
 intro sa r h
 unfold dI at h
 rcases aG h with ⟨ha1,h⟩ | ⟨ha1,h⟩
 ·
  exact kQ h (nA wU [rV 2 [(14,vF)]]) [wK 2 [2] [] 4] Lm (co rfl j8) (fun z=>(aB ha1 z)) (by kernel_rfl)
 obtain ⟨xa2,gxa2,h⟩:=ac h
 obtain ⟨xa3,gxa3,h⟩:=ac h
 obtain ⟨xa4,gxa4,h⟩:=ac h
 have c168_:=fun (R:Prop) (z:R)=>(aB ha1 (aI (nh (ll eI) gxa2:CR (y1.map (ll eI)) sa=some [(vI xa2.e0),(vI xa2.e1)]) (aM eI gxa3 (aM eI gxa4 z))))
 rcases aG h with ⟨ha5,h⟩ | ⟨ha5,h⟩
 ·
  exact kQ h (nA wU [rV 2 [(14,vT)],rR 3 [(15,[(vI xa2.e0),(vI xa2.e1)])],(4,⟨[],[],[(23,[(vI xa3)]),(31,[(vI xa4)])],[(33,vF)],[],[],[],[],[]⟩)]) [wK 0 [0,2,11,12,13] [4] 4] Lm cS (fun z=>(c168_ _ (aB ha5 z))) (by kernel_rfl)
 obtain ⟨ya6,gya6,h⟩:=ac h
 exact kQ h (nA wU [rV 2 [(14,vT)],rR 3 [(15,[(vI xa2.e0),(vI xa2.e1)])],(4,⟨[],[],[(23,[(vI xa3)]),(31,[(vI xa4)])],[(33,vT)],[],[],[],[],[]⟩),bh 5 [] [(38,(bT bi.enc ya6))]]) [wK 1 [2] [4] 4] Lm (co rfl fT) (fun z=>(c168_ _ (aB ha5 (aI (gU n 2 xa2.e0 xa2.e1 ya6 gya6) z)))) (by kernel_rfl)

def i5 (oA:(List Cell)) (oB:(List (List Event))) (oC:(List Int)) (oD:(List Int)) (oE:(List (Int×(List Int)))) (oF:(List Event)) (oG:(List Int)) (y:(Bool×Int×Int×Int)):AV×List Ob:=(.agg [.v (.bool y.1),(vI y.2.1),(vI y.2.2.1),(vI y.2.2.2)],[.arr true 4 [[.sl (oA.map Cell.enc),.sl (oB.map (et Event.enc)),.sl (oC.map eI),.sl (oD.map eI)]],.mapo true (oE.map (dr (aR .u64) (ep eI))),.arr false 4 [[.ptr (.O 0) 0 0,.sl (oF.map Event.enc),.sl (oG.map eI),.mp 1]],.arr false 1 [[.fn 39 [.ptr (.O 2) 0 0] []],[.fn 40 [.ptr (.O 2) 0 0] []],[.fn 41 [.ptr (.O 2) 0 0] []]]])
theorem dz (n:Nat) (oA:(List Cell)) (oB:(List (List Event))) (oC:(List Int)) (oD:(List Int)) (oE:(List (Int×(List Int)))) (oF:(List Event)) (oG:(List Int)) (y:(Bool×Int×Int×Int)) (h:dD n oA oB oC oD oE oF oG=some y):SD Tryz.prog 39 [.ptr (.O 2) 0 0] [.arr true 4 [[.sl (oA.map Cell.enc),.sl (oB.map (et Event.enc)),.sl (oC.map eI),.sl (oD.map eI)]],.mapo true (oE.map (dr (aR .u64) (ep eI))),.arr false 4 [[.ptr (.O 0) 0 0,.sl (oF.map Event.enc),.sl (oG.map eI),.mp 1]],.arr false 1 [[.fn 39 [.ptr (.O 2) 0 0] []],[.fn 40 [.ptr (.O 2) 0 0] []],[.fn 41 [.ptr (.O 2) 0 0] []]]] (fun r' o'=>r'=(i5 oA oB oC oD oE oF oG y).1∧o'=(i5 oA oB oC oD oE oF oG y).2):=by
 unfold dD at h
 obtain ⟨y1,gy1,h⟩:=ac h
 obtain ⟨t2,gt2,h⟩:=ac h
 have c169_:=fun (R:Prop) (z:R)=>(aI (xT n (af.mk oA oB oC oD) y1 gy1) (aL (ll eI) y1 z))
 rcases t2 with w3 | w3
 ·
  obtain ⟨y4,gy4,h⟩:=ac h
  obtain rfl:=aS h
  exact kS ⟨wU,[bh 1 [(12,(vI (y1.length:Int)))] [(11,.sl (y1.map (ll eI)))],bh 7 [] [(40,(bT bi.enc y4))]],[],[(2,(⟨[0,2,11,12,13],[],4,[],[],[]⟩,l0,(.ex 0),NJ oA oB oC oD oE oF oG y1 w3))],[]⟩ Hc ⟨rfl,rfl⟩ (fun z=>(c169_ _ (aI (eA (pl:=ao 39) (IZ oA oB oC oD oE oF oG y1) (Ln oA oB oC oD oE oF oG y1) (NL n oA oB oC oD oE oF oG y1) n _ (.inl w3) gt2) (aI (iU n y4 gy4) z)))) (by kernel_rfl)
 ·
  obtain rfl:=aS h
  exact kS ⟨wU,[bh 1 [(12,(vI (y1.length:Int)))] [(11,.sl (y1.map (ll eI)))]],[],[(2,(⟨[0,2,11,12,13],[],4,[],[],[]⟩,l0,.ret,NK oA oB oC oD oE oF oG y1 w3))],[]⟩ Hc ⟨rfl,rfl⟩ (fun z=>(c169_ _ (aI (eA (pl:=ao 39) (IZ oA oB oC oD oE oF oG y1) (Ln oA oB oC oD oE oF oG y1) (NL n oA oB oC oD oE oF oG y1) n _ (.inr w3) gt2) z))) (by kernel_rfl)

def nC:List (Nat×PT):=[(2,(eO [0,1,2,3,4,5,6,7])),(6,(eO [0,1,2,3,4,5,6,7,8,9,10,11])),(7,(eO [0,1,2,3,4,5,6,7,8,9,10,11,12,13,14,15,16,17,18,19,20,21,22,23,24,25,26,27,28,29,30,31,32,33,34,35,36,37,38,39]))]
theorem Ao:aA (ao 47) nC (al Tryz.prog 47)=true:=by kernel_rfl
noncomputable def NM:Code:=sub (al Tryz.prog 47) [1,1,1,0,1,0,0]
theorem Fg:aA (ao 47) nC NM=true:=by kernel_rfl
def Fh (n_:Int) (oA:(List Cell)) (oB:(List (List Event))) (oC:(List Int)) (oD:(List Int)) (oE:(List (Int×(List Int)))) (oF:(List Event)) (oG:(List Int)) (x1:Event) (sa:(List Int)×Int):St:=bm 84 [(0,.ptr (.O 2) 0 0),(1,(vI n_)),(5,.ptr (.L 5) 0 0),(6,.sl (sa.1.map eI)),(7,(vI sa.2))] [(5,(Event.enc x1))] [.arr true 4 [[.sl (oA.map Cell.enc),.sl (oB.map (et Event.enc)),.sl (oC.map eI),.sl (oD.map eI)]],.mapo true (oE.map (dr (aR .u64) (ep eI))),.arr false 4 [[.ptr (.O 0) 0 0,.sl (oF.map Event.enc),.sl (oG.map eI),.mp 1]],.arr false 1 [[.fn 39 [.ptr (.O 2) 0 0] []],[.fn 40 [.ptr (.O 2) 0 0] []],[.fn 41 [.ptr (.O 2) 0 0] []]]] 4
def Lo (n_:Int) (oA:(List Cell)) (oB:(List (List Event))) (oC:(List Int)) (oD:(List Int)) (oE:(List (Int×(List Int)))) (oF:(List Event)) (oG:(List Int)) (x1:Event) (tt:Unit):St:=bm 84 [] [] [.arr true 4 [[.sl (oA.map Cell.enc),.sl (oB.map (et Event.enc)),.sl (oC.map eI),.sl (oD.map eI)]],.mapo true (oE.map (dr (aR .u64) (ep eI))),.arr false 4 [[.ptr (.O 0) 0 0,.sl (oF.map Event.enc),.sl (oG.map eI),.mp 1]],.arr false 1 [[.fn 39 [.ptr (.O 2) 0 0] []],[.fn 40 [.ptr (.O 2) 0 0] []],[.fn 41 [.ptr (.O 2) 0 0] []]]] 4
def Lp (n_:Int) (oA:(List Cell)) (oB:(List (List Event))) (oC:(List Int)) (oD:(List Int)) (oE:(List (Int×(List Int)))) (oF:(List Event)) (oG:(List Int)) (x1:Event) (tt:Int):St:=bm 84 [(4,(vI tt))] [] [.arr true 4 [[.sl (oA.map Cell.enc),.sl (oB.map (et Event.enc)),.sl (oC.map eI),.sl (oD.map eI)]],.mapo true (oE.map (dr (aR .u64) (ep eI))),.arr false 4 [[.ptr (.O 0) 0 0,.sl (oF.map Event.enc),.sl (oG.map eI),.mp 1]],.arr false 1 [[.fn 39 [.ptr (.O 2) 0 0] []],[.fn 40 [.ptr (.O 2) 0 0] []],[.fn 41 [.ptr (.O 2) 0 0] []]]] 4
def Hd (n_:Int) (oA:(List Cell)) (oB:(List (List Event))) (oC:(List Int)) (oD:(List Int)) (oE:(List (Int×(List Int)))) (oF:(List Event)) (oG:(List Int)) (x1:Event) (t0:(Unit⊕Int)):Ex×St:=match t0 with | .inl tt=>(.ex 0,Lo n_ oA oB oC oD oE oF oG x1 tt) | .inr tt=>(.ret,Lp n_ oA oB oC oD oE oF oG x1 tt)
theorem I0 (n:Nat) (n_:Int) (oA:(List Cell)) (oB:(List (List Event))) (oC:(List Int)) (oD:(List Int)) (oE:(List (Int×(List Int)))) (oF:(List Event)) (oG:(List Int)) (x1:Event):∀ sa r,bN n n_ oA oB oC oD oE oF oG x1 sa=some r→aW Tryz.prog NM (Fh n_ oA oB oC oD oE oF oG x1 sa) (rk (Fh n_ oA oB oC oD oE oF oG x1) (Hd n_ oA oB oC oD oE oF oG x1) r):=by
 intro sa r h
 unfold bN at h
 rcases aG h with ⟨ha1,h⟩ | ⟨ha1,h⟩
 ·
  exact kQ h (nA nC [rV 4 [(27,vF)]]) [wK 2 [] [5] 4] Fg (co rfl j8) (fun z=>(aB ha1 z)) (by kernel_rfl)
 obtain ⟨xa2,gxa2,h⟩:=ac h
 obtain ⟨xa3,gxa3,h⟩:=ac h
 have d0_:CR (sa.1.map eI) sa.2=some [(vI xa2)]:=nh eI gxa2
 have c170_:=fun (R:Prop) (z:R)=>(aB ha1 (aI d0_ (aM Event.enc gxa3 (aI d0_ z))))
 let e171_:LR:=[rV 4 [(27,vT)],rR 6 [(36,[(vI xa2)]),(38,(Event.enc xa3))]]
 rcases aG h with ⟨ha4,h⟩ | ⟨ha4,h⟩
 ·
  exact kQ h (nA nC (e171_++[(7,⟨[],[],[(42,[(vI xa2)])],[(46,vF)],[],[],[],[],[]⟩)])) [wK 0 [0,1,5,6,7] [8] 4] Fg cS (fun z=>(c170_ _ (aB ha4 z))) (by kernel_rfl)
 obtain ⟨xa5,gxa5,h⟩:=ac h
 obtain ⟨xa6,gxa6,h⟩:=ac h
 have c172_:=fun (R:Prop) (z:R)=>(aB ha4 (aM eI gxa2 (aM eI gxa5 (aM eI gxa6 z))))
 rcases au h with ⟨ha7,h⟩ | ⟨ha7,h⟩
 ·
  exact kQ h (nA nC (e171_++[(7,⟨[],[],[(42,[(vI xa2)]),(53,[(vI xa2)]),(55,[(vI xa5)]),(62,[(vI xa6)])],[(46,vT),(65,vT)],[],[],[],[],[]⟩),rR 8 [(82,[(vI xa2)])]])) [wK 1 [4] [8,5] 4] Fg (co rfl fT) (fun z=>(c170_ _ (c172_ _ (aB ha7 (aM eI gxa2 z))))) (by kernel_rfl)
 rcases aG h with ⟨ha8,h⟩ | ⟨ha8,h⟩
 ·
  exact kQ h (nA nC (e171_++[(7,⟨[],[],[(42,[(vI xa2)]),(53,[(vI xa2)]),(55,[(vI xa5)]),(62,[(vI xa6)])],[(46,vT),(65,vF),(71,vF)],[],[],[],[],[]⟩)])) [wK 0 [0,1,5,6,7] [8] 4] Fg cS (fun z=>(c170_ _ (c172_ _ (aB ha7 (aB ha8 z))))) (by kernel_rfl)
 have c173_:=fun (R:Prop) (z:R)=>(aB ha7 (aB ha8 z))
 rcases aG h with ⟨ha9,h⟩ | ⟨ha9,h⟩
 ·
  exact kQ h (nA nC (e171_++[(7,⟨[],[],[(42,[(vI xa2)]),(53,[(vI xa2)]),(55,[(vI xa5)]),(62,[(vI xa6)])],[(46,vT),(65,vF),(71,vT),(79,vF)],[],[],[],[],[]⟩)])) [wK 0 [0,1,5,6,7] [8] 4] Fg cS (fun z=>(c170_ _ (c172_ _ (c173_ _ (aB ha9 z))))) (by kernel_rfl)
 exact kQ h (nA nC (e171_++[(7,⟨[],[],[(42,[(vI xa2)]),(53,[(vI xa2)]),(55,[(vI xa5)]),(62,[(vI xa6)])],[(46,vT),(65,vF),(71,vT),(79,vT)],[],[],[],[],[]⟩),rR 8 [(82,[(vI xa2)])]])) [wK 1 [4] [8,5] 4] Fg (co rfl fT) (fun z=>(c170_ _ (c172_ _ (c173_ _ (aB ha9 (aM eI gxa2 z)))))) (by kernel_rfl)

def iV (n_:Int) (oA:(List Cell)) (oB:(List (List Event))) (oC:(List Int)) (oD:(List Int)) (oE:(List (Int×(List Int)))) (oF:(List Event)) (oG:(List Int)) (y:Int):AV×List Ob:=((vI y),[.arr true 4 [[.sl (oA.map Cell.enc),.sl (oB.map (et Event.enc)),.sl (oC.map eI),.sl (oD.map eI)]],.mapo true (oE.map (dr (aR .u64) (ep eI))),.arr false 4 [[.ptr (.O 0) 0 0,.sl (oF.map Event.enc),.sl (oG.map eI),.mp 1]],.arr false 1 [[.fn 39 [.ptr (.O 2) 0 0] []],[.fn 40 [.ptr (.O 2) 0 0] []],[.fn 41 [.ptr (.O 2) 0 0] []]]])
theorem l9 (n:Nat) (n_:Int) (oA:(List Cell)) (oB:(List (List Event))) (oC:(List Int)) (oD:(List Int)) (oE:(List (Int×(List Int)))) (oF:(List Event)) (oG:(List Int)) (y:Int) (h:cq n n_ oA oB oC oD oE oF oG=some y):SD Tryz.prog 47 [.ptr (.O 2) 0 0,(vI n_)] [.arr true 4 [[.sl (oA.map Cell.enc),.sl (oB.map (et Event.enc)),.sl (oC.map eI),.sl (oD.map eI)]],.mapo true (oE.map (dr (aR .u64) (ep eI))),.arr false 4 [[.ptr (.O 0) 0 0,.sl (oF.map Event.enc),.sl (oG.map eI),.mp 1]],.arr false 1 [[.fn 39 [.ptr (.O 2) 0 0] []],[.fn 40 [.ptr (.O 2) 0 0] []],[.fn 41 [.ptr (.O 2) 0 0] []]]] (fun r' o'=>r'=(iV n_ oA oB oC oD oE oF oG y).1∧o'=(iV n_ oA oB oC oD oE oF oG y).2):=by
 unfold cq at h
 obtain ⟨x1,gx1,h⟩:=ac h
 let e174_:LR:=[rR 1 [(14,(Event.enc x1))]]
 rcases jC h with ⟨h2,h⟩ | ⟨z2,h3,h⟩
 ·
  obtain ⟨t3,gt3,h⟩:=ac h
  have c175_:=fun (R:Prop) (z:R)=>(aM Event.enc gx1 (aI (qN oE x1.Addr h2:∀ k':AV→Prop,k' (.nilsl)→cK Tryz.prog 40 ((vU x1.Addr)) (oE.map (dr (aR .u64) (ep eI))) fun _ r=>eJ Tryz.prog 24 false (oE.map (dr (aR .u64) (ep eI))) r k') z))
  rcases t3 with w4 | w4
  ·
   obtain rfl:=aS h
   exact kS ⟨nC,(e174_++[bh 2 [] [(22,.nilsl)]]),[],[(4,(⟨[0,1,5,6,7],[],4,[],[],[]⟩,⟨[(6,.sl (([]:List Int).map eI))],[],[]⟩,(.ex 0),Lo n_ oA oB oC oD oE oF oG x1 w4))],[]⟩ Ao ⟨rfl,rfl⟩ (fun z=>(c175_ _ (aI (aJ.nil:aJ (.nilsl) (.sl (([]:List Int).map eI))) (aI (eA (pl:=ao 47) (Fh n_ oA oB oC oD oE oF oG x1) (Hd n_ oA oB oC oD oE oF oG x1) (I0 n n_ oA oB oC oD oE oF oG x1) n _ (.inl w4) gt3) z)))) (by kernel_rfl)
  ·
   obtain rfl:=aS h
   exact kS ⟨nC,(e174_++[bh 2 [] [(22,.nilsl)]]),[],[(4,(⟨[0,1,5,6,7],[],4,[],[],[]⟩,⟨[(6,.sl (([]:List Int).map eI))],[],[]⟩,.ret,Lp n_ oA oB oC oD oE oF oG x1 w4))],[]⟩ Ao ⟨rfl,rfl⟩ (fun z=>(c175_ _ (aI (aJ.nil:aJ (.nilsl) (.sl (([]:List Int).map eI))) (aI (eA (pl:=ao 47) (Fh n_ oA oB oC oD oE oF oG x1) (Hd n_ oA oB oC oD oE oF oG x1) (I0 n n_ oA oB oC oD oE oF oG x1) n _ (.inr w4) gt3) z)))) (by kernel_rfl)
 ·
  obtain ⟨t4,gt4,h⟩:=ac h
  have c176_:=fun (R:Prop) (z:R)=>(aM Event.enc gx1 (aI (qO oE x1.Addr h3:∀ k':AV→Prop,k' (.sl (z2.map eI))→cK Tryz.prog 40 ((vU x1.Addr)) (oE.map (dr (aR .u64) (ep eI))) fun _ r=>eJ Tryz.prog 24 false (oE.map (dr (aR .u64) (ep eI))) r k') (aL eI z2 z)))
  rcases t4 with w5 | w5
  ·
   obtain rfl:=aS h
   exact kS ⟨nC,(e174_++[bh 2 [] [(22,.sl (z2.map eI))],rV 3 [(24,(vI (z2.length:Int)))]]),[],[(4,(⟨[0,1,5,6,7],[],4,[],[],[]⟩,l0,(.ex 0),Lo n_ oA oB oC oD oE oF oG x1 w5))],[]⟩ Ao ⟨rfl,rfl⟩ (fun z=>(c176_ _ (aI (eA (pl:=ao 47) (Fh n_ oA oB oC oD oE oF oG x1) (Hd n_ oA oB oC oD oE oF oG x1) (I0 n n_ oA oB oC oD oE oF oG x1) n _ (.inl w5) gt4) z))) (by kernel_rfl)
  ·
   obtain rfl:=aS h
   exact kS ⟨nC,(e174_++[bh 2 [] [(22,.sl (z2.map eI))],rV 3 [(24,(vI (z2.length:Int)))]]),[],[(4,(⟨[0,1,5,6,7],[],4,[],[],[]⟩,l0,.ret,Lp n_ oA oB oC oD oE oF oG x1 w5))],[]⟩ Ao ⟨rfl,rfl⟩ (fun z=>(c176_ _ (aI (eA (pl:=ao 47) (Fh n_ oA oB oC oD oE oF oG x1) (Hd n_ oA oB oC oD oE oF oG x1) (I0 n n_ oA oB oC oD oE oF oG x1) n _ (.inr w5) gt4) z))) (by kernel_rfl)

def ug:List (Nat×PT):=[]
theorem He:aA (ao 40) ug (al Tryz.prog 40)=true:=by kernel_rfl
noncomputable def NN:Code:=sub (al Tryz.prog 40) [1,0,1,0,0]
theorem I1:aA (ao 40) ug NN=true:=by kernel_rfl
def I2 (oA:(List Cell)) (oB:(List (List Event))) (oC:(List Int)) (oD:(List Int)) (oE:(List (Int×(List Int)))) (oF:(List Event)) (oG:(List Int)) (sa:Int):St:=bm 39 [(0,.ptr (.O 2) 0 0),(2,.ptr (.L 2) 0 0),(9,.sl (oF.map Event.enc)),(10,(vI (oF.length:Int))),(11,(vI sa))] [(2,[vF,(vI 0),(vI 0),(vI 0)])] [.arr true 4 [[.sl (oA.map Cell.enc),.sl (oB.map (et Event.enc)),.sl (oC.map eI),.sl (oD.map eI)]],.mapo true (oE.map (dr (aR .u64) (ep eI))),.arr false 4 [[.ptr (.O 0) 0 0,.sl (oF.map Event.enc),.sl (oG.map eI),.mp 1]],.arr false 1 [[.fn 39 [.ptr (.O 2) 0 0] []],[.fn 40 [.ptr (.O 2) 0 0] []],[.fn 41 [.ptr (.O 2) 0 0] []]]] 4
def NO (oA:(List Cell)) (oB:(List (List Event))) (oC:(List Int)) (oD:(List Int)) (oE:(List (Int×(List Int)))) (oF:(List Event)) (oG:(List Int)) (tt:Unit):St:=bm 39 [(2,.ptr (.L 2) 0 0)] [(2,[vF,(vI 0),(vI 0),(vI 0)])] [.arr true 4 [[.sl (oA.map Cell.enc),.sl (oB.map (et Event.enc)),.sl (oC.map eI),.sl (oD.map eI)]],.mapo true (oE.map (dr (aR .u64) (ep eI))),.arr false 4 [[.ptr (.O 0) 0 0,.sl (oF.map Event.enc),.sl (oG.map eI),.mp 1]],.arr false 1 [[.fn 39 [.ptr (.O 2) 0 0] []],[.fn 40 [.ptr (.O 2) 0 0] []],[.fn 41 [.ptr (.O 2) 0 0] []]]] 4
def NP (oA:(List Cell)) (oB:(List (List Event))) (oC:(List Int)) (oD:(List Int)) (oE:(List (Int×(List Int)))) (oF:(List Event)) (oG:(List Int)) (tt:Bool×Int×Int×Int):St:=bm 39 [(2,.ptr (.L 2) 0 0)] [(2,[.v (.bool tt.1),(vI tt.2.1),(vI tt.2.2.1),(vI tt.2.2.2)])] [.arr true 4 [[.sl (oA.map Cell.enc),.sl (oB.map (et Event.enc)),.sl (oC.map eI),.sl (oD.map eI)]],.mapo true (oE.map (dr (aR .u64) (ep eI))),.arr false 4 [[.ptr (.O 0) 0 0,.sl (oF.map Event.enc),.sl (oG.map eI),.mp 1]],.arr false 1 [[.fn 39 [.ptr (.O 2) 0 0] []],[.fn 40 [.ptr (.O 2) 0 0] []],[.fn 41 [.ptr (.O 2) 0 0] []]]] 4
def Lq (oA:(List Cell)) (oB:(List (List Event))) (oC:(List Int)) (oD:(List Int)) (oE:(List (Int×(List Int)))) (oF:(List Event)) (oG:(List Int)) (t0:(Unit⊕(Bool×Int×Int×Int))):Ex×St:=match t0 with | .inl tt=>(.ex 0,NO oA oB oC oD oE oF oG tt) | .inr tt=>(.ret,NP oA oB oC oD oE oF oG tt)
theorem NQ (n:Nat) (oA:(List Cell)) (oB:(List (List Event))) (oC:(List Int)) (oD:(List Int)) (oE:(List (Int×(List Int)))) (oF:(List Event)) (oG:(List Int)):∀ sa r,dJ n oA oB oC oD oE oF oG sa=some r→aW Tryz.prog NN (I2 oA oB oC oD oE oF oG sa) (rk (I2 oA oB oC oD oE oF oG) (Lq oA oB oC oD oE oF oG) r):=by
 intro sa r h
 unfold dJ at h
 rcases aG h with ⟨ha1,h⟩ | ⟨ha1,h⟩
 ·
  exact kQ h (nA ug [rV 2 [(12,vF)]]) [wK 2 [2] [] 4] I1 (co rfl j8) (fun z=>(aB ha1 z)) (by kernel_rfl)
 obtain ⟨xa2,gxa2,h⟩:=ac h
 obtain ⟨ya3,gya3,h⟩:=ac h
 have c177_:=fun (R:Prop) (z:R)=>(aB ha1 (aM Event.enc gxa2 (aI (bW n xa2 ya3 gya3) z)))
 let e178_:LR:=[rV 2 [(12,vT)],rR 3 [(14,(Event.enc xa2))]]
 rcases au h with ⟨ha4,h⟩ | ⟨ha4,h⟩
 ·
  exact kQ h (nA ug (e178_++[bh 4 [(18,vT)] [(17,.v (.bool ya3))]])) [wK 0 [0,2,9,10,11] [4] 4] I1 cS (fun z=>(c177_ _ (aB ha4 z))) (by kernel_rfl)
 obtain ⟨ya5,gya5,h⟩:=ac h
 obtain ⟨xa6,gxa6,h⟩:=ac h
 have c179_:=fun (R:Prop) (z:R)=>(aB ha4 (aI (l9 n sa oA oB oC oD oE oF oG ya5 gya5) (aM eI gxa6 z)))
 rcases aG h with ⟨ha7,h⟩ | ⟨ha7,h⟩
 ·
  exact kQ h (nA ug (e178_++[bh 4 [(18,vF)] [(17,.v (.bool ya3))],(5,⟨[],[],[],[],[],[(21,((vI ya5),[.arr true 4 [[.sl (oA.map Cell.enc),.sl (oB.map (et Event.enc)),.sl (oC.map eI),.sl (oD.map eI)]],.mapo true (oE.map (dr (aR .u64) (ep eI))),.arr false 4 [[.ptr (.O 0) 0 0,.sl (oF.map Event.enc),.sl (oG.map eI),.mp 1]],.arr false 1 [[.fn 39 [.ptr (.O 2) 0 0] []],[.fn 40 [.ptr (.O 2) 0 0] []],[.fn 41 [.ptr (.O 2) 0 0] []]]]))],[],[],[]⟩),(6,⟨[],[],[(31,[(vI xa6)])],[(33,vF)],[],[],[],[],[]⟩)])) [wK 0 [0,2,9,10,11] [4] 4] I1 cS (fun z=>(c177_ _ (c179_ _ (aB ha7 z)))) (by kernel_rfl)
 obtain ⟨ya8,gya8,h⟩:=ac h
 exact kQ h (nA ug (e178_++[bh 4 [(18,vF)] [(17,.v (.bool ya3))],(5,⟨[],[],[],[],[],[(21,((vI ya5),[.arr true 4 [[.sl (oA.map Cell.enc),.sl (oB.map (et Event.enc)),.sl (oC.map eI),.sl (oD.map eI)]],.mapo true (oE.map (dr (aR .u64) (ep eI))),.arr false 4 [[.ptr (.O 0) 0 0,.sl (oF.map Event.enc),.sl (oG.map eI),.mp 1]],.arr false 1 [[.fn 39 [.ptr (.O 2) 0 0] []],[.fn 40 [.ptr (.O 2) 0 0] []],[.fn 41 [.ptr (.O 2) 0 0] []]]]))],[],[],[]⟩),(6,⟨[],[],[(31,[(vI xa6)])],[(33,vT)],[],[],[],[],[]⟩),bh 7 [] [(36,(bT bi.enc ya8))]])) [wK 1 [2] [4] 4] I1 (co rfl fT) (fun z=>(c177_ _ (c179_ _ (aB ha7 (aI (gU n 3 sa ya5 ya8 gya8) z))))) (by kernel_rfl)

def i6 (oA:(List Cell)) (oB:(List (List Event))) (oC:(List Int)) (oD:(List Int)) (oE:(List (Int×(List Int)))) (oF:(List Event)) (oG:(List Int)) (y:(Bool×Int×Int×Int)):AV×List Ob:=(.agg [.v (.bool y.1),(vI y.2.1),(vI y.2.2.1),(vI y.2.2.2)],[.arr true 4 [[.sl (oA.map Cell.enc),.sl (oB.map (et Event.enc)),.sl (oC.map eI),.sl (oD.map eI)]],.mapo true (oE.map (dr (aR .u64) (ep eI))),.arr false 4 [[.ptr (.O 0) 0 0,.sl (oF.map Event.enc),.sl (oG.map eI),.mp 1]],.arr false 1 [[.fn 39 [.ptr (.O 2) 0 0] []],[.fn 40 [.ptr (.O 2) 0 0] []],[.fn 41 [.ptr (.O 2) 0 0] []]]])
theorem fb (n:Nat) (oA:(List Cell)) (oB:(List (List Event))) (oC:(List Int)) (oD:(List Int)) (oE:(List (Int×(List Int)))) (oF:(List Event)) (oG:(List Int)) (y:(Bool×Int×Int×Int)) (h:dE n oA oB oC oD oE oF oG=some y):SD Tryz.prog 40 [.ptr (.O 2) 0 0] [.arr true 4 [[.sl (oA.map Cell.enc),.sl (oB.map (et Event.enc)),.sl (oC.map eI),.sl (oD.map eI)]],.mapo true (oE.map (dr (aR .u64) (ep eI))),.arr false 4 [[.ptr (.O 0) 0 0,.sl (oF.map Event.enc),.sl (oG.map eI),.mp 1]],.arr false 1 [[.fn 39 [.ptr (.O 2) 0 0] []],[.fn 40 [.ptr (.O 2) 0 0] []],[.fn 41 [.ptr (.O 2) 0 0] []]]] (fun r' o'=>r'=(i6 oA oB oC oD oE oF oG y).1∧o'=(i6 oA oB oC oD oE oF oG y).2):=by
 unfold dE at h
 obtain ⟨t1,gt1,h⟩:=ac h
 rcases t1 with w2 | w2
 ·
  obtain ⟨y3,gy3,h⟩:=ac h
  obtain rfl:=aS h
  exact kS ⟨ug,[rV 1 [(10,(vI (oF.length:Int)))],bh 9 [] [(38,(bT bi.enc y3))]],[],[(2,(⟨[0,2,9,10,11],[],4,[],[],[]⟩,l0,(.ex 0),NO oA oB oC oD oE oF oG w2))],[]⟩ He ⟨rfl,rfl⟩ (fun z=>(aL Event.enc oF (aI (eA (pl:=ao 40) (I2 oA oB oC oD oE oF oG) (Lq oA oB oC oD oE oF oG) (NQ n oA oB oC oD oE oF oG) n _ (.inl w2) gt1) (aI (iU n y3 gy3) z)))) (by kernel_rfl)
 ·
  obtain rfl:=aS h
  exact kS ⟨ug,[rV 1 [(10,(vI (oF.length:Int)))]],[],[(2,(⟨[0,2,9,10,11],[],4,[],[],[]⟩,l0,.ret,NP oA oB oC oD oE oF oG w2))],[]⟩ He ⟨rfl,rfl⟩ (fun z=>(aL Event.enc oF (aI (eA (pl:=ao 40) (I2 oA oB oC oD oE oF oG) (Lq oA oB oC oD oE oF oG) (NQ n oA oB oC oD oE oF oG) n _ (.inr w2) gt1) z))) (by kernel_rfl)

end
end Go.Proofs.YtomahedcdcnnhaaGreatDoor
