/- What the functions compute, they compute: printed by a program, path by path. No conditions. -/
import Derived.Test.YtomahedcdcnnhaaGreatDoorP3
import Derived.KernelRfl
namespace Go.Proofs.YtomahedcdcnnhaaGreatDoor
open Go A
set_option linter.unusedVariables false
set_option maxRecDepth 100000
set_option maxHeartbeats 0
section
variable (pc:Nat→List AV→(AV→Prop)→Prop) (sc:Nat→List AV→List Ob→(AV→List Ob→Prop)→Prop) (lp:bw→Code→St→(Ex→St→Prop)→Prop) (cd:wB)

def fM:List (Nat×PT):=[(5,(eO [0,1,2,3,4,5])),(15,(eO [0,1,2,3,4,5,6,7,8,9,10,11,12,13,14,15,16,17,18,19,20,21,22,23,24,25,26,27,28,29,30,31,32,33,34,35])),(18,(eO [0,1,2,3,4,5,6,7,8,9]))]
theorem BZ:aA (ao 4) fM (al Tryz.prog 4)=true:=by kernel_rfl
noncomputable def Ji:Code:=sub (al Tryz.prog 4) [1,1,1,1,0,1,0,0]
noncomputable def OU:Code:=sub Ji [1,0,0,1,0,1,0,0]
noncomputable def OV:Code:=sub Ji [1,0,0,1,1,1,1,1,1,0,0]
theorem uQ:aA (ao 4) fM OU=true:=by kernel_rfl
def Jj (c:af) (y7:(List Event)) (y8:(List Int)) (xa2:Event) (sb:Int×Int):St:=bm 175 [(1,.ptr (.L 1) 0 0),(3,.sl (y7.map Event.enc)),(4,.sl (y8.map eI)),(5,(vI sb.1)),(6,.ptr (.L 6) 0 0),(7,(vI sb.2))] [(6,(Event.enc xa2)),(1,(af.enc c))] [] 0
def xY (c:af) (y7:(List Event)) (y8:(List Int)) (xa2:Event) (tt:Int):St:=bm 175 [(1,.ptr (.L 1) 0 0),(3,.sl (y7.map Event.enc)),(4,.sl (y8.map eI)),(5,(vI tt)),(6,.ptr (.L 6) 0 0)] [(6,(Event.enc xa2)),(1,(af.enc c))] [] 0
def OW (c:af) (y7:(List Event)) (y8:(List Int)) (xa2:Event) (tt:Unit):St:=bm 175 [(2,vF)] [] [] 0
def LX (c:af) (y7:(List Event)) (y8:(List Int)) (xa2:Event) (t0:(Int⊕Unit)):Ex×St:=match t0 with | .inl tt=>(.ex 2,xY c y7 y8 xa2 tt) | .inr tt=>(.ret,OW c y7 y8 xa2 tt)
theorem OX (n:Nat) (c:af) (y7:(List Event)) (y8:(List Int)) (xa2:Event):∀ sb r,dm n c y7 y8 xa2 sb=some r→aW Tryz.prog OU (Jj c y7 y8 xa2 sb) (rk (Jj c y7 y8 xa2) (LX c y7 y8 xa2) r):=by
 intro sb r h
 unfold dm at h
 rcases aG h with ⟨hb1,h⟩ | ⟨hb1,h⟩
 ·
  exact kQ h (nA fM [rV 11 [(41,(vI (y7.length:Int))),(42,vF)]]) [wK 4 [1,3,4,5,6] [] 0] uQ (co rfl j8) (fun z=>(aL Event.enc y7 (aB hb1 z))) (by kernel_rfl)
 obtain ⟨xb2,gxb2,h⟩:=ac h
 have c285_:=fun (R:Prop) (z:R)=>(aL Event.enc y7 (aB hb1 (aM Event.enc gxb2 z)))
 let e286_:LR:=[rV 11 [(41,(vI (y7.length:Int))),(42,vT)],rR 13 [(47,(Event.enc xb2))]]
 rcases au h with ⟨hb3,h⟩ | ⟨hb3,h⟩
 ·
  exact kQ h (nA fM (e286_++[rV 14 [(54,vT)]])) [wK 0 [1,3,4,5,6,7] [8] 0] uQ cS (fun z=>(c285_ _ (aB hb3 z))) (by kernel_rfl)
 rcases au h with ⟨hb4,h⟩ | ⟨hb4,h⟩
 ·
  exact kQ h (nA fM (e286_++[rV 14 [(54,vF),(61,vT)]])) [wK 0 [1,3,4,5,6,7] [8] 0] uQ cS (fun z=>(c285_ _ (aB hb3 (aB hb4 z)))) (by kernel_rfl)
 obtain ⟨yb5,gyb5,h⟩:=ac h
 have c287_:=fun (R:Prop) (z:R)=>(aB hb3 (aB hb4 (aI (iX n xa2 yb5 gyb5) z)))
 rcases au h with ⟨hb6,h⟩ | ⟨hb6,h⟩
 ·
  exact kQ h (nA fM (e286_++[bh 14 [(54,vF),(61,vF),(66,vT)] [(63,.v (.bool yb5))]])) [wK 0 [1,3,4,5,6,7] [8] 0] uQ cS (fun z=>(c285_ _ (c287_ _ (aB hb6 z)))) (by kernel_rfl)
 obtain ⟨yb7,gyb7,h⟩:=ac h
 have c288_:=fun (R:Prop) (z:R)=>(aB hb6 (aI (fV n xb2 yb7 gyb7) z))
 rcases au h with ⟨hb8,h⟩ | ⟨hb8,h⟩
 ·
  exact kQ h (nA fM (e286_++[bh 14 [(54,vF),(61,vF),(66,vF),(70,vT)] [(63,.v (.bool yb5)),(68,.v (.bool yb7))]])) [wK 0 [1,3,4,5,6,7] [8] 0] uQ cS (fun z=>(c285_ _ (c287_ _ (c288_ _ (aB hb8 z))))) (by kernel_rfl)
 obtain ⟨yb9,gyb9,h⟩:=ac h
 have c289_:=fun (R:Prop) (z:R)=>(aB hb8 (aI (eu n xa2 yb9 gyb9) z))
 let e290_:LR:=[bh 14 [(54,vF),(61,vF),(66,vF),(70,vF)] [(63,.v (.bool yb5)),(68,.v (.bool yb7))]]
 rcases aG h with ⟨hb10,h⟩ | ⟨hb10,h⟩
 ·
  obtain ⟨yb11,gyb11,h⟩:=ac h
  have c294_:=fun (R:Prop) (z:R)=>(aB hb10 (aI (fV n xa2 yb11 gyb11) z))
  rcases aG h with ⟨hb12,h⟩ | ⟨hb12,h⟩
  ·
   exact kQ h (nA fM (e286_++(e290_++[bh 15 [(73,vF),(89,vF)] [(72,.v (.bool yb9)),(88,.v (.bool yb11))]]))) [wK 0 [1,3,4,5,6,7] [8] 0] uQ cS (fun z=>(c285_ _ (c287_ _ (c288_ _ (c289_ _ (c294_ _ (aB hb12 z))))))) (by kernel_rfl)
  obtain ⟨xb13,gxb13,h⟩:=ac h
  obtain ⟨yb14,gyb14,h⟩:=ac h
  obtain ⟨xb15,gxb15,h⟩:=ac h
  obtain ⟨yb16,gyb16,h⟩:=ac h
  have c295_:=fun (R:Prop) (z:R)=>(aB hb12 (aM eI gxb13 (aI (dW n y8 xb13 yb14 gyb14) (aM eI gxb15 (aI (dW n y8 xb15 yb16 gyb16) z)))))
  rcases au h with ⟨hb17,h⟩ | ⟨hb17,h⟩
  ·
   exact kQ h (nA fM (e286_++(e290_++[(15,⟨[],[],[(94,[(vI xb13)]),(101,[(vI xb15)])],[(73,vF),(89,vT),(106,vT)],[(72,.v (.bool yb9)),(88,.v (.bool yb11)),(96,(vI yb14)),(103,(vI yb16))],[],[],[],[]⟩)]))) [wK 1 [2] [8,6,1] 0] uQ (co rfl fT) (fun z=>(c285_ _ (c287_ _ (c288_ _ (c289_ _ (c294_ _ (c295_ _ (aB hb17 z)))))))) (by kernel_rfl)
  exact kQ h (nA fM (e286_++(e290_++[(15,⟨[],[],[(94,[(vI xb13)]),(101,[(vI xb15)])],[(73,vF),(89,vT),(106,vF)],[(72,.v (.bool yb9)),(88,.v (.bool yb11)),(96,(vI yb14)),(103,(vI yb16))],[],[],[],[]⟩)]))) [wK 0 [1,3,4,5,6,7] [8] 0] uQ cS (fun z=>(c285_ _ (c287_ _ (c288_ _ (c289_ _ (c294_ _ (c295_ _ (aB hb17 z)))))))) (by kernel_rfl)
 obtain ⟨xb11,gxb11,h⟩:=ac h
 obtain ⟨yb12,gyb12,h⟩:=ac h
 obtain ⟨yb13,gyb13,h⟩:=ac h
 have c291_:=fun (R:Prop) (z:R)=>(aB hb10 (aM eI gxb11 (aI (dW n y8 xb11 yb12 gyb12) (aI (dW n y8 sb.1 yb13 gyb13) z))))
 rcases au h with ⟨hb14,h⟩ | ⟨hb14,h⟩
 ·
  exact kQ h (nA fM (e286_++(e290_++[(15,⟨[],[],[(78,[(vI xb11)])],[(73,vT),(86,vT)],[(72,.v (.bool yb9)),(80,(vI yb12)),(83,(vI yb13))],[],[],[],[]⟩)]))) [wK 1 [2] [8,6,1] 0] uQ (co rfl fT) (fun z=>(c285_ _ (c287_ _ (c288_ _ (c289_ _ (c291_ _ (aB hb14 z))))))) (by kernel_rfl)
 obtain ⟨yb15,gyb15,h⟩:=ac h
 have c292_:=fun (R:Prop) (z:R)=>(aB hb14 (aI (fV n xa2 yb15 gyb15) z))
 rcases aG h with ⟨hb16,h⟩ | ⟨hb16,h⟩
 ·
  exact kQ h (nA fM (e286_++(e290_++[(15,⟨[],[],[(78,[(vI xb11)])],[(73,vT),(86,vF),(89,vF)],[(72,.v (.bool yb9)),(80,(vI yb12)),(83,(vI yb13)),(88,.v (.bool yb15))],[],[],[],[]⟩)]))) [wK 0 [1,3,4,5,6,7] [8] 0] uQ cS (fun z=>(c285_ _ (c287_ _ (c288_ _ (c289_ _ (c291_ _ (c292_ _ (aB hb16 z)))))))) (by kernel_rfl)
 obtain ⟨yb17,gyb17,h⟩:=ac h
 obtain ⟨xb18,gxb18,h⟩:=ac h
 obtain ⟨yb19,gyb19,h⟩:=ac h
 have c293_:=fun (R:Prop) (z:R)=>(aB hb16 (aM eI gxb11 (aI (dW n y8 xb11 yb17 gyb17) (aM eI gxb18 (aI (dW n y8 xb18 yb19 gyb19) z)))))
 rcases au h with ⟨hb20,h⟩ | ⟨hb20,h⟩
 ·
  exact kQ h (nA fM (e286_++(e290_++[(15,⟨[],[],[(78,[(vI xb11)]),(94,[(vI xb11)]),(101,[(vI xb18)])],[(73,vT),(86,vF),(89,vT),(106,vT)],[(72,.v (.bool yb9)),(80,(vI yb12)),(83,(vI yb13)),(88,.v (.bool yb15)),(96,(vI yb17)),(103,(vI yb19))],[],[],[],[]⟩)]))) [wK 1 [2] [8,6,1] 0] uQ (co rfl fT) (fun z=>(c285_ _ (c287_ _ (c288_ _ (c289_ _ (c291_ _ (c292_ _ (c293_ _ (aB hb20 z))))))))) (by kernel_rfl)
 exact kQ h (nA fM (e286_++(e290_++[(15,⟨[],[],[(78,[(vI xb11)]),(94,[(vI xb11)]),(101,[(vI xb18)])],[(73,vT),(86,vF),(89,vT),(106,vF)],[(72,.v (.bool yb9)),(80,(vI yb12)),(83,(vI yb13)),(88,.v (.bool yb15)),(96,(vI yb17)),(103,(vI yb19))],[],[],[],[]⟩)]))) [wK 0 [1,3,4,5,6,7] [8] 0] uQ cS (fun z=>(c285_ _ (c287_ _ (c288_ _ (c289_ _ (c291_ _ (c292_ _ (c293_ _ (aB hb20 z))))))))) (by kernel_rfl)

theorem Ft:aA (ao 4) fM OV=true:=by kernel_rfl
def xZ (c:af) (y7:(List Event)) (y8:(List Int)) (xa2:Event) (sb:Int×Int):St:=bm 175 [(1,.ptr (.L 1) 0 0),(3,.sl (y7.map Event.enc)),(4,.sl (y8.map eI)),(5,(vI sb.2)),(6,.ptr (.L 6) 0 0),(10,.v (.bool (xa2.Kind==4))),(11,(vI sb.1))] [(6,(Event.enc xa2)),(1,(af.enc c))] [] 0
def Hy (c:af) (y7:(List Event)) (y8:(List Int)) (xa2:Event) (tt:Int):St:=bm 175 [(1,.ptr (.L 1) 0 0),(3,.sl (y7.map Event.enc)),(4,.sl (y8.map eI)),(5,(vI tt))] [(1,(af.enc c))] [] 0
def Hz (c:af) (y7:(List Event)) (y8:(List Int)) (xa2:Event) (tt:Unit):St:=bm 175 [(2,vF)] [] [] 0
def Ax (c:af) (y7:(List Event)) (y8:(List Int)) (xa2:Event) (t0:(Int⊕Unit)):Ex×St:=match t0 with | .inl tt=>(.ex 4,Hy c y7 y8 xa2 tt) | .inr tt=>(.ret,Hz c y7 y8 xa2 tt)
theorem B0 (n:Nat) (c:af) (y7:(List Event)) (y8:(List Int)) (xa2:Event):∀ sb r,bF n c y7 y8 xa2 sb=some r→aW Tryz.prog OV (xZ c y7 y8 xa2 sb) (rk (xZ c y7 y8 xa2) (Ax c y7 y8 xa2) r):=by
 intro sb r h
 unfold bF at h
 obtain ⟨xb1,gxb1,h⟩:=ac h
 rcases aG h with ⟨hb2,h⟩ | ⟨hb2,h⟩
 ·
  exact kQ h (nA fM [(22,⟨[],[],[(142,[(vI xb1)])],[(144,vF)],[],[],[],[],[]⟩)]) [wK 6 [1,3,4,5] [6] 0] Ft (co rfl j8) (fun z=>(aM eI gxb1 (aB hb2 z))) (by kernel_rfl)
 obtain ⟨xb3,gxb3,h⟩:=ac h
 obtain ⟨xb4,gxb4,h⟩:=ac h
 obtain ⟨yb5,gyb5,h⟩:=ac h
 have c296_:=fun (R:Prop) (z:R)=>(aM eI gxb1 (aB hb2 (aM eI gxb3 (aM Event.enc gxb4 (aI (eu n xb4 yb5 gyb5) z)))))
 let e297_:LR:=[(22,⟨[],[],[(142,[(vI xb1)])],[(144,vT)],[],[],[],[],[]⟩),rR 24 [(151,[(vI xb3)]),(153,(Event.enc xb4))]]
 rcases aG h with ⟨hb6,h⟩ | ⟨hb6,h⟩
 ·
  exact kQ h (nA fM (e297_++[bh 25 [(157,vF)] [(156,.v (.bool yb5))]])) [wK 0 [1,3,4,5,6,10,11] [12] 0] Ft cS (fun z=>(c296_ _ (aB hb6 z))) (by kernel_rfl)
 rcases aG h with ⟨hb7,h⟩ | ⟨hb7,h⟩
 ·
  exact kQ h (nA fM (e297_++[bh 25 [(157,vT),(164,vF)] [(156,.v (.bool yb5))]])) [wK 0 [1,3,4,5,6,10,11] [12] 0] Ft cS (fun z=>(c296_ _ (aB hb6 (aB hb7 z)))) (by kernel_rfl)
 have c298_:=fun (R:Prop) (z:R)=>(aB hb6 (aB hb7 z))
 rcases au h with ⟨hb8,h⟩ | ⟨hb8,h⟩
 ·
  exact kQ h (nA fM (e297_++[bh 25 [(157,vT),(164,vT),(167,vT)] [(156,.v (.bool yb5))]])) [wK 1 [2] [12,6,1] 0] Ft (co rfl fT) (fun z=>(c296_ _ (c298_ _ (aB hb8 z)))) (by kernel_rfl)
 rcases au h with ⟨hb9,h⟩ | ⟨hb9,h⟩
 ·
  exact kQ h (nA fM (e297_++[bh 25 [(157,vT),(164,vT),(167,vF),(174,vT)] [(156,.v (.bool yb5))]])) [wK 1 [2] [12,6,1] 0] Ft (co rfl fT) (fun z=>(c296_ _ (c298_ _ (aB hb8 (aB hb9 z))))) (by kernel_rfl)
 exact kQ h (nA fM (e297_++[bh 25 [(157,vT),(164,vT),(167,vF),(174,vF)] [(156,.v (.bool yb5))]])) [wK 0 [1,3,4,5,6,10,11] [12] 0] Ft cS (fun z=>(c296_ _ (c298_ _ (aB hb8 (aB hb9 z))))) (by kernel_rfl)

theorem w9:aA (ao 4) fM Ji=true:=by kernel_rfl
def Jk (c:af) (y7:(List Event)) (y8:(List Int)) (sa:Int):St:=bm 175 [(1,.ptr (.L 1) 0 0),(3,.sl (y7.map Event.enc)),(4,.sl (y8.map eI)),(5,(vI sa))] [(1,(af.enc c))] [] 0
def OY (c:af) (y7:(List Event)) (y8:(List Int)) (tt:Unit):St:=bm 175 [] [] [] 0
def OZ (c:af) (y7:(List Event)) (y8:(List Int)) (tt:Unit):St:=bm 175 [(2,vF)] [] [] 0
def LY (c:af) (y7:(List Event)) (y8:(List Int)) (t0:(Unit⊕Unit)):Ex×St:=match t0 with | .inl tt=>(.ex 0,OY c y7 y8 tt) | .inr tt=>(.ret,OZ c y7 y8 tt)
theorem O0 (n:Nat) (c:af) (y7:(List Event)) (y8:(List Int)):∀ sa r,eG n c y7 y8 sa=some r→aW Tryz.prog Ji (Jk c y7 y8 sa) (rk (Jk c y7 y8) (LY c y7 y8) r):=by
 intro sa r h
 unfold eG at h
 rcases aG h with ⟨ha1,h⟩ | ⟨ha1,h⟩
 ·
  exact kQ h (nA fM [rV 7 [(29,(vI (y7.length:Int))),(30,vF)]]) [wK 2 [] [1] 0] w9 (co rfl j8) (fun z=>(aL Event.enc y7 (aB ha1 z))) (by kernel_rfl)
 obtain ⟨xa2,gxa2,h⟩:=ac h
 obtain ⟨ta3,gta3,h⟩:=ac h
 have c299_:=fun (R:Prop) (z:R)=>(aL Event.enc y7 (aB ha1 (aM Event.enc gxa2 z)))
 let e300_:LR:=[rV 7 [(29,(vI (y7.length:Int))),(30,vT)],rR 9 [(35,(Event.enc xa2))]]
 rcases ta3 with wa4 | wa4
 ·
  have c301_:=fun (R:Prop) (z:R)=>(aI (eA (pl:=ao 4) (Jj c y7 y8 xa2) (LX c y7 y8 xa2) (OX n c y7 y8 xa2) n _ (.inl wa4) gta3) z)
  rcases aG h with ⟨ha5,h⟩ | ⟨ha5,h⟩
  ·
   obtain ⟨xa6,gxa6,h⟩:=ac h
   have c306_:=fun (R:Prop) (z:R)=>(aB ha5 (aM eI gxa6 z))
   let e307_:LR:=[rV 17 [(110,vF)],rR 18 [(118,[(vI xa6)])]]
   rcases aG h with ⟨ha7,h⟩ | ⟨ha7,h⟩
   ·
    obtain ⟨ya8,gya8,h⟩:=ac h
    obtain ⟨ta9,gta9,h⟩:=ac h
    have c309_:=fun (R:Prop) (z:R)=>(aB ha7 (aI (dW n y8 xa6 ya8 gya8) z))
    rcases ta9 with wa10 | wa10
    ·
     exact kQ h ⟨fM,(e300_++(e307_++[rV 19 [(123,vF)],bh 21 [] [(137,(vI ya8))]])),[],[(11,(⟨[1,3,4,5,6,7],[],0,[],[],[]⟩,l0,(.ex 2),xY c y7 y8 xa2 wa4)),(22,(⟨[1,3,4,5,6,10,11],[],0,[],[],[]⟩,l0,(.ex 4),Hy c y7 y8 xa2 wa10))],[]⟩ [wK 0 [1,3,4,5] [] 0] w9 cS (fun z=>(c299_ _ (c301_ _ (c306_ _ (c309_ _ (aI (eA (pl:=ao 4) (xZ c y7 y8 xa2) (Ax c y7 y8 xa2) (B0 n c y7 y8 xa2) n _ (.inl wa10) gta9) z)))))) (by kernel_rfl)
    ·
     exact kQ h ⟨fM,(e300_++(e307_++[rV 19 [(123,vF)],bh 21 [] [(137,(vI ya8))]])),[],[(11,(⟨[1,3,4,5,6,7],[],0,[],[],[]⟩,l0,(.ex 2),xY c y7 y8 xa2 wa4)),(22,(⟨[1,3,4,5,6,10,11],[],0,[],[],[]⟩,l0,.ret,Hz c y7 y8 xa2 wa10))],[]⟩ [wK 1 [2] [] 0] w9 (co rfl fT) (fun z=>(c299_ _ (c301_ _ (c306_ _ (c309_ _ (aI (eA (pl:=ao 4) (xZ c y7 y8 xa2) (Ax c y7 y8 xa2) (B0 n c y7 y8 xa2) n _ (.inr wa10) gta9) z)))))) (by kernel_rfl)
   obtain ⟨xa8,gxa8,h⟩:=ac h
   obtain ⟨ya9,gya9,h⟩:=ac h
   obtain ⟨ta10,gta10,h⟩:=ac h
   have c308_:=fun (R:Prop) (z:R)=>(aB ha7 (aM eI gxa8 (aI (dW n y8 xa8 ya9 gya9) z)))
   rcases ta10 with wa11 | wa11
   ·
    exact kQ h ⟨fM,(e300_++(e307_++[rV 19 [(123,vT)],rR 20 [(133,[(vI xa8)])],bh 21 [] [(137,(vI ya9))]])),[],[(11,(⟨[1,3,4,5,6,7],[],0,[],[],[]⟩,l0,(.ex 2),xY c y7 y8 xa2 wa4)),(22,(⟨[1,3,4,5,6,10,11],[],0,[],[],[]⟩,l0,(.ex 4),Hy c y7 y8 xa2 wa11))],[]⟩ [wK 0 [1,3,4,5] [] 0] w9 cS (fun z=>(c299_ _ (c301_ _ (c306_ _ (c308_ _ (aI (eA (pl:=ao 4) (xZ c y7 y8 xa2) (Ax c y7 y8 xa2) (B0 n c y7 y8 xa2) n _ (.inl wa11) gta10) z)))))) (by kernel_rfl)
   ·
    exact kQ h ⟨fM,(e300_++(e307_++[rV 19 [(123,vT)],rR 20 [(133,[(vI xa8)])],bh 21 [] [(137,(vI ya9))]])),[],[(11,(⟨[1,3,4,5,6,7],[],0,[],[],[]⟩,l0,(.ex 2),xY c y7 y8 xa2 wa4)),(22,(⟨[1,3,4,5,6,10,11],[],0,[],[],[]⟩,l0,.ret,Hz c y7 y8 xa2 wa11))],[]⟩ [wK 1 [2] [] 0] w9 (co rfl fT) (fun z=>(c299_ _ (c301_ _ (c306_ _ (c308_ _ (aI (eA (pl:=ao 4) (xZ c y7 y8 xa2) (Ax c y7 y8 xa2) (B0 n c y7 y8 xa2) n _ (.inr wa11) gta10) z)))))) (by kernel_rfl)
  rcases au h with ⟨ha6,h⟩ | ⟨ha6,h⟩
  ·
   exact kQ h ⟨fM,(e300_++[rV 17 [(110,vT),(114,vT)]]),[],[(11,(⟨[1,3,4,5,6,7],[],0,[],[],[]⟩,l0,(.ex 2),xY c y7 y8 xa2 wa4))],[]⟩ [wK 0 [1,3,4,5] [6] 0] w9 cS (fun z=>(c299_ _ (c301_ _ (aB ha5 (aB ha6 z))))) (by kernel_rfl)
  obtain ⟨xa7,gxa7,h⟩:=ac h
  have c302_:=fun (R:Prop) (z:R)=>(aB ha5 (aB ha6 (aM eI gxa7 z)))
  let e303_:LR:=[rV 17 [(110,vT),(114,vF)],rR 18 [(118,[(vI xa7)])]]
  rcases aG h with ⟨ha8,h⟩ | ⟨ha8,h⟩
  ·
   obtain ⟨ya9,gya9,h⟩:=ac h
   obtain ⟨ta10,gta10,h⟩:=ac h
   have c305_:=fun (R:Prop) (z:R)=>(aB ha8 (aI (dW n y8 xa7 ya9 gya9) z))
   rcases ta10 with wa11 | wa11
   ·
    exact kQ h ⟨fM,(e300_++(e303_++[rV 19 [(123,vF)],bh 21 [] [(137,(vI ya9))]])),[],[(11,(⟨[1,3,4,5,6,7],[],0,[],[],[]⟩,l0,(.ex 2),xY c y7 y8 xa2 wa4)),(22,(⟨[1,3,4,5,6,10,11],[],0,[],[],[]⟩,l0,(.ex 4),Hy c y7 y8 xa2 wa11))],[]⟩ [wK 0 [1,3,4,5] [] 0] w9 cS (fun z=>(c299_ _ (c301_ _ (c302_ _ (c305_ _ (aI (eA (pl:=ao 4) (xZ c y7 y8 xa2) (Ax c y7 y8 xa2) (B0 n c y7 y8 xa2) n _ (.inl wa11) gta10) z)))))) (by kernel_rfl)
   ·
    exact kQ h ⟨fM,(e300_++(e303_++[rV 19 [(123,vF)],bh 21 [] [(137,(vI ya9))]])),[],[(11,(⟨[1,3,4,5,6,7],[],0,[],[],[]⟩,l0,(.ex 2),xY c y7 y8 xa2 wa4)),(22,(⟨[1,3,4,5,6,10,11],[],0,[],[],[]⟩,l0,.ret,Hz c y7 y8 xa2 wa11))],[]⟩ [wK 1 [2] [] 0] w9 (co rfl fT) (fun z=>(c299_ _ (c301_ _ (c302_ _ (c305_ _ (aI (eA (pl:=ao 4) (xZ c y7 y8 xa2) (Ax c y7 y8 xa2) (B0 n c y7 y8 xa2) n _ (.inr wa11) gta10) z)))))) (by kernel_rfl)
  obtain ⟨xa9,gxa9,h⟩:=ac h
  obtain ⟨ya10,gya10,h⟩:=ac h
  obtain ⟨ta11,gta11,h⟩:=ac h
  have c304_:=fun (R:Prop) (z:R)=>(aB ha8 (aM eI gxa9 (aI (dW n y8 xa9 ya10 gya10) z)))
  rcases ta11 with wa12 | wa12
  ·
   exact kQ h ⟨fM,(e300_++(e303_++[rV 19 [(123,vT)],rR 20 [(133,[(vI xa9)])],bh 21 [] [(137,(vI ya10))]])),[],[(11,(⟨[1,3,4,5,6,7],[],0,[],[],[]⟩,l0,(.ex 2),xY c y7 y8 xa2 wa4)),(22,(⟨[1,3,4,5,6,10,11],[],0,[],[],[]⟩,l0,(.ex 4),Hy c y7 y8 xa2 wa12))],[]⟩ [wK 0 [1,3,4,5] [] 0] w9 cS (fun z=>(c299_ _ (c301_ _ (c302_ _ (c304_ _ (aI (eA (pl:=ao 4) (xZ c y7 y8 xa2) (Ax c y7 y8 xa2) (B0 n c y7 y8 xa2) n _ (.inl wa12) gta11) z)))))) (by kernel_rfl)
  ·
   exact kQ h ⟨fM,(e300_++(e303_++[rV 19 [(123,vT)],rR 20 [(133,[(vI xa9)])],bh 21 [] [(137,(vI ya10))]])),[],[(11,(⟨[1,3,4,5,6,7],[],0,[],[],[]⟩,l0,(.ex 2),xY c y7 y8 xa2 wa4)),(22,(⟨[1,3,4,5,6,10,11],[],0,[],[],[]⟩,l0,.ret,Hz c y7 y8 xa2 wa12))],[]⟩ [wK 1 [2] [] 0] w9 (co rfl fT) (fun z=>(c299_ _ (c301_ _ (c302_ _ (c304_ _ (aI (eA (pl:=ao 4) (xZ c y7 y8 xa2) (Ax c y7 y8 xa2) (B0 n c y7 y8 xa2) n _ (.inr wa12) gta11) z)))))) (by kernel_rfl)
 ·
  exact kQ h ⟨fM,(e300_++[]),[],[(11,(⟨[1,3,4,5,6,7],[],0,[],[],[]⟩,l0,.ret,OW c y7 y8 xa2 wa4))],[]⟩ [wK 1 [2] [] 0] w9 (co rfl fT) (fun z=>(c299_ _ (aI (eA (pl:=ao 4) (Jj c y7 y8 xa2) (LX c y7 y8 xa2) (OX n c y7 y8 xa2) n _ (.inr wa4) gta3) z))) (by kernel_rfl)

theorem nH (n:Nat) (c:af) (r:Bool) (h:eH n c=some r):az Tryz.prog 4 [(bT af.enc c)] (eY (.v (.bool r))):=by
 unfold eH at h
 obtain ⟨y1,gy1,h⟩:=ac h
 rcases au h with ⟨h2,h⟩ | ⟨h2,h⟩
 ·
  obtain rfl:=aS h
  exact kP (nA fM [bh 1 [(14,vT)] [(13,.v (.bool y1))]]) BZ (fun z=>(aI (p_ n y1 gy1) (aB h2 z))) (by kernel_rfl)
 obtain ⟨y3,gy3,h⟩:=ac h
 have c310_:=fun (R:Prop) (z:R)=>(aI (p_ n y1 gy1) (aB h2 (aI (r4 n c 30 y3 gy3) z)))
 let e311_:LR:=[bh 1 [(14,vF)] [(13,.v (.bool y1))]]
 rcases au h with ⟨h4,h⟩ | ⟨h4,h⟩
 ·
  obtain rfl:=aS h
  exact kP (nA fM (e311_++[bh 3 [(18,vT)] [(16,.v (.bool y3))]])) BZ (fun z=>(c310_ _ (aB h4 z))) (by kernel_rfl)
 obtain ⟨y5,gy5,h⟩:=ac h
 have c312_:=fun (R:Prop) (z:R)=>(aB h4 (aI (Ar n c y5 gy5) z))
 rcases au h with ⟨h6,h⟩ | ⟨h6,h⟩
 ·
  obtain rfl:=aS h
  exact kP (nA fM (e311_++[bh 3 [(18,vF),(22,vT)] [(16,.v (.bool y3)),(20,.v (.bool y5))]])) BZ (fun z=>(c310_ _ (c312_ _ (aB h6 z)))) (by kernel_rfl)
 obtain ⟨y7,gy7,h⟩:=ac h
 obtain ⟨y8,gy8,h⟩:=ac h
 obtain ⟨t9,gt9,h⟩:=ac h
 have c313_:=fun (R:Prop) (z:R)=>(aB h6 (aI (BY n c y7 gy7) (aI (w8 n c y8 gy8) z)))
 rcases t9 with w10 | w10
 ·
  obtain rfl:=aS h
  exact kP ⟨fM,(e311_++[bh 3 [(18,vF),(22,vF)] [(16,.v (.bool y3)),(20,.v (.bool y5))],bh 5 [] [(24,.sl (y7.map Event.enc)),(26,.sl (y8.map eI))]]),[],[(7,(⟨[1,3,4,5],[],0,[],[],[]⟩,l0,(.ex 0),OY c y7 y8 w10))],[]⟩ BZ (fun z=>(c310_ _ (c312_ _ (c313_ _ (aI (eA (pl:=ao 4) (Jk c y7 y8) (LY c y7 y8) (O0 n c y7 y8) n _ (.inl w10) gt9) z))))) (by kernel_rfl)
 ·
  obtain rfl:=aS h
  exact kP ⟨fM,(e311_++[bh 3 [(18,vF),(22,vF)] [(16,.v (.bool y3)),(20,.v (.bool y5))],bh 5 [] [(24,.sl (y7.map Event.enc)),(26,.sl (y8.map eI))]]),[],[(7,(⟨[1,3,4,5],[],0,[],[],[]⟩,l0,.ret,OZ c y7 y8 w10))],[]⟩ BZ (fun z=>(c310_ _ (c312_ _ (c313_ _ (aI (eA (pl:=ao 4) (Jk c y7 y8) (LY c y7 y8) (O0 n c y7 y8) n _ (.inr w10) gt9) z))))) (by kernel_rfl)

end
end Go.Proofs.YtomahedcdcnnhaaGreatDoor
